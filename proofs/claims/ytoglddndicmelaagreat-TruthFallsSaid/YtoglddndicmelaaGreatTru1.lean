/- Layer 54: what holds of a list of all writes, through what is done. Layer 54: what is released, one by one; holds that are over, one by one. -/
import Derived.Test.YtoglddndicmelaaGreatTru0
namespace Go.Proofs.YtoglddndicmelaaGreat.Tr
open Go.RowKit Go.Proofs.YtoglddndicmelaaGreatB Go.Proofs.YtoglddndicmelaaGreat

theorem next_pos {s : TS} (h : s.next ≠ 0) : s.top < 65535 ∧ s.next = s.top + 1 := by
  unfold TS.next at h ⊢
  by_cases hc : 65535 ≤ s.top
  · rw [if_pos hc] at h; exact absurd rfl h
  · rw [if_neg hc]; exact ⟨by omega, rfl⟩
theorem has_mem {l : List Mo.It} {num : Int} : Mo.has num l = true ↔ ∃ x ∈ l, x.num = num := by
  unfold Mo.has; rw [List.any_eq_true]; simp only [beq_iff_eq]
theorem hasP_mem {rs : List Rul} {tab : List Mo.It} {holds : List Ho.Put} {fs : List Tw} {num now : Int} (h : hasP rs tab holds fs num now = true) : ∃ x ∈ tab, x.num = num := by
  unfold hasP at h
  rw [Bool.and_eq_true] at h
  exact has_mem.1 h.1
theorem Inv.has_rng {s : TS} (h : Inv s) {num : Int} (hh : s.has num = true) : 1 ≤ num ∧ num ≤ s.top := by
  obtain ⟨x, hx, rfl⟩ := hasP_mem hh
  exact ⟨(h.tab.rng x hx).1, (h.tabT x hx).1⟩
theorem numF_le {s : TS} (h : Inv s) (id : Int) : 0 ≤ numF s.fs id ∧ numF s.fs id ≤ s.top := by
  have := h.top
  unfold numF; split
  · exact ⟨(h.fs.nu_rng _).1, h.fsT _⟩
  · omega

theorem writeE_ok {s : TS} {br vol blk : Int} (h : s.writeE br vol blk = 0) : 0 ≤ br ∧ br < 16 ∧ s.there vol blk = true ∧ alive s.fs br = true ∧ s.next ≠ 0 := by
  unfold TS.writeE at h
  by_cases h1 : br < 0 ∨ 16 ≤ br ∨ s.there vol blk = false
  · rw [if_pos h1] at h; cases h
  rw [if_neg h1] at h
  cases h2 : alive s.fs br with
  | false => rw [if_pos h2] at h; cases h
  | true =>
    rw [if_neg (by rw [h2]; simp)] at h
    by_cases h3 : s.next = 0
    · rw [if_pos h3] at h; cases h
    · exact ⟨by omega, by omega, by cases ht : s.there vol blk <;> simp_all, rfl, h3⟩
theorem add_tab {s : TS} (h : Inv s) (hn : s.next ≠ 0) : Mo.addE (s.top + 1) s.now s.tab = 0 ∧ Mo.addL (s.top + 1) s.now s.tab = s.tab ++ [⟨s.top + 1, s.now, false⟩] := by
  obtain ⟨h1, _⟩ := next_pos hn
  have ht := h.top
  have hw := h.now
  have e : Mo.addE (s.top + 1) s.now s.tab = 0 := by
    unfold Mo.addE
    rw [if_pos (by simp [Mo.rngB]; omega), if_neg]
    rw [Bool.not_eq_true, List.any_eq_false]
    intro x hx
    have := h.tabT x hx
    simp [Mo.pastI]; omega
  exact ⟨e, by unfold Mo.addL; rw [if_pos e]⟩
theorem inv_write {s : TS} (h : Inv s) (hlen : s.tab.length ≤ 900) (br vol blk : Int) (d : List Nat) (hd : d.length = 32 ∧ ∀ y ∈ d, y < 256) : Inv (s.write br vol blk d) := by
  unfold TS.write
  by_cases he : s.writeE br vol blk = 0
  · rw [if_pos he]
    obtain ⟨_, _, _, _, hn⟩ := writeE_ok he
    obtain ⟨h1, _⟩ := next_pos hn
    obtain ⟨e1, e2⟩ := add_tab h hn
    have hok := Mo.ok_add (num := s.top + 1) (min := s.now) h.tab hlen
    have hla := Mo.lastIn_add h.last (s.top + 1) s.now
    rw [e2] at hok hla
    have ht := h.top
    refine ⟨h.now, by dsimp only; omega, hok, ?_, hla, h.fs, fun i => ?_, h.hlen, fun p hp => ?_, h.hsrt, ?_, ?_, h.rules, h.dims⟩
    · intro x hx
      dsimp only at hx ⊢
      rcases List.mem_append.1 hx with hx | hx
      · have := h.tabT x hx; omega
      · rw [List.mem_singleton.1 hx]; dsimp only; omega
    · have := h.fsT i; dsimp only; omega
    · have := h.holds p hp; dsimp only; omega
    · dsimp only; rw [List.map_append, List.map_append, h.ws]; rfl
    · intro x hx
      rcases List.mem_append.1 hx with hx | hx
      · exact h.wsd x hx
      · rw [List.mem_singleton.1 hx]; exact hd
  · rw [if_neg he]; exact h
theorem tickE_ok {s : TS} {m : Int} (h : s.tickE m = 0) : s.now ≤ m ∧ m ≤ 1073741824 := by
  unfold TS.tickE at h
  by_cases h1 : 1073741824 < m
  · rw [if_pos h1] at h; cases h
  rw [if_neg h1] at h
  by_cases h2 : m < s.now
  · rw [if_pos h2] at h; cases h
  omega
theorem inv_tick {s : TS} (h : Inv s) (m : Int) : Inv (s.tick m) := by
  unfold TS.tick
  by_cases he : s.tickE m = 0
  · rw [if_pos he]
    have hm := tickE_ok he
    have hw := h.now
    refine ⟨by dsimp only; omega, h.top, h.tab, fun x hx => ?_, h.last, h.fs, h.fsT, ?_, fun p hp => ?_, ?_, h.ws, h.wsd, h.rules, h.dims⟩
    · have := h.tabT x hx; dsimp only; omega
    · have := List.length_filter_le (fun p : Ho.Put => decide (m < p.h.til)) s.holds; have := h.hlen; dsimp only; omega
    · have := h.holds p (List.mem_filter.1 hp).1; dsimp only; omega
    · exact List.Pairwise.filter _ h.hsrt
  · rw [if_neg he]; exact h
theorem inv_top {s : TS} (h : Inv s) {t : Int} (h1 : s.top ≤ t) (h2 : t ≤ 65535) : Inv { s with top := t } := by
  have ht := h.top
  refine ⟨h.now, by dsimp only; omega, h.tab, fun x hx => ?_, h.last, h.fs, fun i => ?_, h.hlen, fun p hp => ?_, h.hsrt, h.ws, h.wsd, h.rules, h.dims⟩
  · have := h.tabT x hx; dsimp only; omega
  · have := h.fsT i; dsimp only; omega
  · have := h.holds p hp; dsimp only; omega
theorem inv_mark {s : TS} (h : Inv s) : Inv s.mark := by
  unfold TS.mark
  by_cases he : s.next = 0
  · rw [if_pos he]; exact h
  · rw [if_neg he]; have := next_pos he; exact inv_top h (by omega) (by omega)
theorem inv_skip {s : TS} (h : Inv s) (t : Int) : Inv (s.skip t) := by
  unfold TS.skip
  by_cases he : s.top < t ∧ t ≤ 65535
  · rw [if_pos he]; exact inv_top h (by omega) (by omega)
  · rw [if_neg he]; exact h
theorem fork_ok {s : TS} (_ : Inv s) {pa m : Int} (he : s.forkE pa m = 0) : alive s.fs pa = true ∧ s.has m = true ∧ numF s.fs pa ≤ m ∧ freeF s.fs ≠ 16 ∧ s.next ≠ 0 := by
  unfold TS.forkE at he
  by_cases h1 : alive s.fs pa = false ∨ s.has m = false
  · rw [if_pos h1] at he; cases he
  rw [if_neg h1] at he
  by_cases h2 : m < numF s.fs pa
  · rw [if_pos h2] at he; cases he
  rw [if_neg h2] at he
  by_cases h3 : freeF s.fs = 16
  · rw [if_pos h3] at he; cases he
  rw [if_neg h3] at he
  by_cases h4 : s.next = 0
  · rw [if_pos h4] at he; cases he
  refine ⟨?_, ?_, by omega, h3, h4⟩
  · cases hq : alive s.fs pa with
    | true => rfl
    | false => exact absurd (.inl hq) h1
  · cases hq : s.has m with
    | true => rfl
    | false => exact absurd (.inr hq) h1
/-- the fork of a list is one of its forest -/
theorem fork_fs {s : TS} (h : Inv s) {pa m : Int} (ha : alive s.fs pa = true) (hh : s.has m = true) (hm : numF s.fs pa ≤ m) (hf : freeF s.fs ≠ 16) :
    Tr.forkE s.fs (freeF s.fs) pa m (s.top + 1) = 0 ∧ forkF s.fs (freeF s.fs) pa m (s.top + 1) = s.fs.set (freeF s.fs) ⟨true, pa, m, s.top + 1⟩ := by
  rcases freeF_spec s.fs with ⟨h1, h2, h3, _⟩ | ⟨h1, _⟩
  · have hr := h.has_rng hh
    unfold numF at hm
    rw [if_pos ha] at hm
    have e : Tr.forkE s.fs (freeF s.fs) pa m (s.top + 1) = 0 := by
      unfold Tr.forkE
      rw [if_neg (by omega), Int.toNat_natCast, h3, if_neg (by simp), if_neg (by rw [ha]; simp), if_neg (by omega)]
    exact ⟨e, by unfold forkF; rw [if_pos e, Int.toNat_natCast]⟩
  · exact absurd h1 hf
theorem inv_fork {s : TS} (h : Inv s) (pa m : Int) : Inv (s.fork pa m) := by
  unfold TS.fork
  by_cases he : s.forkE pa m = 0
  · rw [if_pos he]
    obtain ⟨h1, h2, h3, h4, h5⟩ := fork_ok h he
    obtain ⟨e1, e2⟩ := fork_fs h h1 h2 h3 h4
    have hn := next_pos h5
    have hk := fok_fork h.fs (id := freeF s.fs) (pa := pa) (ba := m) (nu := s.top + 1) (by omega)
    rw [e2] at hk
    have ht := inv_top h (t := s.top + 1) (by omega) (by omega)
    refine ⟨ht.now, ht.top, ht.tab, ht.tabT, ht.last, hk, fun i => ?_, ht.hlen, ht.holds, ht.hsrt, ht.ws, ht.wsd, ht.rules, ht.dims⟩
    dsimp only
    have hl : freeF s.fs < s.fs.length := by
      rcases freeF_spec s.fs with ⟨g1, _⟩ | ⟨g1, _⟩
      · rw [h.fs.len]; exact g1
      · exact absurd g1 h4
    rw [tg_set hl]; split
    · exact Int.le_refl _
    · have := h.fsT i; omega
  · rw [if_neg he]; exact h
theorem drop_fs {s : TS} {id : Int} (he : Tr.dropE s.fs id = 0) : dropF s.fs id = s.fs.set id.toNat tw0 := by unfold dropF; rw [if_pos he]
theorem inv_drop {s : TS} (h : Inv s) (id : Int) : Inv (s.drop id) := by
  unfold TS.drop TS.dropE
  by_cases he : Tr.dropE s.fs id = 0
  · rw [if_pos he]
    by_cases hn : s.next = 0
    · rw [if_pos hn, if_neg (by decide)]; exact h
    · rw [if_neg hn, if_pos rfl]
      have hk := fok_drop h.fs (id := id)
      rw [drop_fs he] at hk
      have hnp := next_pos hn
      have ht := inv_top h (t := s.top + 1) (by omega) (by omega)
      refine ⟨ht.now, ht.top, ht.tab, ht.tabT, ht.last, hk, fun i => ?_, ht.hlen, ht.holds, ht.hsrt, ht.ws, ht.wsd, ht.rules, ht.dims⟩
      dsimp only
      obtain ⟨_, h2, _⟩ := dropE_ok he
      obtain ⟨j, e, hj, _⟩ := (alive_iff _ _).1 h2
      rw [tg_set (by rw [h.fs.len]; omega)]; split
      · show (0 : Int) ≤ _; have := h.top; omega
      · have := h.fsT i; omega
  · rw [if_neg he, if_neg he]; exact h
theorem last_has {s : TS} (h : Inv s) {x : Mo.It} (hx : s.tab.getLast? = some x) : s.has x.num = true := by
  have hm := List.mem_of_getLast? hx
  have hl := h.last x hx
  have h0 : 0 < s.tab.length := List.length_pos_of_mem hm
  have hg : Mo.gt s.tab (s.tab.length - 1) = x := by
    rw [Mo.gt_get (by omega)]
    rw [List.getLast?_eq_getElem?] at hx
    exact (List.getElem?_eq_some_iff.1 hx).2
  have hn : Mo.lastN s.tab = x.num := by unfold Mo.lastN; rw [if_neg (by omega), hg]
  have hhas : Mo.has x.num s.tab = true := has_mem.2 ⟨x, hm, rfl⟩
  have hlo : Mo.lo x.num s.tab = s.tab.length - 1 := by
    have := Mo.lo_of_get h.tab.srt (i := s.tab.length - 1) (by omega)
    rw [← Mo.gt_get (by omega), hg] at this; exact this
  unfold TS.has hasP Mo.outB
  rw [hhas, hlo, hg, hl, hn]
  simp
theorem rel_num {s : TS} : s.rel.tab.map (fun x => x.num) = s.tab.map (fun x => x.num) := by
  unfold TS.rel; dsimp only; rw [List.map_map]; rfl
theorem inv_rel {s : TS} (h : Inv s) : Inv s.rel := by
  refine ⟨h.now, h.top, ⟨?_, ?_, ?_⟩, ?_, ?_, h.fs, h.fsT, h.hlen, h.holds, h.hsrt, by rw [rel_num]; exact h.ws, h.wsd, h.rules, h.dims⟩
  · unfold TS.rel Mo.Srt; dsimp only; rw [List.pairwise_map]; exact h.tab.srt
  · intro x hx
    obtain ⟨y, hy, rfl⟩ := List.mem_map.1 hx
    exact h.tab.rng y hy
  · unfold TS.rel; dsimp only; rw [List.length_map]; exact h.tab.len
  · intro x hx
    obtain ⟨y, hy, rfl⟩ := List.mem_map.1 hx
    exact h.tabT y hy
  · intro x hx
    unfold TS.rel at hx
    dsimp only at hx
    rw [List.getLast?_map] at hx
    cases hq : s.tab.getLast? with
    | none => rw [hq] at hx; cases hx
    | some y =>
      rw [hq] at hx
      injection hx with hx
      subst hx
      dsimp only
      rw [h.last y hq, last_has h hq]; rfl
theorem hold_ok {h : Ho.Held} {num min : Int} {l : List Ho.Put} (he : Ho.addE h num min l = 0) : l.length < 64 ∧ (∀ p ∈ l, p.num < num ∧ p.min ≤ min) ∧ Ho.mayB h = true ∧ min < h.til := by
  unfold Ho.addE at he
  split at he
  · rename_i h1
    rw [Bool.and_eq_true] at h1
    split at he
    · cases he
    · split at he
      · cases he
      · split at he
        · cases he
        · rename_i h2 h3 h4
          split at he
          · cases he
          · refine ⟨by omega, fun p hp => ?_, h1.1, by omega⟩
            rw [Bool.not_eq_true, List.any_eq_false] at h4
            have := h4 p hp
            simp [Ho.pastB] at this
            omega
  · cases he
theorem inv_hold {s : TS} (h : Inv s) (a b c : Int) : Inv (s.hold a b c) := by
  have hr := inv_rel h
  unfold TS.hold TS.holdE
  by_cases he : Ho.addE ⟨s.top + 1, a, b, c⟩ (s.top + 1) s.now s.holds = 0
  · rw [if_pos he]
    by_cases hn : s.next = 0
    · rw [if_pos hn, if_neg (by decide)]; exact hr
    · rw [if_neg hn, if_pos rfl]
      obtain ⟨h1, h2, _, _⟩ := hold_ok he
      have hnp := next_pos hn
      have ht := inv_top hr (t := s.top + 1) (by show s.top ≤ _; omega) (by omega)
      have h0 := h.top
      have hw := h.now
      refine ⟨ht.now, ht.top, ht.tab, ht.tabT, ht.last, ht.fs, ht.fsT, ?_, ?_, ?_, ht.ws, ht.wsd, ht.rules, ht.dims⟩
      · dsimp only; rw [List.length_append]; simp; omega
      · intro p hp
        dsimp only at hp
        rcases List.mem_append.1 hp with hp | hp
        · exact ht.holds p hp
        · rw [List.mem_singleton.1 hp]; exact ⟨Int.le_refl _, Int.le_refl _, rfl, by dsimp only; omega, by dsimp only; omega⟩
      · dsimp only
        rw [List.pairwise_append]
        refine ⟨h.hsrt, List.pairwise_singleton _ _, fun p hp q hq => ?_⟩
        rw [List.mem_singleton.1 hq]
        exact (h2 p hp).1
  · rw [if_neg he, if_neg he]; exact hr
theorem liftL_sub (id : Int) (l : List Ho.Put) : (Ho.liftL id l).Sublist l := by
  unfold Ho.liftL; split
  · exact List.eraseIdx_sublist _ _
  · exact List.Sublist.refl _
theorem inv_holds {s : TS} (h : Inv s) {l : List Ho.Put} (hs : l.Sublist s.holds) : Inv { s with holds := l } :=
  ⟨h.now, h.top, h.tab, h.tabT, h.last, h.fs, h.fsT, Nat.le_trans hs.length_le h.hlen, fun p hp => h.holds p (hs.subset hp), h.hsrt.sublist hs, h.ws, h.wsd, h.rules, h.dims⟩
theorem inv_lift {s : TS} (h : Inv s) (id : Int) : Inv (s.lift id) := by
  unfold TS.lift TS.liftE
  by_cases he : Ho.liftE id s.holds = 0
  · rw [if_pos he]
    by_cases hn : s.next = 0
    · rw [if_pos hn, if_neg (by decide)]; exact h
    · rw [if_neg hn, if_pos rfl]
      have hnp := next_pos hn
      exact inv_holds (inv_top h (t := s.top + 1) (by omega) (by omega)) (liftL_sub id s.holds)
  · rw [if_neg he, if_neg he]; exact h
end Go.Proofs.YtoglddndicmelaaGreat.Tr

namespace Go.Proofs.YtoglddndicmelaaGreat.Tr
open Go.RowKit Go.Proofs.YtoglddndicmelaaGreatB Go.Proofs.YtoglddndicmelaaGreat

/-- some are out -/
def outs (ns : List Int) (l : List Mo.It) : List Mo.It := l.map fun x => ⟨x.num, x.min, x.out || ns.contains x.num⟩
theorem outs_ok {l : List Mo.It} (hk : Mo.TabOk l) (ns : List Int) : Mo.TabOk (outs ns l) := by
  refine ⟨?_, fun x hx => ?_, by unfold outs; rw [List.length_map]; exact hk.len⟩
  · unfold outs Mo.Srt; rw [List.pairwise_map]; exact hk.srt
  · obtain ⟨y, hy, rfl⟩ := List.mem_map.1 hx; exact hk.rng y hy
theorem outs_outs (a b : List Int) (l : List Mo.It) : outs b (outs a l) = outs (a ++ b) l := by
  unfold outs
  rw [List.map_map]
  apply List.map_congr_left
  intro x _
  simp [Function.comp, Bool.or_assoc]
theorem outs_nil (l : List Mo.It) : outs [] l = l := by
  unfold outs
  conv => rhs; rw [← List.map_id l]
  apply List.map_congr_left
  intro x _
  simp
/-- one is released that is not the last one -/
theorem relL_outs {l : List Mo.It} (hk : Mo.TabOk l) {n : Int} (hh : ∃ x ∈ l, x.num = n) (hl : ∀ x, l.getLast? = some x → x.num ≠ n) : Mo.relL n l = outs [n] l := by
  have hhas : Mo.has n l = true := has_mem.2 hh
  obtain ⟨hi, hn⟩ := Mo.has_get hk.srt hhas
  have hg : Mo.gt l (Mo.lo n l) = l[Mo.lo n l] := Mo.gt_get hi
  have hne : Mo.lo n l + 1 ≠ l.length := by
    intro e
    refine hl l[Mo.lo n l] ?_ hn
    rw [List.getLast?_eq_getElem?, List.getElem?_eq_some_iff]
    exact ⟨by omega, by congr 1; omega⟩
  have hat : ∀ j (hj : j < l.length), l[j].num = n → j = Mo.lo n l := fun j hj e => by
    have := Mo.lo_of_get hk.srt hj
    rw [e] at this; exact this.symm
  unfold Mo.relL Mo.relE
  rw [if_pos hhas, if_neg hne, hg]
  cases ho : l[Mo.lo n l].out with
  | true =>
    rw [if_pos rfl, if_neg (by decide)]
    unfold outs
    apply List.ext_getElem (by simp)
    intro j h1 h2
    rw [List.getElem_map]
    by_cases e : l[j].num = n
    · have := hat j h1 e
      subst this
      cases hx : l[Mo.lo n l] with
      | mk a b c =>
        rw [hx] at ho
        dsimp only at ho ⊢
        rw [ho]; simp
    · have e' : ¬ n = l[j].num := fun h => e h.symm
      cases hx : l[j] with
      | mk a b c =>
        rw [hx] at e e'
        dsimp only at e e'
        simp [e]
  | false =>
    rw [if_pos (by simp)]
    unfold outs
    apply List.ext_getElem (by simp)
    intro j h1 h2
    have hj : j < l.length := by simpa using h1
    rw [List.getElem_map, List.getElem_set]
    by_cases e : l[j].num = n
    · have := hat j hj e
      subst this
      rw [if_pos rfl]; simp [hn]
    · rw [if_neg (fun h => e (by rw [← hn]; congr 1; exact getElem_congr_idx h.symm))]
      cases hx : l[j] with
      | mk a b c =>
        rw [hx] at e
        dsimp only at e
        simp [e]
theorem outs_last {ns : List Int} {l : List Mo.It} {n : Int} (hl : ∀ x, l.getLast? = some x → x.num ≠ n) : ∀ x, (outs ns l).getLast? = some x → x.num ≠ n := by
  intro x hx
  unfold outs at hx
  rw [List.getLast?_map] at hx
  cases hq : l.getLast? with
  | none => rw [hq] at hx; cases hx
  | some y => rw [hq] at hx; injection hx with hx; subst hx; exact hl y hq
theorem outs_has {ns : List Int} {l : List Mo.It} {n : Int} (hh : ∃ x ∈ l, x.num = n) : ∃ x ∈ outs ns l, x.num = n := by
  obtain ⟨x, hx, e⟩ := hh
  exact ⟨_, List.mem_map.2 ⟨x, hx, rfl⟩, e⟩
/-- what is released of a table: all but what is promised, whether it is out or not -/
theorem rel_outs {s : TS} {ns : List Int} (h : ∀ x ∈ s.tab, (x.out || ns.contains x.num) = (x.out || !s.has x.num)) : outs ns s.tab = s.rel.tab := by
  unfold outs TS.rel
  dsimp only
  apply List.map_congr_left
  intro x hx
  rw [h x hx]
theorem tab_uniq {l : List Mo.It} (hk : Mo.TabOk l) {x y : Mo.It} (hx : x ∈ l) (hy : y ∈ l) (e : x.num = y.num) : x = y := by
  obtain ⟨i, hi, rfl⟩ := List.getElem_of_mem hx
  obtain ⟨j, hj, rfl⟩ := List.getElem_of_mem hy
  have h1 := Mo.lo_of_get hk.srt hi
  have h2 := Mo.lo_of_get hk.srt hj
  rw [e, h2] at h1
  subst h1; rfl
/-- those that the program releases -/
def relNs (s : TS) : List Int := (s.tab.filter fun x => !x.out && !s.has x.num).map (·.num)
theorem relNs_ok {s : TS} (h : Inv s) : ∀ x ∈ s.tab, (x.out || (relNs s).contains x.num) = (x.out || !s.has x.num) := by
  intro x hx
  have e : (relNs s).contains x.num = (!x.out && !s.has x.num) := by
    rw [Bool.eq_iff_iff, List.contains_iff_mem]
    unfold relNs
    simp only [List.mem_map, List.mem_filter]
    constructor
    · rintro ⟨y, ⟨hy, hc⟩, e⟩
      rw [← tab_uniq h.tab hy hx e]; exact hc
    · intro hc; exact ⟨x, ⟨hx, hc⟩, rfl⟩
  rw [e]; cases x.out <;> simp
theorem relNs_mem {s : TS} (h : Inv s) {n : Int} (hn : n ∈ relNs s) : (∃ x ∈ s.tab, x.num = n) ∧ ∀ x, s.tab.getLast? = some x → x.num ≠ n := by
  unfold relNs at hn
  simp only [List.mem_map, List.mem_filter] at hn
  obtain ⟨y, ⟨hy, hc⟩, rfl⟩ := hn
  refine ⟨⟨y, hy, rfl⟩, fun x hx e => ?_⟩
  have := last_has h hx
  rw [e] at this
  rw [this] at hc; simp at hc
/-- those that the document releases -/
def relAs (s : TS) : List Int := (s.tab.filter fun x => !s.has x.num).map (·.num)
theorem relAs_ok {s : TS} (h : Inv s) : ∀ x ∈ s.tab, (x.out || (relAs s).contains x.num) = (x.out || !s.has x.num) := by
  intro x hx
  have e : (relAs s).contains x.num = (!s.has x.num) := by
    rw [Bool.eq_iff_iff, List.contains_iff_mem]
    unfold relAs
    simp only [List.mem_map, List.mem_filter]
    constructor
    · rintro ⟨y, ⟨hy, hc⟩, e⟩
      rw [← tab_uniq h.tab hy hx e]; exact hc
    · intro hc; exact ⟨x, ⟨hx, hc⟩, rfl⟩
  rw [e]
theorem relAs_mem {s : TS} (h : Inv s) {n : Int} (hn : n ∈ relAs s) : (∃ x ∈ s.tab, x.num = n) ∧ ∀ x, s.tab.getLast? = some x → x.num ≠ n := by
  unfold relAs at hn
  simp only [List.mem_map, List.mem_filter] at hn
  obtain ⟨y, ⟨hy, hc⟩, rfl⟩ := hn
  refine ⟨⟨y, hy, rfl⟩, fun x hx e => ?_⟩
  have := last_has h hx
  rw [e] at this
  rw [this] at hc; simp at hc

/-- holds by their ids -/
theorem hold_ids {s : TS} (h : Inv s) : (s.holds.map fun p => p.h.id).Nodup := by
  have h1 : s.holds.Pairwise (fun p q => p.h.id ≠ q.h.id) := by
    refine List.Pairwise.imp_of_mem ?_ h.hsrt
    intro p q hp hq hlt
    have := (h.holds p hp).2.2.1
    have := (h.holds q hq).2.2.1
    omega
  exact List.pairwise_map.2 h1
theorem lift_erase : ∀ (l : List Ho.Put) (id : Int), (l.map fun p => p.h.id).Nodup → Ho.liftL id l = l.filter (fun p => !(p.h.id == id)) := by
  intro l
  induction l with
  | nil => intro id _; rfl
  | cons a l ih =>
    intro id hn
    rw [List.map_cons, List.nodup_cons] at hn
    have hi := ih id hn.2
    unfold Ho.liftL at hi ⊢
    rw [List.findIdx?_cons]
    by_cases e : a.h.id == id
    · rw [if_pos e]
      rw [List.filter_cons, if_neg (by simp [e])]
      show l = _
      symm
      rw [List.filter_eq_self]
      intro p hp
      have hne : ¬ p.h.id = id := fun e2 => hn.1 (List.mem_map.2 ⟨p, hp, by rw [e2]; exact (by simpa using e : a.h.id = id).symm⟩)
      simpa using hne
    · rw [if_neg e, List.filter_cons, if_pos (by simp [e])]
      rw [← hi]
      cases l.findIdx? (fun x => x.h.id == id) <;> rfl
theorem lift_fold : ∀ (ids : List Int) (l : List Ho.Put), (l.map fun p => p.h.id).Nodup → ids.foldl (fun t i => Ho.liftL i t) l = l.filter (fun p => !ids.contains p.h.id) := by
  intro ids
  induction ids with
  | nil => intro l _; exact (List.filter_eq_self.2 (by simp)).symm
  | cons i ids ih =>
    intro l hn
    rw [List.foldl_cons, lift_erase l i hn, ih _ (hn.sublist (List.Sublist.map _ List.filter_sublist)), List.filter_filter]
    apply List.filter_congr
    intro p _
    simp only [List.contains_cons, Bool.not_or]
    rw [Bool.and_comm]
def overNs (s : TS) (m : Int) : List Int := (s.holds.filter fun p => decide (p.h.til ≤ m)).map fun p => p.h.id
theorem overNs_fold {s : TS} (h : Inv s) (m : Int) : (overNs s m).foldl (fun t i => Ho.liftL i t) s.holds = s.holds.filter fun p => decide (m < p.h.til) := by
  rw [lift_fold _ _ (hold_ids h)]
  apply List.filter_congr
  intro p hp
  have e : (overNs s m).contains p.h.id = decide (p.h.til ≤ m) := by
    rw [Bool.eq_iff_iff, List.contains_iff_mem, decide_eq_true_eq]
    unfold overNs
    simp only [List.mem_map, List.mem_filter, decide_eq_true_eq]
    constructor
    · rintro ⟨q, ⟨hq, hc⟩, e⟩
      have : q = p := by
        obtain ⟨i, hi, rfl⟩ := List.getElem_of_mem hq
        obtain ⟨j, hj, rfl⟩ := List.getElem_of_mem hp
        have h1 := (h.holds _ (List.getElem_mem hi)).2.2.1
        have h2 := (h.holds _ (List.getElem_mem hj)).2.2.1
        have : i = j := by
          rcases Nat.lt_trichotomy i j with h3 | h3 | h3
          · have := List.pairwise_iff_getElem.1 h.hsrt i j hi hj h3; omega
          · exact h3
          · have := List.pairwise_iff_getElem.1 h.hsrt j i hj hi h3; omega
        subst this; rfl
      rw [← this]; exact hc
    · intro hc; exact ⟨p, ⟨hp, hc⟩, rfl⟩
  rw [e]
  by_cases hc : p.h.til ≤ m
  · rw [decide_eq_true hc, decide_eq_false (by omega)]; rfl
  · rw [decide_eq_false hc, decide_eq_true (by omega)]; rfl
end Go.Proofs.YtoglddndicmelaaGreat.Tr
