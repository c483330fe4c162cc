/- Layer 54: what holds of a list of all writes, through what is done. -/
import Derived.Test.YtoglddndicmelaaGreatTru0
namespace Go.Proofs.YtoglddndicmelaaGreat.Tr
open Go.RowKit Go.Proofs.YtoglddndicmelaaGreatB Go.Proofs.YtoglddndicmelaaGreat

theorem next_pos {s : TS} (h : s.next ≠ 0) : s.top < 65535 ∧ s.next = s.top + 1 := by
  unfold TS.next at h ⊢
  by_cases hc : 65535 ≤ s.top
  · rw [if_pos hc] at h; exact absurd rfl h
  · rw [if_neg hc]; exact ⟨by omega, rfl⟩
theorem has_mem {l : List Mo.It} {num : Int} : Mo.has num l = true ↔ ∃ x ∈ l, x.num = num := by
  unfold Mo.has; rw [List.any_eq_true]; simp only [beq_iff_eq]
theorem hasP_mem {rs : List Rul} {tab : List Mo.It} {holds : List Ho.Put} {fs : List Tw} {num now : Int} (h : hasP rs tab holds fs num now = true) : ∃ x ∈ tab, x.num = num := by
  unfold hasP at h
  rw [Bool.and_eq_true] at h
  exact has_mem.1 h.1
theorem Inv.has_rng {s : TS} (h : Inv s) {num : Int} (hh : s.has num = true) : 1 ≤ num ∧ num ≤ s.top := by
  obtain ⟨x, hx, rfl⟩ := hasP_mem hh
  exact ⟨(h.tab.rng x hx).1, (h.tabT x hx).1⟩
theorem numF_le {s : TS} (h : Inv s) (id : Int) : 0 ≤ numF s.fs id ∧ numF s.fs id ≤ s.top := by
  have := h.top
  unfold numF; split
  · exact ⟨(h.fs.nu_rng _).1, h.fsT _⟩
  · omega

theorem writeE_ok {s : TS} {br vol blk : Int} (h : s.writeE br vol blk = 0) : 0 ≤ br ∧ br < 16 ∧ s.there vol blk = true ∧ alive s.fs br = true ∧ s.next ≠ 0 := by
  unfold TS.writeE at h
  by_cases h1 : br < 0 ∨ 16 ≤ br ∨ s.there vol blk = false
  · rw [if_pos h1] at h; cases h
  rw [if_neg h1] at h
  cases h2 : alive s.fs br with
  | false => rw [if_pos h2] at h; cases h
  | true =>
    rw [if_neg (by rw [h2]; simp)] at h
    by_cases h3 : s.next = 0
    · rw [if_pos h3] at h; cases h
    · exact ⟨by omega, by omega, by cases ht : s.there vol blk <;> simp_all, rfl, h3⟩
theorem add_tab {s : TS} (h : Inv s) (hn : s.next ≠ 0) : Mo.addE (s.top + 1) s.now s.tab = 0 ∧ Mo.addL (s.top + 1) s.now s.tab = s.tab ++ [⟨s.top + 1, s.now, false⟩] := by
  obtain ⟨h1, _⟩ := next_pos hn
  have ht := h.top
  have hw := h.now
  have e : Mo.addE (s.top + 1) s.now s.tab = 0 := by
    unfold Mo.addE
    rw [if_pos (by simp [Mo.rngB]; omega), if_neg]
    rw [Bool.not_eq_true, List.any_eq_false]
    intro x hx
    have := h.tabT x hx
    simp [Mo.pastI]; omega
  exact ⟨e, by unfold Mo.addL; rw [if_pos e]⟩
theorem inv_write {s : TS} (h : Inv s) (hlen : s.tab.length ≤ 900) (br vol blk : Int) (d : List Nat) (hd : d.length = 32 ∧ ∀ y ∈ d, y < 256) : Inv (s.write br vol blk d) := by
  unfold TS.write
  by_cases he : s.writeE br vol blk = 0
  · rw [if_pos he]
    obtain ⟨_, _, _, _, hn⟩ := writeE_ok he
    obtain ⟨h1, _⟩ := next_pos hn
    obtain ⟨e1, e2⟩ := add_tab h hn
    have hok := Mo.ok_add (num := s.top + 1) (min := s.now) h.tab hlen
    have hla := Mo.lastIn_add h.last (s.top + 1) s.now
    rw [e2] at hok hla
    have ht := h.top
    refine ⟨h.now, by dsimp only; omega, hok, ?_, hla, h.fs, fun i => ?_, h.hlen, fun p hp => ?_, h.hsrt, ?_, ?_, h.rules, h.dims⟩
    · intro x hx
      dsimp only at hx ⊢
      rcases List.mem_append.1 hx with hx | hx
      · have := h.tabT x hx; omega
      · rw [List.mem_singleton.1 hx]; dsimp only; omega
    · have := h.fsT i; dsimp only; omega
    · have := h.holds p hp; dsimp only; omega
    · dsimp only; rw [List.map_append, List.map_append, h.ws]; rfl
    · intro x hx
      rcases List.mem_append.1 hx with hx | hx
      · exact h.wsd x hx
      · rw [List.mem_singleton.1 hx]; exact hd
  · rw [if_neg he]; exact h
theorem tickE_ok {s : TS} {m : Int} (h : s.tickE m = 0) : s.now ≤ m ∧ m ≤ 1073741824 := by
  unfold TS.tickE at h
  by_cases h1 : 1073741824 < m
  · rw [if_pos h1] at h; cases h
  rw [if_neg h1] at h
  by_cases h2 : m < s.now
  · rw [if_pos h2] at h; cases h
  omega
theorem inv_tick {s : TS} (h : Inv s) (m : Int) : Inv (s.tick m) := by
  unfold TS.tick
  by_cases he : s.tickE m = 0
  · rw [if_pos he]
    have hm := tickE_ok he
    have hw := h.now
    refine ⟨by dsimp only; omega, h.top, h.tab, fun x hx => ?_, h.last, h.fs, h.fsT, ?_, fun p hp => ?_, ?_, h.ws, h.wsd, h.rules, h.dims⟩
    · have := h.tabT x hx; dsimp only; omega
    · have := List.length_filter_le (fun p : Ho.Put => decide (m < p.h.til)) s.holds; have := h.hlen; dsimp only; omega
    · have := h.holds p (List.mem_filter.1 hp).1; dsimp only; omega
    · exact List.Pairwise.filter _ h.hsrt
  · rw [if_neg he]; exact h
theorem inv_top {s : TS} (h : Inv s) {t : Int} (h1 : s.top ≤ t) (h2 : t ≤ 65535) : Inv { s with top := t } := by
  have ht := h.top
  refine ⟨h.now, by dsimp only; omega, h.tab, fun x hx => ?_, h.last, h.fs, fun i => ?_, h.hlen, fun p hp => ?_, h.hsrt, h.ws, h.wsd, h.rules, h.dims⟩
  · have := h.tabT x hx; dsimp only; omega
  · have := h.fsT i; dsimp only; omega
  · have := h.holds p hp; dsimp only; omega
theorem inv_mark {s : TS} (h : Inv s) : Inv s.mark := by
  unfold TS.mark
  by_cases he : s.next = 0
  · rw [if_pos he]; exact h
  · rw [if_neg he]; have := next_pos he; exact inv_top h (by omega) (by omega)
theorem inv_skip {s : TS} (h : Inv s) (t : Int) : Inv (s.skip t) := by
  unfold TS.skip
  by_cases he : s.top < t ∧ t ≤ 65535
  · rw [if_pos he]; exact inv_top h (by omega) (by omega)
  · rw [if_neg he]; exact h
theorem fork_ok {s : TS} (h : Inv s) {pa m : Int} (he : s.forkE pa m = 0) : alive s.fs pa = true ∧ s.has m = true ∧ numF s.fs pa ≤ m ∧ freeF s.fs ≠ 16 ∧ s.next ≠ 0 := by
  unfold TS.forkE at he
  by_cases h1 : alive s.fs pa = false ∨ s.has m = false
  · rw [if_pos h1] at he; cases he
  rw [if_neg h1] at he
  by_cases h2 : m < numF s.fs pa
  · rw [if_pos h2] at he; cases he
  rw [if_neg h2] at he
  by_cases h3 : freeF s.fs = 16
  · rw [if_pos h3] at he; cases he
  rw [if_neg h3] at he
  by_cases h4 : s.next = 0
  · rw [if_pos h4] at he; cases he
  refine ⟨?_, ?_, by omega, h3, h4⟩
  · cases hq : alive s.fs pa with
    | true => rfl
    | false => exact absurd (.inl hq) h1
  · cases hq : s.has m with
    | true => rfl
    | false => exact absurd (.inr hq) h1
/-- the fork of a list is one of its forest -/
theorem fork_fs {s : TS} (h : Inv s) {pa m : Int} (ha : alive s.fs pa = true) (hh : s.has m = true) (hm : numF s.fs pa ≤ m) (hf : freeF s.fs ≠ 16) :
    Tr.forkE s.fs (freeF s.fs) pa m (s.top + 1) = 0 ∧ forkF s.fs (freeF s.fs) pa m (s.top + 1) = s.fs.set (freeF s.fs) ⟨true, pa, m, s.top + 1⟩ := by
  rcases freeF_spec s.fs with ⟨h1, h2, h3, _⟩ | ⟨h1, _⟩
  · have hr := h.has_rng hh
    unfold numF at hm
    rw [if_pos ha] at hm
    have e : Tr.forkE s.fs (freeF s.fs) pa m (s.top + 1) = 0 := by
      unfold Tr.forkE
      rw [if_neg (by omega), Int.toNat_natCast, h3, if_neg (by simp), if_neg (by rw [ha]; simp), if_neg (by omega)]
    exact ⟨e, by unfold forkF; rw [if_pos e, Int.toNat_natCast]⟩
  · exact absurd h1 hf
theorem inv_fork {s : TS} (h : Inv s) (pa m : Int) : Inv (s.fork pa m) := by
  unfold TS.fork
  by_cases he : s.forkE pa m = 0
  · rw [if_pos he]
    obtain ⟨h1, h2, h3, h4, h5⟩ := fork_ok h he
    obtain ⟨e1, e2⟩ := fork_fs h h1 h2 h3 h4
    have hn := next_pos h5
    have hk := fok_fork h.fs (id := freeF s.fs) (pa := pa) (ba := m) (nu := s.top + 1) (by omega)
    rw [e2] at hk
    have ht := inv_top h (t := s.top + 1) (by omega) (by omega)
    refine ⟨ht.now, ht.top, ht.tab, ht.tabT, ht.last, hk, fun i => ?_, ht.hlen, ht.holds, ht.hsrt, ht.ws, ht.wsd, ht.rules, ht.dims⟩
    dsimp only
    have hl : freeF s.fs < s.fs.length := by
      rcases freeF_spec s.fs with ⟨g1, _⟩ | ⟨g1, _⟩
      · rw [h.fs.len]; exact g1
      · exact absurd g1 h4
    rw [tg_set hl]; split
    · exact Int.le_refl _
    · have := h.fsT i; omega
  · rw [if_neg he]; exact h
theorem drop_fs {s : TS} {id : Int} (he : Tr.dropE s.fs id = 0) : dropF s.fs id = s.fs.set id.toNat tw0 := by unfold dropF; rw [if_pos he]
theorem inv_drop {s : TS} (h : Inv s) (id : Int) : Inv (s.drop id) := by
  unfold TS.drop TS.dropE
  by_cases he : Tr.dropE s.fs id = 0
  · rw [if_pos he]
    by_cases hn : s.next = 0
    · rw [if_pos hn, if_neg (by decide)]; exact h
    · rw [if_neg hn, if_pos rfl]
      have hk := fok_drop h.fs (id := id)
      rw [drop_fs he] at hk
      have hnp := next_pos hn
      have ht := inv_top h (t := s.top + 1) (by omega) (by omega)
      refine ⟨ht.now, ht.top, ht.tab, ht.tabT, ht.last, hk, fun i => ?_, ht.hlen, ht.holds, ht.hsrt, ht.ws, ht.wsd, ht.rules, ht.dims⟩
      dsimp only
      obtain ⟨_, h2, _⟩ := dropE_ok he
      obtain ⟨j, e, hj, _⟩ := (alive_iff _ _).1 h2
      rw [tg_set (by rw [h.fs.len]; omega)]; split
      · show (0 : Int) ≤ _; have := h.top; omega
      · have := h.fsT i; omega
  · rw [if_neg he, if_neg he]; exact h
theorem last_has {s : TS} (h : Inv s) {x : Mo.It} (hx : s.tab.getLast? = some x) : s.has x.num = true := by
  have hm := List.mem_of_getLast? hx
  have hl := h.last x hx
  have h0 : 0 < s.tab.length := List.length_pos_of_mem hm
  have hg : Mo.gt s.tab (s.tab.length - 1) = x := by
    rw [Mo.gt_get (by omega)]
    rw [List.getLast?_eq_getElem?] at hx
    exact (List.getElem?_eq_some_iff.1 hx).2
  have hn : Mo.lastN s.tab = x.num := by unfold Mo.lastN; rw [if_neg (by omega), hg]
  have hhas : Mo.has x.num s.tab = true := has_mem.2 ⟨x, hm, rfl⟩
  have hlo : Mo.lo x.num s.tab = s.tab.length - 1 := by
    have := Mo.lo_of_get h.tab.srt (i := s.tab.length - 1) (by omega)
    rw [← Mo.gt_get (by omega), hg] at this; exact this
  unfold TS.has hasP Mo.outB
  rw [hhas, hlo, hg, hl, hn]
  simp
theorem rel_num {s : TS} : s.rel.tab.map (fun x => x.num) = s.tab.map (fun x => x.num) := by
  unfold TS.rel; dsimp only; rw [List.map_map]; rfl
theorem inv_rel {s : TS} (h : Inv s) : Inv s.rel := by
  refine ⟨h.now, h.top, ⟨?_, ?_, ?_⟩, ?_, ?_, h.fs, h.fsT, h.hlen, h.holds, h.hsrt, by rw [rel_num]; exact h.ws, h.wsd, h.rules, h.dims⟩
  · unfold TS.rel Mo.Srt; dsimp only; rw [List.pairwise_map]; exact h.tab.srt
  · intro x hx
    obtain ⟨y, hy, rfl⟩ := List.mem_map.1 hx
    exact h.tab.rng y hy
  · unfold TS.rel; dsimp only; rw [List.length_map]; exact h.tab.len
  · intro x hx
    obtain ⟨y, hy, rfl⟩ := List.mem_map.1 hx
    exact h.tabT y hy
  · intro x hx
    unfold TS.rel at hx
    dsimp only at hx
    rw [List.getLast?_map] at hx
    cases hq : s.tab.getLast? with
    | none => rw [hq] at hx; cases hx
    | some y =>
      rw [hq] at hx
      injection hx with hx
      subst hx
      dsimp only
      rw [h.last y hq, last_has h hq]; rfl
theorem hold_ok {h : Ho.Held} {num min : Int} {l : List Ho.Put} (he : Ho.addE h num min l = 0) : l.length < 64 ∧ (∀ p ∈ l, p.num < num ∧ p.min ≤ min) ∧ Ho.mayB h = true ∧ min < h.til := by
  unfold Ho.addE at he
  split at he
  · rename_i h1
    rw [Bool.and_eq_true] at h1
    split at he
    · cases he
    · split at he
      · cases he
      · split at he
        · cases he
        · rename_i h2 h3 h4
          split at he
          · cases he
          · refine ⟨by omega, fun p hp => ?_, h1.1, by omega⟩
            rw [Bool.not_eq_true, List.any_eq_false] at h4
            have := h4 p hp
            simp [Ho.pastB] at this
            omega
  · cases he
theorem inv_hold {s : TS} (h : Inv s) (a b c : Int) : Inv (s.hold a b c) := by
  have hr := inv_rel h
  unfold TS.hold TS.holdE
  by_cases he : Ho.addE ⟨s.top + 1, a, b, c⟩ (s.top + 1) s.now s.holds = 0
  · rw [if_pos he]
    by_cases hn : s.next = 0
    · rw [if_pos hn, if_neg (by decide)]; exact hr
    · rw [if_neg hn, if_pos rfl]
      obtain ⟨h1, h2, _, _⟩ := hold_ok he
      have hnp := next_pos hn
      have ht := inv_top hr (t := s.top + 1) (by show s.top ≤ _; omega) (by omega)
      have h0 := h.top
      have hw := h.now
      refine ⟨ht.now, ht.top, ht.tab, ht.tabT, ht.last, ht.fs, ht.fsT, ?_, ?_, ?_, ht.ws, ht.wsd, ht.rules, ht.dims⟩
      · dsimp only; rw [List.length_append]; simp; omega
      · intro p hp
        dsimp only at hp
        rcases List.mem_append.1 hp with hp | hp
        · exact ht.holds p hp
        · rw [List.mem_singleton.1 hp]; exact ⟨Int.le_refl _, Int.le_refl _, rfl, by dsimp only; omega, by dsimp only; omega⟩
      · dsimp only
        rw [List.pairwise_append]
        refine ⟨h.hsrt, List.pairwise_singleton _ _, fun p hp q hq => ?_⟩
        rw [List.mem_singleton.1 hq]
        exact (h2 p hp).1
  · rw [if_neg he, if_neg he]; exact hr
theorem liftL_sub (id : Int) (l : List Ho.Put) : (Ho.liftL id l).Sublist l := by
  unfold Ho.liftL; split
  · exact List.eraseIdx_sublist _ _
  · exact List.Sublist.refl _
theorem inv_holds {s : TS} (h : Inv s) {l : List Ho.Put} (hs : l.Sublist s.holds) : Inv { s with holds := l } :=
  ⟨h.now, h.top, h.tab, h.tabT, h.last, h.fs, h.fsT, Nat.le_trans hs.length_le h.hlen, fun p hp => h.holds p (hs.subset hp), h.hsrt.sublist hs, h.ws, h.wsd, h.rules, h.dims⟩
theorem inv_lift {s : TS} (h : Inv s) (id : Int) : Inv (s.lift id) := by
  unfold TS.lift TS.liftE
  by_cases he : Ho.liftE id s.holds = 0
  · rw [if_pos he]
    by_cases hn : s.next = 0
    · rw [if_pos hn, if_neg (by decide)]; exact h
    · rw [if_neg hn, if_pos rfl]
      have hnp := next_pos hn
      exact inv_holds (inv_top h (t := s.top + 1) (by omega) (by omega)) (liftL_sub id s.holds)
  · rw [if_neg he, if_neg he]; exact h
end Go.Proofs.YtoglddndicmelaaGreat.Tr
