/- Layer 54, plain: what is read behind one act more. Layer 54, plain: what a fork shows; what promises do as minutes go by; two writes in either order. Layer 54, plain: what promises do as minutes go by, and behind a hold. Layer 54, plain: two writes in either order. -/
import Derived.Test.YtoglddndicmelaaGreatLwA
namespace Go.Proofs.YtoglddndicmelaaGreat.Tr
open Go.RowKit Go.Proofs.YtoglddndicmelaaGreatB Go.Proofs.YtoglddndicmelaaGreat

/-- the last of a row of numbers; 0: there is none -/
def lastI (l : List Int) : Int := l.getLast?.getD 0
theorem all_last {s : TS} (hI : Inv s) : s.all.getLast? = s.tab.getLast?.map (·.num) := by
  unfold TS.all
  rw [List.getLast?_map]
  cases hq : s.tab.getLast? with
  | none =>
    rw [List.getLast?_eq_none_iff.1 hq]; rfl
  | some x =>
    have hx := last_has hI hq
    obtain ⟨l, e⟩ := List.getLast?_eq_some_iff.1 hq
    rw [e, List.filter_append, List.filter_cons, if_pos (by simpa using hx)]
    simp
/-- all writes lie at or below the last promised moment -/
theorem ws_le {s : TS} (hI : Inv s) : ∀ x ∈ s.ws, 1 ≤ x.num ∧ x.num ≤ lastI s.all ∧ lastI s.all ≤ s.top := by
  intro x hx
  have hm : x.num ∈ s.tab.map (fun x => x.num) := by rw [← hI.ws]; exact List.mem_map.2 ⟨x, hx, rfl⟩
  obtain ⟨y, hy, e⟩ := List.mem_map.1 hm
  unfold lastI
  rw [all_last hI]
  cases hq : s.tab.getLast? with
  | none => rw [List.getLast?_eq_none_iff.1 hq] at hy; cases hy
  | some z =>
    obtain ⟨l, el⟩ := List.getLast?_eq_some_iff.1 hq
    have hz : z ∈ s.tab := List.mem_of_getLast? hq
    have h1 := (hI.tab.rng y hy).1
    have h2 := (hI.tabT z hz).1
    have hs := hI.tab.srt
    rw [el] at hs hy
    unfold Mo.Srt at hs
    rw [List.pairwise_append] at hs
    show 1 ≤ x.num ∧ x.num ≤ z.num ∧ z.num ≤ s.top
    refine ⟨by omega, ?_, h2⟩
    rcases List.mem_append.1 hy with hy | hy
    · have := (hs.2.2 y hy z (by simp)).1; omega
    · have : y = z := by simpa using hy
      subst this; omega
theorem shownL_cons (ws : List Wr) (vol blk : Int) (st : Stp) (l : List Stp) : shownL ws vol blk (st :: l) = (match (ws.filter (onB vol blk st)).getLast? with | some x => some x | none => shownL ws vol blk l) := rfl
theorem shownL_hi (ws : List Wr) (vol blk br lo hi hi' : Int) (l : List Stp) (h : ∀ x ∈ ws, x.num ≤ hi ∧ x.num ≤ hi') : shownL ws vol blk (⟨br, lo, hi⟩ :: l) = shownL ws vol blk (⟨br, lo, hi'⟩ :: l) := by
  rw [shownL_cons, shownL_cons]
  have e : ws.filter (onB vol blk ⟨br, lo, hi⟩) = ws.filter (onB vol blk ⟨br, lo, hi'⟩) := by
    apply List.filter_congr
    intro x hx
    unfold onB
    dsimp only
    rw [decide_eq_true (h x hx).1, decide_eq_true (h x hx).2]
  rw [e]
theorem shownL_snoc (ws : List Wr) (vol blk : Int) (x : Wr) (l : List Stp) (h : ∀ st ∈ l, onB vol blk st x = false) : shownL (ws ++ [x]) vol blk l = shownL ws vol blk l := by
  induction l with
  | nil => rfl
  | cons st l ih =>
    rw [shownL_cons, shownL_cons, ih (fun s hs => h s (List.mem_cons_of_mem _ hs)), List.filter_append, List.filter_cons, if_neg (by rw [h st (List.mem_cons_self ..)]; decide)]
    simp
theorem write_eq {s : TS} {br vol blk : Int} {d : List Nat} (he : s.writeE br vol blk = 0) : s.write br vol blk d = { s with top := s.top + 1, ws := s.ws ++ [⟨s.top + 1, br, vol, blk, d⟩], tab := s.tab ++ [⟨s.top + 1, s.now, false⟩] } := if_pos he
theorem write_ne {s : TS} {br vol blk : Int} {d : List Nat} (he : s.writeE br vol blk ≠ 0) : s.write br vol blk d = s := if_neg he
theorem readE_zero {s : TS} {id m vol blk : Int} : s.readE id m vol blk = 0 ↔ s.there vol blk = true ∧ alive s.fs id = true ∧ numF s.fs id ≤ m ∧ s.has m = true := by
  unfold TS.readE
  cases s.there vol blk <;> cases alive s.fs id <;> cases s.has m <;> by_cases h : m < numF s.fs id <;> simp [h] <;> omega
theorem write_has {s : TS} (hI : Inv s) (hlen : s.tab.length ≤ 900) {br vol blk : Int} {d : List Nat} (hd : d.length = 32 ∧ ∀ y ∈ d, y < 256) (he : s.writeE br vol blk = 0) : (s.write br vol blk d).has (s.top + 1) = true := by
  have hi := inv_write hI hlen br vol blk d hd
  have hq : (s.write br vol blk d).tab.getLast? = some ⟨s.top + 1, s.now, false⟩ := by rw [write_eq he]; simp
  exact last_has hi hq
theorem write_readE {s : TS} (hI : Inv s) (hlen : s.tab.length ≤ 900) {br vol blk oth : Int} {d : List Nat} (hd : d.length = 32 ∧ ∀ y ∈ d, y < 256) (he : s.writeE br vol blk = 0) (ht : s.there vol oth = true) : (s.write br vol blk d).readE br (s.top + 1) vol oth = 0 := by
  obtain ⟨_, _, _, ha, _⟩ := writeE_ok he
  refine readE_zero.2 ⟨?_, ?_, ?_, write_has hI hlen hd he⟩
  · rw [write_eq he]; exact ht
  · rw [write_eq he]; exact ha
  · rw [write_eq he]; have := numF_le hI br; show numF s.fs br ≤ _; omega
theorem alive_toNat {fs : List Tw} {id : Int} (h : alive fs id = true) : ((id.toNat : Nat) : Int) = id := by
  obtain ⟨i, e, _⟩ := (alive_iff _ _).1 h; omega
theorem readD_eq {s : TS} {id m vol blk : Int} (h : s.readE id m vol blk = 0) : s.readD id m vol blk = (match s.shown id m vol blk with | some x => x.data | none => z32) := if_pos h
theorem write_own {s : TS} (hI : Inv s) (hlen : s.tab.length ≤ 900) {br vol blk : Int} {d : List Nat} (hd : d.length = 32 ∧ ∀ y ∈ d, y < 256) (he : s.writeE br vol blk = 0) : (s.write br vol blk d).readD br (s.top + 1) vol blk = d := by
  obtain ⟨h0, h1, ht, ha, hn⟩ := writeE_ok he
  rw [readD_eq (write_readE hI hlen hd he ht), write_eq he]
  unfold TS.shown
  dsimp only
  have ha' := alive_toNat ha
  rw [lineF_step hI.fs _ (by rw [ha']; exact ha), shownL_cons, List.filter_append, List.filter_cons, if_pos ?_]
  · simp
  · unfold onB
    have := hI.fsT br.toNat
    simp [ha']; omega
theorem write_oth {s : TS} (hI : Inv s) (hlen : s.tab.length ≤ 900) {br vol blk oth : Int} {d : List Nat} (hd : d.length = 32 ∧ ∀ y ∈ d, y < 256) (he : s.writeE br vol blk = 0) (ho : oth ≠ blk) (ht : s.there vol oth = true) (hr : s.readE br (lastI s.all) vol oth = 0) :
    (s.write br vol blk d).readD br (s.top + 1) vol oth = s.readD br (lastI s.all) vol oth := by
  obtain ⟨h0, h1, _, ha, hn⟩ := writeE_ok he
  rw [readD_eq (write_readE hI hlen hd he ht), readD_eq hr, write_eq he]
  unfold TS.shown
  dsimp only
  have ha' := alive_toNat ha
  have e : shownL (s.ws ++ [⟨s.top + 1, br, vol, blk, d⟩]) vol oth (lineF s.fs br.toNat (s.top + 1)) = shownL s.ws vol oth (lineF s.fs br.toNat (lastI s.all)) := by
    rw [shownL_snoc]
    · have ha2 : alive s.fs ((br.toNat : Nat) : Int) = true := by rw [ha']; exact ha
      rw [lineF_step hI.fs (id := br.toNat) (s.top + 1) ha2, lineF_step hI.fs (id := br.toNat) (lastI s.all) ha2]
      exact shownL_hi _ _ _ _ _ _ _ _ (fun x hx => by obtain ⟨_, h1, h2⟩ := ws_le hI x hx; constructor <;> omega)
    · intro st _
      unfold onB
      have : (blk == oth) = false := by rw [beq_eq_false_iff_ne]; exact fun e => ho e.symm
      simp [this]
  rw [e]
end Go.Proofs.YtoglddndicmelaaGreat.Tr

namespace Go.Proofs.YtoglddndicmelaaGreat.Tr
open Go.RowKit Go.Proofs.YtoglddndicmelaaGreatB Go.Proofs.YtoglddndicmelaaGreat

theorem lineN_set {fs : List Tw} (hf : FOk fs) {i : Nat} (hi : i < 16) (h0 : i ≠ 0) (hd : (tg fs i).al = false) (x : Tw) : ∀ (n p : Nat) (m : Int), alive fs (p : Int) = true → lineN (fs.set i x) n p m = lineN fs n p m := by
  intro n
  induction n with
  | zero => intro _ _ _; rfl
  | succ n ih =>
    intro p m ha
    obtain ⟨q, e, hq, hh⟩ := (alive_iff _ _).1 ha
    obtain rfl : p = q := by omega
    have hne : p ≠ i := by
      rintro rfl
      rcases hh with hh | hh
      · exact h0 hh
      · rw [hh] at hd; cases hd
    have hl : i < fs.length := by rw [hf.len]; exact hi
    unfold lineN
    rw [tg_set hl, if_neg hne]
    congr 1
    by_cases hp : p = 0
    · rw [if_pos hp, if_pos hp]
    · rw [if_neg hp, if_neg hp]
      have hal := hh.resolve_left hp
      have hr := hf.pa_rng p
      exact ih _ _ (by rw [Int.toNat_of_nonneg hr.1]; exact (hf.par p hal).1)
theorem lineN_hi {fs : List Tw} (hf : FOk fs) : ∀ (n p : Nat) (m : Int), (tg fs p).nu ≤ m → ∀ st ∈ lineN fs n p m, st.hi ≤ m := by
  intro n
  induction n with
  | zero => intro _ _ _ st h; cases h
  | succ n ih =>
    intro p m hm st h
    unfold lineN at h
    rcases List.mem_cons.1 h with rfl | h
    · exact Int.le_refl _
    · by_cases hp : p = 0
      · rw [if_pos hp] at h; cases h
      · rw [if_neg hp] at h
        cases ha : (tg fs p).al with
        | true =>
          have hq := hf.par p ha
          have := ih _ _ hq.2.1 st h
          omega
        | false =>
          rw [hf.dead p ha] at h
          have := ih _ _ (by show (tg fs tw0.pa.toNat).nu ≤ tw0.ba; have := hf.root; show (tg fs 0).nu ≤ 0; rw [this]; decide) st h
          have e : (tg fs p).nu = 0 := by rw [hf.dead p ha]; rfl
          have : tw0.ba = 0 := rfl
          omega
theorem fork_eq {s : TS} {pa m : Int} (he : s.forkE pa m = 0) : s.fork pa m = { s with top := s.top + 1, fs := s.fs.set (freeF s.fs) ⟨true, pa, m, s.top + 1⟩ } := if_pos he
theorem fork_readE {s : TS} (hI : Inv s) {pa m vol blk : Int} (he : s.forkE pa m = 0) (ht : s.there vol blk = true) : s.readE pa m vol blk = 0 := by
  obtain ⟨h1, h2, h3, _⟩ := fork_ok hI he
  exact readE_zero.2 ⟨ht, h1, h3, h2⟩
/-- what stands behind a fork and a write to the parent -/
theorem fork_shows {s : TS} (hI : Inv s) (hlen : s.tab.length ≤ 900) {pa m vol blk : Int} {d : List Nat} (hd : d.length = 32 ∧ ∀ y ∈ d, y < 256) (he : s.forkE pa m = 0) (hw : (s.fork pa m).writeE pa vol blk = 0) :
    ((s.fork pa m).write pa vol blk d).readE (s.forkI pa m) (s.top + 2) vol blk = 0 ∧ ((s.fork pa m).write pa vol blk d).readD (s.forkI pa m) (s.top + 2) vol blk = s.readD pa m vol blk ∧ 0 < s.forkI pa m ∧ (s.fork pa m).writeN pa vol blk = s.top + 2 := by
  obtain ⟨h1, h2, h3, h4, h5⟩ := fork_ok hI he
  obtain ⟨g1, g2, g3⟩ : freeF s.fs < 16 ∧ 0 < freeF s.fs ∧ (tg s.fs (freeF s.fs)).al = false := by
    rcases freeF_spec s.fs with ⟨g1, g2, g3, _⟩ | ⟨g1, _⟩
    · exact ⟨g1, g2, g3⟩
    · exact absurd g1 h4
  have hI1 := inv_fork hI pa m
  have hlen1 : (s.fork pa m).tab.length ≤ 900 := by rw [fork_eq he]; exact hlen
  have hl : freeF s.fs < s.fs.length := by rw [hI.fs.len]; exact g1
  have eI : s.forkI pa m = freeF s.fs := by unfold TS.forkI; rw [if_pos he]
  have et : (s.fork pa m).top = s.top + 1 := by rw [fork_eq he]
  have ht2 : (s.fork pa m).there vol blk = true := (writeE_ok hw).2.2.1
  have ht : s.there vol blk = true := by have := ht2; rw [fork_eq he] at this; exact this
  have hh : ((s.fork pa m).write pa vol blk d).has (s.top + 2) = true := by
    have := write_has hI1 hlen1 hd hw
    rw [et, show s.top + 1 + 1 = s.top + 2 by omega] at this; exact this
  have eW : (s.fork pa m).write pa vol blk d = { s with top := s.top + 2, ws := s.ws ++ [⟨s.top + 2, pa, vol, blk, d⟩], tab := s.tab ++ [⟨s.top + 2, s.now, false⟩], fs := s.fs.set (freeF s.fs) ⟨true, pa, m, s.top + 1⟩ } := by
    rw [write_eq hw, fork_eq he]
    simp only [show s.top + 1 + 1 = s.top + 2 by omega]
  have ha2 : alive (s.fs.set (freeF s.fs) ⟨true, pa, m, s.top + 1⟩) (freeF s.fs : Nat) = true := by rw [alive_set hI.fs g1 (by omega), if_pos rfl]
  have hz : ((s.fork pa m).write pa vol blk d).readE (freeF s.fs) (s.top + 2) vol blk = 0 := by
    refine readE_zero.2 ⟨?_, ?_, ?_, hh⟩
    · rw [eW]; exact ht
    · rw [eW]; exact ha2
    · rw [eW]
      show numF (s.fs.set _ _) _ ≤ _
      unfold numF
      rw [if_pos ha2, Int.toNat_natCast, tg_set hl, if_pos rfl]
      dsimp only; omega
  rw [eI]
  refine ⟨hz, ?_, by omega, ?_⟩
  · rw [readD_eq hz, readD_eq (fork_readE hI he ht), eW]
    unfold TS.shown
    dsimp only
    rw [Int.toNat_natCast]
    have hf' : FOk (s.fs.set (freeF s.fs) ⟨true, pa, m, s.top + 1⟩) := by have := hI1.fs; rw [fork_eq he] at this; exact this
    have hp := alive_toNat h1
    have hpa : alive (s.fs.set (freeF s.fs) ⟨true, pa, m, s.top + 1⟩) ((pa.toNat : Nat) : Int) = true := by
      rw [hp, alive_set hI.fs g1 (by omega)]; split
      · rfl
      · exact h1
    have hne : pa.toNat ≠ freeF s.fs := by
      intro e
      obtain ⟨q, e1, hq, hh⟩ := (alive_iff _ _).1 h1
      have : q = freeF s.fs := by omega
      subst this
      rcases hh with hh | hh
      · omega
      · rw [hh] at g3; cases g3
    have hnu : (tg s.fs pa.toNat).nu ≤ m := by unfold numF at h3; rw [if_pos h1] at h3; exact h3
    have el : lineF (s.fs.set (freeF s.fs) ⟨true, pa, m, s.top + 1⟩) pa.toNat m = lineF s.fs pa.toNat m := by
      unfold lineF
      rw [tg_set hl, if_neg hne]
      exact lineN_set hI.fs g1 (by omega) g3 _ _ _ _ (by rw [hp]; exact h1)
    have e : shownL (s.ws ++ [⟨s.top + 2, pa, vol, blk, d⟩]) vol blk (lineF (s.fs.set (freeF s.fs) ⟨true, pa, m, s.top + 1⟩) (freeF s.fs) (s.top + 2)) = shownL s.ws vol blk (lineF s.fs pa.toNat m) := by
      rw [lineF_step hf' _ ha2, if_neg (by omega), tg_set hl, if_pos rfl, shownL_cons]
      have e0 : (s.ws ++ [(⟨s.top + 2, pa, vol, blk, d⟩ : Wr)]).filter (onB vol blk ⟨(freeF s.fs : Nat), s.top + 1, s.top + 2⟩) = [] := by
        rw [List.filter_eq_nil_iff]
        intro x hx
        unfold onB
        rcases List.mem_append.1 hx with hx | hx
        · have := ws_le hI x hx
          simp; omega
        · have : x = ⟨s.top + 2, pa, vol, blk, d⟩ := by simpa using hx
          subst this
          simp; omega
      rw [e0]
      show shownL _ _ _ (lineF _ _ _) = _
      dsimp only
      rw [el, shownL_snoc]
      intro st hst
      have := lineN_hi hI.fs _ _ _ hnu st hst
      have hm := (hI.has_rng h2).2
      unfold onB
      simp; omega
    rw [e]
  · unfold TS.writeN; rw [if_pos hw, et]; omega
/-- why a write behind a fork falls -/
theorem fork_full {s : TS} (hI : Inv s) {pa m vol blk : Int} (he : s.forkE pa m = 0) (ht : s.there vol blk = true) (hw : (s.fork pa m).writeE pa vol blk ≠ 0) : (s.fork pa m).top = 65535 := by
  obtain ⟨h1, h2, h3, h4, h5⟩ := fork_ok hI he
  have hI1 := inv_fork hI pa m
  have g1 : freeF s.fs < 16 := by
    rcases freeF_spec s.fs with ⟨g1, _⟩ | ⟨g1, _⟩
    · exact g1
    · exact absurd g1 h4
  have g2 : 0 < freeF s.fs := by
    rcases freeF_spec s.fs with ⟨_, g1, _⟩ | ⟨g1, _⟩
    · exact g1
    · exact absurd g1 h4
  obtain ⟨q, e1, hq, _⟩ := (alive_iff _ _).1 h1
  have ht1 : (s.fork pa m).there vol blk = true := by rw [fork_eq he]; exact ht
  have ha1 : alive (s.fork pa m).fs pa = true := by
    rw [fork_eq he]; show alive (s.fs.set _ _) pa = true
    rw [alive_set hI.fs g1 (by omega)]; split
    · rfl
    · exact h1
  unfold TS.writeE at hw
  rw [if_neg (by rw [ht1]; simp; omega), if_neg (by rw [ha1]; simp)] at hw
  have hn : (s.fork pa m).next = 0 := Decidable.byContradiction fun h => hw (if_neg h)
  unfold TS.next at hn
  have := hI1.top
  split at hn <;> omega
end Go.Proofs.YtoglddndicmelaaGreat.Tr

namespace Go.Proofs.YtoglddndicmelaaGreat.Tr
open Go.RowKit Go.Proofs.YtoglddndicmelaaGreatB Go.Proofs.YtoglddndicmelaaGreat

theorem mem_all {s : TS} {n : Int} : n ∈ s.all ↔ s.has n = true := by
  unfold TS.all
  simp only [List.mem_map, List.mem_filter]
  constructor
  · rintro ⟨x, ⟨_, h⟩, rfl⟩; exact h
  · intro h
    obtain ⟨x, hx, rfl⟩ := hasP_mem h
    exact ⟨x, ⟨hx, h⟩, rfl⟩
theorem hasP_iff (rs : List Rul) (tab : List Mo.It) (holds : List Ho.Put) (fs : List Tw) (num now : Int) : hasP rs tab holds fs num now = true ↔ Mo.has num tab = true ∧ Mo.outB num tab = false ∧ (Mo.lastN tab = num ∨ now < tillI rs num tab ∨ (∃ p ∈ holds, Ho.isOver (Mo.minV num tab) now p = true ∧ num < p.num) ∨ (∃ b ∈ brs fs, b.ba = num)) := by
  unfold hasP
  simp only [Bool.and_eq_true, Bool.or_eq_true, Bool.not_eq_true', decide_eq_true_eq, beq_iff_eq, List.any_eq_true]
theorem isOver_iff (min now : Int) (p : Ho.Put) : Ho.isOver min now p = true ↔ p.h.fr ≤ min ∧ min ≤ p.h.to ∧ p.min ≤ now ∧ now < p.h.til := by
  unfold Ho.isOver
  simp only [Bool.and_eq_true, decide_eq_true_eq]
  omega
theorem tick_eq {s : TS} {m : Int} (he : s.tickE m = 0) : s.tick m = { s with now := m, holds := s.holds.filter fun p => decide (m < p.h.til) } := if_pos he
/-- released stays released -/
theorem has_falls {s : TS} (hI : Inv s) {m : Int} (he : s.tickE m = 0) {n : Int} (h : (s.tick m).has n = true) : s.has n = true := by
  have hm := tickE_ok he
  rw [tick_eq he] at h
  unfold TS.has at h ⊢
  dsimp only at h
  rw [hasP_iff] at h ⊢
  obtain ⟨h1, h2, h3⟩ := h
  refine ⟨h1, h2, ?_⟩
  rcases h3 with h3 | h3 | ⟨p, hp, h3, h4⟩ | h3
  · exact .inl h3
  · exact .inr (.inl (by omega))
  · obtain ⟨hp, _⟩ := List.mem_filter.1 hp
    have := hI.holds p hp
    rw [isOver_iff] at h3
    exact .inr (.inr (.inl ⟨p, hp, (isOver_iff _ _ _).2 (by omega), h4⟩))
  · exact .inr (.inr (.inr h3))
theorem read_falls {s : TS} (hI : Inv s) {m : Int} (he : s.tickE m = 0) {n : Int} (h : (s.tick m).has n = true) (id vol blk : Int) : (s.tick m).readE id n vol blk = s.readE id n vol blk ∧ (s.tick m).readD id n vol blk = s.readD id n vol blk := by
  have h2 := has_falls hI he h
  have e : (s.tick m).readE id n vol blk = s.readE id n vol blk := by
    unfold TS.readE
    rw [h, h2, tick_eq he]
    rfl
  refine ⟨e, ?_⟩
  unfold TS.readD
  rw [e, tick_eq he]
  rfl

/-- a table with other marks has the same minutes -/
theorem map_has {f : Mo.It → Mo.It} (h : ∀ x, (f x).num = x.num ∧ (f x).min = x.min) (l : List Mo.It) (n : Int) : Mo.has n (l.map f) = Mo.has n l := by
  unfold Mo.has; rw [List.any_map]; congr 1; funext x; simp [Function.comp, h]
theorem map_lo {f : Mo.It → Mo.It} (h : ∀ x, (f x).num = x.num ∧ (f x).min = x.min) (l : List Mo.It) (n : Int) : Mo.lo n (l.map f) = Mo.lo n l := by
  unfold Mo.lo; rw [List.countP_map]; congr 1; funext x; simp [Function.comp, h]
theorem map_gt {f : Mo.It → Mo.It} (h : ∀ x, (f x).num = x.num ∧ (f x).min = x.min) (l : List Mo.It) (i : Nat) : (Mo.gt (l.map f) i).num = (Mo.gt l i).num ∧ (Mo.gt (l.map f) i).min = (Mo.gt l i).min := by
  unfold Mo.gt
  by_cases hi : i < l.length
  · simp [List.getD, hi, h]
  · simp [List.getD, hi]
theorem map_minV {f : Mo.It → Mo.It} (h : ∀ x, (f x).num = x.num ∧ (f x).min = x.min) (l : List Mo.It) (n : Int) : Mo.minV n (l.map f) = Mo.minV n l := by
  unfold Mo.minV; rw [map_has h, map_lo h, (map_gt h l _).2]
theorem map_lastN {f : Mo.It → Mo.It} (h : ∀ x, (f x).num = x.num ∧ (f x).min = x.min) (l : List Mo.It) : Mo.lastN (l.map f) = Mo.lastN l := by
  unfold Mo.lastN; rw [List.length_map, (map_gt h l _).1]
theorem map_next {f : Mo.It → Mo.It} (h : ∀ x, (f x).num = x.num ∧ (f x).min = x.min) (l : List Mo.It) (n : Int) : Mo.nextB n (l.map f) = Mo.nextB n l ∧ Mo.nextM n (l.map f) = Mo.nextM n l := by
  have e : Mo.nextB n (l.map f) = Mo.nextB n l := by unfold Mo.nextB Mo.nextI; simp only [map_lo h, map_has h, List.length_map]
  have e2 : Mo.nextN n (l.map f) = Mo.nextN n l := by unfold Mo.nextN Mo.nextI; rw [e, map_lo h, map_has h, (map_gt h l _).1]
  refine ⟨e, ?_⟩
  unfold Mo.nextM
  rw [e, e2, map_minV h]
theorem map_keep {f : Mo.It → Mo.It} (h : ∀ x, (f x).num = x.num ∧ (f x).min = x.min) (l : List Mo.It) (r : Rul) (n : Int) : keepB r n (l.map f) = keepB r n l := by
  unfold keepB Mo.closesB Mo.quietB
  rw [map_has h, map_minV h, (map_next h l n).1, (map_next h l n).2]
theorem map_till {f : Mo.It → Mo.It} (h : ∀ x, (f x).num = x.num ∧ (f x).min = x.min) (rs : List Rul) (l : List Mo.It) (n : Int) : tillI rs n (l.map f) = tillI rs n l := by
  unfold tillI endsL
  simp only [map_keep h, map_minV h]
theorem rel_tab (s : TS) : s.rel.tab = s.tab.map fun x => ⟨x.num, x.min, x.out || !s.has x.num⟩ := rfl
theorem rel_out {s : TS} (hI : Inv s) (n : Int) (h : Mo.has n s.tab = true) : Mo.outB n s.rel.tab = (Mo.outB n s.tab || !s.has n) := by
  obtain ⟨x, hx, rfl⟩ := has_mem.1 h
  rw [outB_mem hI.tab hx]
  have hr := inv_rel hI
  have hm : (⟨x.num, x.min, x.out || !s.has x.num⟩ : Mo.It) ∈ s.rel.tab := List.mem_map.2 ⟨x, hx, rfl⟩
  exact outB_mem hr.tab hm
/-- what is promised of a table of which all that isn't promised is out -/
theorem hasP_rel {s : TS} (hI : Inv s) (holds : List Ho.Put) (fs : List Tw) (n now : Int) : hasP s.rules s.rel.tab holds fs n now = (hasP s.rules s.tab holds fs n now && s.has n) := by
  have hf : ∀ x : Mo.It, (⟨x.num, x.min, x.out || !s.has x.num⟩ : Mo.It).num = x.num ∧ (⟨x.num, x.min, x.out || !s.has x.num⟩ : Mo.It).min = x.min := fun _ => ⟨rfl, rfl⟩
  have e1 : Mo.has n s.rel.tab = Mo.has n s.tab := map_has hf _ _
  have e2 : Mo.lastN s.rel.tab = Mo.lastN s.tab := map_lastN hf _
  have e3 : Mo.minV n s.rel.tab = Mo.minV n s.tab := map_minV hf _ _
  have e4 : tillI s.rules n s.rel.tab = tillI s.rules n s.tab := map_till hf _ _ _
  rw [Bool.eq_iff_iff, Bool.and_eq_true, hasP_iff, hasP_iff, e1, e2, e3, e4]
  constructor
  · rintro ⟨h1, h2, h3⟩
    rw [rel_out hI n h1] at h2
    simp only [Bool.or_eq_false_iff, Bool.not_eq_false'] at h2
    exact ⟨⟨h1, h2.1, h3⟩, h2.2⟩
  · rintro ⟨⟨h1, h2, h3⟩, h4⟩
    refine ⟨h1, ?_, h3⟩
    rw [rel_out hI n h1, h2, h4]; rfl
theorem rel_all {s : TS} (hI : Inv s) : s.rel.all = s.all := by
  unfold TS.all
  rw [rel_tab, List.filter_map, List.map_map]
  have e : s.tab.filter ((fun x : Mo.It => s.rel.has x.num) ∘ fun x => ⟨x.num, x.min, x.out || !s.has x.num⟩) = s.tab.filter fun x => s.has x.num := by
    apply List.filter_congr
    intro x _
    show hasP s.rules s.rel.tab s.holds s.fs x.num s.now = s.has x.num
    rw [hasP_rel hI]
    show (s.has x.num && s.has x.num) = _
    simp
  rw [e]; rfl
theorem hold_no {s : TS} (hI : Inv s) {a b c : Int} (he : s.holdE a b c ≠ 0) : s.hold a b c = s.rel ∧ (s.hold a b c).all = s.all ∧ (s.hold a b c).top = s.top := by
  have e : s.hold a b c = s.rel := if_neg he
  exact ⟨e, by rw [e]; exact rel_all hI, by rw [e]; rfl⟩
def heldP (s : TS) (a b c : Int) : Ho.Put := ⟨⟨s.top + 1, a, b, c⟩, s.top + 1, s.now⟩
theorem hold_eq {s : TS} {a b c : Int} (he : s.holdE a b c = 0) : s.hold a b c = { s.rel with top := s.top + 1, holds := s.holds ++ [heldP s a b c] } := if_pos he
theorem holdE_ok {s : TS} {a b c : Int} (he : s.holdE a b c = 0) : s.next ≠ 0 ∧ s.now < c ∧ c ≤ 1073741824 := by
  unfold TS.holdE at he
  by_cases h1 : Ho.addE ⟨s.top + 1, a, b, c⟩ (s.top + 1) s.now s.holds = 0
  · rw [if_pos h1] at he
    by_cases h2 : s.next = 0
    · rw [if_pos h2] at he; cases he
    · obtain ⟨_, _, h3, h4⟩ := hold_ok h1
      refine ⟨h2, h4, ?_⟩
      unfold Ho.mayB Ho.minuteB at h3
      simp only [Bool.and_eq_true, decide_eq_true_eq] at h3
      omega
  · rw [if_neg h1] at he; exact absurd he h1
/-- a list with a hold, at the last minute of the hold -/
theorem held_eq {s : TS} {a b c : Int} (he : s.holdE a b c = 0) : (s.hold a b c).tick (c - 1) = { s.rel with now := c - 1, top := s.top + 1, holds := (s.holds.filter fun p => decide (c - 1 < p.h.til)) ++ [heldP s a b c] } := by
  have h := holdE_ok he
  have e : (s.hold a b c).tickE (c - 1) = 0 := by
    rw [hold_eq he]; unfold TS.tickE
    rw [if_neg (by omega), if_neg (by show ¬ c - 1 < s.now; omega)]
  rw [tick_eq e, hold_eq he]
  dsimp only
  rw [List.filter_append, List.filter_cons, if_pos (by show decide (c - 1 < c) = true; simp; omega)]
  rfl
theorem free_tick {s : TS} {a b c : Int} (he : s.holdE a b c = 0) : s.tickE (c - 1) = 0 := by
  have h := holdE_ok he
  unfold TS.tickE
  rw [if_neg (by omega), if_neg (by omega)]
/-- what is held is promised -/
theorem held_has {s : TS} (hI : Inv s) {a b c n : Int} (he : s.holdE a b c = 0) (hn : s.has n = true) (h1 : a ≤ Mo.minV n s.tab) (h2 : Mo.minV n s.tab ≤ b) : ((s.hold a b c).tick (c - 1)).has n = true := by
  have h := holdE_ok he
  rw [held_eq he]
  unfold TS.has
  dsimp only
  show hasP s.rules s.rel.tab _ s.fs n _ = true
  rw [hasP_rel hI, Bool.and_eq_true]
  refine ⟨?_, hn⟩
  have hr := hI.has_rng hn
  have hn' := hn
  unfold TS.has at hn'
  rw [hasP_iff] at hn' ⊢
  refine ⟨hn'.1, hn'.2.1, .inr (.inr (.inl ⟨heldP s a b c, by simp, (isOver_iff _ _ _).2 ⟨h1, h2, ?_, ?_⟩, ?_⟩))⟩
  · show s.now ≤ c - 1; omega
  · show c - 1 < c; omega
  · show n < s.top + 1; omega
theorem find_last {l : List Ho.Put} {x : Ho.Put} (h : ∀ p ∈ l, p.h.id ≠ x.h.id) : (l ++ [x]).findIdx? (fun p => p.h.id == x.h.id) = some l.length := by
  rw [List.findIdx?_append]
  have e : l.findIdx? (fun p => p.h.id == x.h.id) = none := by
    rw [List.findIdx?_eq_none_iff]; intro p hp; simpa using h p hp
  rw [e]; simp
/-- lifted it is as without it -/
theorem held_lift {s : TS} (hI : Inv s) {a b c : Int} (he : s.holdE a b c = 0) (ht : s.top + 1 < 65535) :
    ((s.hold a b c).tick (c - 1)).liftE (s.top + 1) = 0 ∧ (((s.hold a b c).tick (c - 1)).lift (s.top + 1)).liftE (s.top + 1) = 4 ∧ ((((s.hold a b c).tick (c - 1)).lift (s.top + 1)).lift (s.top + 1)).all = (s.tick (c - 1)).all := by
  have hid : ∀ p ∈ s.holds.filter (fun p => decide (c - 1 < p.h.til)), p.h.id ≠ s.top + 1 := fun p hp => by
    have := hI.holds p (List.mem_filter.1 hp).1; omega
  have ef : Ho.liftE (s.top + 1) ((s.holds.filter fun p => decide (c - 1 < p.h.til)) ++ [heldP s a b c]) = 0 ∧ Ho.liftL (s.top + 1) ((s.holds.filter fun p => decide (c - 1 < p.h.til)) ++ [heldP s a b c]) = s.holds.filter fun p => decide (c - 1 < p.h.til) := by
    have := find_last (x := heldP s a b c) hid
    unfold Ho.liftE Ho.liftL
    have e : (heldP s a b c).h.id = s.top + 1 := rfl
    rw [e] at this
    rw [this]
    refine ⟨rfl, ?_⟩
    dsimp only
    rw [List.eraseIdx_append_of_length_le (Nat.le_refl _)]
    simp
  have e4 : Ho.liftE (s.top + 1) (s.holds.filter fun p => decide (c - 1 < p.h.til)) = 4 := by
    unfold Ho.liftE
    have : (s.holds.filter fun p => decide (c - 1 < p.h.til)).findIdx? (fun p => p.h.id == s.top + 1) = none := by
      rw [List.findIdx?_eq_none_iff]; intro p hp; simpa using hid p hp
    rw [this]
  have h1 : ((s.hold a b c).tick (c - 1)).liftE (s.top + 1) = 0 := by
    rw [held_eq he]; unfold TS.liftE
    dsimp only
    rw [if_pos ef.1, if_neg ?_]
    unfold TS.next; dsimp only
    have := hI.top
    rw [if_neg (by omega)]; omega
  have e2 : ((s.hold a b c).tick (c - 1)).lift (s.top + 1) = { s.rel with now := c - 1, top := s.top + 2, holds := s.holds.filter fun p => decide (c - 1 < p.h.til) } := by
    unfold TS.lift
    rw [if_pos h1, held_eq he]
    dsimp only
    rw [ef.2]
    simp only [show s.top + 1 + 1 = s.top + 2 by omega]
  have h2 : (((s.hold a b c).tick (c - 1)).lift (s.top + 1)).liftE (s.top + 1) = 4 := by
    rw [e2]; unfold TS.liftE
    dsimp only
    rw [e4, if_neg (by decide)]
  refine ⟨h1, h2, ?_⟩
  have e3 : (((s.hold a b c).tick (c - 1)).lift (s.top + 1)).lift (s.top + 1) = ((s.hold a b c).tick (c - 1)).lift (s.top + 1) := if_neg (by rw [h2]; decide)
  rw [e3, e2]
  unfold TS.all
  dsimp only
  rw [rel_tab, List.filter_map, List.map_map, tick_eq (free_tick he)]
  dsimp only
  refine Eq.trans (congrArg _ (List.filter_congr (q := fun x : Mo.It => TS.has { s with now := c - 1, holds := s.holds.filter fun p => decide (c - 1 < p.h.til) } x.num) (fun x _ => ?_))) rfl
  show hasP s.rules s.rel.tab (s.holds.filter fun p => decide (c - 1 < p.h.til)) s.fs x.num (c - 1) = hasP s.rules s.tab (s.holds.filter fun p => decide (c - 1 < p.h.til)) s.fs x.num (c - 1)
  rw [hasP_rel hI]
  cases hh : hasP s.rules s.tab (s.holds.filter fun p => decide (c - 1 < p.h.til)) s.fs x.num (c - 1) with
  | false => rfl
  | true =>
    have := has_falls hI (free_tick he) (n := x.num) (by rw [tick_eq (free_tick he)]; exact hh)
    rw [this]; rfl
end Go.Proofs.YtoglddndicmelaaGreat.Tr

namespace Go.Proofs.YtoglddndicmelaaGreat.Tr
open Go.RowKit Go.Proofs.YtoglddndicmelaaGreatB Go.Proofs.YtoglddndicmelaaGreat

theorem there_two {s : TS} (hv : s.vols = 2) (hb : s.blocks = 2) {vol blk : Int} (h1 : 0 ≤ vol ∧ vol < 2) (h2 : 0 ≤ blk ∧ blk < 2) : s.there vol blk = true := by
  unfold TS.there; rw [hv, hb]; simp [h1.1, h1.2, h2.1, h2.2]
theorem writeE_live {s : TS} {br vol blk : Int} (ha : alive s.fs br = true) (ht : s.there vol blk = true) (hn : 0 ≤ s.top ∧ s.top < 65535) : s.writeE br vol blk = 0 := by
  obtain ⟨q, e1, hq, _⟩ := (alive_iff _ _).1 ha
  unfold TS.writeE
  rw [if_neg (by rw [ht]; simp; omega), if_neg (by rw [ha]; simp), if_neg]
  unfold TS.next; rw [if_neg (by omega)]; omega
theorem writeE_dead {s : TS} {br vol blk : Int} (hb : 0 ≤ br ∧ br < 16) (ha : alive s.fs br = false) (ht : s.there vol blk = true) : s.writeE br vol blk = 4 := by
  unfold TS.writeE
  rw [if_neg (by rw [ht]; simp; omega), if_pos ha]
/-- two writes -/
def two (s : TS) (br v1 b1 : Int) (d1 : List Nat) (v2 b2 : Int) (d2 : List Nat) : TS := { s with top := s.top + 2, ws := s.ws ++ [⟨s.top + 1, br, v1, b1, d1⟩, ⟨s.top + 2, br, v2, b2, d2⟩], tab := s.tab ++ [⟨s.top + 1, s.now, false⟩, ⟨s.top + 2, s.now, false⟩] }
theorem two_writes {s : TS} (hI : Inv s) {br v1 b1 v2 b2 : Int} {d1 d2 : List Nat} (ha : alive s.fs br = true) (h1 : s.there v1 b1 = true) (h2 : s.there v2 b2 = true) (hn : s.top + 1 < 65535) :
    s.writeE br v1 b1 = 0 ∧ (s.write br v1 b1 d1).writeE br v2 b2 = 0 ∧ (s.write br v1 b1 d1).write br v2 b2 d2 = two s br v1 b1 d1 v2 b2 d2 := by
  have e1 : s.writeE br v1 b1 = 0 := writeE_live ha h1 (by have := hI.top; omega)
  have e2 : (s.write br v1 b1 d1).writeE br v2 b2 = 0 := by
    refine writeE_live ?_ ?_ ?_
    · rw [write_eq e1]; exact ha
    · rw [write_eq e1]; exact h2
    · rw [write_eq e1]; have := hI.top; dsimp only; omega
  refine ⟨e1, e2, ?_⟩
  rw [write_eq e2, write_eq e1]
  unfold two
  simp only [List.append_assoc, List.cons_append, List.nil_append, show s.top + 1 + 1 = s.top + 2 by omega]
theorem two_inv {s : TS} (hI : Inv s) (hlen : s.tab.length ≤ 800) {br v1 b1 v2 b2 : Int} {d1 d2 : List Nat} (hd1 : d1.length = 32 ∧ ∀ y ∈ d1, y < 256) (hd2 : d2.length = 32 ∧ ∀ y ∈ d2, y < 256) (ha : alive s.fs br = true) (h1 : s.there v1 b1 = true) (h2 : s.there v2 b2 = true) (hn : s.top + 1 < 65535) : Inv (two s br v1 b1 d1 v2 b2 d2) := by
  obtain ⟨e1, e2, e3⟩ := two_writes hI (d1 := d1) (d2 := d2) ha h1 h2 hn
  rw [← e3]
  exact inv_write (inv_write hI (by omega) _ _ _ _ hd1) (by rw [write_eq e1]; simp; omega) _ _ _ _ hd2
theorem two_has {s : TS} (hI : Inv s) (hlen : s.tab.length ≤ 800) {br v1 b1 v2 b2 : Int} {d1 d2 : List Nat} (hd1 : d1.length = 32 ∧ ∀ y ∈ d1, y < 256) (hd2 : d2.length = 32 ∧ ∀ y ∈ d2, y < 256) (ha : alive s.fs br = true) (h1 : s.there v1 b1 = true) (h2 : s.there v2 b2 = true) (hn : s.top + 1 < 65535) : (two s br v1 b1 d1 v2 b2 d2).has (s.top + 2) = true := by
  have hi := two_inv hI hlen hd1 hd2 ha h1 h2 hn
  have hq : (two s br v1 b1 d1 v2 b2 d2).tab.getLast? = some ⟨s.top + 2, s.now, false⟩ := by
    unfold two; dsimp only
    rw [show s.tab ++ [(⟨s.top + 1, s.now, false⟩ : Mo.It), ⟨s.top + 2, s.now, false⟩] = (s.tab ++ [⟨s.top + 1, s.now, false⟩]) ++ [⟨s.top + 2, s.now, false⟩] by simp, List.getLast?_concat]
  exact last_has hi hq
/-- the data that a line shows -/
def datO : Option Wr → List Nat
  | some x => x.data
  | none => z32
theorem two_shown {s : TS} (hI : Inv s) {br v1 b1 v2 b2 : Int} {d1 d2 : List Nat} (ha : alive s.fs br = true) (hne : ¬ (v1 = v2 ∧ b1 = b2)) (vol blk : Int) :
    datO (shownL (s.ws ++ [⟨s.top + 1, br, v1, b1, d1⟩, ⟨s.top + 2, br, v2, b2, d2⟩]) vol blk (lineF s.fs br.toNat (s.top + 2))) = datO (if v1 = vol ∧ b1 = blk then some ⟨s.top + 1, br, v1, b1, d1⟩ else if v2 = vol ∧ b2 = blk then some ⟨s.top + 2, br, v2, b2, d2⟩ else shownL s.ws vol blk (lineF s.fs br.toNat (s.top + 2))) := by
  have ha' := alive_toNat ha
  have hnu := hI.fsT br.toNat
  have on1 : onB vol blk ⟨(br.toNat : Nat), (tg s.fs br.toNat).nu, s.top + 2⟩ ⟨s.top + 1, br, v1, b1, d1⟩ = decide (v1 = vol ∧ b1 = blk) := by
    unfold onB; dsimp only
    rw [ha', decide_eq_true (show (tg s.fs br.toNat).nu < s.top + 1 by omega), decide_eq_true (show s.top + 1 ≤ s.top + 2 by omega), Bool.eq_iff_iff]
    simp
  have on2 : onB vol blk ⟨(br.toNat : Nat), (tg s.fs br.toNat).nu, s.top + 2⟩ ⟨s.top + 2, br, v2, b2, d2⟩ = decide (v2 = vol ∧ b2 = blk) := by
    unfold onB; dsimp only
    rw [ha', decide_eq_true (show (tg s.fs br.toNat).nu < s.top + 2 by omega), decide_eq_true (show s.top + 2 ≤ s.top + 2 by omega), Bool.eq_iff_iff]
    simp
  have eapp : s.ws ++ [(⟨s.top + 1, br, v1, b1, d1⟩ : Wr), ⟨s.top + 2, br, v2, b2, d2⟩] = (s.ws ++ [⟨s.top + 1, br, v1, b1, d1⟩]) ++ [⟨s.top + 2, br, v2, b2, d2⟩] := by simp
  by_cases c1 : v1 = vol ∧ b1 = blk
  · rw [if_pos c1]
    have c2 : ¬ (v2 = vol ∧ b2 = blk) := fun h => hne ⟨by rw [c1.1, h.1], by rw [c1.2, h.2]⟩
    rw [lineF_step hI.fs _ (by rw [ha']; exact ha), shownL_cons, eapp, List.filter_append, List.filter_append]
    rw [List.filter_cons (x := (⟨s.top + 1, br, v1, b1, d1⟩ : Wr)), List.filter_cons (x := (⟨s.top + 2, br, v2, b2, d2⟩ : Wr)), on1, on2, if_pos (by simpa using c1), if_neg (by simpa using c2)]
    simp
  · rw [if_neg c1]
    by_cases c2 : v2 = vol ∧ b2 = blk
    · rw [if_pos c2, lineF_step hI.fs _ (by rw [ha']; exact ha), shownL_cons, eapp, List.filter_append]
      rw [List.filter_cons (x := (⟨s.top + 2, br, v2, b2, d2⟩ : Wr)), on2, if_pos (by simpa using c2)]
      simp
    · rw [if_neg c2, eapp, shownL_snoc, shownL_snoc]
      · intro st _
        unfold onB; dsimp only
        by_cases e : v1 = vol
        · have : (b1 == blk) = false := by rw [beq_eq_false_iff_ne]; exact fun h => c1 ⟨e, h⟩
          simp [this]
        · simp [e]
      · intro st _
        unfold onB; dsimp only
        by_cases e : v2 = vol
        · have : (b2 == blk) = false := by rw [beq_eq_false_iff_ne]; exact fun h => c2 ⟨e, h⟩
          simp [this]
        · simp [e]
/-- either order shows the same -/
theorem two_same {s : TS} (hI : Inv s) (hlen : s.tab.length ≤ 800) {br v1 b1 v2 b2 : Int} {d1 d2 : List Nat} (hd1 : d1.length = 32 ∧ ∀ y ∈ d1, y < 256) (hd2 : d2.length = 32 ∧ ∀ y ∈ d2, y < 256) (ha : alive s.fs br = true) (h1 : s.there v1 b1 = true) (h2 : s.there v2 b2 = true) (hn : s.top + 1 < 65535) (hne : ¬ (v1 = v2 ∧ b1 = b2)) (vol blk : Int) :
    (two s br v1 b1 d1 v2 b2 d2).readE br (s.top + 2) vol blk = (two s br v2 b2 d2 v1 b1 d1).readE br (s.top + 2) vol blk ∧ (two s br v1 b1 d1 v2 b2 d2).readD br (s.top + 2) vol blk = (two s br v2 b2 d2 v1 b1 d1).readD br (s.top + 2) vol blk := by
  have k1 := two_has hI hlen hd1 hd2 ha h1 h2 hn
  have k2 := two_has hI hlen hd2 hd1 ha h2 h1 hn
  have e : (two s br v1 b1 d1 v2 b2 d2).readE br (s.top + 2) vol blk = (two s br v2 b2 d2 v1 b1 d1).readE br (s.top + 2) vol blk := by
    unfold TS.readE; rw [k1, k2]; rfl
  refine ⟨e, ?_⟩
  unfold TS.readD
  rw [e]
  split
  · show datO (shownL (s.ws ++ [⟨s.top + 1, br, v1, b1, d1⟩, ⟨s.top + 2, br, v2, b2, d2⟩]) vol blk (lineF s.fs br.toNat (s.top + 2))) = datO (shownL (s.ws ++ [⟨s.top + 1, br, v2, b2, d2⟩, ⟨s.top + 2, br, v1, b1, d1⟩]) vol blk (lineF s.fs br.toNat (s.top + 2)))
    rw [two_shown hI ha hne, two_shown hI ha (fun h => hne ⟨h.1.symm, h.2.symm⟩)]
    by_cases c1 : v1 = vol ∧ b1 = blk
    · have c2 : ¬ (v2 = vol ∧ b2 = blk) := fun h => hne ⟨by rw [c1.1, h.1], by rw [c1.2, h.2]⟩
      rw [if_pos c1, if_neg c2, if_pos c1]; rfl
    · rw [if_neg c1, if_neg c1]
      by_cases c2 : v2 = vol ∧ b2 = blk
      · rw [if_pos c2, if_pos c2]; rfl
      · rw [if_neg c2, if_neg c2]
  · rfl
/-- two writes in either order: all that is told of them -/
theorem apart_plain {s : TS} (hI : Inv s) (hlen : s.tab.length ≤ 800) {br v1 b1 v2 b2 : Int} {d1 d2 : List Nat} (hd1 : d1.length = 32 ∧ ∀ y ∈ d1, y < 256) (hd2 : d2.length = 32 ∧ ∀ y ∈ d2, y < 256) (hb : 0 ≤ br ∧ br < 16) (h1 : s.there v1 b1 = true) (h2 : s.there v2 b2 = true) (hn : s.top + 1 < 65535) (hne : ¬ (v1 = v2 ∧ b1 = b2)) :
    (s.write br v2 b2 d2).writeE br v1 b1 = (s.write br v1 b1 d1).writeE br v2 b2 ∧ (s.write br v2 b2 d2).writeN br v1 b1 = (s.write br v1 b1 d1).writeN br v2 b2 ∧ ((s.write br v2 b2 d2).write br v1 b1 d1).top = ((s.write br v1 b1 d1).write br v2 b2 d2).top ∧
    ∀ vol blk, ((s.write br v2 b2 d2).write br v1 b1 d1).readE br ((s.write br v1 b1 d1).writeN br v2 b2) vol blk = ((s.write br v1 b1 d1).write br v2 b2 d2).readE br ((s.write br v1 b1 d1).writeN br v2 b2) vol blk ∧ ((s.write br v2 b2 d2).write br v1 b1 d1).readD br ((s.write br v1 b1 d1).writeN br v2 b2) vol blk = ((s.write br v1 b1 d1).write br v2 b2 d2).readD br ((s.write br v1 b1 d1).writeN br v2 b2) vol blk := by
  cases ha : alive s.fs br with
  | true =>
    obtain ⟨e1, e2, e3⟩ := two_writes hI (d1 := d1) (d2 := d2) ha h1 h2 hn
    obtain ⟨f1, f2, f3⟩ := two_writes hI (d1 := d2) (d2 := d1) ha h2 h1 hn
    have n1 : (s.write br v1 b1 d1).writeN br v2 b2 = s.top + 2 := by unfold TS.writeN; rw [if_pos e2, write_eq e1]; dsimp only; omega
    have n2 : (s.write br v2 b2 d2).writeN br v1 b1 = s.top + 2 := by unfold TS.writeN; rw [if_pos f2, write_eq f1]; dsimp only; omega
    rw [n1, n2, e2, f2, e3, f3]
    refine ⟨rfl, rfl, rfl, fun vol blk => ?_⟩
    exact two_same hI hlen hd2 hd1 ha h2 h1 hn (fun h => hne ⟨h.1.symm, h.2.symm⟩) vol blk
  | false =>
    have e1 := writeE_dead hb ha h1
    have e2 := writeE_dead hb ha h2
    have w1 : s.write br v1 b1 d1 = s := write_ne (by rw [e1]; decide)
    have w2 : s.write br v2 b2 d2 = s := write_ne (by rw [e2]; decide)
    rw [w1, w2, w1, e1, e2]
    refine ⟨rfl, ?_, rfl, fun vol blk => ⟨rfl, rfl⟩⟩
    unfold TS.writeN
    rw [e1, e2]
theorem apart_ok {s : TS} (hI : Inv s) (hlen : s.tab.length ≤ 800) {br v1 b1 v2 b2 : Int} {d1 d2 : List Nat} (hd1 : d1.length = 32 ∧ ∀ y ∈ d1, y < 256) (hd2 : d2.length = 32 ∧ ∀ y ∈ d2, y < 256) :
    Inv (s.write br v1 b1 d1) ∧ (s.write br v1 b1 d1).tab.length ≤ 900 ∧ Inv ((s.write br v1 b1 d1).write br v2 b2 d2) ∧ ((s.write br v1 b1 d1).write br v2 b2 d2).tab.length ≤ 900 := by
  have hl : ∀ (t : TS) (v b : Int) (d : List Nat), (t.write br v b d).tab.length ≤ t.tab.length + 1 := fun t v b d => by
    unfold TS.write; split <;> simp
  have i1 := inv_write hI (by omega) br v1 b1 d1 hd1
  have l1 := hl s v1 b1 d1
  have l2 := hl (s.write br v1 b1 d1) v2 b2 d2
  exact ⟨i1, by omega, inv_write i1 (by omega) br v2 b2 d2 hd2, by omega⟩
end Go.Proofs.YtoglddndicmelaaGreat.Tr
