/- Layer 28: what the law MomentLast says of the lists; a table's writing methods with known answers. -/
import Derived.Test.YthlmcoeikelheaaMom19
namespace Go.Proofs.Ythlmcoeikelheaa
open Go.RowKit Go.Proofs.YthlmcoeikelheaaB

/-- the last one is not out -/
def LastIn (l : List It) : Prop := ∀ x, l.getLast? = some x → x.out = false

theorem lastIn_add {l : List It} (h : LastIn l) (num min : Int) : LastIn (addL num min l) := by
  unfold addL
  split
  · intro x hx; rw [List.getLast?_append] at hx; simp at hx; subst hx; rfl
  · exact h
theorem lastIn_set {l : List It} (h : LastIn l) {i : Nat} (hi : i + 1 ≠ l.length) (x : It) : LastIn (l.set i x) := by
  intro y hy
  apply h y
  rw [← hy, List.getLast?_eq_getElem?, List.getLast?_eq_getElem?, List.length_set, List.getElem?_set]
  split
  · rename_i e
    split
    · omega
    · rw [List.getElem?_eq_none (by omega)]
  · rfl
theorem lastIn_rel {l : List It} (h : LastIn l) (num : Int) : LastIn (relL num l) := by
  unfold relL
  split
  · rename_i h0
    refine lastIn_set h (fun e => ?_) _
    unfold relE at h0
    split at h0
    · split at h0
      · cases h0
      · cases h0
    · cases h0
  · exact h
theorem lastIn_drop {l : List It} (h : LastIn l) (num : Int) : LastIn (dropL num l) := by
  unfold dropL
  split
  · rename_i h0
    have ho : (gt l (lo num l)).out = true := by
      unfold dropE at h0
      split at h0
      · split at h0
        · assumption
        · cases h0
      · cases h0
    have hlt : lo num l < l.length := by
      rcases Nat.lt_or_ge (lo num l) l.length with h1 | h1
      · exact h1
      · unfold gt at ho; rw [List.getD_eq_getElem?_getD, List.getElem?_eq_none h1] at ho; cases ho
    have hne : lo num l + 1 ≠ l.length := fun e => by
      have := h (l[lo num l]) (by rw [List.getLast?_eq_getElem?, ← e]; simp)
      rw [gt_get hlt, this] at ho; cases ho
    intro y hy
    apply h y
    rw [← hy, List.getLast?_eq_getElem?, List.getLast?_eq_getElem?, List.length_eraseIdx_of_lt hlt, List.getElem?_eraseIdx, if_neg (by omega)]
    congr 1; omega
  · exact h
theorem lastIn_moms (l : List DeedM) : LastIn (moms l) := by
  unfold moms
  suffices ∀ s, LastIn s → LastIn (l.foldl momStep s) from this [] (fun x hx => by cases hx)
  induction l with
  | nil => exact fun s h => h
  | cons d l ih =>
    intro s h
    refine ih _ ?_
    unfold momStep
    split
    · exact lastIn_add h _ _
    · split
      · exact lastIn_rel h _
      · split
        · exact lastIn_drop h _
        · exact h

theorem last_facts {l : List It} (hk : TabOk l) (hl : LastIn l) (h0 : 0 < l.length) : outB (lastN l) l = false ∧ relE (lastN l) l = 12 ∧ relL (lastN l) l = l ∧ dropE (lastN l) l = 7 ∧ dropL (lastN l) l = l := by
  obtain ⟨h1, h2⟩ := last_has hk h0
  have ho : (gt l (lo (lastN l) l)).out = false := by
    rw [gt_get (by omega)]
    exact hl _ (by rw [List.getLast?_eq_getElem?, show l.length - 1 = lo (lastN l) l by omega]; exact List.getElem?_eq_getElem _)
  have e1 : relE (lastN l) l = 12 := by unfold relE; rw [h1, ho, if_pos rfl, if_neg (by simp), if_pos h2]
  have e2 : dropE (lastN l) l = 7 := by unfold dropE; rw [h1, ho]; rfl
  refine ⟨by unfold outB; rw [h1, ho]; rfl, e1, ?_, e2, ?_⟩
  · unfold relL; rw [e1]; rfl
  · unfold dropL; rw [e2]; rfl

structure NumFacts (num : Int) (s s1 s2 : List It) : Prop where
  d1 : dropE num s = 7
  d2 : dropL num s = s
  r1 : relE num s = 0
  r2 : relL num s = s1
  k1 : TabOk s1
  o1 : outB num s1 = true
  r3 : relE num s1 = 7
  r4 : relL num s1 = s1
  l1 : s1.length = s.length
  h1 : has num s1 = true
  m1 : minV num s1 = minV num s
  d3 : dropE num s1 = 0
  d4 : dropL num s1 = s2
  k2 : TabOk s2
  l2 : s2.length + 1 = s.length
  o2 : outB num s2 = false
  h2 : has num s2 = false
  d5 : dropE num s2 = 4
  d6 : dropL num s2 = s2
  r5 : relE num s2 = 4
  r6 : relL num s2 = s2

theorem num_facts {l : List It} (hk : TabOk l) {num : Int} (hh : has num l = true) (ho : outB num l = false) (hne : num ≠ lastN l) : ∃ s1 s2, NumFacts num l s1 s2 := by
  obtain ⟨hi, hg⟩ := has_get hk.srt hh
  have hout : (gt l (lo num l)).out = false := by unfold outB at ho; rw [hh] at ho; simpa using ho
  have hnl : lo num l + 1 ≠ l.length := fun e => hne (by
    unfold lastN
    rw [if_neg (by omega), show l.length - 1 = lo num l by omega, gt_get hi]; exact hg.symm)
  have d1 : dropE num l = 7 := by unfold dropE; rw [hh, hout]; rfl
  have r1 : relE num l = 0 := by unfold relE; rw [hh, hout, if_pos rfl, if_neg (by simp), if_neg hnl]
  have k1 : TabOk (relL num l) := ok_rel hk
  have h1 : has num (relL num l) = true := by
    rw [has_pm]
    obtain ⟨m, h⟩ := has_pm.1 hh
    exact ⟨m, (pm_rel hk _ _ _).2 h⟩
  have m1 : minV num (relL num l) = minV num l := by
    obtain ⟨m, h⟩ := has_pm.1 hh
    rw [minV_pm hk h, minV_pm k1 ((pm_rel hk _ _ _).2 h)]
  have l1 : (relL num l).length = l.length := by unfold relL; split <;> simp
  obtain ⟨hi1, hg1⟩ := has_get k1.srt h1
  have eL : relL num l = l.set (lo num l) ⟨(gt l (lo num l)).num, (gt l (lo num l)).min, true⟩ := by unfold relL; rw [if_pos r1]
  have hlo : lo num (relL num l) = lo num l := by
    have e : (relL num l)[lo num l]'(by rw [l1]; exact hi) = ⟨(gt l (lo num l)).num, (gt l (lo num l)).min, true⟩ := by simp only [eL, List.getElem_set_self]
    have en : ((relL num l)[lo num l]'(by rw [l1]; exact hi)).num = num := by rw [e, gt_get hi]; exact hg
    have := lo_of_get k1.srt (i := lo num l) (by rw [l1]; exact hi)
    rw [en] at this; exact this
  have hout1 : (gt (relL num l) (lo num (relL num l))).out = true := by
    rw [hlo, gt_get (by rw [l1]; exact hi)]
    simp only [eL, List.getElem_set_self]
  have r3 : relE num (relL num l) = 7 := by unfold relE; rw [h1, hout1]; rfl
  have d3 : dropE num (relL num l) = 0 := by unfold dropE; rw [h1, hout1]; rfl
  have h2 : has num (dropL num (relL num l)) = false := by
    cases h : has num (dropL num (relL num l))
    · rfl
    · obtain ⟨m, h⟩ := has_pm.1 h
      exact absurd rfl ((pm_drop k1 d3 _ _).1 h).2
  have d5 : dropE num (dropL num (relL num l)) = 4 := by unfold dropE; rw [h2]; rfl
  have r5 : relE num (dropL num (relL num l)) = 4 := by unfold relE; rw [h2]; rfl
  have l2 : (dropL num (relL num l)).length + 1 = l.length := by
    unfold dropL
    rw [if_pos d3, List.length_eraseIdx_of_lt hi1, l1]; omega
  refine ⟨relL num l, dropL num (relL num l), d1, ?_, r1, rfl, k1, ?_, r3, ?_, l1, h1, m1, d3, rfl, ok_drop k1, l2, ?_, h2, d5, ?_, r5, ?_⟩
  · unfold dropL; rw [d1]; rfl
  · unfold outB; rw [h1, hout1]; rfl
  · rw [relL, r3]; rfl
  · unfold outB; rw [h2]; rfl
  · rw [dropL, d5]; rfl
  · rw [relL, r5]; rfl

/-- a release with a known answer -/
theorem mrel {w0 : World} {p : Nat} {v : Value} {l l' : List It} {num r : Int} {w : World} (h : Mine w0 p v l w) (hk : TabOk l) (he : relE num l = r) (hl : relL num l = l') :
    Calls Try.prog 22 #[.pointer (some ⟨p, 0, none⟩), .int .u64 num] w fun e w' => e = .returned (.int .i64 r) ∧ ∃ v', Mine w0 p v' l' w' := by
  subst he hl
  refine (release_any p v l num w h.T hk).mono fun e w' hp => ?_
  obtain ⟨v', rfl, hM⟩ := h.post hp
  exact ⟨rfl, v', hM⟩
theorem mdrop {w0 : World} {p : Nat} {v : Value} {l l' : List It} {num r : Int} {w : World} (h : Mine w0 p v l w) (hk : TabOk l) (he : dropE num l = r) (hl : dropL num l = l') :
    Calls Try.prog 23 #[.pointer (some ⟨p, 0, none⟩), .int .u64 num] w fun e w' => e = .returned (.int .i64 r) ∧ ∃ v', Mine w0 p v' l' w' := by
  subst he hl
  refine (drop_any p v l num w h.T hk).mono fun e w' hp => ?_
  obtain ⟨v', rfl, hM⟩ := h.post hp
  exact ⟨rfl, v', hM⟩
theorem Both.mine {w0 : World} {p px : Nat} {v : Value} {d : DocV} {l : List It} {w : World} (h : Both w0 p px v d l w) : Mine w0 p v l w :=
  ⟨h.T, ⟨h.ge.1, h.ge.2.2⟩, h.bel⟩
end Go.Proofs.Ythlmcoeikelheaa
