/- Layer 28: what the laws say of the lists. -/
import Derived.Test.YthlmcoeikelheaaMom13
namespace Go.Proofs.Ythlmcoeikelheaa
open Go.RowKit Go.Proofs.YthlmcoeikelheaaB

theorem closesB_iff {num win : Int} {l : List It} (hk : TabOk l) : closesB num win l = true ↔ has num l = true ∧ 1 ≤ win ∧ ∀ t (h : t < l.length), lo num l < t → l[t].min / win ≠ (gt l (lo num l)).min / win := by
  constructor
  · intro hc
    have h1 : has num l = true := by
      cases hh : has num l
      · rw [closesB_no (.inl hh)] at hc; cases hc
      · rfl
    have h2 : 1 ≤ win := by
      rcases Int.lt_or_le win 1 with h | h
      · rw [closesB_no (.inr h)] at hc; cases hc
      · exact h
    refine ⟨h1, h2, fun t ht hlt he => ?_⟩
    rw [closesB_hit hk h1 h2 ht hlt he] at hc; cases hc
  · rintro ⟨h1, h2, h3⟩
    exact closesB_end hk h1 h2 h3

theorem has_append (num : Int) (l : List It) (x : It) : has num (l ++ [x]) = (has num l || x.num == num) := by
  unfold has; simp
theorem lo_append (num : Int) (l : List It) (x : It) : lo num (l ++ [x]) = lo num l + (if x.num < num then 1 else 0) := by
  unfold lo
  rw [List.countP_append]
  by_cases h : x.num < num <;> simp [h]
theorem gt_append {l : List It} {x : It} {i : Nat} (h : i < l.length) : gt (l ++ [x]) i = gt l i := by
  rw [gt_get h, gt_get (by simp; omega), List.getElem_append_left h]
theorem lt_last {l : List It} {x : It} (hk : TabOk (l ++ [x])) {i : Nat} (h : i < l.length) : l[i].num < x.num ∧ l[i].min ≤ x.min := by
  have := srt_get hk.srt (i := i) (j := l.length) (by simp; omega) (by simp) h
  simpa [List.getElem_append_left h] using this

/-- what comes later makes none close that didn't -/
theorem closesB_later {num win : Int} {l : List It} {x : It} (hk : TabOk l) (hk2 : TabOk (l ++ [x])) (hne : x.num ≠ num) (h : closesB num win (l ++ [x]) = true) : closesB num win l = true := by
  obtain ⟨h1, h2, h3⟩ := (closesB_iff hk2).1 h
  rw [has_append] at h1
  have hx : (x.num == num) = false := by rw [beq_eq_false_iff_ne]; exact hne
  rw [hx, Bool.or_false] at h1
  obtain ⟨hi, hg⟩ := has_get hk.srt h1
  have hlt := (lt_last hk2 hi).1
  have hlo : lo num (l ++ [x]) = lo num l := by rw [lo_append, if_neg (by omega)]; rfl
  rw [hlo, gt_append hi] at h3
  refine (closesB_iff hk).2 ⟨h1, h2, fun t ht hlt' => ?_⟩
  have := h3 t (by simp; omega) hlt'
  rwa [List.getElem_append_left ht] at this

theorem quietB_iff {num gap : Int} {l : List It} (hk : TabOk l) : quietB num gap l = true ↔ has num l = true ∧ 0 ≤ gap ∧ (lo num l + 1 < l.length → (gt l (lo num l + 1)).min - (gt l (lo num l)).min > gap) := by
  constructor
  · intro hc
    have h1 : has num l = true := by
      cases hh : has num l
      · rw [quietB_no (.inl hh)] at hc; cases hc
      · rfl
    have h2 : 0 ≤ gap := by
      rcases Int.lt_or_le gap 0 with h | h
      · rw [quietB_no (.inr h)] at hc; cases hc
      · exact h
    refine ⟨h1, h2, fun ht => ?_⟩
    rw [quietB_next hk h1 h2 ht] at hc
    simpa using hc
  · rintro ⟨h1, h2, h3⟩
    rcases Nat.lt_or_ge (lo num l + 1) l.length with h | h
    · rw [quietB_next hk h1 h2 h]; simpa using h3 h
    · exact quietB_last h1 h2 h
/-- what comes later makes none quiet that wasn't -/
theorem quietB_later {num gap : Int} {l : List It} {x : It} (hk : TabOk l) (hk2 : TabOk (l ++ [x])) (hne : x.num ≠ num) (h : quietB num gap (l ++ [x]) = true) : quietB num gap l = true := by
  obtain ⟨h1, h2, h3⟩ := (quietB_iff hk2).1 h
  rw [has_append] at h1
  have hx : (x.num == num) = false := by rw [beq_eq_false_iff_ne]; exact hne
  rw [hx, Bool.or_false] at h1
  obtain ⟨hi, hg⟩ := has_get hk.srt h1
  have hlt := (lt_last hk2 hi).1
  have hlo : lo num (l ++ [x]) = lo num l := by rw [lo_append, if_neg (by omega)]; rfl
  rw [hlo] at h3
  refine (quietB_iff hk).2 ⟨h1, h2, fun ht => ?_⟩
  have := h3 (by simp; omega)
  rwa [gt_append hi, gt_append ht] at this
end Go.Proofs.Ythlmcoeikelheaa
