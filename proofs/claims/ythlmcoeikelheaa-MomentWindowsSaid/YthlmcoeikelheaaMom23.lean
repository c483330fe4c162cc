/- Layer 28: what the law MomentWindows says of the lists. -/
import Derived.Test.YthlmcoeikelheaaMom19
namespace Go.Proofs.Ythlmcoeikelheaa
open Go.RowKit Go.Proofs.YthlmcoeikelheaaB

theorem wrapdiv {x y : Int} (h0 : 0 ≤ x) (h1 : x ≤ 1073741824) (hy : 1 ≤ y) : IntKind.i64.wrap (x / y) = x / y :=
  IntWalk.i64_in _ (by have := Int.ediv_nonneg h0 (show 0 ≤ y by omega); have := Int.ediv_le_self y h0; omega)

/-- does the moment at k close the window of the one at i? -/
def sameW (win : Int) (s : List It) (i k : Nat) : Bool := (gt s k).min / win == (gt s i).min / win
def clB (win : Int) (s : List It) (i k : Nat) : Bool := sameW win s i k && closesB (gt s k).num win s
def cntW (win : Int) (s : List It) (i : Nat) : Nat → Nat
  | 0 => 0
  | k + 1 => cntW win s i k + (if clB win s i k then 1 else 0)

theorem closes_at {win : Int} {s : List It} (hk : TabOk s) (hw : 1 ≤ win) {k : Nat} (h : k < s.length) : closesB (gt s k).num win s = true ↔ ∀ t (_ : t < s.length), k < t → (gt s t).min / win ≠ (gt s k).min / win := by
  have e : lo (gt s k).num s = k := by rw [gt_get h]; exact lo_of_get hk.srt h
  have hh : has (gt s k).num s = true := by rw [gt_get h]; exact has_of_get h rfl
  rw [closesB_iff hk, e]
  constructor
  · rintro ⟨_, _, h3⟩ t ht hlt; rw [gt_get ht]; exact h3 t ht hlt
  · intro h3; exact ⟨hh, hw, fun t ht hlt => by rw [← gt_get ht]; exact h3 t ht hlt⟩

theorem win_exists {win : Int} (s : List It) : ∀ (n i : Nat), i < s.length → s.length - i ≤ n → ∃ kk, kk < s.length ∧ i ≤ kk ∧ (gt s kk).min / win = (gt s i).min / win ∧ ∀ t (_ : t < s.length), kk < t → (gt s t).min / win ≠ (gt s kk).min / win
  | 0, i, hi, hn => by omega
  | n + 1, i, hi, hn => by
    by_cases h : ∃ t, t < s.length ∧ i < t ∧ (gt s t).min / win = (gt s i).min / win
    · obtain ⟨t, ht, hlt, he⟩ := h
      obtain ⟨kk, h1, h2, h3, h4⟩ := win_exists s n t ht (by omega)
      exact ⟨kk, h1, by omega, h3.trans he, h4⟩
    · exact ⟨i, hi, Nat.le_refl _, rfl, fun t ht hlt he => h ⟨t, ht, hlt, he⟩⟩

theorem clB_iff {win : Int} {s : List It} (hk : TabOk s) (hw : 1 ≤ win) {i k : Nat} (h : k < s.length) : clB win s i k = true ↔ (gt s k).min / win = (gt s i).min / win ∧ ∀ t (_ : t < s.length), k < t → (gt s t).min / win ≠ (gt s k).min / win := by
  unfold clB sameW
  rw [Bool.and_eq_true, beq_iff_eq, closes_at hk hw h]
theorem cnt_one {win : Int} {s : List It} (hk : TabOk s) (hw : 1 ≤ win) {i kk : Nat} (hkk : kk < s.length) (h3 : (gt s kk).min / win = (gt s i).min / win) (h4 : ∀ t (_ : t < s.length), kk < t → (gt s t).min / win ≠ (gt s kk).min / win) : ∀ K, K ≤ s.length → cntW win s i K = if kk < K then 1 else 0
  | 0, _ => rfl
  | K + 1, hK => by
    unfold cntW
    rw [cnt_one hk hw hkk h3 h4 K (by omega)]
    rcases Nat.lt_trichotomy K kk with h | h | h
    · have : clB win s i K = false := by
        cases hc : clB win s i K
        · rfl
        · obtain ⟨e, h5⟩ := (clB_iff hk hw (by omega)).1 hc
          exact absurd (h3.trans e.symm) (h5 kk hkk h)
      rw [this, if_neg (by omega), if_neg (by simp), if_neg (by omega)]
    · subst h
      rw [(clB_iff hk hw hkk).2 ⟨h3, h4⟩, if_neg (by omega), if_pos rfl, if_pos (by omega)]
    · have : clB win s i K = false := by
        cases hc : clB win s i K
        · rfl
        · obtain ⟨e, h5⟩ := (clB_iff hk hw (by omega)).1 hc
          exact absurd (e.trans h3.symm) (h4 K (by omega) h)
      rw [this, if_pos h, if_neg (by simp), if_pos (by omega)]

structure WinFacts (win : Int) (s : List It) : Prop where
  ge : ∀ i k, i < s.length → k < s.length → clB win s i k = true → i ≤ k
  one : ∀ i, i < s.length → cntW win s i s.length = 1
  twice : ∀ i, i < s.length → closesB (gt s i).num (2 * win) s = true → closesB (gt s i).num win s = true
theorem win_facts {win : Int} {s : List It} (hk : TabOk s) (hw : 1 ≤ win) : WinFacts win s := by
  refine ⟨fun i k hi h hc => ?_, fun i hi => ?_, fun i hi h => ?_⟩
  · obtain ⟨e, h5⟩ := (clB_iff hk hw h).1 hc
    rcases Nat.lt_or_ge k i with h6 | h6
    · exact absurd e.symm (h5 i hi h6)
    · exact h6
  · obtain ⟨kk, h1, h2, h3, h4⟩ := win_exists (win := win) s s.length i hi (by omega)
    rw [cnt_one hk hw h1 h3 h4 _ (Nat.le_refl _), if_pos h1]
  · rw [closes_at hk (by omega) hi] at h
    rw [closes_at hk hw hi]
    intro t ht hlt he
    refine h t ht hlt ?_
    rw [show 2 * win = win * 2 by omega, ← Int.ediv_ediv_of_nonneg (by omega), ← Int.ediv_ediv_of_nonneg (by omega), he]
theorem cnt_le (win : Int) (s : List It) (i : Nat) : ∀ K, cntW win s i K ≤ K
  | 0 => Nat.le_refl _
  | K + 1 => by unfold cntW; have := cnt_le win s i K; split <;> omega
end Go.Proofs.Ythlmcoeikelheaa
