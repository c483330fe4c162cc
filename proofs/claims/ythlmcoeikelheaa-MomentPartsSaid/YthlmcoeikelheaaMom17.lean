/- Layer 28: what the law MomentQuiets says of the lists. -/
import Derived.Test.YthlmcoeikelheaaMom15
namespace Go.Proofs.Ythlmcoeikelheaa
open Go.RowKit Go.Proofs.YthlmcoeikelheaaB

theorem last_has {l : List It} (hk : TabOk l) (h0 : 0 < l.length) : has (lastN l) l = true ∧ lo (lastN l) l + 1 = l.length := by
  have hi : l.length - 1 < l.length := by omega
  have e : lastN l = l[l.length - 1].num := by unfold lastN; rw [if_neg (by omega), gt_get hi]
  rw [e]
  refine ⟨has_of_get hi rfl, ?_⟩
  rw [lo_of_get hk.srt hi]; omega
theorem last_quiet {l : List It} (hk : TabOk l) (h0 : 0 < l.length) {gap : Int} (hg : 0 ≤ gap) : quietB (lastN l) gap l = true := by
  obtain ⟨h1, h2⟩ := last_has hk h0
  exact quietB_last h1 hg (by omega)
theorem last_closes {l : List It} (hk : TabOk l) (h0 : 0 < l.length) {win : Int} (hw : 1 ≤ win) : closesB (lastN l) win l = true := by
  obtain ⟨h1, h2⟩ := last_has hk h0
  exact closesB_end hk h1 hw (fun t ht hlt => by omega)
theorem quiet_less {l : List It} (hk : TabOk l) {num gap gap' : Int} (h0 : 0 ≤ gap') (hle : gap' ≤ gap) (h : quietB num gap l = true) : quietB num gap' l = true := by
  obtain ⟨h1, h2, h3⟩ := (quietB_iff hk).1 h
  exact (quietB_iff hk).2 ⟨h1, h0, fun ht => by have := h3 ht; omega⟩
theorem quiet_more {l : List It} (hk : TabOk l) {num gap : Int} (h0 : 0 ≤ gap) (hh : has num l = true) (h : quietB num gap l = false) : nextB num l = true := by
  unfold nextB nextI
  rw [hh]
  simp only [if_true, decide_eq_true_eq]
  rcases Nat.lt_or_ge (lo num l + 1) l.length with h1 | h1
  · exact h1
  · rw [quietB_last hh h0 h1] at h; cases h
end Go.Proofs.Ythlmcoeikelheaa
