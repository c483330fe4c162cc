/- A disk's own proofs are let by; what AuditProves and AuditSpoilt ask. -/
import Derived.Test.YthbdmfbjkkmplaaAud44
import Derived.Test.YthbdmfbjkkmplaaAud32
import Derived.Test.YthbdmfbjkkmplaaAud34
import Derived.Test.YthbdmfbjkkmplaaAud27
namespace Go.Proofs.Ythbdmfbjkkmplaa
open Go.RowKit Go.Proofs.YthbdmfbjkkmplaaB Go.Proofs.Ythbdmfbjkkmplaa.Sha

theorem leafN_get (f : Nat → List Nat) (n m a b : Nat) (hb : b < n) (h : a * n + b < m) : (leafN f n m).getD (a * n + b) [] = leafS a b (f (a * n + b)) := by
  have e : (leafN f n m)[a * n + b]? = some (leafS ((a * n + b) / n) ((a * n + b) % n) (f (a * n + b))) := by
    unfold leafN
    rw [List.getElem?_map, List.getElem?_range h]; rfl
  rw [List.getD_eq_getElem?_getD, e, (divmod hb).1, (divmod hb).2]; rfl
theorem acheck_proof (f : Nat → List Nat) (v n a b : Nat) (hv : v ≤ 8) (hn : n ≤ 256) (ha : a < v) (hb : b < n) :
    acheck (treeS (leafN f n (v * n))) v n a b (f (a * n + b)) (proofS (leafN f n (v * n)) (a * n + b)) = true := by
  have hm := mul_bound ha hv hn
  have hi : a * n + b < v * n := by omega
  unfold acheck
  rw [if_pos (by simp only [placeB, fitsB, Bool.and_eq_true, decide_eq_true_eq]; omega)]
  have h := come_proof (v * n) (leafN f n (v * n)) (a * n + b) (by rw [leafN_len]; omega) (by rw [leafN_len]; exact hi)
  rw [leafN_get f n _ a b hb hi, leafN_len] at h
  unfold checkS
  simp only [Int.toNat_natCast]
  have h2 : comeS (v * n) (n * a + b) (leafS a b (f (a * n + b))) (proofS (leafN f n (v * n)) (a * n + b)) = (treeS (leafN f n (v * n)), true) := by
    rw [Nat.mul_comm n a]; exact h
  simp [h2]
end Go.Proofs.Ythbdmfbjkkmplaa
