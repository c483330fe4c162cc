/- A disk's own proof with a sum more is not let by. -/
import Derived.Test.YthbdmfbjkkmplaaAud48
namespace Go.Proofs.Ythbdmfbjkkmplaa
open Go.RowKit Go.Proofs.YthbdmfbjkkmplaaB Go.Proofs.Ythbdmfbjkkmplaa.Sha

theorem acheck_longer (f : Nat → List Nat) (v n a b : Nat) (hv : v ≤ 8) (hn : n ≤ 256) (ha : a < v) (hb : b < n) (B : List Nat) (s : List Nat) :
    acheck (treeS (leafN f n (v * n))) v n a b B (proofS (leafN f n (v * n)) (a * n + b) ++ [s]) = false := by
  have hm := mul_bound ha hv hn
  have hi : a * n + b < v * n := by omega
  unfold acheck
  rw [if_pos (by simp only [placeB, fitsB, Bool.and_eq_true, decide_eq_true_eq]; omega)]
  have h := come_proof (v * n) (leafN f n (v * n)) (a * n + b) (by rw [leafN_len]; omega) (by rw [leafN_len]; exact hi)
  rw [leafN_get f n _ a b hb hi, leafN_len] at h
  have h2 := come_long (v * n) (v * n) (a * n + b) (leafS a b (f (a * n + b))) (leafS a b B) (proofS (leafN f n (v * n)) (a * n + b)) (proofS (leafN f n (v * n)) (a * n + b) ++ [s]) (by omega) (by omega) hi (by simp) (by rw [h])
  have h3 : (comeS (v * n) (n * a + b) (leafS a b B) (proofS (leafN f n (v * n)) (a * n + b) ++ [s])).2 = false := by
    rw [Nat.mul_comm n a]; exact h2
  unfold checkS
  simp only [Int.toNat_natCast]
  rw [h3]; rfl
/-- a proof with another block -/
theorem lay_proof (v n a b : Int) (B B' : List Nat) (hB : B.length = 32) (hB' : B'.length = 32) (A : Option Addr) (m cap : Nat) : lay (proofC v n a b B A m cap) 4 (u8s B') = proofC v n a b B' A m cap := by
  have h1 : (u8s B).length = 32 := by rw [u8s_len]; exact hB
  have h2 : (u8s B').length = 32 := by rw [u8s_len]; exact hB'
  have e : (proofC v n a b B A m cap).drop 36 = [.slice A m cap] := by
    unfold proofC
    rw [← List.append_assoc, List.drop_append_of_le_length (by simp [h1]), List.drop_eq_nil_of_le (by simp [h1])]; rfl
  unfold lay
  rw [h2, e]
  simp [proofC]
theorem infoProof : (Try.prog.info? 41).map (fun i => (i.zero, i.size, i.bytes)) = some (some (.agg (proofC 0 0 0 0 (List.replicate 32 0) none 0 0).toArray), 37, 88) := by kernel_rfl
end Go.Proofs.Ythbdmfbjkkmplaa
