/- The example disk of layer 61. -/
import Derived.Test.YthbdmfbjkkmplaaAud31
import Derived.Test.YthbdmfbjkkmplaaAud29
import Derived.Test.YthbdmfbjkkmplaaAudK
namespace Go.Proofs.Ythbdmfbjkkmplaa
open Go.RowKit Go.Proofs.YthbdmfbjkkmplaaB Go.Proofs.Ythbdmfbjkkmplaa.Sha

def exB1 : List Nat := 1 :: List.replicate 31 0
def exB2 : List Nat := 2 :: List.replicate 31 0
def exX : List Nat := leafS 0 0 exB1
def exY : List Nat := leafS 0 1 exB2
def exU : List Nat := leafS 0 0 exB2
def exR : List Nat := joinS (oneS exX) (oneS exY)
theorem ex_ok : AllB 32 [exB1, exB2] := by
  intro x hx
  simp only [List.mem_cons, List.not_mem_nil, or_false] at hx
  rcases hx with rfl | rfl
  · exact ⟨by decide, by decide⟩
  · exact ⟨by decide, by decide⟩
theorem ex_leaves : leafN (blkAt [exB1, exB2]) 2 (1 * 2) = [exX, exY] := by
  simp [leafN, List.range_succ, exX, exY, blkAt]
theorem ex_tree : treeS [exX, exY] = exR := by
  have e1 : [exX, exY].take (cutN [exX, exY].length) = [exX] := by simp [cutN]
  have e2 : [exX, exY].drop (cutN [exX, exY].length) = [exY] := by simp [cutN]
  rw [treeS_two (by simp), e1, e2, treeS_one, treeS_one, exR]
theorem ex_proof : proofS [exX, exY] 1 = [oneS exX] := by
  have e1 : [exX, exY].take (cutN [exX, exY].length) = [exX] := by simp [cutN]
  have e2 : [exX, exY].drop (cutN [exX, exY].length) = [exY] := by simp [cutN]
  rw [proofS_right (by simp) (by simp [cutN]), e1, e2, proofS_one (by simp), treeS_one, List.nil_append]
theorem ex_yes : acheck exR 1 2 0 1 exB2 [oneS exX] = true := by
  unfold acheck
  rw [if_pos (by decide)]
  unfold checkS
  have e := comeS_right (n := 2) (by decide) (i := 1) exY [] (oneS exX) (by decide)
  simp only [List.nil_append] at e
  show ((comeS 2 1 exY [oneS exX]).2 && decide ((comeS 2 1 exY [oneS exX]).1 = exR)) = true
  rw [e, show (2 : Nat) - cutN 2 = 1 by decide, comeS_one]
  simp [exR]
theorem ex_ne : joinS (oneS exU) (oneS exX) ≠ exR := by
  have hx : exX = [_, _, _, _, _, _, _, _, _, _, _, _, _, _, _, _] := kx
  have hy : exY = [_, _, _, _, _, _, _, _, _, _, _, _, _, _, _, _] := ky
  have hu : exU = [_, _, _, _, _, _, _, _, _, _, _, _, _, _, _, _] := ku
  unfold exR
  rw [hx, hy, hu, kox, koy, kou, kr, kq]
  decide
theorem ex_no : acheck exR 1 2 0 0 exB2 [oneS exX] = false := by
  unfold acheck
  rw [if_pos (by decide)]
  unfold checkS
  have e := comeS_left (n := 2) (by decide) (i := 0) exU [] (oneS exX) (by decide)
  simp only [List.nil_append] at e
  show ((comeS 2 0 exU [oneS exX]).2 && decide ((comeS 2 0 exU [oneS exX]).1 = exR)) = false
  rw [e, show cutN 2 = 1 by decide, comeS_one]
  simp [ex_ne]
end Go.Proofs.Ythbdmfbjkkmplaa
