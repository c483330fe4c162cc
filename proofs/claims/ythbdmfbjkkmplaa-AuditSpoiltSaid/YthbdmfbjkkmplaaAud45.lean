/- The walk of AuditRoots: the law. -/
import Derived.Test.YthbdmfbjkkmplaaAud43
import Derived.Test.YthbdmfbjkkmplaaAud44
import Derived.Test.YthbdmfbjkkmplaaAudOpen
namespace Go.Proofs.Ythbdmfbjkkmplaa
open Go.RowKit Go.Proofs.YthbdmfbjkkmplaaB Go.Proofs.Ythbdmfbjkkmplaa.Sha

theorem byte_wf {a : Int} (h : (Lit.int .u8 a).wf = true) : ∃ x : Nat, a = x ∧ x < 256 := by
  simp [Lit.wf, IntKind.min, IntKind.max, IntKind.signed, IntKind.bits] at h
  exact ⟨a.toNat, by omega, by omega⟩
theorem roots_walk (v n : Int) (A : Option Addr) (L cap : Nat) (bl : List (List Nat)) (w : World) (hL : bl.length = L) (h : AllB 32 bl ∧ Sl w 32 A L (rowN 32 bl)) (vol blk : Int) (hvol : (Lit.int .u8 vol).wf = true) (hblk : (Lit.int .u8 blk).wf = true) (B : {l : List Nat // l.length = 32 ∧ ∀ y ∈ l, y < 256}) :
    Calls Try.prog 3 #[.int .i64 v, .int .i64 n, .slice A L cap, .int .u8 vol, .int .u8 blk, .agg (u8s B.1).toArray] w fun e w' => e = .returned (.bool true) ∧ Below w.heap.size w w' := by
  subst hL
  by_cases hg : (fitsB v n = true ∧ 24 < v * n) ∨ 48 < bl.length
  · exact roots_large v n A _ cap vol blk B.1 hg w
  have hL : bl.length ≤ 48 := by omega
  obtain ⟨x, rfl, hx⟩ := byte_wf hvol
  obtain ⟨y, rfl, hy⟩ := byte_wf hblk
  cases hf : fitsB v n with
  | false => exact roots_no v n hf A _ cap hL x y hx hy B.1 B.2 w
  | true =>
    have h' : 1 ≤ v ∧ v ≤ 8 ∧ 1 ≤ n ∧ n ≤ 256 := by simpa [fitsB] using hf
    have hvn : ¬ 24 < v * n := fun h => hg (.inl ⟨hf, h⟩)
    obtain ⟨a1, a2, a3, a4⟩ := h'
    obtain ⟨v', rfl⟩ : ∃ v' : Nat, v = v' := ⟨v.toNat, by omega⟩
    obtain ⟨n', rfl⟩ : ∃ n' : Nat, n = n' := ⟨n.toNat, by omega⟩
    have e : (v' : Int) * (n' : Int) = ((v' * n' : Nat) : Int) := by simp
    rw [e] at hvn
    exact roots_yes v' n' (by omega) (by omega) (by omega) (by omega) (by omega) A bl cap hL h.1 x y hx hy B.1 B.2 w h.2
end Go.Proofs.Ythbdmfbjkkmplaa
