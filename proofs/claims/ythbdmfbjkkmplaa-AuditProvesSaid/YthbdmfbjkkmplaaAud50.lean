/- The walk of AuditProves: the law. -/
import Derived.Test.YthbdmfbjkkmplaaAud49
import Derived.Test.YthbdmfbjkkmplaaAudOpen
namespace Go.Proofs.Ythbdmfbjkkmplaa
open Go.RowKit Go.Proofs.YthbdmfbjkkmplaaB Go.Proofs.Ythbdmfbjkkmplaa.Sha

theorem proves_walk (v n : Int) (A : Option Addr) (L cap : Nat) (bl : List (List Nat)) (w : World) (hL : bl.length = L) (h : AllB 32 bl ∧ Sl w 32 A L (rowN 32 bl)) (a b : Int) :
    Calls Try.prog 4 #[.int .i64 v, .int .i64 n, .slice A L cap, .int .i64 a, .int .i64 b] w fun e w' => e = .returned (.bool true) ∧ Below w.heap.size w w' := by
  subst hL
  by_cases hg : (fitsB v n = true ∧ 24 < v * n) ∨ 48 < bl.length
  · exact proves_large v n A _ cap a b hg w
  have hL : bl.length ≤ 48 := by omega
  have hg' : ¬ (fitsB v n = true ∧ 24 < v * n) := fun h => hg (.inl h)
  cases hp : placeB v n a b with
  | false => exact proves_no v n A _ cap hL a b hg' hp w
  | true =>
    obtain ⟨v', n', a', b', rfl, rfl, rfl, rfl, h1, h2, h3, h4, h5, h6, _, _⟩ := placeB_nat hp
    have hf : fitsB v' n' = true := by simp only [fitsB, decide_eq_true_eq]; omega
    have hvn : ¬ (24 : Int) < (v' : Int) * (n' : Int) := fun h => hg' ⟨hf, h⟩
    have e : (v' : Int) * (n' : Int) = ((v' * n' : Nat) : Int) := by simp
    rw [e] at hvn
    exact proves_yes v' n' a' b' h1 h2 h3 h4 (by omega) h5 h6 A bl cap hL h.1 w h.2
end Go.Proofs.Ythbdmfbjkkmplaa
