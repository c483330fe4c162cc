/- The walk of AuditSpoilt: the law. -/
import Derived.Test.YthbdmfbjkkmplaaAud53
import Derived.Test.YthbdmfbjkkmplaaAud45
import Derived.Test.YthbdmfbjkkmplaaAudOpen
namespace Go.Proofs.Ythbdmfbjkkmplaa
open Go.RowKit Go.Proofs.YthbdmfbjkkmplaaB Go.Proofs.Ythbdmfbjkkmplaa.Sha

theorem spoilt_walk (A : Option Addr) (L cap : Nat) (bl : List (List Nat)) (w : World) (hL : bl.length = L) (h : AllB 32 bl ∧ Sl w 32 A L (rowN 32 bl)) (x y : Int) (hx : (Lit.int .u8 x).wf = true) (hy : (Lit.int .u8 y).wf = true) (B : {l : List Nat // l.length = 32 ∧ ∀ y ∈ l, y < 256}) (S : {l : List Nat // l.length = 16 ∧ ∀ y ∈ l, y < 256}) :
    Calls Try.prog 6 #[.slice A L cap, .int .u8 x, .int .u8 y, .agg (u8s B.1).toArray, .agg (u8s S.1).toArray] w fun e w' => e = .returned (.bool true) ∧ Below w.heap.size w w' := by
  subst hL
  obtain ⟨x, rfl, hx'⟩ := byte_wf hx
  obtain ⟨y, rfl, hy'⟩ := byte_wf hy
  by_cases hg : 24 < bl.length
  · exact spoilt_large A _ cap hg x y (Int.natCast_nonneg _) (by omega) B.1 S.1 w
  · exact spoilt_small A bl cap (by omega) h.1 x y hx' hy' B.1 S.1 B.2 S.2 w h.2
end Go.Proofs.Ythbdmfbjkkmplaa
