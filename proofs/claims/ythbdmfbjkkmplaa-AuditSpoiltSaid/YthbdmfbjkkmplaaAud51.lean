/- The walk of AuditSpoilt: what is too large. -/
import Derived.Test.YthbdmfbjkkmplaaAud38
namespace Go.Proofs.Ythbdmfbjkkmplaa
open Go.RowKit Go.Proofs.YthbdmfbjkkmplaaB Go.Proofs.Ythbdmfbjkkmplaa.Sha

abbrev spoiltArgs (A : Option Addr) (L cap : Nat) (x y : Int) (B S : List Nat) : Array Value := #[.slice A L cap, .int .u8 x, .int .u8 y, .agg (u8s B).toArray, .agg (u8s S).toArray]

set_option maxRecDepth 100000 in
set_option maxHeartbeats 1000000 in
theorem spoilt_large (A : Option Addr) (L cap : Nat) (hL : 24 < L) (x y : Int) (hx00 : 0 ≤ x) (hx1 : x < 256) (B S : List Nat) (w : World) :
    Calls Try.prog 6 (spoiltArgs A L cap x y B S) w fun e w' => e = .returned (.bool true) ∧ Below w.heap.size w w' := by
  have i24 : (24 : Int) < (L : Int) := by omega
  go_enter Try.func6, Try.ntmps6
  iterate 9 go_step
  generalize hW : World.alloc (World.alloc w _) _ = W
  have HX0 : Hid (Ex0 w W) := by show Ex0 w W; rw [← hW]; exact (Ex.alloc _ _).alloc' _
  clear hW
  have HCU : Hid (Ex0 W W) := Ex.refl _ _
  go_wp2_with (refine (awake_any _).mono ?_; rintro e w1 ⟨rfl, hx1⟩; have HCU := Lib.hid (HCU.out.trans0 hx1); clear hx1)
  go_ret
  exact ⟨rfl, low_of_ex (HX0.out.trans0 HCU.out)⟩
end Go.Proofs.Ythbdmfbjkkmplaa
