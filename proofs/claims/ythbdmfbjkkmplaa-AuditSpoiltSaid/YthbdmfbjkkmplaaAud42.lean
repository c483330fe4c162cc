/- The walk of AuditRoots. -/
import Derived.Test.YthbdmfbjkkmplaaAud38
import Derived.Test.YthbdmfbjkkmplaaAud35
namespace Go.Proofs.Ythbdmfbjkkmplaa
open Go.RowKit Go.Proofs.YthbdmfbjkkmplaaB Go.Proofs.Ythbdmfbjkkmplaa.Sha

abbrev rootsArgs (v n : Int) (A : Option Addr) (L cap : Nat) (vol blk : Int) (B : List Nat) : Array Value := #[.int .i64 v, .int .i64 n, .slice A L cap, .int .u8 vol, .int .u8 blk, .agg (u8s B).toArray]

set_option maxRecDepth 100000 in
set_option maxHeartbeats 1000000 in
/-- what is too large is let go -/
theorem roots_large (v n : Int) (A : Option Addr) (L cap : Nat) (vol blk : Int) (B : List Nat) (h : (fitsB v n = true ∧ 24 < v * n) ∨ 48 < L) (w : World) :
    Calls Try.prog 3 (rootsArgs v n A L cap vol blk B) w fun e w' => e = .returned (.bool true) ∧ Below w.heap.size w w' := by
  obtain ⟨F, hF⟩ : ∃ F, F = fitsB v n := ⟨_, rfl⟩
  rw [← hF] at h
  have HF := Lib.hid hF
  clear hF
  go_enter Try.func3, Try.ntmps3
  iterate 7 go_step
  generalize hW : World.alloc w _ = W
  have HX0 : Hid (Ex0 w W) := by show Ex0 w W; rw [← hW]; exact Ex.alloc _ _
  clear hW
  have HCU : Hid (Ex0 W W) := Ex.refl _ _
  have hm : fitsB v n = true → 1 ≤ v ∧ v ≤ 8 ∧ 1 ≤ n ∧ n ≤ 256 ∧ v * n ≤ 2048 ∧ 0 ≤ v * n := fun h => by
    have h' : 1 ≤ v ∧ v ≤ 8 ∧ 1 ≤ n ∧ n ≤ 256 := by simpa [fitsB] using h
    obtain ⟨a1, a2, a3, a4⟩ := h'
    obtain ⟨v', rfl⟩ : ∃ v' : Nat, v = v' := ⟨v.toNat, by omega⟩
    obtain ⟨n', rfl⟩ : ∃ n' : Nat, n = n' := ⟨n.toNat, by omega⟩
    have : v' * n' ≤ 8 * 256 := Nat.mul_le_mul (by omega) (by omega)
    have e : (v' : Int) * (n' : Int) = ((v' * n' : Nat) : Int) := by simp
    rw [e]
    omega
  cases F with
  | true =>
    obtain ⟨_, _, _, _, h5, h6⟩ := hm HF.out.symm
    obtain ⟨p, hp⟩ : ∃ p, p = v * n := ⟨_, rfl⟩
    rw [← hp] at h h5 h6
    have hmul := hp.symm
    clear hp hm
    by_cases i24 : 24 < p
    · go_wp2_with (first | (refine (awake_any _).mono ?_; rintro e w1 ⟨rfl, hx1⟩; have HCU := Lib.hid (HCU.out.trans0 hx1); clear hx1) | (refine (fits_any _ _ _).mono ?_; rintro e w' ⟨rfl, rfl⟩; rw [← HF.out]))
      go_ret
      exact ⟨rfl, low_of_ex (HX0.out.trans0 HCU.out)⟩
    · have i48 : (48 : Int) < (L : Int) := by rcases h with h | h <;> omega
      go_wp2_with (first | (refine (awake_any _).mono ?_; rintro e w1 ⟨rfl, hx1⟩; have HCU := Lib.hid (HCU.out.trans0 hx1); clear hx1) | (refine (fits_any _ _ _).mono ?_; rintro e w' ⟨rfl, rfl⟩; rw [← HF.out]))
      go_ret
      exact ⟨rfl, low_of_ex (HX0.out.trans0 HCU.out)⟩
  | false =>
    clear hm
    have i48 : (48 : Int) < (L : Int) := by
      rcases h with h | h
      · simp at h
      · omega
    go_wp2_with (first | (refine (awake_any _).mono ?_; rintro e w1 ⟨rfl, hx1⟩; have HCU := Lib.hid (HCU.out.trans0 hx1); clear hx1) | (refine (fits_any _ _ _).mono ?_; rintro e w' ⟨rfl, rfl⟩; rw [← HF.out]))
    go_ret
    exact ⟨rfl, low_of_ex (HX0.out.trans0 HCU.out)⟩
end Go.Proofs.Ythbdmfbjkkmplaa
