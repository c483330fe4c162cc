/- The walk of AuditProves: what is too large. -/
import Derived.Test.YthbdmfbjkkmplaaAud38
import Derived.Test.YthbdmfbjkkmplaaAud35
namespace Go.Proofs.Ythbdmfbjkkmplaa
open Go.RowKit Go.Proofs.YthbdmfbjkkmplaaB Go.Proofs.Ythbdmfbjkkmplaa.Sha

abbrev provesArgs (v n : Int) (A : Option Addr) (L cap : Nat) (a b : Int) : Array Value := #[.int .i64 v, .int .i64 n, .slice A L cap, .int .i64 a, .int .i64 b]

set_option maxRecDepth 100000 in
set_option maxHeartbeats 1000000 in
/-- what is too large is let go -/
theorem proves_large (v n : Int) (A : Option Addr) (L cap : Nat) (a b : Int) (h : (fitsB v n = true ∧ 24 < v * n) ∨ 48 < L) (w : World) :
    Calls Try.prog 4 (provesArgs v n A L cap a b) w fun e w' => e = .returned (.bool true) ∧ Below w.heap.size w w' := by
  obtain ⟨F, hF⟩ : ∃ F, F = fitsB v n := ⟨_, rfl⟩
  rw [← hF] at h
  have HF := Lib.hid hF
  clear hF
  go_enter Try.func4, Try.ntmps4
  have HCU : Hid (Ex0 w w) := Ex.refl _ _
  have hm : fitsB v n = true → 1 ≤ v ∧ v ≤ 8 ∧ 1 ≤ n ∧ n ≤ 256 ∧ v * n ≤ 2048 ∧ 0 ≤ v * n := fun h => by
    have h' : 1 ≤ v ∧ v ≤ 8 ∧ 1 ≤ n ∧ n ≤ 256 := by simpa [fitsB] using h
    obtain ⟨a1, a2, a3, a4⟩ := h'
    obtain ⟨v', rfl⟩ : ∃ v' : Nat, v = v' := ⟨v.toNat, by omega⟩
    obtain ⟨n', rfl⟩ : ∃ n' : Nat, n = n' := ⟨n.toNat, by omega⟩
    have : v' * n' ≤ 8 * 256 := Nat.mul_le_mul (by omega) (by omega)
    have e : (v' : Int) * (n' : Int) = ((v' * n' : Nat) : Int) := by simp
    rw [e]
    omega
  cases F with
  | true =>
    obtain ⟨_, _, _, _, h5, h6⟩ := hm HF.out.symm
    obtain ⟨p, hp⟩ : ∃ p, p = v * n := ⟨_, rfl⟩
    rw [← hp] at h h5 h6
    have hmul := hp.symm
    clear hp hm
    by_cases i24 : 24 < p
    · go_wp2_with (first | (refine (awake_any _).mono ?_; rintro e w1 ⟨rfl, hx1⟩; have HCU := Lib.hid (HCU.out.trans0 hx1); clear hx1) | (refine (fits_any _ _ _).mono ?_; rintro e w' ⟨rfl, rfl⟩; rw [← HF.out]))
      go_ret
      exact ⟨rfl, low_of_ex HCU.out⟩
    · have i48 : (48 : Int) < (L : Int) := by rcases h with h | h <;> omega
      go_wp2_with (first | (refine (awake_any _).mono ?_; rintro e w1 ⟨rfl, hx1⟩; have HCU := Lib.hid (HCU.out.trans0 hx1); clear hx1) | (refine (fits_any _ _ _).mono ?_; rintro e w' ⟨rfl, rfl⟩; rw [← HF.out]))
      go_ret
      exact ⟨rfl, low_of_ex HCU.out⟩
  | false =>
    clear hm
    have i48 : (48 : Int) < (L : Int) := by
      rcases h with h | h
      · simp at h
      · omega
    go_wp2_with (first | (refine (awake_any _).mono ?_; rintro e w1 ⟨rfl, hx1⟩; have HCU := Lib.hid (HCU.out.trans0 hx1); clear hx1) | (refine (fits_any _ _ _).mono ?_; rintro e w' ⟨rfl, rfl⟩; rw [← HF.out]))
    go_ret
    exact ⟨rfl, low_of_ex HCU.out⟩
end Go.Proofs.Ythbdmfbjkkmplaa
