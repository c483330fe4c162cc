/- The walk of AuditNone. -/
import Derived.Test.YthbdmfbjkkmplaaAud37
namespace Go.Proofs.Ythbdmfbjkkmplaa
open Go.RowKit Go.Proofs.YthbdmfbjkkmplaaB Go.Proofs.Ythbdmfbjkkmplaa.Sha

theorem low_of_ex {w w' : World} (h : Ex0 w w') : Below w.heap.size w w' := h.below (Nat.le_refl _) (fun _ h => h.elim)
theorem acheck_zero (root : List Nat) : acheck root 0 0 0 0 z32 [] = false := by
  unfold acheck
  rw [if_neg (by decide)]

set_option maxRecDepth 100000 in
set_option maxHeartbeats 2000000 in
theorem none_walk (v n a b : Int) (r : List Nat) (hr : r.length = 16) (w : World) :
    Calls Try.prog 8 #[.int .i64 v, .int .i64 n, .int .i64 a, .int .i64 b, .agg (u8s r).toArray] w fun e w' => e = .returned (.bool true) ∧ Below w.heap.size w w' := by
  have HCK : Hid (∀ w', Calls Try.prog 19 #[.agg (u8s r).toArray, .agg zeroP] w' fun e w'' => e = .returned (.bool false) ∧ Ex0 w' w'') := fun w' => by
    have := acheck_any r hr 0 0 0 0 z32 z32_ok none 0 [] AllB.nil (by simp) (by simp) w' ⟨by simp [rowN], by simp, fun h => by simp at h⟩
    rw [acheck_zero] at this
    exact this
  obtain ⟨RA, hRA⟩ : ∃ V, V = (u8s r).toArray := ⟨_, rfl⟩
  have hRs : RA.size = 16 := by rw [hRA]; simp [u8s_len, hr]
  rw [← hRA] at HCK ⊢
  have HZ16 : Hid (∀ v ∈ (u8s z16).toArray, v.oneCell' = true) := by show ∀ v ∈ _, _; simpa using u8s_one z16
  have HZP : Hid (∀ v ∈ zeroP, v.oneCell' = true) := by show ∀ v ∈ zeroP, _; unfold zeroP; simpa using proofC_one 0 0 0 0 z32 none 0 0
  obtain ⟨ZA, hZA⟩ : ∃ V, V = (u8s z16).toArray := ⟨_, rfl⟩
  have hZs : ZA.size = 16 := by rw [hZA]; simp [u8s_len, z16]
  have heq : ∀ w', (Op.equalIn 10000 28 (.agg ZA) (.agg #[.int .u8 0, .int .u8 0, .int .u8 0, .int .u8 0, .int .u8 0, .int .u8 0, .int .u8 0, .int .u8 0, .int .u8 0, .int .u8 0, .int .u8 0, .int .u8 0, .int .u8 0, .int .u8 0, .int .u8 0, .int .u8 0])).run Try.prog w' = .ok true w' := fun w' => by
    have := run_eql_bytes (P := Try.prog) w' 28 5 16 .u8 Try.underlying28 Try.underlying5 (by kernel_rfl) (fun w => by kernel_rfl) z16 z16 z16_len z16_len
    rw [decide_eq_true rfl] at this
    rw [hZA]; exact this
  have hg1 : Try.prog.eqGuardType Try.prog.depth 28 = false := by kernel_rfl
  have HRN : Hid (∀ w', Calls Try.prog 11 #[.int .i64 v, .int .i64 n, .nilFunc] w' fun e w'' => e = .returned (.tuple #[.agg ZA, .int .i64 1]) ∧ Ex0 w' w'') := fun w' => by rw [hZA]; exact aroot_nil v n w'
  have HPN := Lib.hid (aprove_nil v n a b)
  rw [← hZA] at HZ16
  have hz36 : zeroP[36]? = some (.slice none 0 0) := rfl
  have hzs : zeroP.size = 37 := rfl
  obtain ⟨ZP, hZP⟩ : ∃ P, P = zeroP := ⟨_, rfl⟩
  rw [← hZP] at HPN HZP hz36 hzs
  have HZPE := Lib.hid hZP
  have HZ36 := Lib.hid hz36
  clear hRA hZA hZP hz36
  go_enter Try.func8, Try.ntmps8
  iterate 7 go_step
  generalize hW : World.alloc w _ = W
  have hx0 : Ex0 w W := by rw [← hW]; exact Ex.alloc _ _
  have h9 : W.heap[w.heap.size]? = some (.cells RA 28 (0, 0)) := by rw [← hW]; exact heap_alloc_new w _
  obtain ⟨b9, e9⟩ : ∃ b, b = w.heap.size := ⟨_, rfl⟩
  rw [← e9] at h9 ⊢
  have H9 := Lib.hid h9
  have HX0 := Lib.hid hx0
  clear hW hx0 h9 e9
  go_wp2_with (first | (refine (awake_any _).mono ?_; rintro e w1 ⟨rfl, hx1⟩; have HX1 := Lib.hid hx1; clear hx1) | (refine (HRN.out _).mono ?_; rintro e w2 ⟨rfl, hx2⟩; have HX2 : Hid (Ex0 W w2) := HX1.out.trans0 hx2; clear hx2) | (refine wpList_store_all rfl 28 (.tmp 11) (.tmp 21) rfl w2.heap.size rfl ZA _ rfl 28 (heap_alloc_new _ _) (by rw [hZs]; rfl) HZ16.out (by rw [hZs]; kernel_rfl) ?_; rw [World.setRow_alloc_new]; obtain ⟨w3, hw3⟩ : ∃ w3, w3 = w2.alloc (.cells ZA 28) := ⟨_, rfl⟩; rw [← hw3]; have HX3 : Hid (Ex0 W w3) := (by rw [hw3]; exact HX2.out.alloc' _); have H11 : Hid (w3.heap[w2.heap.size]? = some (.cells ZA 28 (0, 0))) := (by rw [hw3]; exact heap_alloc_new _ _); clear hw3) | (refine (HPN.out _).mono ?_; rintro e w4 ⟨rfl, hx4⟩; have HX4 : Hid (Ex0 w3 w4) := hx4; clear hx4) | (refine wpList_store_all rfl 41 (.tmp 13) (.tmp 29) rfl w4.heap.size rfl ZP _ rfl 41 (heap_alloc_new _ _) (by rw [hzs]; rfl) HZP.out (by rw [hzs]; kernel_rfl) ?_; rw [World.setRow_alloc_new]; obtain ⟨w5, hw5⟩ : ∃ w5, w5 = w4.alloc (.cells ZP 41) := ⟨_, rfl⟩; rw [← hw5]; have HX5 : Hid (Ex0 w3 w5) := (by rw [hw5]; exact HX4.out.alloc' _); have h13 : w5.heap[w4.heap.size]? = some (.cells ZP 41 (0, 0)) := (by rw [hw5]; exact heap_alloc_new _ _); have h11 : w5.heap[w2.heap.size]? = some (.cells ZA 28 (0, 0)) := ((HX5.out.block _ (Array.getElem?_eq_some_iff.1 H11.out).1 not_false).trans H11.out); have h9 : w5.heap[b9]? = some (.cells RA 28 (0, 0)) := (((HX3.out.trans0 HX5.out).block _ (Array.getElem?_eq_some_iff.1 H9.out).1 not_false).trans H9.out); have c36 : w5.cell? ⟨w4.heap.size, 36, none⟩ = some (.slice none 0 0) := (by rw [cell_of_row _ _ _ _ _ _ h13]; exact HZ36.out); clear hw5 h13) | refine wpList_load_row rfl 28 (.tmp 11) rfl w2.heap.size rfl 28 ZA (0, 0) _ h11 Try.underlying28 rfl (by rw [hZs]; kernel_rfl) ?_ | refine wpList_load_row_g rfl 28 (.tmp 9) rfl b9 rfl 28 RA (0, 0) _ h9 Try.underlying28 rfl (by rw [hRs]; kernel_rfl) ?_ | (refine (HCK.out _).mono ?_; rintro e w6 ⟨rfl, hx6⟩; have HX6 : Hid (Ex0 W w6) := ((HX3.out.trans0 HX5.out).trans0 hx6); clear hx6))
  go_ret
  exact ⟨rfl, low_of_ex (HX0.out.trans0 HX6.out)⟩
end Go.Proofs.Ythbdmfbjkkmplaa
