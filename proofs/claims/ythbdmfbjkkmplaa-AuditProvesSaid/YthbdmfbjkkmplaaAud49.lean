/- The walk of AuditProves: places that there are. -/
import Derived.Test.YthbdmfbjkkmplaaAud47
import Derived.Test.YthbdmfbjkkmplaaAud48
namespace Go.Proofs.Ythbdmfbjkkmplaa
open Go.RowKit Go.Proofs.YthbdmfbjkkmplaaB Go.Proofs.Ythbdmfbjkkmplaa.Sha

set_option maxRecDepth 100000 in
set_option maxHeartbeats 4000000 in
theorem proves_yes (v n a b : Nat) (hv1 : 1 ≤ v) (hv : v ≤ 8) (hn1 : 1 ≤ n) (hn : n ≤ 256) (hvn : v * n ≤ 24) (ha : a < v) (hb : b < n) (A : Option Addr) (bl : List (List Nat)) (cap : Nat) (hL : bl.length ≤ 48) (hbl : AllB 32 bl) (w : World) (hs : Sl w 32 A bl.length (rowN 32 bl)) :
    Calls Try.prog 4 (provesArgs v n A bl.length cap a b) w fun e w' => e = .returned (.bool true) ∧ Below w.heap.size w w' := by
  have HF : Hid (fitsB v n = true) := by
    show _ = _
    simp only [fitsB, decide_eq_true_eq]; omega
  have hmb := mul_bound ha hv hn
  obtain ⟨N, hN⟩ : ∃ N, N = v * n := ⟨_, rfl⟩
  obtain ⟨I, hI⟩ : ∃ I, I = a * n + b := ⟨_, rfl⟩
  obtain ⟨q, hq⟩ : ∃ q, q = a * n := ⟨_, rfl⟩
  have hmul : (v : Int) * (n : Int) = (N : Int) := by rw [hN]; simp
  have hmq : (a : Int) * (n : Int) = (q : Int) := by rw [hq]; simp
  have hIq : (q : Int) + (b : Int) = (I : Int) := by rw [hI, hq]; simp
  have i24 : ¬ (24 : Int) < (N : Int) := by omega
  have hmx : (1 : Int) ≤ (n : Int) := by omega
  have hN1 : 1 ≤ N := by rw [hN]; exact Nat.mul_pos hv1 hn1
  have hN24 : N ≤ 24 := by omega
  have hIN : I < N := by omega
  have hq2 : q ≤ 2048 := by omega
  have j1 : ¬ (a : Int) < 0 := by omega
  have j2 : ¬ (v : Int) ≤ (a : Int) := by omega
  have j3 : ¬ (b : Int) < 0 := by omega
  have j4 : ¬ (n : Int) ≤ (b : Int) := by omega
  have i48 : ¬ (48 : Int) < (bl.length : Int) := by omega
  obtain ⟨PR, hPR⟩ : ∃ P, P = proofS (leafN (blkAt bl) n N) I := ⟨_, rfl⟩
  obtain ⟨M, hM⟩ : ∃ M, M = PR.length := ⟨_, rfl⟩
  have hMle : M ≤ N := by
    have := proofS_len_le N (leafN (blkAt bl) n N) I (by rw [leafN_len]; omega)
    rw [leafN_len] at this
    rw [hM, hPR]; exact this
  obtain ⟨RS, hRS⟩ : ∃ R, R = treeS (leafN (blkAt bl) n N) := ⟨_, rfl⟩
  have ht16 : RS.length = 16 := by rw [hRS]; exact treeS_len (by rw [leafN_len]; omega)
  obtain ⟨BB, hBB⟩ : ∃ B, B = blkAt bl I := ⟨_, rfl⟩
  have hBBok := blkAt_ok hbl I
  rw [← hBB] at hBBok
  have HLV : Hid (∀ w', Ex0 w w' → Calls Try.prog 16 #[.int .i64 v, .int .i64 n, .slice A bl.length cap] w' fun e w'' => ∃ v', e = .returned v' ∧ w''.ownsRow w'.heap.size 28 16 v' N (rowN 16 (leafN (blkAt bl) n N)) ∧ Ex0 w' w'') := fun w' hx => by
    have := rleaves_any v n hv hn bl hbl (by omega) A cap w' (hs.ex0 hx)
    rw [← hN] at this; exact this
  have HRD : Hid (∀ w' c1 c2, Ex0 w w' → w'.heap[c1]? = some (.cells #[.int .i64 n] 3 (0, 0)) → w'.heap[c2]? = some (.cells #[.slice A bl.length cap] 22 (0, 0)) → Calls Try.prog 17 #[.int .i64 v, .int .i64 n, .int .i64 a, .int .i64 b, .func (.func diskFn) #[] (diskCap c1 c2)] w' fun e w'' => ∃ A1 cap1, e = .returned (.tuple #[.agg (proofC v n a b BB A1 M cap1).toArray, .int .i64 0]) ∧ M ≤ cap1 ∧ Sl w'' 16 A1 M (rowN 16 PR) ∧ AllB 16 PR ∧ Ex0 w' w'') := fun w' c1 c2 hx h1 h2 => by
    have := aprove_yes v n a b hv1 hv hn1 hn ha hb diskFn (diskCap c1 c2) (blkAt bl) _ _ w' (reads_disk' v n hv hn c1 c2 bl hbl A cap w' ⟨h1, h2, hs.ex0 hx⟩)
    rw [← hN, ← hI, ← hPR, ← hM, ← hBB] at this
    exact this.mono fun e w'' ⟨A1, cap1, h1, h2, h3, h4, _, h5⟩ => ⟨A1, cap1, h1, h2, h3, h4, h5⟩
  have HRR : Hid (∀ (A' : Option Addr) (cap' : Nat) w', N ≤ cap' → Sl w' 16 A' N (rowN 16 (leafN (blkAt bl) n N)) → Calls Try.prog 15 #[.slice A' N cap'] w' fun e w'' => e = .returned (.agg (u8s RS).toArray) ∧ Ex0 w' w'') := fun A' cap' w' hc hsl => by
    have := rroot_aux N (leafN (blkAt bl) n N) A' cap' w' (by rw [leafN_len]; omega) (by rw [leafN_len]; omega) (by rw [leafN_len]; omega) (leafN_ok _ _ _) (by rw [leafN_len]; omega) (by rw [leafN_len]; exact hsl)
    rw [leafN_len, ← hRS] at this; exact this
  have HRP : Hid (∀ (A' : Option Addr) (cap' : Nat) w', N ≤ cap' → Sl w' 16 A' N (rowN 16 (leafN (blkAt bl) n N)) → Calls Try.prog 18 #[.slice A' N cap', .int .i64 I] w' fun e w'' => ∃ v, e = .returned v ∧ w''.ownsRow w'.heap.size 28 16 v M (rowN 16 PR) ∧ Ex0 w' w'') := fun A' cap' w' hc hsl => by
    have := rproof_aux N (leafN (blkAt bl) n N) I A' cap' w' (by rw [leafN_len]; omega) (by rw [leafN_len]; omega) (by rw [leafN_len]; omega) (by rw [leafN_len]; omega) (leafN_ok _ _ _) (by rw [leafN_len]; omega) (by rw [leafN_len]; exact hsl)
    rw [leafN_len, ← hPR, ← hM] at this; exact this
  have HCK : Hid (∀ (A1 : Option Addr) (cap1 : Nat) w', M ≤ cap1 → AllB 16 PR → Sl w' 16 A1 M (rowN 16 PR) → Calls Try.prog 19 #[.agg (u8s RS).toArray, .agg (proofC v n a b BB A1 M cap1).toArray] w' fun e w'' => e = .returned (.bool true) ∧ Ex0 w' w'') := fun A1 cap1 w' hc hok hsl => by
    have := acheck_any RS ht16 v n a b BB hBBok A1 cap1 PR hok (by omega) (by omega) w' (by rw [← hM]; exact hsl)
    rw [← hM, hRS, hBB, hPR, hN, hI, acheck_proof (blkAt bl) v n a b hv hn ha hb] at this
    rw [hRS, hBB, hN, hI]; exact this
  obtain ⟨L, hLe⟩ : ∃ L, L = bl.length := ⟨_, rfl⟩
  have HBL : Hid ((I < L → ∀ w', Ex0 w w' → ∃ g off, A = some ⟨g, off, none⟩ ∧ RowAt w' ⟨g, off + I * 32, none⟩ (u8s BB)) ∧ (¬ I < L → BB = z32)) := by
    refine ⟨fun h w' hx => ?_, fun h => ?_⟩
    · have e : bl.getD I [] = BB := by
        rw [hBB]; unfold blkAt
        simp [List.getD_eq_getElem?_getD, List.getElem?_eq_getElem (show I < bl.length by rw [← hLe]; exact h)]
      obtain ⟨g, off, hA, hr⟩ := (hs.ex0 hx).elemN (by decide) rfl (i := I) (by rw [← hLe]; exact h) (by rw [e]; exact hBBok.1)
      rw [e] at hr
      exact ⟨g, off, hA, hr⟩
    · rw [hBB]; unfold blkAt
      rw [List.getD_eq_getElem?_getD, List.getElem?_eq_none (by omega)]; rfl
  unfold provesArgs
  rw [← hLe] at HLV HRD hL i48 ⊢
  have HM := Lib.hid hM
  clear hN hI hq hPR hM hRS hBB hLe hs hbl hmb
  have HCU : Hid (Ex0 w w) := Ex.refl _ _
  go_enter Try.func4, Try.ntmps4
  go_wp2_with (first | (refine (awake_any _).mono ?_; rintro e w1 ⟨rfl, hx1⟩; have HCU := Lib.hid (HCU.out.trans0 hx1); clear hx1) | (refine (fits_any _ _ _).mono ?_; rintro e w' ⟨rfl, rfl⟩; rw [HF.out]) | (refine (disk_any _ _ _ _ _).mono ?_; rintro e w2 ⟨rfl, hk1, hk2, hx2⟩; have HCU := Lib.hid (HCU.out.trans0 hx2); have HRN := Lib.hid (HRD.out _ _ _ HCU.out hk1 hk2); clear hx2 hk1 hk2))
  refine HRN.out.mono ?_
  rintro e w3 ⟨A1, cap1, rfl, hc1, hsl1, hok1, hx3⟩
  have HCU := Lib.hid (HCU.out.trans0 hx3)
  have HCK1 : Hid (∀ w', Ex0 w3 w' → Calls Try.prog 19 #[.agg (u8s RS).toArray, .agg (proofC v n a b BB A1 M cap1).toArray] w' fun e w'' => e = .returned (.bool true) ∧ Ex0 w' w'') := fun w' hx => HCK.out A1 cap1 w' hc1 hok1 (hsl1.ex0 hx)
  have HSL1 := Lib.hid hsl1
  have HOK1 := Lib.hid hok1
  obtain ⟨PA, hPA⟩ : ∃ V, V = (proofC v n a b BB A1 M cap1).toArray := ⟨_, rfl⟩
  obtain ⟨VB, hVB⟩ : ∃ V, V = (u8s BB).toArray := ⟨_, rfl⟩
  have hvb : VB.size = 32 := by rw [hVB]; simp [u8s_len, hBBok.1]
  have hPl : PA.size = 37 := by rw [hPA]; simp [proofC, u8s_len, hBBok.1]
  have HPC : Hid (PA[0]? = some (.int .i64 v) ∧ PA[1]? = some (.int .i64 n) ∧ PA[2]? = some (.int .i64 a) ∧ PA[3]? = some (.int .i64 b) ∧ PA[36]? = some (.slice A1 M cap1)) := by
    refine ⟨?_, ?_, ?_, ?_, ?_⟩ <;> rw [hPA]
    · simp [proofC]
    · simp [proofC]
    · simp [proofC]
    · simp [proofC]
    · simp [proofC, u8s_len, hBBok.1]
  have HPR : Hid (∀ j u, VB.toList[j]? = some u → PA[4 + j]? = some u) := fun j u hu => by
    rw [hVB] at hu
    have hj : j < (u8s BB).length := (List.getElem?_eq_some_iff.1 hu).1
    rw [hPA]
    simp only [proofC, List.getElem?_toArray]
    rw [List.getElem?_append_right (by simp), show 4 + j - [Value.int IntKind.i64 v, Value.int IntKind.i64 n, Value.int IntKind.i64 a, Value.int IntKind.i64 b].length = j by simp, List.getElem?_append_left hj]
    exact hu
  have HPO : Hid (∀ u ∈ PA, u.oneCell' = true) := by show ∀ u ∈ PA, _; rw [hPA]; simpa using proofC_one v n a b BB A1 M cap1
  have HVO : Hid (∀ u ∈ VB, u.oneCell' = true) := by show ∀ u ∈ VB, _; rw [hVB]; simpa using u8s_one BB
  have HVZ : Hid (¬ I < L → VB = (u8s z32).toArray) := fun h => by rw [hVB, HBL.out.2 h]
  have HVR : Hid (I < L → ∀ w', Ex0 w w' → ∃ g off, A = some ⟨g, off, none⟩ ∧ RowAt w' ⟨g, off + I * 32, none⟩ VB.toList) := fun h w' hx => by rw [hVB]; exact HBL.out.1 h w' hx
  have heqB : ∀ w', (Op.equalIn 10000 24 (.agg VB) (.agg VB)).run Try.prog w' = .ok true w' := fun w' => by
    have := run_eql_bytes (P := Try.prog) w' 24 5 32 .u8 Try.underlying24 Try.underlying5 (by kernel_rfl) (fun w => by kernel_rfl) BB BB hBBok.1 hBBok.1
    rw [decide_eq_true rfl] at this
    rw [hVB]; exact this
  have hg1 : Try.prog.eqGuardType Try.prog.depth 24 = false := by kernel_rfl
  rw [← hPA] at HCK1 ⊢
  clear hx3 hsl1 hok1 hPA hVB
  by_cases hIL : I < L
  · have iIL : (I : Int) < (L : Int) := by omega
    obtain ⟨g, off, rfl, _⟩ := HVR.out hIL _ HCU.out
    have HVW : Hid (∀ w', Ex0 w w' → RowAt w' ⟨g, off + I * 32, none⟩ VB.toList) := fun w' hx => by
      obtain ⟨g', off', h1, h2⟩ := HVR.out hIL w' hx
      cases h1; exact h2
    go_wp2_with (first | (refine (fits_any _ _ _).mono ?_; rintro e w' ⟨rfl, rfl⟩; rw [HF.out]) | (refine wpList_store_all rfl 41 (.tmp 11) (.tmp 47) rfl w3.heap.size rfl PA _ rfl 41 (heap_alloc_new _ _) (by rw [hPl]; rfl) HPO.out (by rw [hPl]; kernel_rfl) ?_; rw [World.setRow_alloc_new]; obtain ⟨w5, hw5⟩ : ∃ w5, w5 = w3.alloc (.cells PA 41) := ⟨_, rfl⟩; rw [← hw5]; have HCU : Hid (Ex0 w w5) := (by rw [hw5]; exact HCU.out.alloc' _); have HX5 : Hid (Ex0 w3 w5) := (by rw [hw5]; exact Ex.alloc _ _); have H11 : Hid (w5.heap[w3.heap.size]? = some (.cells PA 41 (0, 0))) := (by rw [hw5]; exact heap_alloc_new _ _); clear hw5) | refine wpList_load_at rfl 24 (.tmp 116) rfl ⟨g, off + I * 32, none⟩ rfl VB.toList _ (HVW.out _ (HCU.out.alloc' _)) Try.underlying24 rfl (by rw [Array.length_toList, hvb]; kernel_rfl) ?_ | (refine wpList_store_all rfl 24 (.tmp 13) (.tmp 117) rfl w5.heap.size rfl VB _ rfl 24 (heap_alloc_new _ _) (by rw [hvb]; rfl) HVO.out (by rw [hvb]; kernel_rfl) ?_; rw [World.setRow_alloc_new]; obtain ⟨w6, hw6⟩ : ∃ w6, w6 = w5.alloc (.cells VB 24) := ⟨_, rfl⟩; rw [← hw6]; have HCU : Hid (Ex0 w w6) := (by rw [hw6]; exact HCU.out.alloc' _); have HX6 : Hid (Ex0 w5 w6) := (by rw [hw6]; exact Ex.alloc _ _); have H13 : Hid (w6.heap[w5.heap.size]? = some (.cells VB 24 (0, 0))) := (by rw [hw6]; exact heap_alloc_new _ _); clear hw6))
    refine (HLV.out _ HCU.out).mono ?_
    rintro e w8 ⟨vl, rfl, hol, hx8⟩
    have HOL := Lib.hid hol
    obtain ⟨A2, cap2, rfl, hsl2, _, _⟩ := own_sl' HOL.out
    have hcap2 : N ≤ cap2 := (by rcases HOL.out.2 with ⟨h, h0⟩ | ⟨g, cp', cur, h, _, _, h4, _⟩ <;> first | omega | (cases h; exact h4))
    have HRO2 : Hid (∀ w', Ex0 w8 w' → Calls Try.prog 15 #[.slice A2 N cap2] w' fun e w'' => e = .returned (.agg (u8s RS).toArray) ∧ Ex0 w' w'') := fun w' hx => HRR.out A2 cap2 w' hcap2 (hsl2.ex0 hx)
    have HRP2 := Lib.hid (HRP.out A2 cap2 w8 hcap2 hsl2)
    have HX8 : Hid (Ex0 w6 w8) := hx8
    have HCU := Lib.hid (HCU.out.trans0 hx8)
    clear hx8 hol hsl2 hcap2
    go_wp2_with fail
    refine HRP2.out.mono ?_
    rintro e w9 ⟨vw, rfl, how, hx9⟩
    have HOW := Lib.hid how
    obtain ⟨A3, cap3, rfl, hsl3, _, _⟩ := own_sl' HOW.out
    have HX9 : Hid (Ex0 w8 w9) := hx9
    have HCU := Lib.hid (HCU.out.trans0 hx9)
    have HSL3 := Lib.hid hsl3
    clear hx9 how hsl3
    have HX69 : Hid (Ex0 w6 w9) := HX8.out.trans0 HX9.out
    have HX59 : Hid (Ex0 w5 w9) := HX6.out.trans0 HX69.out
    have HS11 : Hid (w9.heap[w3.heap.size]? = some (.cells PA 41 (0, 0))) := (HX59.out.block _ (Array.getElem?_eq_some_iff.1 H11.out).1 not_false).trans H11.out
    have h13 : w9.heap[w5.heap.size]? = some (.cells VB 24 (0, 0)) := (HX69.out.block _ (Array.getElem?_eq_some_iff.1 H13.out).1 not_false).trans H13.out
    have c0 : w9.cell? ⟨w3.heap.size, 0, none⟩ = some (.int .i64 v) := by rw [cell_of_row _ _ _ _ _ _ HS11.out]; exact HPC.out.1
    have c1 : w9.cell? ⟨w3.heap.size, 1, none⟩ = some (.int .i64 n) := by rw [cell_of_row _ _ _ _ _ _ HS11.out]; exact HPC.out.2.1
    have c2 : w9.cell? ⟨w3.heap.size, 2, none⟩ = some (.int .i64 a) := by rw [cell_of_row _ _ _ _ _ _ HS11.out]; exact HPC.out.2.2.1
    have c3 : w9.cell? ⟨w3.heap.size, 3, none⟩ = some (.int .i64 b) := by rw [cell_of_row _ _ _ _ _ _ HS11.out]; exact HPC.out.2.2.2.1
    have c36 : w9.cell? ⟨w3.heap.size, 36, none⟩ = some (.slice A1 M cap1) := by rw [cell_of_row _ _ _ _ _ _ HS11.out]; exact HPC.out.2.2.2.2
    have HR : Hid (RowAt w9 ⟨w3.heap.size, 4, none⟩ VB.toList) := fun j u hu => by
      rw [Addr.add_lit, cell_of_row _ _ _ _ _ _ HS11.out]; exact HPR.out j u hu
    go_wp2_with (first | refine wpList_load_at_g rfl 24 (.tmp 156) rfl ⟨w3.heap.size, 4, none⟩ rfl VB.toList _ HR.out Try.underlying24 rfl (by rw [Array.length_toList, hvb]; kernel_rfl) ?_ | refine wpList_load_row_g rfl 24 (.tmp 13) rfl w5.heap.size rfl 24 VB (0, 0) _ h13 Try.underlying24 rfl (by rw [hvb]; kernel_rfl) ?_)
    clear c0 c1 c2 c3 c36 h13
    go_loopw [17, 171] (fun _ k wr => ∃ i : Nat, i ≤ M ∧ k = .int .i64 i ∧ Ex0 w9 wr) (fun _ k _ => M - (intOf k).toNat)
    case atStart => exact ⟨0, by omega, rfl, Ex.refl _ _⟩
    case round =>
      obtain ⟨i, hi, rfl, hx⟩ := hrel
      have HXR := Lib.hid hx
      have HSr : Hid (wr.heap[w3.heap.size]? = some (.cells PA 41 (0, 0))) := (hx.block _ (Array.getElem?_eq_some_iff.1 HS11.out).1 not_false).trans HS11.out
      clear hx
      by_cases hiM : i < M
      · have iiM : (i : Int) < (M : Int) := by omega
        obtain ⟨x, hx⟩ : ∃ x, x = PR.getD i [] := ⟨_, rfl⟩
        have hx16 : x.length = 16 := by
          have hl : i < PR.length := by rw [← HM.out]; exact hiM
          have := (HOK1.out (PR[i]) (List.getElem_mem hl)).1
          rw [hx]; simpa [List.getD_eq_getElem?_getD, List.getElem?_eq_getElem hl] using this
        obtain ⟨g1, o1, hA1, hr1⟩ := (HSL1.out.ex0 ((HX5.out.trans0 HX59.out).trans0 HXR.out)).elemN (by decide) HM.out (i := i) hiM (by rw [← hx]; exact hx16)
        obtain ⟨g3, o3, hA3, hr3⟩ := (HSL3.out.ex0 HXR.out).elemN (by decide) HM.out (i := i) hiM (by rw [← hx]; exact hx16)
        subst hA1
        subst hA3
        rw [← hx] at hr1 hr3
        obtain ⟨VX, hVX⟩ : ∃ V, V = (u8s x).toArray := ⟨_, rfl⟩
        have hvx : VX.size = 16 := by rw [hVX]; simp [u8s_len, hx16]
        have hvl : u8s x = VX.toList := by rw [hVX]
        have heqX : ∀ w', (Op.equalIn 10000 28 (.agg VX) (.agg VX)).run Try.prog w' = .ok true w' := fun w' => by
          have := run_eql_bytes (P := Try.prog) w' 28 5 16 .u8 Try.underlying28 Try.underlying5 (by kernel_rfl) (fun w => by kernel_rfl) x x hx16 hx16
          rw [decide_eq_true rfl] at this
          rw [hVX]; exact this
        have hg2 : Try.prog.eqGuardType Try.prog.depth 28 = false := by kernel_rfl
        rw [hvl] at hr1 hr3
        clear hx hVX hvl
        go_wp2_with fail
        have c36 : wr.cell? ⟨w3.heap.size, 36, none⟩ = some (.slice (some ⟨g1, o1, none⟩) M cap1) := by rw [cell_of_row _ _ _ _ _ _ HSr.out]; exact HPC.out.2.2.2.2
        have hS : wr.drew.cell? ⟨w3.heap.size, 36, none⟩ = some (.slice (some ⟨g1, o1, none⟩) M cap1) ∧ RowAt wr.drew ⟨g1, o1 + i * 16, none⟩ VX.toList ∧ RowAt wr.drew ⟨g3, o3 + i * 16, none⟩ VX.toList := ⟨c36, hr1, hr3⟩
        have HLA1 : Hid (∀ (o : Oper) (a : Act) (w' : World), o.op = .load 28 (.tmp 177) → a.eval (.tmp 177) = .pointer (some ⟨g1, o1 + i * 16, none⟩) → RowAt w' ⟨g1, o1 + i * 16, none⟩ VX.toList → (execOp a.eval o).run Try.prog w' = .ok (.value (.agg VX)) w') := fun o a w' h1 h2 h3 => exec_load_at 28 (.tmp 177) h1 _ h2 VX.toList _ h3 Try.underlying28 rfl (by rw [Array.length_toList, hvx]; kernel_rfl)
        have HLA3 : Hid (∀ (o : Oper) (a : Act) (w' : World), o.op = .load 28 (.tmp 181) → a.eval (.tmp 181) = .pointer (some ⟨g3, o3 + i * 16, none⟩) → RowAt w' ⟨g3, o3 + i * 16, none⟩ VX.toList → (execOp a.eval o).run Try.prog w' = .ok (.value (.agg VX)) w') := fun o a w' h1 h2 h3 => exec_load_at 28 (.tmp 181) h1 _ h2 VX.toList _ h3 Try.underlying28 rfl (by rw [Array.length_toList, hvx]; kernel_rfl)
        clear hr1 hr3 c36
        refine wp_region_takes (fun w1 => w1.cell? ⟨w3.heap.size, 36, none⟩ = some (.slice (some ⟨g1, o1, none⟩) M cap1) ∧ RowAt w1 ⟨g1, o1 + i * 16, none⟩ VX.toList ∧ RowAt w1 ⟨g3, o3 + i * 16, none⟩ VX.toList) (by kernel_rfl) ?_
        simp only [List.length_cons, List.length_nil]
        refine' wpAnyH_do 0 rfl (by kernel_rfl) (fun _ _ _ _ h => h) (by rfl) (by assumption) ⟨_, fun w' hS => ?_, ?_⟩
        rotate_left
        · ((try dsimp only at hS); go_split_ands; go_simp; try (with_reducible rfl))
        simp only [Act.put, List.setIfInBounds_toArray, List.set_cons_zero, List.set_cons_succ]
        refine' wpAnyH_do 1 rfl (by kernel_rfl) (fun _ _ _ _ h => h) (by rfl) (by assumption) ⟨_, fun w' hS => ?_, ?_⟩
        rotate_left
        · ((try dsimp only at hS); go_split_ands; go_simp; try (with_reducible rfl))
        simp only [Act.put, List.setIfInBounds_toArray, List.set_cons_zero, List.set_cons_succ]
        refine' wpAnyH_do 2 rfl (by kernel_rfl) (fun _ _ _ _ h => h) (by rfl) (by assumption) ⟨_, fun w' hS => ?_, ?_⟩
        rotate_left
        · ((try dsimp only at hS); go_split_ands; go_simp; try (with_reducible rfl))
        simp only [Act.put, List.setIfInBounds_toArray, List.set_cons_zero, List.set_cons_succ]
        refine' wpAnyH_do 3 rfl (by kernel_rfl) (fun _ _ _ _ h => h) (by rfl) (by assumption) ⟨_, fun w' hS => ?_, ?_⟩
        rotate_left
        · ((try dsimp only at hS); go_split_ands; go_simp; try (with_reducible rfl))
        simp only [Act.put, List.setIfInBounds_toArray, List.set_cons_zero, List.set_cons_succ]
        refine' wpAnyH_do 4 rfl (by kernel_rfl) (fun _ _ _ _ h => h) (by rfl) (by assumption) ⟨_, fun w' hS => HLA1.out _ _ _ rfl rfl hS.2.1, ?_⟩
        simp only [Act.put, List.setIfInBounds_toArray, List.set_cons_zero, List.set_cons_succ]
        refine' wpAnyH_do 5 rfl (by kernel_rfl) (fun _ _ _ _ h => h) (by rfl) (by assumption) ⟨_, fun w' hS => ?_, ?_⟩
        rotate_left
        · ((try dsimp only at hS); go_split_ands; go_simp; try (with_reducible rfl))
        simp only [Act.put, List.setIfInBounds_toArray, List.set_cons_zero, List.set_cons_succ]
        refine' wpAnyH_do 6 rfl (by kernel_rfl) (fun _ _ _ _ h => h) (by rfl) (by assumption) ⟨_, fun w' hS => ?_, ?_⟩
        rotate_left
        · ((try dsimp only at hS); go_split_ands; go_simp; try (with_reducible rfl))
        simp only [Act.put, List.setIfInBounds_toArray, List.set_cons_zero, List.set_cons_succ]
        refine' wpAnyH_do 7 rfl (by kernel_rfl) (fun _ _ _ _ h => h) (by rfl) (by assumption) ⟨_, fun w' hS => ?_, ?_⟩
        rotate_left
        · ((try dsimp only at hS); go_split_ands; go_simp; try (with_reducible rfl))
        simp only [Act.put, List.setIfInBounds_toArray, List.set_cons_zero, List.set_cons_succ]
        refine' wpAnyH_do 8 rfl (by kernel_rfl) (fun _ _ _ _ h => h) (by rfl) (by assumption) ⟨_, fun w' hS => HLA3.out _ _ _ rfl rfl hS.2.2, ?_⟩
        simp only [Act.put, List.setIfInBounds_toArray, List.set_cons_zero, List.set_cons_succ]
        refine' wpAnyH_do 9 rfl (by kernel_rfl) (fun _ _ _ _ h => h) (by rfl) (by assumption) ⟨_, fun w' hS => ?_, ?_⟩
        rotate_left
        · ((try dsimp only at hS); go_split_ands; go_simp; try (with_reducible rfl))
        simp only [Act.put, List.setIfInBounds_toArray, List.set_cons_zero, List.set_cons_succ]
        refine wpAnyH_done (by kernel_rfl) ?_ _
        go_wp2_with fail
        go_roundw
        case rel => exact ⟨i + 1, by omega, by go_num, HXR.out.drew'⟩
        case measure => simp [intOf]; omega
      · have iiM : ¬ (i : Int) < (M : Int) := by omega
        go_wp2_with fail
        have hS : wr.drew.heap[w3.heap.size]? = some (.cells PA 41 (0, 0)) := HSr.out
        have HXR := Lib.hid HXR.out.drew'
        have HLD : Hid (∀ (o : Oper) (a : Act) (w' : World), o.op = .load 41 (.tmp 11) → a.eval (.tmp 11) = .pointer (some ⟨w3.heap.size, 0, none⟩) → w'.heap[w3.heap.size]? = some (.cells PA 41 (0, 0)) → (execOp a.eval o).run Try.prog w' = .ok (.value (.agg PA)) w') := fun o a w' h1 h2 h3 => exec_load_row 41 (.tmp 11) h1 _ h2 _ PA _ _ h3 Try.underlying41 rfl (by rw [hPl]; kernel_rfl)
        refine wp_region_takes (fun w1 => w1.heap[w3.heap.size]? = some (.cells PA 41 (0, 0))) (by kernel_rfl) ?_
        simp only [List.length_cons, List.length_nil]
        refine' wpAnyH_do 0 rfl (by kernel_rfl) (fun _ _ _ _ h => h) (by rfl) (by assumption) ⟨_, fun w' hS => ?_, ?_⟩
        rotate_left
        · ((try dsimp only at hS); go_split_ands; go_simp; try (with_reducible rfl))
        simp only [Act.put, List.setIfInBounds_toArray, List.set_cons_zero, List.set_cons_succ]
        refine' wpAnyH_do 2 rfl (by kernel_rfl) (fun _ _ _ _ h => h) (by rfl) (by assumption) ⟨_, fun w' hS => HLD.out _ _ _ rfl rfl hS, ?_⟩
        simp only [Act.put, List.setIfInBounds_toArray, List.set_cons_zero, List.set_cons_succ]
        refine wpAnyH_eff 1 rfl (by kernel_rfl) (by rfl) (fun K hK => ?_)
        have HKK := Lib.hid hK
        clear hK
        go_simp
        refine (HRO2.out _ (HX9.out.trans0 HXR.out)).mono ?_
        rintro e w10 ⟨rfl, hx10⟩
        have hS10 := (hx10.block _ (Array.getElem?_eq_some_iff.1 hS).1 not_false).trans hS
        have HXR := Lib.hid (HXR.out.trans0 hx10)
        clear hx10 hS
        dsimp only
        refine HKK.out _ _ hS10 ?_
        clear HKK K
        refine wpAnyH_eff 3 rfl (by kernel_rfl) (by rfl) (fun K hK => ?_)
        have HKK := Lib.hid hK
        clear hK
        go_simp
        refine (HCK1.out _ ((HX5.out.trans0 HX59.out).trans0 HXR.out)).mono ?_
        rintro e w11 ⟨rfl, hx11⟩
        have hS11 := (hx11.block _ (Array.getElem?_eq_some_iff.1 hS10).1 not_false).trans hS10
        have HXR := Lib.hid (HXR.out.trans0 hx11)
        clear hx11 hS10
        dsimp only
        refine HKK.out _ _ hS11 ?_
        clear HKK K
        refine' wpAnyH_do 4 rfl (by kernel_rfl) (fun _ _ _ _ h => h) (by rfl) (by assumption) ⟨_, fun w' hS => ?_, ?_⟩
        rotate_left
        · ((try dsimp only at hS); go_split_ands; go_simp; try (with_reducible rfl))
        simp only [Act.put, List.setIfInBounds_toArray, List.set_cons_zero, List.set_cons_succ]
        refine wpAnyH_done (by kernel_rfl) ?_ _
        go_wp2_with fail
        go_ret
        exact ⟨rfl, low_of_ex (HCU.out.trans0 HXR.out)⟩
  · have iIL : ¬ (I : Int) < (L : Int) := by omega
    go_wp2_with (first | (refine (fits_any _ _ _).mono ?_; rintro e w' ⟨rfl, rfl⟩; rw [HF.out]) | (refine wpList_store_all rfl 41 (.tmp 11) (.tmp 47) rfl w3.heap.size rfl PA _ rfl 41 (heap_alloc_new _ _) (by rw [hPl]; rfl) HPO.out (by rw [hPl]; kernel_rfl) ?_; rw [World.setRow_alloc_new]; obtain ⟨w5, hw5⟩ : ∃ w5, w5 = w3.alloc (.cells PA 41) := ⟨_, rfl⟩; rw [← hw5]; have HCU : Hid (Ex0 w w5) := (by rw [hw5]; exact HCU.out.alloc' _); have HX5 : Hid (Ex0 w3 w5) := (by rw [hw5]; exact Ex.alloc _ _); have H11 : Hid (w5.heap[w3.heap.size]? = some (.cells PA 41 (0, 0))) := (by rw [hw5]; exact heap_alloc_new _ _); clear hw5))
    generalize hW6 : World.alloc w5 _ = w6
    have HX6 : Hid (Ex0 w5 w6) := by show Ex0 w5 w6; rw [← hW6]; exact Ex.alloc _ _
    have HCU : Hid (Ex0 w w6) := HCU.out.trans0 HX6.out
    have H13 : Hid (w6.heap[w5.heap.size]? = some (.cells VB 24 (0, 0))) := by show _ = _; rw [← hW6, HVZ.out hIL]; exact heap_alloc_new _ _
    clear hW6
    refine (HLV.out _ HCU.out).mono ?_
    rintro e w8 ⟨vl, rfl, hol, hx8⟩
    have HOL := Lib.hid hol
    obtain ⟨A2, cap2, rfl, hsl2, _, _⟩ := own_sl' HOL.out
    have hcap2 : N ≤ cap2 := (by rcases HOL.out.2 with ⟨h, h0⟩ | ⟨g, cp', cur, h, _, _, h4, _⟩ <;> first | omega | (cases h; exact h4))
    have HRO2 : Hid (∀ w', Ex0 w8 w' → Calls Try.prog 15 #[.slice A2 N cap2] w' fun e w'' => e = .returned (.agg (u8s RS).toArray) ∧ Ex0 w' w'') := fun w' hx => HRR.out A2 cap2 w' hcap2 (hsl2.ex0 hx)
    have HRP2 := Lib.hid (HRP.out A2 cap2 w8 hcap2 hsl2)
    have HX8 : Hid (Ex0 w6 w8) := hx8
    have HCU := Lib.hid (HCU.out.trans0 hx8)
    clear hx8 hol hsl2 hcap2
    go_wp2_with fail
    refine HRP2.out.mono ?_
    rintro e w9 ⟨vw, rfl, how, hx9⟩
    have HOW := Lib.hid how
    obtain ⟨A3, cap3, rfl, hsl3, _, _⟩ := own_sl' HOW.out
    have HX9 : Hid (Ex0 w8 w9) := hx9
    have HCU := Lib.hid (HCU.out.trans0 hx9)
    have HSL3 := Lib.hid hsl3
    clear hx9 how hsl3
    have HX69 : Hid (Ex0 w6 w9) := HX8.out.trans0 HX9.out
    have HX59 : Hid (Ex0 w5 w9) := HX6.out.trans0 HX69.out
    have HS11 : Hid (w9.heap[w3.heap.size]? = some (.cells PA 41 (0, 0))) := (HX59.out.block _ (Array.getElem?_eq_some_iff.1 H11.out).1 not_false).trans H11.out
    have h13 : w9.heap[w5.heap.size]? = some (.cells VB 24 (0, 0)) := (HX69.out.block _ (Array.getElem?_eq_some_iff.1 H13.out).1 not_false).trans H13.out
    have c0 : w9.cell? ⟨w3.heap.size, 0, none⟩ = some (.int .i64 v) := by rw [cell_of_row _ _ _ _ _ _ HS11.out]; exact HPC.out.1
    have c1 : w9.cell? ⟨w3.heap.size, 1, none⟩ = some (.int .i64 n) := by rw [cell_of_row _ _ _ _ _ _ HS11.out]; exact HPC.out.2.1
    have c2 : w9.cell? ⟨w3.heap.size, 2, none⟩ = some (.int .i64 a) := by rw [cell_of_row _ _ _ _ _ _ HS11.out]; exact HPC.out.2.2.1
    have c3 : w9.cell? ⟨w3.heap.size, 3, none⟩ = some (.int .i64 b) := by rw [cell_of_row _ _ _ _ _ _ HS11.out]; exact HPC.out.2.2.2.1
    have c36 : w9.cell? ⟨w3.heap.size, 36, none⟩ = some (.slice A1 M cap1) := by rw [cell_of_row _ _ _ _ _ _ HS11.out]; exact HPC.out.2.2.2.2
    have HR : Hid (RowAt w9 ⟨w3.heap.size, 4, none⟩ VB.toList) := fun j u hu => by
      rw [Addr.add_lit, cell_of_row _ _ _ _ _ _ HS11.out]; exact HPR.out j u hu
    go_wp2_with (first | refine wpList_load_at_g rfl 24 (.tmp 156) rfl ⟨w3.heap.size, 4, none⟩ rfl VB.toList _ HR.out Try.underlying24 rfl (by rw [Array.length_toList, hvb]; kernel_rfl) ?_ | refine wpList_load_row_g rfl 24 (.tmp 13) rfl w5.heap.size rfl 24 VB (0, 0) _ h13 Try.underlying24 rfl (by rw [hvb]; kernel_rfl) ?_)
    clear c0 c1 c2 c3 c36 h13
    go_loopw [17, 171] (fun _ k wr => ∃ i : Nat, i ≤ M ∧ k = .int .i64 i ∧ Ex0 w9 wr) (fun _ k _ => M - (intOf k).toNat)
    case atStart => exact ⟨0, by omega, rfl, Ex.refl _ _⟩
    case round =>
      obtain ⟨i, hi, rfl, hx⟩ := hrel
      have HXR := Lib.hid hx
      have HSr : Hid (wr.heap[w3.heap.size]? = some (.cells PA 41 (0, 0))) := (hx.block _ (Array.getElem?_eq_some_iff.1 HS11.out).1 not_false).trans HS11.out
      clear hx
      by_cases hiM : i < M
      · have iiM : (i : Int) < (M : Int) := by omega
        obtain ⟨x, hx⟩ : ∃ x, x = PR.getD i [] := ⟨_, rfl⟩
        have hx16 : x.length = 16 := by
          have hl : i < PR.length := by rw [← HM.out]; exact hiM
          have := (HOK1.out (PR[i]) (List.getElem_mem hl)).1
          rw [hx]; simpa [List.getD_eq_getElem?_getD, List.getElem?_eq_getElem hl] using this
        obtain ⟨g1, o1, hA1, hr1⟩ := (HSL1.out.ex0 ((HX5.out.trans0 HX59.out).trans0 HXR.out)).elemN (by decide) HM.out (i := i) hiM (by rw [← hx]; exact hx16)
        obtain ⟨g3, o3, hA3, hr3⟩ := (HSL3.out.ex0 HXR.out).elemN (by decide) HM.out (i := i) hiM (by rw [← hx]; exact hx16)
        subst hA1
        subst hA3
        rw [← hx] at hr1 hr3
        obtain ⟨VX, hVX⟩ : ∃ V, V = (u8s x).toArray := ⟨_, rfl⟩
        have hvx : VX.size = 16 := by rw [hVX]; simp [u8s_len, hx16]
        have hvl : u8s x = VX.toList := by rw [hVX]
        have heqX : ∀ w', (Op.equalIn 10000 28 (.agg VX) (.agg VX)).run Try.prog w' = .ok true w' := fun w' => by
          have := run_eql_bytes (P := Try.prog) w' 28 5 16 .u8 Try.underlying28 Try.underlying5 (by kernel_rfl) (fun w => by kernel_rfl) x x hx16 hx16
          rw [decide_eq_true rfl] at this
          rw [hVX]; exact this
        have hg2 : Try.prog.eqGuardType Try.prog.depth 28 = false := by kernel_rfl
        rw [hvl] at hr1 hr3
        clear hx hVX hvl
        go_wp2_with fail
        have c36 : wr.cell? ⟨w3.heap.size, 36, none⟩ = some (.slice (some ⟨g1, o1, none⟩) M cap1) := by rw [cell_of_row _ _ _ _ _ _ HSr.out]; exact HPC.out.2.2.2.2
        have hS : wr.drew.cell? ⟨w3.heap.size, 36, none⟩ = some (.slice (some ⟨g1, o1, none⟩) M cap1) ∧ RowAt wr.drew ⟨g1, o1 + i * 16, none⟩ VX.toList ∧ RowAt wr.drew ⟨g3, o3 + i * 16, none⟩ VX.toList := ⟨c36, hr1, hr3⟩
        have HLA1 : Hid (∀ (o : Oper) (a : Act) (w' : World), o.op = .load 28 (.tmp 177) → a.eval (.tmp 177) = .pointer (some ⟨g1, o1 + i * 16, none⟩) → RowAt w' ⟨g1, o1 + i * 16, none⟩ VX.toList → (execOp a.eval o).run Try.prog w' = .ok (.value (.agg VX)) w') := fun o a w' h1 h2 h3 => exec_load_at 28 (.tmp 177) h1 _ h2 VX.toList _ h3 Try.underlying28 rfl (by rw [Array.length_toList, hvx]; kernel_rfl)
        have HLA3 : Hid (∀ (o : Oper) (a : Act) (w' : World), o.op = .load 28 (.tmp 181) → a.eval (.tmp 181) = .pointer (some ⟨g3, o3 + i * 16, none⟩) → RowAt w' ⟨g3, o3 + i * 16, none⟩ VX.toList → (execOp a.eval o).run Try.prog w' = .ok (.value (.agg VX)) w') := fun o a w' h1 h2 h3 => exec_load_at 28 (.tmp 181) h1 _ h2 VX.toList _ h3 Try.underlying28 rfl (by rw [Array.length_toList, hvx]; kernel_rfl)
        clear hr1 hr3 c36
        refine wp_region_takes (fun w1 => w1.cell? ⟨w3.heap.size, 36, none⟩ = some (.slice (some ⟨g1, o1, none⟩) M cap1) ∧ RowAt w1 ⟨g1, o1 + i * 16, none⟩ VX.toList ∧ RowAt w1 ⟨g3, o3 + i * 16, none⟩ VX.toList) (by kernel_rfl) ?_
        simp only [List.length_cons, List.length_nil]
        refine' wpAnyH_do 0 rfl (by kernel_rfl) (fun _ _ _ _ h => h) (by rfl) (by assumption) ⟨_, fun w' hS => ?_, ?_⟩
        rotate_left
        · ((try dsimp only at hS); go_split_ands; go_simp; try (with_reducible rfl))
        simp only [Act.put, List.setIfInBounds_toArray, List.set_cons_zero, List.set_cons_succ]
        refine' wpAnyH_do 1 rfl (by kernel_rfl) (fun _ _ _ _ h => h) (by rfl) (by assumption) ⟨_, fun w' hS => ?_, ?_⟩
        rotate_left
        · ((try dsimp only at hS); go_split_ands; go_simp; try (with_reducible rfl))
        simp only [Act.put, List.setIfInBounds_toArray, List.set_cons_zero, List.set_cons_succ]
        refine' wpAnyH_do 2 rfl (by kernel_rfl) (fun _ _ _ _ h => h) (by rfl) (by assumption) ⟨_, fun w' hS => ?_, ?_⟩
        rotate_left
        · ((try dsimp only at hS); go_split_ands; go_simp; try (with_reducible rfl))
        simp only [Act.put, List.setIfInBounds_toArray, List.set_cons_zero, List.set_cons_succ]
        refine' wpAnyH_do 3 rfl (by kernel_rfl) (fun _ _ _ _ h => h) (by rfl) (by assumption) ⟨_, fun w' hS => ?_, ?_⟩
        rotate_left
        · ((try dsimp only at hS); go_split_ands; go_simp; try (with_reducible rfl))
        simp only [Act.put, List.setIfInBounds_toArray, List.set_cons_zero, List.set_cons_succ]
        refine' wpAnyH_do 4 rfl (by kernel_rfl) (fun _ _ _ _ h => h) (by rfl) (by assumption) ⟨_, fun w' hS => HLA1.out _ _ _ rfl rfl hS.2.1, ?_⟩
        simp only [Act.put, List.setIfInBounds_toArray, List.set_cons_zero, List.set_cons_succ]
        refine' wpAnyH_do 5 rfl (by kernel_rfl) (fun _ _ _ _ h => h) (by rfl) (by assumption) ⟨_, fun w' hS => ?_, ?_⟩
        rotate_left
        · ((try dsimp only at hS); go_split_ands; go_simp; try (with_reducible rfl))
        simp only [Act.put, List.setIfInBounds_toArray, List.set_cons_zero, List.set_cons_succ]
        refine' wpAnyH_do 6 rfl (by kernel_rfl) (fun _ _ _ _ h => h) (by rfl) (by assumption) ⟨_, fun w' hS => ?_, ?_⟩
        rotate_left
        · ((try dsimp only at hS); go_split_ands; go_simp; try (with_reducible rfl))
        simp only [Act.put, List.setIfInBounds_toArray, List.set_cons_zero, List.set_cons_succ]
        refine' wpAnyH_do 7 rfl (by kernel_rfl) (fun _ _ _ _ h => h) (by rfl) (by assumption) ⟨_, fun w' hS => ?_, ?_⟩
        rotate_left
        · ((try dsimp only at hS); go_split_ands; go_simp; try (with_reducible rfl))
        simp only [Act.put, List.setIfInBounds_toArray, List.set_cons_zero, List.set_cons_succ]
        refine' wpAnyH_do 8 rfl (by kernel_rfl) (fun _ _ _ _ h => h) (by rfl) (by assumption) ⟨_, fun w' hS => HLA3.out _ _ _ rfl rfl hS.2.2, ?_⟩
        simp only [Act.put, List.setIfInBounds_toArray, List.set_cons_zero, List.set_cons_succ]
        refine' wpAnyH_do 9 rfl (by kernel_rfl) (fun _ _ _ _ h => h) (by rfl) (by assumption) ⟨_, fun w' hS => ?_, ?_⟩
        rotate_left
        · ((try dsimp only at hS); go_split_ands; go_simp; try (with_reducible rfl))
        simp only [Act.put, List.setIfInBounds_toArray, List.set_cons_zero, List.set_cons_succ]
        refine wpAnyH_done (by kernel_rfl) ?_ _
        go_wp2_with fail
        go_roundw
        case rel => exact ⟨i + 1, by omega, by go_num, HXR.out.drew'⟩
        case measure => simp [intOf]; omega
      · have iiM : ¬ (i : Int) < (M : Int) := by omega
        go_wp2_with fail
        have hS : wr.drew.heap[w3.heap.size]? = some (.cells PA 41 (0, 0)) := HSr.out
        have HXR := Lib.hid HXR.out.drew'
        have HLD : Hid (∀ (o : Oper) (a : Act) (w' : World), o.op = .load 41 (.tmp 11) → a.eval (.tmp 11) = .pointer (some ⟨w3.heap.size, 0, none⟩) → w'.heap[w3.heap.size]? = some (.cells PA 41 (0, 0)) → (execOp a.eval o).run Try.prog w' = .ok (.value (.agg PA)) w') := fun o a w' h1 h2 h3 => exec_load_row 41 (.tmp 11) h1 _ h2 _ PA _ _ h3 Try.underlying41 rfl (by rw [hPl]; kernel_rfl)
        refine wp_region_takes (fun w1 => w1.heap[w3.heap.size]? = some (.cells PA 41 (0, 0))) (by kernel_rfl) ?_
        simp only [List.length_cons, List.length_nil]
        refine' wpAnyH_do 0 rfl (by kernel_rfl) (fun _ _ _ _ h => h) (by rfl) (by assumption) ⟨_, fun w' hS => ?_, ?_⟩
        rotate_left
        · ((try dsimp only at hS); go_split_ands; go_simp; try (with_reducible rfl))
        simp only [Act.put, List.setIfInBounds_toArray, List.set_cons_zero, List.set_cons_succ]
        refine' wpAnyH_do 2 rfl (by kernel_rfl) (fun _ _ _ _ h => h) (by rfl) (by assumption) ⟨_, fun w' hS => HLD.out _ _ _ rfl rfl hS, ?_⟩
        simp only [Act.put, List.setIfInBounds_toArray, List.set_cons_zero, List.set_cons_succ]
        refine wpAnyH_eff 1 rfl (by kernel_rfl) (by rfl) (fun K hK => ?_)
        have HKK := Lib.hid hK
        clear hK
        go_simp
        refine (HRO2.out _ (HX9.out.trans0 HXR.out)).mono ?_
        rintro e w10 ⟨rfl, hx10⟩
        have hS10 := (hx10.block _ (Array.getElem?_eq_some_iff.1 hS).1 not_false).trans hS
        have HXR := Lib.hid (HXR.out.trans0 hx10)
        clear hx10 hS
        dsimp only
        refine HKK.out _ _ hS10 ?_
        clear HKK K
        refine wpAnyH_eff 3 rfl (by kernel_rfl) (by rfl) (fun K hK => ?_)
        have HKK := Lib.hid hK
        clear hK
        go_simp
        refine (HCK1.out _ ((HX5.out.trans0 HX59.out).trans0 HXR.out)).mono ?_
        rintro e w11 ⟨rfl, hx11⟩
        have hS11 := (hx11.block _ (Array.getElem?_eq_some_iff.1 hS10).1 not_false).trans hS10
        have HXR := Lib.hid (HXR.out.trans0 hx11)
        clear hx11 hS10
        dsimp only
        refine HKK.out _ _ hS11 ?_
        clear HKK K
        refine' wpAnyH_do 4 rfl (by kernel_rfl) (fun _ _ _ _ h => h) (by rfl) (by assumption) ⟨_, fun w' hS => ?_, ?_⟩
        rotate_left
        · ((try dsimp only at hS); go_split_ands; go_simp; try (with_reducible rfl))
        simp only [Act.put, List.setIfInBounds_toArray, List.set_cons_zero, List.set_cons_succ]
        refine wpAnyH_done (by kernel_rfl) ?_ _
        go_wp2_with fail
        go_ret
        exact ⟨rfl, low_of_ex (HCU.out.trans0 HXR.out)⟩
end Go.Proofs.Ythbdmfbjkkmplaa
