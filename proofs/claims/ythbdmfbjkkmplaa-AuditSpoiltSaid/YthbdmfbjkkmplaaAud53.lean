/- The walk of AuditSpoilt: as far as the three proofs. -/
import Derived.Test.YthbdmfbjkkmplaaAud51
import Derived.Test.YthbdmfbjkkmplaaAud52
import Derived.Test.YthbdmfbjkkmplaaB10
import Derived.Deep.CutRange
namespace Go.Proofs.Ythbdmfbjkkmplaa
open Go.RowKit Go.Proofs.YthbdmfbjkkmplaaB Go.Proofs.Ythbdmfbjkkmplaa.Sha

/-- a proof with another slice -/
theorem proof_set36 (v n a b : Int) (B : List Nat) (hB : B.length = 32) (A A2 : Option Addr) (m m2 cap cap2 : Nat) : (proofC v n a b B A m cap).toArray.setIfInBounds 36 (.slice A2 m2 cap2) = (proofC v n a b B A2 m2 cap2).toArray := by
  have h1 : (u8s B).length = 32 := by rw [u8s_len]; exact hB
  simp [proofC, List.set_append, h1]
theorem three_at (P L M : Array Value) (hP : P.size = 37) (hL : L.size = 37) (hM : M.size = 37) (k : Nat) (hk : k < 3) (j : Nat) (u : Value) (hu : (([P, L, M].getD k #[]).toList)[j]? = some u) :
    (([Value.agg P, .agg L, .agg M].flatMap fun v => v.cells.toList).toArray)[k * 37 + j]? = some u := by
  have e : ([Value.agg P, .agg L, .agg M].flatMap fun v => v.cells.toList) = P.toList ++ (L.toList ++ M.toList) := by simp [Value.cells]
  rw [e, List.getElem?_toArray]
  have hj := (List.getElem?_eq_some_iff.1 hu).1
  rcases (by omega : k = 0 ∨ k = 1 ∨ k = 2) with rfl | rfl | rfl
  · have hu' : P.toList[j]? = some u := hu
    have hj' : j < P.toList.length := hj
    rw [List.getElem?_append_left (by omega)]; simpa using hu'
  · have hu' : L.toList[j]? = some u := hu
    have hj' : j < L.toList.length := hj
    rw [List.getElem?_append_right (by simp [hP]), List.getElem?_append_left (by simp [hP] at hj' ⊢; omega)]
    rw [← hu']; congr 1; simp [hP]
  · have hu' : M.toList[j]? = some u := hu
    rw [List.getElem?_append_right (by simp [hP]; omega), List.getElem?_append_right (by simp [hP, hL]; omega)]
    rw [← hu']; congr 1; simp [hP, hL]; omega
/-- the longer proof is laid -/
def Longer (b18 M : Nat) (v n a b : Int) (BB : List Nat) (ls : List (List Nat)) (w w' : World) : Prop :=
  ∃ A2 cap2, M + 1 ≤ cap2 ∧ Sl w' 16 A2 (M + 1) (rowN 16 ls) ∧ w'.heap[b18]? = some (.cells (proofC v n a b BB A2 (M + 1) cap2).toArray 41 (0, 0)) ∧ Ex (· = b18) w w'

set_option maxRecDepth 100000 in
set_option maxHeartbeats 2000000 in
theorem spoilt_small (A : Option Addr) (bl : List (List Nat)) (cap : Nat) (hL : bl.length ≤ 24) (hbl : AllB 32 bl) (x y : Nat) (hx256 : x < 256) (hy256 : y < 256) (B S : List Nat) (hB : B.length = 32 ∧ ∀ y ∈ B, y < 256) (hS : S.length = 16 ∧ ∀ y ∈ S, y < 256) (w : World) (hs : Sl w 32 A bl.length (rowN 32 bl)) :
    Calls Try.prog 6 (spoiltArgs A bl.length cap x y B S) w fun e w' => e = .returned (.bool true) ∧ Below w.heap.size w w' := by
  obtain ⟨n, hn⟩ : ∃ n : Nat, n = 1 + x % 24 := ⟨_, rfl⟩
  have hn1 : 1 ≤ n ∧ n ≤ 24 := by omega
  obtain ⟨b, hb⟩ : ∃ b : Nat, b = y % n := ⟨_, rfl⟩
  have hbn : b < n := by rw [hb]; exact Nat.mod_lt _ (by omega)
  have hni : (1 : Int) + (x : Int) % 24 = (n : Int) := by omega
  have hnb : (y : Int) % (n : Int) = (b : Int) := by rw [hb]; simp
  have i24 : ¬ (24 : Int) < (bl.length : Int) := by omega
  obtain ⟨LV, hLV⟩ : ∃ V, V = leafN (blkAt bl) n n := ⟨_, rfl⟩
  obtain ⟨RS, hRS⟩ : ∃ R, R = treeS LV := ⟨_, rfl⟩
  have ht16 : RS.length = 16 := by rw [hRS, hLV]; exact treeS_len (by rw [leafN_len]; omega)
  obtain ⟨PR, hPR⟩ : ∃ P, P = proofS LV b := ⟨_, rfl⟩
  obtain ⟨M, hM⟩ : ∃ M, M = PR.length := ⟨_, rfl⟩
  obtain ⟨BB, hBB⟩ : ∃ V, V = blkAt bl b := ⟨_, rfl⟩
  have hMle : M ≤ n := by
    have := proofS_len_le n LV b (by rw [hLV, leafN_len]; omega)
    rw [hLV, leafN_len] at this
    rw [hM, hPR, hLV]; exact this
  have HRT : Hid (∀ w' c1 c2, Ex0 w w' → w'.heap[c1]? = some (.cells #[.int .i64 n] 3 (0, 0)) → w'.heap[c2]? = some (.cells #[.slice A bl.length cap] 22 (0, 0)) → Calls Try.prog 11 #[.int .i64 1, .int .i64 n, .func (.func diskFn) #[] (diskCap c1 c2)] w' fun e w'' => e = .returned (.tuple #[.agg (u8s RS).toArray, .int .i64 0]) ∧ Ex0 w' w'') := fun w' c1 c2 hx h1 h2 => by
    have := aroot_yes 1 n (by omega) (by omega) hn1.1 (by omega) diskFn (diskCap c1 c2) (blkAt bl) _ _ w' (reads_disk' 1 n (by omega) (by omega) c1 c2 bl hbl A cap w' ⟨h1, h2, hs.ex0 hx⟩)
    rw [Nat.one_mul, ← hLV, ← hRS] at this
    exact this.mono fun e w'' ⟨h1, _, h2⟩ => ⟨h1, h2⟩
  have HPV : Hid (∀ w' c1 c2, Ex0 w w' → w'.heap[c1]? = some (.cells #[.int .i64 n] 3 (0, 0)) → w'.heap[c2]? = some (.cells #[.slice A bl.length cap] 22 (0, 0)) → Calls Try.prog 17 #[.int .i64 1, .int .i64 n, .int .i64 0, .int .i64 b, .func (.func diskFn) #[] (diskCap c1 c2)] w' fun e w'' => ∃ A1 cap1, e = .returned (.tuple #[.agg (proofC 1 n 0 b BB A1 M cap1).toArray, .int .i64 0]) ∧ (M ≤ cap1 ∧ (A1 = none → cap1 = 0)) ∧ Sl w'' 16 A1 M (rowN 16 PR) ∧ AllB 16 PR ∧ Ex0 w' w'') := fun w' c1 c2 hx h1 h2 => by
    have := aprove_yes 1 n 0 b (by omega) (by omega) hn1.1 (by omega) (by omega) hbn diskFn (diskCap c1 c2) (blkAt bl) _ _ w' (reads_disk' 1 n (by omega) (by omega) c1 c2 bl hbl A cap w' ⟨h1, h2, hs.ex0 hx⟩)
    rw [Nat.one_mul, Nat.zero_mul, Nat.zero_add, ← hLV, ← hPR, ← hM, ← hBB] at this
    exact this.mono fun e w'' ⟨A1, cap1, h1, h2, h3, h4, _, h5⟩ => ⟨A1, cap1, h1, h2, h3, h4, h5⟩
  have HKA : Hid (∀ (A1 : Option Addr) (cap1 : Nat) (a1 b1 : Int) (D : List Nat) (ls : List (List Nat)) w', (D.length = 32 ∧ ∀ y ∈ D, y < 256) → AllB 16 ls → ls.length ≤ 100000 → ls.length ≤ cap1 → Sl w' 16 A1 ls.length (rowN 16 ls) → Calls Try.prog 19 #[.agg (u8s RS).toArray, .agg (proofC 1 n a1 b1 D A1 ls.length cap1).toArray] w' fun e w'' => e = .returned (.bool (acheck RS 1 n a1 b1 D ls)) ∧ Ex0 w' w'') := fun A1 cap1 a1 b1 D ls w' hD hok hl hc hsl => acheck_any RS ht16 1 n a1 b1 D hD A1 cap1 ls hok hl hc w' hsl
  have HKR : Hid (∀ (A1 : Option Addr) (cap1 : Nat) (a1 b1 : Int) (D : List Nat) (ls : List (List Nat)) w', (D.length = 32 ∧ ∀ y ∈ D, y < 256) → AllB 16 ls → ls.length ≤ 100000 → ls.length ≤ cap1 → Sl w' 16 A1 ls.length (rowN 16 ls) → Calls Try.prog 20 #[.agg (u8s RS).toArray, .int .i64 1, .int .i64 n, .int .i64 a1, .int .i64 b1, .agg (u8s D).toArray, .slice A1 ls.length cap1] w' fun e w'' => e = .returned (.bool (acheck RS 1 n a1 b1 D ls)) ∧ Ex0 w' w'') := fun A1 cap1 a1 b1 D ls w' hD hok hl hc hsl => rcheck61_any RS ht16 1 n a1 b1 D hD A1 cap1 ls hok hl hc w' hsl
  have HPF : Hid (acheck RS 1 n 0 b BB PR = true ∧ ∀ D, acheck RS 1 n 0 b D (PR ++ [S]) = false) := by
    have h1 := acheck_proof (blkAt bl) 1 n 0 b (by omega) (by omega) (by omega) hbn
    have h2 := fun D => acheck_longer (blkAt bl) 1 n 0 b (by omega) (by omega) (by omega) hbn D S
    rw [Nat.one_mul, Nat.zero_mul, Nat.zero_add, ← hLV, ← hRS, ← hPR, ← hBB] at h1
    refine ⟨h1, fun D => ?_⟩
    have h3 := h2 D
    rw [Nat.one_mul, Nat.zero_mul, Nat.zero_add, ← hLV, ← hRS, ← hPR] at h3
    exact h3
  obtain ⟨L, hLe⟩ : ∃ L, L = bl.length := ⟨_, rfl⟩
  have hBBok := blkAt_ok hbl b
  rw [← hBB] at hBBok
  rw [← hLe] at HRT HPV i24 ⊢
  obtain ⟨RA, hRA⟩ : ∃ V, V = (u8s RS).toArray := ⟨_, rfl⟩
  have hRs : RA.size = 16 := by rw [hRA]; simp [u8s_len, ht16]
  have HRO : Hid (∀ u ∈ RA, u.oneCell' = true) := by show ∀ u ∈ RA, _; rw [hRA]; simpa using u8s_one RS
  rw [← hRA] at HRT HKA HKR
  obtain ⟨VD, hVD⟩ : ∃ V, V = (u8s B).toArray := ⟨_, rfl⟩
  obtain ⟨VS, hVS⟩ : ∃ V, V = (u8s S).toArray := ⟨_, rfl⟩
  have hvd : VD.size = 32 := by rw [hVD]; simp [u8s_len, hB.1]
  have hvs : VS.size = 16 := by rw [hVS]; simp [u8s_len, hS.1]
  unfold spoiltArgs
  rw [← hVD, ← hVS]
  have HVD := Lib.hid hVD
  have HVS := Lib.hid hVS
  have HM := Lib.hid hM
  have eyw : IntKind.i64.wrap (y : Int) = (y : Int) := by rw [IntKind.wrap_i64]; omega
  have hnn : (n : Int) ≠ 0 := by omega
  have hnp : (0 : Int) < (n : Int) := by omega
  clear hn hb hLV hRS hPR hM hBB hLe hRA hVD hVS hs hbl ht16
  go_enter Try.func6, Try.ntmps6
  iterate 9 go_step
  generalize hW : World.alloc (World.alloc w _) _ = W
  have HX0 : Hid (Ex0 w W) := by show Ex0 w W; rw [← hW]; exact (Ex.alloc _ _).alloc' _
  have h8 : W.heap[w.heap.size]? = some (.cells VD 24 (0, 0)) := by rw [← hW]; exact heap_alloc2_old w _ _
  have h9 : W.heap[w.heap.size + 1]? = some (.cells VS 28 (0, 0)) := by rw [← hW]; exact heap_alloc2_new w _ _
  obtain ⟨b9, e9⟩ : ∃ b, b = w.heap.size + 1 := ⟨_, rfl⟩
  obtain ⟨b8, e8⟩ : ∃ b, b = w.heap.size := ⟨_, rfl⟩
  rw [← e9] at h9
  rw [← e8] at h8
  rw [← e9, ← e8]
  have H8 := Lib.hid h8
  have H9 := Lib.hid h9
  have HCU : Hid (Ex0 W W) := Ex.refl _ _
  clear hW h8 h9 e8 e9
  go_wp2_with (first | (refine (awake_any _).mono ?_; rintro e w1 ⟨rfl, hx1⟩; have HCU := Lib.hid (HCU.out.trans0 hx1); clear hx1) | (refine (disk_any _ _ _ _ _).mono ?_; rintro e w2 ⟨rfl, hk1, hk2, hx2⟩; have HCU := Lib.hid (HCU.out.trans0 hx2); have HRN := Lib.hid (HRT.out _ _ _ (HX0.out.trans0 HCU.out) hk1 hk2); have HK2 := Lib.hid (And.intro hk1 hk2); clear hx2 hk1 hk2) | (refine HRN.out.mono ?_; rintro e w3 ⟨rfl, hx3⟩; have HX3 : Hid (Ex0 w2 w3) := hx3; have HCU := Lib.hid (HCU.out.trans0 hx3); clear hx3) | (refine wpList_store_all rfl 28 (.tmp 13) (.tmp 41) rfl w3.heap.size rfl RA _ rfl 28 (heap_alloc_new _ _) (by rw [hRs]; rfl) HRO.out (by rw [hRs]; kernel_rfl) ?_; rw [World.setRow_alloc_new]; obtain ⟨w4, hw4⟩ : ∃ w4, w4 = w3.alloc (.cells RA 28) := ⟨_, rfl⟩; rw [← hw4]; have HX4 : Hid (Ex0 w2 w4) := (by rw [hw4]; exact HX3.out.alloc' _); have HCU : Hid (Ex0 W w4) := (by rw [hw4]; exact HCU.out.alloc' _); have H13 : Hid (w4.heap[w3.heap.size]? = some (.cells RA 28 (0, 0))) := (by rw [hw4]; exact heap_alloc_new _ _); clear hw4))
  refine (HPV.out w4 _ _ (HX0.out.trans0 HCU.out) ((HX4.out.block _ (Array.getElem?_eq_some_iff.1 HK2.out.1).1 not_false).trans HK2.out.1) ((HX4.out.block _ (Array.getElem?_eq_some_iff.1 HK2.out.2).1 not_false).trans HK2.out.2)).mono ?_
  rintro e w5 ⟨A1, cap1, rfl, ⟨hc1, hnl1⟩, hsl1, hok1, hx5⟩
  have HX5 : Hid (Ex0 w4 w5) := hx5
  have HCU := Lib.hid (HCU.out.trans0 hx5)
  have HSL1 := Lib.hid hsl1
  have HOK1 := Lib.hid hok1
  have HC1 := Lib.hid hc1
  have HNL := Lib.hid hnl1
  clear hnl1
  obtain ⟨PA, hPA⟩ : ∃ V, V = (proofC 1 n 0 b BB A1 M cap1).toArray := ⟨_, rfl⟩
  have hPl : PA.size = 37 := by rw [hPA]; simp [proofC, u8s_len, hBBok.1]
  have HPO : Hid (∀ u ∈ PA, u.oneCell' = true) := by show ∀ u ∈ PA, _; rw [hPA]; simpa using proofC_one 1 n 0 b BB A1 M cap1
  have HK1 : Hid (∀ w', Ex0 w5 w' → Calls Try.prog 19 #[.agg RA, .agg PA] w' fun e w'' => e = .returned (.bool true) ∧ Ex0 w' w'') := fun w' hx => by
    have := HKA.out A1 cap1 0 b BB PR w' hBBok hok1 (by rw [← HM.out]; omega) (by rw [← HM.out]; exact hc1) (by rw [← HM.out]; exact hsl1.ex0 hx)
    rw [← HM.out, HPF.out.1, ← hPA] at this
    exact this
  rw [← hPA]
  obtain ⟨PD, hPD⟩ : ∃ V, V = (proofC 1 n 0 b B A1 M cap1).toArray := ⟨_, rfl⟩
  have HLAY : Hid ((lay PA.toList 4 VD.toList).toArray = PD) := by
    show _ = _
    rw [hPA, HVD.out, hPD]; rw [lay_proof _ _ _ _ _ _ hBBok.1 hB.1]
  have HDO : Hid (∀ u ∈ VD.toList, u.oneCell' = true) := by show ∀ u ∈ _, _; rw [HVD.out]; exact u8s_one B
  have HPD := Lib.hid hPD
  have HPA := Lib.hid hPA
  clear hPD
  clear hx5 hsl1 hok1 hc1 hPA
  go_wp2_with (first | (refine wpList_store_all rfl 41 (.tmp 15) (.tmp 51) rfl w5.heap.size rfl PA _ rfl 41 (heap_alloc_new _ _) (by rw [hPl]; rfl) HPO.out (by rw [hPl]; kernel_rfl) ?_; rw [World.setRow_alloc_new]; obtain ⟨w6, hw6⟩ : ∃ w6, w6 = w5.alloc (.cells PA 41) := ⟨_, rfl⟩; rw [← hw6]; have HX6 : Hid (Ex0 w5 w6) := (by rw [hw6]; exact Ex.alloc _ _); have HCU : Hid (Ex0 W w6) := (by rw [hw6]; exact HCU.out.alloc' _); have H15 : Hid (w6.heap[w5.heap.size]? = some (.cells PA 41 (0, 0))) := (by rw [hw6]; exact heap_alloc_new _ _); have h13 : w6.heap[w3.heap.size]? = some (.cells RA 28 (0, 0)) := (((HX5.out.trans0 HX6.out).block _ (Array.getElem?_eq_some_iff.1 H13.out).1 not_false).trans H13.out); clear hw6) | refine wpList_load_row_g rfl 28 (.tmp 13) rfl w3.heap.size rfl 28 RA (0, 0) _ h13 Try.underlying28 rfl (by rw [hRs]; kernel_rfl) ?_ | refine wpList_load_row_g rfl 41 (.tmp 15) rfl w5.heap.size rfl 41 PA (0, 0) _ H15.out Try.underlying41 rfl (by rw [hPl]; kernel_rfl) ?_ | (refine (HK1.out _ HX6.out).mono ?_; rintro e w7 ⟨rfl, hx7⟩; have HX7 : Hid (Ex0 w6 w7) := hx7; have HCU := Lib.hid (HCU.out.trans0 hx7); have HCU7 : Hid (Ex0 W w7) := HCU.out; have h15 : w7.heap[w5.heap.size]? = some (.cells PA 41 (0, 0)) := (hx7.block _ (Array.getElem?_eq_some_iff.1 H15.out).1 not_false).trans H15.out; clear hx7) | refine wpList_load_row rfl 41 (.tmp 15) rfl w5.heap.size rfl 41 PA (0, 0) _ h15 Try.underlying41 rfl (by rw [hPl]; kernel_rfl) ?_ | (refine wpList_store_all rfl 41 (.tmp 17) (.tmp 61) rfl w7.heap.size rfl PA _ rfl 41 (heap_alloc_new _ _) (by rw [hPl]; rfl) HPO.out (by rw [hPl]; kernel_rfl) ?_; rw [World.setRow_alloc_new]; obtain ⟨w8, hw8⟩ : ∃ w8, w8 = w7.alloc (.cells PA 41) := ⟨_, rfl⟩; rw [← hw8]; have HX8 : Hid (Ex0 w7 w8) := (by rw [hw8]; exact Ex.alloc _ _); have HCU : Hid (Ex0 W w8) := (by rw [hw8]; exact HCU.out.alloc' _); have H17 : Hid (w8.heap[w7.heap.size]? = some (.cells PA 41 (0, 0))) := (by rw [hw8]; exact heap_alloc_new _ _); have h8 : w8.heap[b8]? = some (.cells VD 24 (0, 0)) := ((HCU.out.block _ (Array.getElem?_eq_some_iff.1 H8.out).1 not_false).trans H8.out); clear hw8) | refine wpList_load_row rfl 24 (.tmp 8) rfl b8 rfl 24 VD (0, 0) _ h8 Try.underlying24 rfl (by rw [hvd]; kernel_rfl) ?_ | (refine wpList_store_lay rfl 24 (.tmp 63) (.tmp 62) rfl w7.heap.size 4 rfl VD.toList VD rfl (by simp) 41 PA.toList H17.out (by rw [Array.length_toList, Array.length_toList, hPl, hvd]; decide) HDO.out (by rw [Array.length_toList, hvd]; kernel_rfl) ?_; rw [HLAY.out]; obtain ⟨w9, hw9⟩ : ∃ w9, w9 = w8.setRow w7.heap.size PD := ⟨_, rfl⟩; rw [← hw9]; have HX9 : Hid (Ex (· = w7.heap.size) w8 w9) := (by rw [hw9]; exact ex_setRow _ _ _); have H17 : Hid (w9.heap[w7.heap.size]? = some (.cells PD 41 (0, 0))) := (by rw [hw9]; exact setRow_heap _ _ _ _ _ _ H17.out); have HX79 : Hid (Ex (· = w7.heap.size) w7 w9) := HX8.out.trans HX9.out (fun _ _ h => h.elim) (fun _ _ h => h); have h15b : w9.heap[w5.heap.size]? = some (.cells PA 41 (0, 0)) := ((HX79.out.block _ (Array.getElem?_eq_some_iff.1 h15).1 (by have := (Array.getElem?_eq_some_iff.1 h15).1; omega)).trans h15); clear hw9) | refine wpList_load_row rfl 41 (.tmp 15) rfl w5.heap.size rfl 41 PA (0, 0) _ h15b Try.underlying41 rfl (by rw [hPl]; kernel_rfl) ?_ | (refine wpList_store_all rfl 41 (.tmp 18) (.tmp 64) rfl w9.heap.size rfl PA _ rfl 41 (heap_alloc_new _ _) (by rw [hPl]; rfl) HPO.out (by rw [hPl]; kernel_rfl) ?_; rw [World.setRow_alloc_new]; obtain ⟨w10, hw10⟩ : ∃ w10, w10 = w9.alloc (.cells PA 41) := ⟨_, rfl⟩; rw [← hw10]; have HX10 : Hid (Ex0 w9 w10) := (by rw [hw10]; exact Ex.alloc _ _); have H18 : Hid (w10.heap[w9.heap.size]? = some (.cells PA 41 (0, 0))) := (by rw [hw10]; exact heap_alloc_new _ _); have HB510 : Hid (Below w5.heap.size w5 w10) := ((((HX6.out.trans0 HX7.out).trans HX79.out (U := fun k => k = w7.heap.size) (fun _ _ h => h.elim) (fun _ _ h => h)).trans0 HX10.out).below (Nat.le_refl _) (fun i h => by have := HX6.out.size; have := HX7.out.size; omega)); have HCU : Hid (Ex0 W w10) := ((HCU7.out.trans HX79.out (fun _ _ h => h) (fun k hk h => by have := HCU7.out.size; omega)).trans0 HX10.out); have H15X : Hid (w10.heap[w5.heap.size]? = some (.cells PA 41 (0, 0))) := ((HX10.out.block _ (Array.getElem?_eq_some_iff.1 h15b).1 not_false).trans h15b); have HZ59 : Hid (w5.heap.size < w9.heap.size ∧ W.heap.size ≤ w9.heap.size) := ⟨by have := (Array.getElem?_eq_some_iff.1 h15b).1; exact this, Nat.le_trans HCU7.out.size HX79.out.size⟩; clear hw10))
  -- R12
  have HSLX : Hid (∀ w', Ex0 w10 w' → Sl w' 16 A1 M (rowN 16 PR)) := fun w' hx => (HSL1.out.below (by decide) HB510.out).ex0 hx
  have HVC : Hid (∀ v ∈ [Value.agg VS], v.cells.size = 16) := by intro v hv; rw [List.mem_singleton.1 hv]; exact hvs
  have HVF : Hid (([Value.agg VS].flatMap fun v => v.cells.toList).toArray = VS) := by show _ = _; simp [Value.cells]
  have HVO : Hid (∀ u ∈ VS.toList, u.oneCell' = true) := by show ∀ u ∈ _, _; rw [HVS.out]; exact u8s_one S
  have HRW : Hid (rowN 16 PR ++ VS.toList = rowN 16 (PR ++ [S])) := by show _ = _; rw [rowN_append, rowN_single, HVS.out, encN_eq hS.1]
  have HP36 : Hid (PA[36]? = some (.slice A1 M cap1)) := by show _ = _; rw [HPA.out]; simp [proofC, List.getElem?_append_right, u8s_len, hBBok.1]
  have HPS : Hid (∀ A2 cap2, PA.setIfInBounds 36 (.slice A2 (M + 1) cap2) = (proofC 1 n 0 b BB A2 (M + 1) cap2).toArray) := fun A2 cap2 => by rw [HPA.out]; exact proof_set36 _ _ _ _ _ hBBok.1 _ _ _ _ _ _
  obtain ⟨is, his, hsz0, hsz1, hsz2⟩ := info_parts infoSum
  have hS10 : w10.cell? ⟨w5.heap.size, 36, none⟩ = some (.slice A1 M cap1) ∧ w10.heap[b9]? = some (.cells VS 28 (0, 0)) := ⟨by rw [cell_of_row _ _ _ _ _ _ H15X.out]; exact HP36.out, (HCU.out.block _ (Array.getElem?_eq_some_iff.1 H9.out).1 not_false).trans H9.out⟩
  have KEEP : Hid (∀ w', Ex0 w10 w' → w'.cell? ⟨w5.heap.size, 36, none⟩ = some (.slice A1 M cap1) ∧ w'.heap[b9]? = some (.cells VS 28 (0, 0))) := fun w' hx => ⟨hx.cellS hS10.1 not_false, (hx.block _ (Array.getElem?_eq_some_iff.1 hS10.2).1 not_false).trans hS10.2⟩
  have SAVE : Hid (∀ w1 w' : World, (w1.cell? ⟨w5.heap.size, 36, none⟩ = some (.slice A1 M cap1) ∧ w1.heap[b9]? = some (.cells VS 28 (0, 0))) → Ex (· = w9.heap.size) w1 w' → w'.cell? ⟨w5.heap.size, 36, none⟩ = some (.slice A1 M cap1) ∧ w'.heap[b9]? = some (.cells VS 28 (0, 0))) := fun w1 w' h hx => ⟨hx.cellS h.1 (by have := HZ59.out; simp only; omega), (hx.block _ (Array.getElem?_eq_some_iff.1 h.2).1 (by have := HZ59.out; have := (Array.getElem?_eq_some_iff.1 H9.out).1; omega)).trans h.2⟩
  have HLD9 : Hid (∀ (o : Oper) (a : Act) (w' : World), o.op = .load 28 (.tmp 9) → a.eval (.tmp 9) = .pointer (some ⟨b9, 0, none⟩) → w'.heap[b9]? = some (.cells VS 28 (0, 0)) → (execOp a.eval o).run Try.prog w' = .ok (.value (.agg VS)) w') := fun o a w' h1 h2 h3 => exec_load_row 28 (.tmp 9) h1 b9 h2 _ VS _ _ h3 Try.underlying28 rfl (by rw [hvs]; kernel_rfl)
  clear hS10
  dsimp only [Act.put]
  go_cut [] from 65 to 72 (fun wx => Longer w9.heap.size M 1 n 0 b BB (PR ++ [S]) w10 wx)
  case first =>
    have HY : Hid (Ex0 w10 w10.drew) := Ex.drew _
    have hS := KEEP.out _ HY.out
    refine wp_region_takes (fun w' => w'.cell? ⟨w5.heap.size, 36, none⟩ = some (.slice A1 M cap1) ∧ w'.heap[b9]? = some (.cells VS 28 (0, 0))) (by kernel_rfl) ?_
    simp only [List.length_cons, List.length_nil]
    generalize w10.drew = wd at *
    refine' wpAnyH_do 1 rfl (by kernel_rfl) (fun _ _ _ _ h => h) (by rfl) (by assumption) ⟨_, fun w' hS => ?_, ?_⟩
    rotate_left
    · ((try dsimp only at hS); go_split_ands; go_simp; try (with_reducible rfl))
    simp only [Act.put, List.setIfInBounds_toArray, List.set_cons_zero, List.set_cons_succ]
    refine' wpAnyH_do 2 rfl (by kernel_rfl) (fun _ _ _ _ h => h) (by rfl) (by assumption) ⟨_, fun w' hS => ?_, ?_⟩
    rotate_left
    · ((try dsimp only at hS); go_split_ands; go_simp; try (with_reducible rfl))
    simp only [Act.put, List.setIfInBounds_toArray, List.set_cons_zero, List.set_cons_succ]
    refine' wpAnyH_do 4 rfl (by kernel_rfl) (fun _ _ _ _ h => h) (by rfl) (by assumption) ⟨_, fun w' hS => HLD9.out _ _ _ rfl rfl hS.2, ?_⟩
    simp only [Act.put, List.setIfInBounds_toArray, List.set_cons_zero, List.set_cons_succ]
    refine wpAnyH_two 0 5 rfl rfl (by kernel_rfl) (by rfl) (by rfl) (fun K hK => ?_) (fun K hK => ?_)
    · have HKK := Lib.hid hK
      clear hK
      refine wp_buildSlice_none 37 28 rfl is _ Try.underlying37 his hsz0 ?_
      obtain ⟨wa, hw⟩ : ∃ x, x = World.alloc wd (.cells #[] 28) := ⟨_, rfl⟩
      rw [← hw]
      obtain ⟨b65, hb65⟩ : ∃ x, x = wd.heap.size := ⟨_, rfl⟩
      rw [← hb65]
      have hx : Ex0 wd wa := by rw [hw]; exact Ex.alloc _ _
      have HO65 : Hid (wa.ownsRow w10.heap.size 28 16 (.slice (some ⟨b65, 0, none⟩) 0 0) 0 []) := by rw [hw, hb65]; exact own_empty (heap_alloc_new _ _) _ HY.out.size
      have HZ65 : Hid (b65 = wd.heap.size ∧ wa.heap.size = wd.heap.size + 1) := ⟨hb65, by rw [hw]; simp⟩
      have HY := Lib.hid (HY.out.trans0 hx)
      replace hS := KEEP.out _ HY.out
      clear hw hx hb65
      refine HKK.out _ _ hS ?_
      clear HKK K
      simp only [Act.put, List.setIfInBounds_toArray, List.set_cons_zero, List.set_cons_succ]
      refine wpAnyH_two 3 5 rfl rfl (by kernel_rfl) (by rfl) (by rfl) (fun K hK => ?_) (fun K hK => ?_)
      · have HKK := Lib.hid hK
        clear hK
        refine wp_append_sl (.tmp 65) (.tmp 67) 37 rfl w10.heap.size 28 is _ 16 16 Try.underlying37 his hsz0 hsz1 hsz2 rfl (by decide) (.slice (some ⟨b65, 0, none⟩) 0 0) 0 [] rfl HO65.out A1 M cap1 (rowN 16 PR) rfl (HSLX.out _ HY.out) HNL.out (rowN_one 16 PR) (by unfold maxLen; omega) (by omega) HY.out.size ?_
        intro v68 wb ho68 hg68 hv68
        rw [Nat.zero_add, List.nil_append] at ho68
        have HO68 := Lib.hid ho68
        have HY := Lib.hid (ex_of_new HY.out hg68 (fun b hb => (HO65.out.lt b hb).1))
        replace hS := KEEP.out _ HY.out
        clear ho68 hg68 hv68
        refine HKK.out _ _ hS ?_
        clear HKK K
        simp only [Act.put, List.setIfInBounds_toArray, List.set_cons_zero, List.set_cons_succ]
        refine wpAnyH_eff 5 rfl (by kernel_rfl) (by rfl) (fun K hK => ?_)
        have HKK := Lib.hid hK
        clear hK
        refine wp_buildSlice_all 37 28 1 _ rfl [.agg VS] is _ 16 Try.underlying37 his hsz0 hsz1 (by decide) (by decide) rfl (by decide) rfl HVC.out ?_
        rw [HVF.out]
        obtain ⟨wc2, hw⟩ : ∃ x, x = World.alloc wb (.cells VS 28) := ⟨_, rfl⟩
        rw [← hw]
        obtain ⟨b70, hb70⟩ : ∃ x, x = wb.heap.size := ⟨_, rfl⟩
        rw [← hb70]
        have hx : Ex0 wb wc2 := by rw [hw]; exact Ex.alloc _ _
        have H70 : Hid (wc2.heap[b70]? = some (.cells VS 28 (0, 0))) := by rw [hw, hb70]; exact heap_alloc_new _ _
        have HZ70 : Hid (b70 = wb.heap.size ∧ wc2.heap.size = wb.heap.size + 1) := ⟨hb70, by rw [hw]; simp⟩
        have HN68 : Hid (v68.ownBlock ≠ some b70) := by intro h; have h1 := (HO68.out.lt _ h).2; have h2 := HZ70.out.1; omega
        have HO68 := Lib.hid (own_ex HO68.out hx (fun _ _ => id))
        have HY := Lib.hid (HY.out.trans0 hx)
        replace hS := KEEP.out _ HY.out
        clear hw hx hb70
        refine HKK.out _ _ hS ?_
        clear HKK K
        simp only [Act.put, List.setIfInBounds_toArray, List.set_cons_zero, List.set_cons_succ]
        refine wpAnyH_eff 6 rfl (by kernel_rfl) (by rfl) (fun K hK => ?_)
        have HKK := Lib.hid hK
        clear hK
        refine wp_append_sl (.tmp 68) (.tmp 70) 37 rfl w10.heap.size 28 is _ 16 16 Try.underlying37 his hsz0 hsz1 hsz2 rfl (by decide) v68 M (rowN 16 PR) rfl HO68.out (some ⟨b70, 0, none⟩) 1 1 VS.toList rfl (sl_block H70.out (by rw [hvs]) (by decide)) (fun h => by cases h) HVO.out (by unfold maxLen; omega) (by omega) HY.out.size ?_
        intro v71 we ho71 hg71 hv71
        have HY := Lib.hid (ex_of_new HY.out hg71 (fun b hb => (HO68.out.lt b hb).1))
        replace hS := KEEP.out _ HY.out
        obtain ⟨A2, cap2, rfl, hsl71, hob, _⟩ := own_sl' ho71
        have hcap2 : M + 1 ≤ cap2 := by rcases ho71.2 with ⟨h, h0⟩ | ⟨g, cp', cur, h, _, _, h4, _⟩ <;> first | omega | (cases h; exact h4)
        rw [HRW.out] at hsl71
        have HSL71 := Lib.hid hsl71
        have HCAP2 := Lib.hid hcap2
        have HF71 : Hid (∀ k, Bl A2 k → w10.heap.size ≤ k) := fun k hk => (ho71.lt k (hob.trans hk)).1
        have h36 : we.cell? ⟨w9.heap.size, 36, none⟩ = some (.slice A1 M cap1) := by rw [cell_of_row _ _ _ _ _ _ (((HY.out.block _ (Array.getElem?_eq_some_iff.1 H18.out).1 not_false).trans H18.out))]; exact HP36.out
        have hf36 : we.frozen? ⟨w9.heap.size, 36, none⟩ = false := frozen_of_row _ _ _ _ _ ((HY.out.block _ (Array.getElem?_eq_some_iff.1 H18.out).1 not_false).trans H18.out)
        clear ho71 hg71 hv71 hsl71 hcap2 hob
        refine HKK.out _ _ hS ?_
        clear HKK K
        simp only [Act.put, List.setIfInBounds_toArray, List.set_cons_zero, List.set_cons_succ]
        refine' wpAnyH_do 7 rfl (by kernel_rfl) (fun _ _ _ _ h => h) (by rfl) (by assumption) ⟨_, fun w' hS => ?_, ?_⟩
        rotate_left
        · ((try dsimp only at hS); go_split_ands; go_simp; try (with_reducible rfl))
        simp only [Act.put, List.setIfInBounds_toArray, List.set_cons_zero, List.set_cons_succ]
        refine wpAnyH_eff 8 rfl (by kernel_rfl) (by rfl) (fun K hK => ?_)
        have HKK := Lib.hid hK
        clear hK
        go_simp
        have hxs := Ex.setCell we ⟨w9.heap.size, 36, none⟩ (.slice A2 (M + 1) cap2)
        refine HKK.out _ _ (SAVE.out _ _ hS hxs) ?_
        clear HKK K
        (try simp only [Act.put, List.setIfInBounds_toArray, List.set_cons_zero, List.set_cons_succ])
        refine wpAnyH_done (by kernel_rfl) ?_ _
        go_wp2_with fail
        go_meet
        case rel =>
          refine ⟨A2, cap2, HCAP2.out, HSL71.out.ex hxs (fun k hk he => by have h1 := HF71.out k hk; have h2 := (Array.getElem?_eq_some_iff.1 H18.out).1; have hee : k = w9.heap.size := he; omega), ?_, (HY.out.to (fun _ _ h => h.elim)).trans hxs (fun _ _ h => h) (fun _ _ h => h)⟩
          rw [heap_setCell_same _ _ _ _ _ _ ((HY.out.block _ (Array.getElem?_eq_some_iff.1 H18.out).1 not_false).trans H18.out), HPS.out]
      · have HKK := Lib.hid hK
        clear hK
        refine wp_buildSlice_all 37 28 1 _ rfl [.agg VS] is _ 16 Try.underlying37 his hsz0 hsz1 (by decide) (by decide) rfl (by decide) rfl HVC.out ?_
        rw [HVF.out]
        obtain ⟨wb, hw⟩ : ∃ x, x = World.alloc wa (.cells VS 28) := ⟨_, rfl⟩
        rw [← hw]
        obtain ⟨b70, hb70⟩ : ∃ x, x = wa.heap.size := ⟨_, rfl⟩
        rw [← hb70]
        have hx : Ex0 wa wb := by rw [hw]; exact Ex.alloc _ _
        have H70 : Hid (wb.heap[b70]? = some (.cells VS 28 (0, 0))) := by rw [hw, hb70]; exact heap_alloc_new _ _
        have HZ70 : Hid (b70 = wa.heap.size ∧ wb.heap.size = wa.heap.size + 1) := ⟨hb70, by rw [hw]; simp⟩
        have HO65 := Lib.hid (own_ex HO65.out hx (fun _ _ => id))
        have HNE : Hid (b65 ≠ b70) := by have h1 := HZ65.out.1; have h2 := HZ65.out.2; have h3 := HZ70.out.1; show _ ≠ _; omega
        have HY := Lib.hid (HY.out.trans0 hx)
        replace hS := KEEP.out _ HY.out
        clear hw hx hb70
        refine HKK.out _ _ hS ?_
        clear HKK K
        simp only [Act.put, List.setIfInBounds_toArray, List.set_cons_zero, List.set_cons_succ]
        refine wpAnyH_eff 3 rfl (by kernel_rfl) (by rfl) (fun K hK => ?_)
        have HKK := Lib.hid hK
        clear hK
        refine wp_append_sl (.tmp 65) (.tmp 67) 37 rfl w10.heap.size 28 is _ 16 16 Try.underlying37 his hsz0 hsz1 hsz2 rfl (by decide) (.slice (some ⟨b65, 0, none⟩) 0 0) 0 [] rfl HO65.out A1 M cap1 (rowN 16 PR) rfl (HSLX.out _ HY.out) HNL.out (rowN_one 16 PR) (by unfold maxLen; omega) (by omega) HY.out.size ?_
        intro v68 wc2 ho68 hg68 hv68
        rw [Nat.zero_add, List.nil_append] at ho68
        have HO68 := Lib.hid ho68
        have HN68 : Hid (v68.ownBlock ≠ some b70) := own_ne hv68 rfl HNE.out (Array.getElem?_eq_some_iff.1 H70.out).1
        have H70 := Lib.hid (((Ex.ofGrown hg68).block _ (Array.getElem?_eq_some_iff.1 H70.out).1 (by intro h; injection h with h; exact HNE.out h)).trans H70.out)
        have HY := Lib.hid (ex_of_new HY.out hg68 (fun b hb => (HO65.out.lt b hb).1))
        replace hS := KEEP.out _ HY.out
        clear ho68 hg68 hv68
        refine HKK.out _ _ hS ?_
        clear HKK K
        simp only [Act.put, List.setIfInBounds_toArray, List.set_cons_zero, List.set_cons_succ]
        refine wpAnyH_eff 6 rfl (by kernel_rfl) (by rfl) (fun K hK => ?_)
        have HKK := Lib.hid hK
        clear hK
        refine wp_append_sl (.tmp 68) (.tmp 70) 37 rfl w10.heap.size 28 is _ 16 16 Try.underlying37 his hsz0 hsz1 hsz2 rfl (by decide) v68 M (rowN 16 PR) rfl HO68.out (some ⟨b70, 0, none⟩) 1 1 VS.toList rfl (sl_block H70.out (by rw [hvs]) (by decide)) (fun h => by cases h) HVO.out (by unfold maxLen; omega) (by omega) HY.out.size ?_
        intro v71 we ho71 hg71 hv71
        have HY := Lib.hid (ex_of_new HY.out hg71 (fun b hb => (HO68.out.lt b hb).1))
        replace hS := KEEP.out _ HY.out
        obtain ⟨A2, cap2, rfl, hsl71, hob, _⟩ := own_sl' ho71
        have hcap2 : M + 1 ≤ cap2 := by rcases ho71.2 with ⟨h, h0⟩ | ⟨g, cp', cur, h, _, _, h4, _⟩ <;> first | omega | (cases h; exact h4)
        rw [HRW.out] at hsl71
        have HSL71 := Lib.hid hsl71
        have HCAP2 := Lib.hid hcap2
        have HF71 : Hid (∀ k, Bl A2 k → w10.heap.size ≤ k) := fun k hk => (ho71.lt k (hob.trans hk)).1
        have h36 : we.cell? ⟨w9.heap.size, 36, none⟩ = some (.slice A1 M cap1) := by rw [cell_of_row _ _ _ _ _ _ (((HY.out.block _ (Array.getElem?_eq_some_iff.1 H18.out).1 not_false).trans H18.out))]; exact HP36.out
        have hf36 : we.frozen? ⟨w9.heap.size, 36, none⟩ = false := frozen_of_row _ _ _ _ _ ((HY.out.block _ (Array.getElem?_eq_some_iff.1 H18.out).1 not_false).trans H18.out)
        clear ho71 hg71 hv71 hsl71 hcap2 hob
        refine HKK.out _ _ hS ?_
        clear HKK K
        simp only [Act.put, List.setIfInBounds_toArray, List.set_cons_zero, List.set_cons_succ]
        refine' wpAnyH_do 7 rfl (by kernel_rfl) (fun _ _ _ _ h => h) (by rfl) (by assumption) ⟨_, fun w' hS => ?_, ?_⟩
        rotate_left
        · ((try dsimp only at hS); go_split_ands; go_simp; try (with_reducible rfl))
        simp only [Act.put, List.setIfInBounds_toArray, List.set_cons_zero, List.set_cons_succ]
        refine wpAnyH_eff 8 rfl (by kernel_rfl) (by rfl) (fun K hK => ?_)
        have HKK := Lib.hid hK
        clear hK
        go_simp
        have hxs := Ex.setCell we ⟨w9.heap.size, 36, none⟩ (.slice A2 (M + 1) cap2)
        refine HKK.out _ _ (SAVE.out _ _ hS hxs) ?_
        clear HKK K
        (try simp only [Act.put, List.setIfInBounds_toArray, List.set_cons_zero, List.set_cons_succ])
        refine wpAnyH_done (by kernel_rfl) ?_ _
        go_wp2_with fail
        go_meet
        case rel =>
          refine ⟨A2, cap2, HCAP2.out, HSL71.out.ex hxs (fun k hk he => by have h1 := HF71.out k hk; have h2 := (Array.getElem?_eq_some_iff.1 H18.out).1; have hee : k = w9.heap.size := he; omega), ?_, (HY.out.to (fun _ _ h => h.elim)).trans hxs (fun _ _ h => h) (fun _ _ h => h)⟩
          rw [heap_setCell_same _ _ _ _ _ _ ((HY.out.block _ (Array.getElem?_eq_some_iff.1 H18.out).1 not_false).trans H18.out), HPS.out]
    · have HKK := Lib.hid hK
      clear hK
      refine wp_buildSlice_all 37 28 1 _ rfl [.agg VS] is _ 16 Try.underlying37 his hsz0 hsz1 (by decide) (by decide) rfl (by decide) rfl HVC.out ?_
      rw [HVF.out]
      obtain ⟨wa, hw⟩ : ∃ x, x = World.alloc wd (.cells VS 28) := ⟨_, rfl⟩
      rw [← hw]
      obtain ⟨b70, hb70⟩ : ∃ x, x = wd.heap.size := ⟨_, rfl⟩
      rw [← hb70]
      have hx : Ex0 wd wa := by rw [hw]; exact Ex.alloc _ _
      have H70 : Hid (wa.heap[b70]? = some (.cells VS 28 (0, 0))) := by rw [hw, hb70]; exact heap_alloc_new _ _
      have HZ70 : Hid (b70 = wd.heap.size ∧ wa.heap.size = wd.heap.size + 1) := ⟨hb70, by rw [hw]; simp⟩
      have HY := Lib.hid (HY.out.trans0 hx)
      replace hS := KEEP.out _ HY.out
      clear hw hx hb70
      refine HKK.out _ _ hS ?_
      clear HKK K
      simp only [Act.put, List.setIfInBounds_toArray, List.set_cons_zero, List.set_cons_succ]
      refine wpAnyH_eff 0 rfl (by kernel_rfl) (by rfl) (fun K hK => ?_)
      have HKK := Lib.hid hK
      clear hK
      refine wp_buildSlice_none 37 28 rfl is _ Try.underlying37 his hsz0 ?_
      obtain ⟨wb, hw⟩ : ∃ x, x = World.alloc wa (.cells #[] 28) := ⟨_, rfl⟩
      rw [← hw]
      obtain ⟨b65, hb65⟩ : ∃ x, x = wa.heap.size := ⟨_, rfl⟩
      rw [← hb65]
      have hx : Ex0 wa wb := by rw [hw]; exact Ex.alloc _ _
      have HO65 : Hid (wb.ownsRow w10.heap.size 28 16 (.slice (some ⟨b65, 0, none⟩) 0 0) 0 []) := by rw [hw, hb65]; exact own_empty (heap_alloc_new _ _) _ HY.out.size
      have HZ65 : Hid (b65 = wa.heap.size ∧ wb.heap.size = wa.heap.size + 1) := ⟨hb65, by rw [hw]; simp⟩
      have H70 := Lib.hid ((hx.block _ (Array.getElem?_eq_some_iff.1 H70.out).1 not_false).trans H70.out)
      have HNE : Hid (b65 ≠ b70) := by have h1 := HZ70.out.1; have h2 := HZ70.out.2; show _ ≠ _; omega
      have HY := Lib.hid (HY.out.trans0 hx)
      replace hS := KEEP.out _ HY.out
      clear hw hx hb65
      refine HKK.out _ _ hS ?_
      clear HKK K
      simp only [Act.put, List.setIfInBounds_toArray, List.set_cons_zero, List.set_cons_succ]
      refine wpAnyH_eff 3 rfl (by kernel_rfl) (by rfl) (fun K hK => ?_)
      have HKK := Lib.hid hK
      clear hK
      refine wp_append_sl (.tmp 65) (.tmp 67) 37 rfl w10.heap.size 28 is _ 16 16 Try.underlying37 his hsz0 hsz1 hsz2 rfl (by decide) (.slice (some ⟨b65, 0, none⟩) 0 0) 0 [] rfl HO65.out A1 M cap1 (rowN 16 PR) rfl (HSLX.out _ HY.out) HNL.out (rowN_one 16 PR) (by unfold maxLen; omega) (by omega) HY.out.size ?_
      intro v68 wc2 ho68 hg68 hv68
      rw [Nat.zero_add, List.nil_append] at ho68
      have HO68 := Lib.hid ho68
      have HN68 : Hid (v68.ownBlock ≠ some b70) := own_ne hv68 rfl HNE.out (Array.getElem?_eq_some_iff.1 H70.out).1
      have H70 := Lib.hid (((Ex.ofGrown hg68).block _ (Array.getElem?_eq_some_iff.1 H70.out).1 (by intro h; injection h with h; exact HNE.out h)).trans H70.out)
      have HY := Lib.hid (ex_of_new HY.out hg68 (fun b hb => (HO65.out.lt b hb).1))
      replace hS := KEEP.out _ HY.out
      clear ho68 hg68 hv68
      refine HKK.out _ _ hS ?_
      clear HKK K
      simp only [Act.put, List.setIfInBounds_toArray, List.set_cons_zero, List.set_cons_succ]
      refine wpAnyH_eff 6 rfl (by kernel_rfl) (by rfl) (fun K hK => ?_)
      have HKK := Lib.hid hK
      clear hK
      refine wp_append_sl (.tmp 68) (.tmp 70) 37 rfl w10.heap.size 28 is _ 16 16 Try.underlying37 his hsz0 hsz1 hsz2 rfl (by decide) v68 M (rowN 16 PR) rfl HO68.out (some ⟨b70, 0, none⟩) 1 1 VS.toList rfl (sl_block H70.out (by rw [hvs]) (by decide)) (fun h => by cases h) HVO.out (by unfold maxLen; omega) (by omega) HY.out.size ?_
      intro v71 we ho71 hg71 hv71
      have HY := Lib.hid (ex_of_new HY.out hg71 (fun b hb => (HO68.out.lt b hb).1))
      replace hS := KEEP.out _ HY.out
      obtain ⟨A2, cap2, rfl, hsl71, hob, _⟩ := own_sl' ho71
      have hcap2 : M + 1 ≤ cap2 := by rcases ho71.2 with ⟨h, h0⟩ | ⟨g, cp', cur, h, _, _, h4, _⟩ <;> first | omega | (cases h; exact h4)
      rw [HRW.out] at hsl71
      have HSL71 := Lib.hid hsl71
      have HCAP2 := Lib.hid hcap2
      have HF71 : Hid (∀ k, Bl A2 k → w10.heap.size ≤ k) := fun k hk => (ho71.lt k (hob.trans hk)).1
      have h36 : we.cell? ⟨w9.heap.size, 36, none⟩ = some (.slice A1 M cap1) := by rw [cell_of_row _ _ _ _ _ _ (((HY.out.block _ (Array.getElem?_eq_some_iff.1 H18.out).1 not_false).trans H18.out))]; exact HP36.out
      have hf36 : we.frozen? ⟨w9.heap.size, 36, none⟩ = false := frozen_of_row _ _ _ _ _ ((HY.out.block _ (Array.getElem?_eq_some_iff.1 H18.out).1 not_false).trans H18.out)
      clear ho71 hg71 hv71 hsl71 hcap2 hob
      refine HKK.out _ _ hS ?_
      clear HKK K
      simp only [Act.put, List.setIfInBounds_toArray, List.set_cons_zero, List.set_cons_succ]
      refine' wpAnyH_do 7 rfl (by kernel_rfl) (fun _ _ _ _ h => h) (by rfl) (by assumption) ⟨_, fun w' hS => ?_, ?_⟩
      rotate_left
      · ((try dsimp only at hS); go_split_ands; go_simp; try (with_reducible rfl))
      simp only [Act.put, List.setIfInBounds_toArray, List.set_cons_zero, List.set_cons_succ]
      refine wpAnyH_eff 8 rfl (by kernel_rfl) (by rfl) (fun K hK => ?_)
      have HKK := Lib.hid hK
      clear hK
      go_simp
      have hxs := Ex.setCell we ⟨w9.heap.size, 36, none⟩ (.slice A2 (M + 1) cap2)
      refine HKK.out _ _ (SAVE.out _ _ hS hxs) ?_
      clear HKK K
      (try simp only [Act.put, List.setIfInBounds_toArray, List.set_cons_zero, List.set_cons_succ])
      refine wpAnyH_done (by kernel_rfl) ?_ _
      go_wp2_with fail
      go_meet
      case rel =>
        refine ⟨A2, cap2, HCAP2.out, HSL71.out.ex hxs (fun k hk he => by have h1 := HF71.out k hk; have h2 := (Array.getElem?_eq_some_iff.1 H18.out).1; have hee : k = w9.heap.size := he; omega), ?_, (HY.out.to (fun _ _ h => h.elim)).trans hxs (fun _ _ h => h) (fun _ _ h => h)⟩
        rw [heap_setCell_same _ _ _ _ _ _ ((HY.out.block _ (Array.getElem?_eq_some_iff.1 H18.out).1 not_false).trans H18.out), HPS.out]
  case rest =>
    obtain ⟨A2, cap2, hcap2, hsl2, hb2, hx2⟩ := hcut
    obtain ⟨PL, hPL⟩ : ∃ V, V = (proofC 1 n 0 b BB A2 (M + 1) cap2).toArray := ⟨_, rfl⟩
    have hLl : PL.size = 37 := by rw [hPL]; simp [proofC, u8s_len, hBBok.1]
    have HLO : Hid (∀ u ∈ PL, u.oneCell' = true) := by show ∀ u ∈ PL, _; rw [hPL]; simpa using proofC_one 1 n 0 b BB A2 (M + 1) cap2
    rw [← hPL] at hb2
    have HPL := Lib.hid hPL
    have HC2 := Lib.hid hcap2
    have HS2 := Lib.hid hsl2
    have hZ := HZ59.out
    have hZ7 := HX79.out.size
    have h7lt : w7.heap.size < w9.heap.size := (Array.getElem?_eq_some_iff.1 H17.out).1
    have c15 : wc.heap[w5.heap.size]? = some (.cells PA 41 (0, 0)) := (hx2.block _ (Array.getElem?_eq_some_iff.1 H15X.out).1 (by show ¬ (_ = _); omega)).trans H15X.out
    have HC17 : Hid (wc.heap[w7.heap.size]? = some (.cells PD 41 (0, 0))) := by
      have h1 := (HX10.out.block _ (Array.getElem?_eq_some_iff.1 H17.out).1 not_false).trans H17.out
      exact (hx2.block _ (Array.getElem?_eq_some_iff.1 h1).1 (by show ¬ (_ = _); omega)).trans h1
    have HC13 : Hid (wc.heap[w3.heap.size]? = some (.cells RA 28 (0, 0))) := by
      have h1 := (((HX5.out.trans0 HX6.out).trans0 HX7.out).block _ (Array.getElem?_eq_some_iff.1 H13.out).1 not_false).trans H13.out
      have g1 : w3.heap.size < w4.heap.size := (Array.getElem?_eq_some_iff.1 H13.out).1
      have g2 := ((HX5.out.trans0 HX6.out).trans0 HX7.out).size
      have h2 := (HX79.out.block _ (Array.getElem?_eq_some_iff.1 h1).1 (by show ¬ (_ = _); omega)).trans h1
      have h3 := (HX10.out.block _ (Array.getElem?_eq_some_iff.1 h2).1 not_false).trans h2
      exact (hx2.block _ (Array.getElem?_eq_some_iff.1 h3).1 (by show ¬ (_ = _); omega)).trans h3
    have HCU : Hid (Ex0 W wc) := HCU.out.trans hx2 (fun _ _ h => h) (fun k hk h => by have h' : k = w9.heap.size := h; omega)
    have HSL2 : Hid (Sl wc 16 A1 M (rowN 16 PR)) := by
      refine HSL1.out.below (by decide) (HB510.out.trans (hx2.below HB510.out.size (fun i h => ?_)))
      have h' : i = w9.heap.size := h
      omega
    have HC18 := Lib.hid hb2
    obtain ⟨m, hm⟩ : ∃ m : Nat, m = (b + 1) % n := ⟨_, rfl⟩
    obtain ⟨cb, hcb⟩ : ∃ c : Nat, c = b + 1 := ⟨_, rfl⟩
    have eb1 : (b : Int) + 1 = (cb : Int) := by omega
    have ecw : IntKind.i64.wrap (cb : Int) = (cb : Int) := by rw [IntKind.wrap_i64]; omega
    have hmn : m < n := by rw [hm]; exact Nat.mod_lt _ (by omega)
    have emm : (cb : Int) % (n : Int) = (m : Int) := by rw [hm, ← hcb]; simp
    have emt : (cb : Int).tmod (n : Int) = (m : Int) := by rw [Int.tmod_eq_emod_of_nonneg (by omega)]; exact emm
    have emw : IntKind.i64.wrap (m : Int) = (m : Int) := by rw [IntKind.wrap_i64]; omega
    have HC15 := Lib.hid c15
    have hDl : PD.size = 37 := by rw [HPD.out]; simp [proofC, u8s_len, hB.1]
    clear hm hcb hb2 hx2 hPL hcap2 hsl2
    clear h15 h15b h13 h8
    have HP3 : Hid (PA[3]? = some (.int .i64 b)) := by show _ = _; rw [HPA.out]; simp [proofC]
    have HPM : Hid (PA.setIfInBounds 3 (.int .i64 m) = (proofC 1 n 0 m BB A1 M cap1).toArray) := by show _ = _; rw [HPA.out]; simp [proofC]
    obtain ⟨PM, hPM⟩ : ∃ V, V = PA.setIfInBounds 3 (.int .i64 m) := ⟨_, rfl⟩
    have hMl : PM.size = 37 := by rw [hPM, Array.size_setIfInBounds]; exact hPl
    have HPMV : Hid (PM = (proofC 1 n 0 m BB A1 M cap1).toArray) := by show _ = _; rw [hPM]; exact HPM.out
    have HQ : Hid (∀ v ∈ [Value.agg PD, .agg PL, .agg PM], v.cells.size = 37) := by
      intro v hv
      simp only [List.mem_cons, List.not_mem_nil, or_false] at hv
      rcases hv with rfl | rfl | rfl
      · exact hDl
      · exact hLl
      · exact hMl
    obtain ⟨ip, hip, hpz0, hpz1, hpz2⟩ := info_parts infoProof
    have HPMX := Lib.hid hPM
    clear hPM
    have HW13 : Hid (∀ w12 : World, Ex0 wc w12 → w12.heap[wc.heap.size]? = some (.cells PA 41 (0, 0)) → ∃ w13, w13 = w12.setCell ⟨wc.heap.size, 3, none⟩ (.int .i64 m) ∧ Ex0 wc w13 ∧ w13.heap[wc.heap.size]? = some (.cells PM 41 (0, 0)) ∧ w13.heap[w7.heap.size]? = some (.cells PD 41 (0, 0)) ∧ w13.heap[w9.heap.size]? = some (.cells PL 41 (0, 0))) := fun w12 hx hb => by
      have hx2 := hx.trans (Ex.setCell w12 ⟨wc.heap.size, 3, none⟩ (.int .i64 m)) (U := fun _ => False) (fun _ _ h => h) (fun k hk h => by have h' : k = wc.heap.size := h; omega)
      refine ⟨_, rfl, hx2, ?_, (hx2.block _ (Array.getElem?_eq_some_iff.1 HC17.out).1 not_false).trans HC17.out, (hx2.block _ (Array.getElem?_eq_some_iff.1 HC18.out).1 not_false).trans HC18.out⟩
      rw [heap_setCell_same _ _ _ _ _ _ hb, HPMX.out]
    go_wp2_with (first | refine wpList_load_row rfl 41 (.tmp 15) rfl w5.heap.size rfl 41 PA (0, 0) _ c15 Try.underlying41 rfl (by rw [hPl]; kernel_rfl) ?_ | (refine wpList_store_all rfl 41 (.tmp 19) (.tmp 73) rfl wc.heap.size rfl PA _ rfl 41 (heap_alloc_new _ _) (by rw [hPl]; rfl) HPO.out (by rw [hPl]; kernel_rfl) ?_; rw [World.setRow_alloc_new]; obtain ⟨w12, hw12⟩ : ∃ w12, w12 = wc.alloc (.cells PA 41) := ⟨_, rfl⟩; rw [← hw12]; have HX12 : Hid (Ex0 wc w12) := (by rw [hw12]; exact Ex.alloc _ _); have H19 : Hid (w12.heap[wc.heap.size]? = some (.cells PA 41 (0, 0))) := (by rw [hw12]; exact heap_alloc_new _ _); clear hw12; obtain ⟨w13, hw13, hx13, hm13, hd13, hl13⟩ := HW13.out w12 HX12.out H19.out; have HX13 := Lib.hid hx13; have HM13 := Lib.hid hm13; have HD13 := Lib.hid hd13; have HL13 := Lib.hid hl13; have HW13E := Lib.hid hw13; clear hw13 hx13 hm13 hd13 hl13 c15; have g3 : w12.cell? ⟨w5.heap.size, 3, none⟩ = some (.int .i64 b) := (by rw [cell_of_row _ _ _ _ _ _ ((HX12.out.block _ (Array.getElem?_eq_some_iff.1 HC15.out).1 not_false).trans HC15.out)]; exact HP3.out); have k3 : w12.cell? ⟨wc.heap.size, 3, none⟩ = some (.int .i64 b) := (by rw [cell_of_row _ _ _ _ _ _ H19.out]; exact HP3.out); have kf : w12.frozen? ⟨wc.heap.size, 3, none⟩ = false := frozen_of_row _ _ _ _ _ H19.out) | (rw [← HW13E.out]; refine wpList_load_row rfl 41 (.tmp 17) rfl w7.heap.size rfl 41 PD (0, 0) _ HD13.out Try.underlying41 rfl (by rw [hDl]; kernel_rfl) ?_; clear g3 k3 kf) | refine wpList_load_row rfl 41 (.tmp 18) rfl w9.heap.size rfl 41 PL (0, 0) _ HL13.out Try.underlying41 rfl (by rw [hLl]; kernel_rfl) ?_ | refine wpList_load_row rfl 41 (.tmp 19) rfl wc.heap.size rfl 41 PM (0, 0) _ HM13.out Try.underlying41 rfl (by rw [hMl]; kernel_rfl) ?_ | (refine wpList_buildSlice_all rfl 48 41 3 _ rfl [.agg PD, .agg PL, .agg PM] ip _ 37 Try.underlying48 hip hpz0 hpz1 (by decide) (by decide) rfl (by decide) rfl HQ.out ?_; obtain ⟨w14, hw14⟩ : ∃ w14, w14 = w13.alloc (.cells ([Value.agg PD, .agg PL, .agg PM].flatMap fun v => v.cells.toList).toArray 41) := ⟨_, rfl⟩; rw [← hw14]; have HX14 : Hid (Ex0 w13 w14) := (by rw [hw14]; exact Ex.alloc _ _); have H83 : Hid (w14.heap[w13.heap.size]? = some (.cells ([Value.agg PD, .agg PL, .agg PM].flatMap fun v => v.cells.toList).toArray 41 (0, 0))) := (by rw [hw14]; exact heap_alloc_new _ _); clear hw14))
    obtain ⟨b83, hb83⟩ : ∃ x, x = w13.heap.size := ⟨_, rfl⟩
    rw [← hb83]
    have HROW : Hid (∀ k, k < 3 → RowAt w14 ⟨b83, k * 37, none⟩ ([PD, PL, PM].getD k #[]).toList) := by
      intro k hk j u hu
      rw [Addr.add_lit, cell_of_row _ _ _ _ _ _ (hb83 ▸ H83.out)]
      exact three_at PD PL PM hDl hLl hMl k hk j u hu
    have HEL : Hid (∀ k, k < 3 → ∃ (q : Int) (D : List Nat) (Aq : Option Addr) (ls : List (List Nat)) (capq : Nat), [PD, PL, PM].getD k #[] = (proofC 1 n 0 q D Aq ls.length capq).toArray ∧ (D.length = 32 ∧ ∀ y ∈ D, y < 256) ∧ AllB 16 ls ∧ ls.length ≤ 100000 ∧ ls.length ≤ capq ∧ Sl w14 16 Aq ls.length (rowN 16 ls)) := by
      intro k hk
      rcases (by omega : k = 0 ∨ k = 1 ∨ k = 2) with rfl | rfl | rfl
      · exact ⟨b, B, A1, PR, cap1, by rw [← HM.out]; exact HPD.out, hB, HOK1.out, by rw [← HM.out]; omega, by rw [← HM.out]; exact HC1.out, by rw [← HM.out]; exact (HSL2.out.ex0 HX13.out).ex0 HX14.out⟩
      · exact ⟨b, BB, A2, PR ++ [S], cap2, by rw [List.length_append, ← HM.out]; exact HPL.out, hBBok, HOK1.out.append (AllB.single hS.1 hS.2), by rw [List.length_append, ← HM.out]; simp; omega, by rw [List.length_append, ← HM.out]; exact HC2.out, by rw [List.length_append, ← HM.out]; exact (HS2.out.ex0 HX13.out).ex0 HX14.out⟩
      · exact ⟨m, BB, A1, PR, cap1, by rw [← HM.out]; exact HPMV.out, hBBok, HOK1.out, by rw [← HM.out]; omega, by rw [← HM.out]; exact HC1.out, by rw [← HM.out]; exact (HSL2.out.ex0 HX13.out).ex0 HX14.out⟩
    have HR14 : Hid (w14.heap[w3.heap.size]? = some (.cells RA 28 (0, 0))) := ((HX13.out.trans0 HX14.out).block _ (Array.getElem?_eq_some_iff.1 HC13.out).1 not_false).trans HC13.out
    have HLD13 : Hid (∀ (o : Oper) (a : Act) (w' : World), o.op = .load 28 (.tmp 13) → a.eval (.tmp 13) = .pointer (some ⟨w3.heap.size, 0, none⟩) → w'.heap[w3.heap.size]? = some (.cells RA 28 (0, 0)) → (execOp a.eval o).run Try.prog w' = .ok (.value (.agg RA)) w') := fun o a w' h1 h2 h3 => exec_load_row 28 (.tmp 13) h1 w3.heap.size h2 _ RA _ _ h3 Try.underlying28 rfl (by rw [hRs]; kernel_rfl)
    clear hb83 hZ hZ7 h7lt
    go_loopw [85] (fun i wr => ∃ k : Nat, k ≤ 3 ∧ i = .int .i64 k ∧ Hid (Ex0 w14 wr)) (fun i _ => 3 - (intOf i).toNat)
    case atStart => exact ⟨0, by omega, rfl, Ex.refl _ _⟩
    case round =>
      obtain ⟨k, hk, rfl, HXR⟩ := hrel
      by_cases hlt : k < 3
      · obtain ⟨q, D, Aq, ls, capq, hQ, hD, hok, h5, hcq, hsq⟩ := HEL.out k hlt
        have hrow := (HROW.out k hlt).ex HXR.out not_false
        generalize [PD, PL, PM].getD k #[] = Q at hQ hrow
        obtain ⟨N, hN⟩ : ∃ N, N = ls.length := ⟨_, rfl⟩
        obtain ⟨VB, hVB⟩ : ∃ V, V = (u8s D).toArray := ⟨_, rfl⟩
        have hvb : VB.size = 32 := by rw [hVB]; simp [u8s_len, hD.1]
        have hQl : Q.size = 37 := by rw [hQ]; simp [proofC, u8s_len, hD.1]
        have HQO : Hid (∀ u ∈ Q, u.oneCell' = true) := by show ∀ u ∈ Q, _; rw [hQ]; simpa using proofC_one 1 n 0 q D Aq ls.length capq
        obtain ⟨cr, hcr⟩ : ∃ c, c = acheck RS 1 n 0 q D ls := ⟨_, rfl⟩
        have HC1X : Hid (∀ w', Ex0 w14 w' → Calls Try.prog 19 #[.agg RA, .agg Q] w' fun e w'' => e = .returned (.bool cr) ∧ Ex0 w' w'') := fun w' hx => by
          have := HKA.out Aq capq 0 q D ls w' hD hok h5 hcq (hsq.ex0 hx)
          rw [← hQ, ← hcr] at this
          exact this
        have HC2X : Hid (∀ w', Ex0 w14 w' → Calls Try.prog 20 #[.agg RA, .int .i64 1, .int .i64 n, .int .i64 0, .int .i64 q, .agg VB, .slice Aq N capq] w' fun e w'' => e = .returned (.bool cr) ∧ Ex0 w' w'') := fun w' hx => by
          have := HKR.out Aq capq 0 q D ls w' hD hok h5 hcq (hsq.ex0 hx)
          rw [← hVB, ← hcr, ← hN] at this
          exact this
        have hp0 : Q[0]? = some (.int .i64 1) := by rw [hQ]; simp [proofC]
        have hp1 : Q[1]? = some (.int .i64 n) := by rw [hQ]; simp [proofC]
        have hp2 : Q[2]? = some (.int .i64 0) := by rw [hQ]; simp [proofC]
        have hp3 : Q[3]? = some (.int .i64 q) := by rw [hQ]; simp [proofC]
        have hp36 : Q[36]? = some (.slice Aq N capq) := by rw [hQ, hN]; simp [proofC, u8s_len, hD.1]
        have hpr : ∀ j u, VB.toList[j]? = some u → Q[4 + j]? = some u := fun j u hu => by
          rw [hVB] at hu
          have hj : j < (u8s D).length := (List.getElem?_eq_some_iff.1 hu).1
          rw [hQ]
          simp only [proofC, List.getElem?_toArray]
          rw [List.getElem?_append_right (by simp), show 4 + j - [Value.int IntKind.i64 1, Value.int IntKind.i64 n, Value.int IntKind.i64 0, Value.int IntKind.i64 q].length = j by simp, List.getElem?_append_left hj]
          exact hu
        have HPR := Lib.hid hpr
        have HP := Lib.hid (And.intro hp0 (And.intro hp1 (And.intro hp2 (And.intro hp3 hp36))))
        have hcc : (cr != cr) = false := by simp
        clear hN hVB hQ hcr hp0 hp1 hp2 hp3 hp36 hpr hD hok h5 hcq hsq
        have i0 : (0 : Int) ≤ (k : Int) := Int.natCast_nonneg _
        have i3 : (k : Int) < 3 := by omega
        go_wp2_with (first | refine wpList_load_at rfl 41 (.tmp 87) rfl _ rfl Q.toList _ hrow Try.underlying41 rfl (by rw [Array.length_toList, hQl]; kernel_rfl) ?_ | (refine wpList_store_all rfl 41 (.tmp 21) (.tmp 88) rfl wr.heap.size rfl Q _ rfl 41 (heap_alloc_new _ _) (by rw [hQl]; rfl) HQO.out (by rw [hQl]; kernel_rfl) ?_; rw [World.setRow_alloc_new]; obtain ⟨wq, hwq⟩ : ∃ wq, wq = wr.alloc (.cells Q 41) := ⟨_, rfl⟩; rw [← hwq]; have HXQ : Hid (Ex0 w14 wq) := (by rw [hwq]; exact HXR.out.alloc' _); have H21 : Hid (wq.heap[wr.heap.size]? = some (.cells Q 41 (0, 0))) := (by rw [hwq]; exact heap_alloc_new _ _); clear hwq))
        have HSX : Hid (∀ w' : World, Ex0 wq w' → w'.heap[w3.heap.size]? = some (.cells RA 28 (0, 0)) ∧ w'.heap[wr.heap.size]? = some (.cells Q 41 (0, 0)) ∧ RowAt w' ⟨wr.heap.size, 4, none⟩ VB.toList ∧ w'.cell? ⟨wr.heap.size, 0, none⟩ = some (.int .i64 1) ∧ w'.cell? ⟨wr.heap.size, 1, none⟩ = some (.int .i64 n) ∧ w'.cell? ⟨wr.heap.size, 2, none⟩ = some (.int .i64 0) ∧ w'.cell? ⟨wr.heap.size, 3, none⟩ = some (.int .i64 q) ∧ w'.cell? ⟨wr.heap.size, 36, none⟩ = some (.slice Aq N capq)) := fun w' hx => by
          have hb := (hx.block _ (Array.getElem?_eq_some_iff.1 H21.out).1 not_false).trans H21.out
          refine ⟨((HXQ.out.trans0 hx).block _ (Array.getElem?_eq_some_iff.1 HR14.out).1 not_false).trans HR14.out, hb, fun j u hu => ?_, ?_, ?_, ?_, ?_, ?_⟩
          · rw [Addr.add_lit, cell_of_row _ _ _ _ _ _ hb]; exact HPR.out j u hu
          · rw [cell_of_row _ _ _ _ _ _ hb]; exact HP.out.1
          · rw [cell_of_row _ _ _ _ _ _ hb]; exact HP.out.2.1
          · rw [cell_of_row _ _ _ _ _ _ hb]; exact HP.out.2.2.1
          · rw [cell_of_row _ _ _ _ _ _ hb]; exact HP.out.2.2.2.1
          · rw [cell_of_row _ _ _ _ _ _ hb]; exact HP.out.2.2.2.2
        have HLD21 : Hid (∀ (o : Oper) (a : Act) (w' : World), o.op = .load 41 (.tmp 21) → a.eval (.tmp 21) = .pointer (some ⟨wr.heap.size, 0, none⟩) → w'.heap[wr.heap.size]? = some (.cells Q 41 (0, 0)) → (execOp a.eval o).run Try.prog w' = .ok (.value (.agg Q)) w') := fun o a w' h1 h2 h3 => exec_load_row 41 (.tmp 21) h1 wr.heap.size h2 _ Q _ _ h3 Try.underlying41 rfl (by rw [hQl]; kernel_rfl)
        have HLDB : Hid (∀ (o : Oper) (a : Act) (w' : World), o.op = .load 24 (.tmp 101) → a.eval (.tmp 101) = .pointer (some ⟨wr.heap.size, 4, none⟩) → RowAt w' ⟨wr.heap.size, 4, none⟩ VB.toList → (execOp a.eval o).run Try.prog w' = .ok (.value (.agg VB)) w') := fun o a w' h1 h2 h3 => exec_load_at 24 (.tmp 101) h1 _ h2 VB.toList _ h3 Try.underlying24 rfl (by rw [Array.length_toList, hvb]; kernel_rfl)
        have HY : Hid (Ex0 wq wq.drew) := Ex.drew _
        have hS := HSX.out _ HY.out
        clear hrow
        refine wp_region_takes (fun w' => w'.heap[w3.heap.size]? = some (.cells RA 28 (0, 0)) ∧ w'.heap[wr.heap.size]? = some (.cells Q 41 (0, 0)) ∧ RowAt w' ⟨wr.heap.size, 4, none⟩ VB.toList ∧ w'.cell? ⟨wr.heap.size, 0, none⟩ = some (.int .i64 1) ∧ w'.cell? ⟨wr.heap.size, 1, none⟩ = some (.int .i64 n) ∧ w'.cell? ⟨wr.heap.size, 2, none⟩ = some (.int .i64 0) ∧ w'.cell? ⟨wr.heap.size, 3, none⟩ = some (.int .i64 q) ∧ w'.cell? ⟨wr.heap.size, 36, none⟩ = some (.slice Aq N capq)) (by kernel_rfl) ?_
        simp only [List.length_cons, List.length_nil]
        generalize wq.drew = wd at *
        refine' wpAnyH_do 0 rfl (by kernel_rfl) (fun _ _ _ _ h => h) (by rfl) (by assumption) ⟨_, fun w' hS => HLD13.out _ _ _ rfl rfl hS.1, ?_⟩
        simp only [Act.put, List.setIfInBounds_toArray, List.set_cons_zero, List.set_cons_succ]
        refine' wpAnyH_do 1 rfl (by kernel_rfl) (fun _ _ _ _ h => h) (by rfl) (by assumption) ⟨_, fun w' hS => HLD21.out _ _ _ rfl rfl hS.2.1, ?_⟩
        simp only [Act.put, List.setIfInBounds_toArray, List.set_cons_zero, List.set_cons_succ]
        refine' wpAnyH_do 3 rfl (by kernel_rfl) (fun _ _ _ _ h => h) (by rfl) (by assumption) ⟨_, fun w' hS => HLD13.out _ _ _ rfl rfl hS.1, ?_⟩
        simp only [Act.put, List.setIfInBounds_toArray, List.set_cons_zero, List.set_cons_succ]
        refine' wpAnyH_do 4 rfl (by kernel_rfl) (fun _ _ _ _ h => h) (by rfl) (by assumption) ⟨_, fun w' hS => ?_, ?_⟩
        rotate_left
        · ((try dsimp only at hS); go_split_ands; go_simp; try (with_reducible rfl))
        simp only [Act.put, List.setIfInBounds_toArray, List.set_cons_zero, List.set_cons_succ]
        refine' wpAnyH_do 5 rfl (by kernel_rfl) (fun _ _ _ _ h => h) (by rfl) (by assumption) ⟨_, fun w' hS => ?_, ?_⟩
        rotate_left
        · ((try dsimp only at hS); go_split_ands; go_simp; try (with_reducible rfl))
        simp only [Act.put, List.setIfInBounds_toArray, List.set_cons_zero, List.set_cons_succ]
        refine' wpAnyH_do 6 rfl (by kernel_rfl) (fun _ _ _ _ h => h) (by rfl) (by assumption) ⟨_, fun w' hS => ?_, ?_⟩
        rotate_left
        · ((try dsimp only at hS); go_split_ands; go_simp; try (with_reducible rfl))
        simp only [Act.put, List.setIfInBounds_toArray, List.set_cons_zero, List.set_cons_succ]
        refine' wpAnyH_do 7 rfl (by kernel_rfl) (fun _ _ _ _ h => h) (by rfl) (by assumption) ⟨_, fun w' hS => ?_, ?_⟩
        rotate_left
        · ((try dsimp only at hS); go_split_ands; go_simp; try (with_reducible rfl))
        simp only [Act.put, List.setIfInBounds_toArray, List.set_cons_zero, List.set_cons_succ]
        refine' wpAnyH_do 8 rfl (by kernel_rfl) (fun _ _ _ _ h => h) (by rfl) (by assumption) ⟨_, fun w' hS => ?_, ?_⟩
        rotate_left
        · ((try dsimp only at hS); go_split_ands; go_simp; try (with_reducible rfl))
        simp only [Act.put, List.setIfInBounds_toArray, List.set_cons_zero, List.set_cons_succ]
        refine' wpAnyH_do 9 rfl (by kernel_rfl) (fun _ _ _ _ h => h) (by rfl) (by assumption) ⟨_, fun w' hS => ?_, ?_⟩
        rotate_left
        · ((try dsimp only at hS); go_split_ands; go_simp; try (with_reducible rfl))
        simp only [Act.put, List.setIfInBounds_toArray, List.set_cons_zero, List.set_cons_succ]
        refine' wpAnyH_do 10 rfl (by kernel_rfl) (fun _ _ _ _ h => h) (by rfl) (by assumption) ⟨_, fun w' hS => ?_, ?_⟩
        rotate_left
        · ((try dsimp only at hS); go_split_ands; go_simp; try (with_reducible rfl))
        simp only [Act.put, List.setIfInBounds_toArray, List.set_cons_zero, List.set_cons_succ]
        refine' wpAnyH_do 11 rfl (by kernel_rfl) (fun _ _ _ _ h => h) (by rfl) (by assumption) ⟨_, fun w' hS => ?_, ?_⟩
        rotate_left
        · ((try dsimp only at hS); go_split_ands; go_simp; try (with_reducible rfl))
        simp only [Act.put, List.setIfInBounds_toArray, List.set_cons_zero, List.set_cons_succ]
        refine' wpAnyH_do 12 rfl (by kernel_rfl) (fun _ _ _ _ h => h) (by rfl) (by assumption) ⟨_, fun w' hS => ?_, ?_⟩
        rotate_left
        · ((try dsimp only at hS); go_split_ands; go_simp; try (with_reducible rfl))
        simp only [Act.put, List.setIfInBounds_toArray, List.set_cons_zero, List.set_cons_succ]
        refine' wpAnyH_do 13 rfl (by kernel_rfl) (fun _ _ _ _ h => h) (by rfl) (by assumption) ⟨_, fun w' hS => HLDB.out _ _ _ rfl rfl hS.2.2.1, ?_⟩
        simp only [Act.put, List.setIfInBounds_toArray, List.set_cons_zero, List.set_cons_succ]
        refine' wpAnyH_do 14 rfl (by kernel_rfl) (fun _ _ _ _ h => h) (by rfl) (by assumption) ⟨_, fun w' hS => ?_, ?_⟩
        rotate_left
        · ((try dsimp only at hS); go_split_ands; go_simp; try (with_reducible rfl))
        simp only [Act.put, List.setIfInBounds_toArray, List.set_cons_zero, List.set_cons_succ]
        refine' wpAnyH_do 15 rfl (by kernel_rfl) (fun _ _ _ _ h => h) (by rfl) (by assumption) ⟨_, fun w' hS => ?_, ?_⟩
        rotate_left
        · ((try dsimp only at hS); go_split_ands; go_simp; try (with_reducible rfl))
        simp only [Act.put, List.setIfInBounds_toArray, List.set_cons_zero, List.set_cons_succ]
        refine wpAnyH_eff 2 rfl (by kernel_rfl) (by rfl) (fun K hK => ?_)
        have HKK := Lib.hid hK
        clear hK
        go_simp
        refine (HC1X.out _ (HXQ.out.trans0 HY.out)).mono ?_
        rintro e wx ⟨rfl, hx3⟩
        have HY := Lib.hid (HY.out.trans0 hx3)
        replace hS := HSX.out _ HY.out
        clear hx3
        dsimp only
        refine HKK.out _ _ hS ?_
        clear HKK K
        refine wpAnyH_eff 16 rfl (by kernel_rfl) (by rfl) (fun K hK => ?_)
        have HKK := Lib.hid hK
        clear hK
        go_simp
        refine (HC2X.out _ (HXQ.out.trans0 HY.out)).mono ?_
        rintro e wy ⟨rfl, hx4⟩
        have HY := Lib.hid (HY.out.trans0 hx4)
        replace hS := HSX.out _ HY.out
        clear hx4
        dsimp only
        refine HKK.out _ _ hS ?_
        clear HKK K
        refine' wpAnyH_do 17 rfl (by kernel_rfl) (fun _ _ _ _ h => h) (by rfl) (by assumption) ⟨_, fun w' hS => ?_, ?_⟩
        rotate_left
        · ((try dsimp only at hS); go_split_ands; go_simp; try (with_reducible rfl))
        simp only [Act.put, List.setIfInBounds_toArray, List.set_cons_zero, List.set_cons_succ]
        refine wpAnyH_done (by kernel_rfl) ?_ _
        clear hS
        go_wp2_with fail
        go_roundw
        case rel => exact ⟨k + 1, by omega, by go_num, HXQ.out.trans0 HY.out⟩
        case measure => simp [intOf]; omega
      · obtain rfl : k = 3 := by omega
        have r13 : wr.heap[w3.heap.size]? = some (.cells RA 28 (0, 0)) := (HXR.out.block _ (Array.getElem?_eq_some_iff.1 HR14.out).1 not_false).trans HR14.out
        have HXC : Hid (Ex0 wc wr) := (HX13.out.trans0 HX14.out).trans0 HXR.out
        have r18 : wr.heap[w9.heap.size]? = some (.cells PL 41 (0, 0)) := (HXC.out.block _ (Array.getElem?_eq_some_iff.1 HC18.out).1 not_false).trans HC18.out
        have HLC : Hid (Calls Try.prog 19 #[.agg RA, .agg PL] wr fun e w'' => e = .returned (.bool false) ∧ Ex0 wr w'') := by
          have := HKA.out A2 cap2 0 b BB (PR ++ [S]) wr hBBok (HOK1.out.append (AllB.single hS.1 hS.2)) (by rw [List.length_append, ← HM.out]; simp; omega) (by rw [List.length_append, ← HM.out]; exact HC2.out) (by rw [List.length_append, ← HM.out]; exact HS2.out.ex0 HXC.out)
          rw [List.length_append, ← HM.out, HPF.out.2 BB, show M + [S].length = M + 1 from rfl, ← HPL.out] at this
          exact this
        obtain ⟨cr, hcr⟩ : ∃ c, c = acheck RS 1 n 0 b B PR := ⟨_, rfl⟩
        have HOC : Hid (∀ w', Ex0 wr w' → Calls Try.prog 19 #[.agg RA, .agg PD] w' fun e w'' => e = .returned (.bool cr) ∧ Ex0 w' w'') := fun w' hx => by
          have := HKA.out A1 cap1 0 b B PR w' hB HOK1.out (by rw [← HM.out]; omega) (by rw [← HM.out]; exact HC1.out) (by rw [← HM.out]; exact HSL2.out.ex0 (HXC.out.trans0 hx))
          rw [← HM.out, ← hcr, ← HPD.out] at this
          exact this
        have HBF : Hid (cr = false → ∀ w', (Op.equalIn 10000 24 (.agg VD) (.agg (u8s BB).toArray)).run Try.prog w' = .ok false w') := fun h w' => by
          have := run_eql_bytes (P := Try.prog) w' 24 5 32 .u8 Try.underlying24 Try.underlying5 (by kernel_rfl) (fun w => by kernel_rfl) B BB hB.1 hBBok.1
          rw [decide_eq_false (fun e => by rw [e, HPF.out.1] at hcr; rw [hcr] at h; cases h), ← HVD.out] at this
          exact this
        obtain ⟨VB, hVB⟩ : ∃ V, V = (u8s BB).toArray := ⟨_, rfl⟩
        have hvb : VB.size = 32 := by rw [hVB]; simp [u8s_len, hBBok.1]
        have HPRB : Hid (∀ w', Ex0 wr w' → RowAt w' ⟨w5.heap.size, 4, none⟩ VB.toList) := fun w' hx j u hu => by
          rw [Addr.add_lit, cell_of_row _ _ _ _ _ _ (((HXC.out.trans0 hx).block _ (Array.getElem?_eq_some_iff.1 HC15.out).1 not_false).trans HC15.out), HPA.out]
          rw [hVB] at hu
          have hj : j < (u8s BB).length := (List.getElem?_eq_some_iff.1 hu).1
          simp only [proofC, List.getElem?_toArray]
          rw [List.getElem?_append_right (by simp), show 4 + j - [Value.int IntKind.i64 1, Value.int IntKind.i64 n, Value.int IntKind.i64 0, Value.int IntKind.i64 b].length = j by simp, List.getElem?_append_left hj]
          exact hu
        rw [← hVB] at HBF
        clear hcr hVB
        have HEND : Hid (∀ w', Ex0 wr w' → Below w.heap.size w w') := fun w' hx => low_of_ex (HX0.out.trans0 (HCU.out.trans0 (HXC.out.trans0 hx)))
        go_wp2_with (first | refine wpList_load_row rfl 28 (.tmp 13) rfl w3.heap.size rfl 28 RA (0, 0) _ r13 Try.underlying28 rfl (by rw [hRs]; kernel_rfl) ?_ | refine wpList_load_row rfl 41 (.tmp 18) rfl w9.heap.size rfl 41 PL (0, 0) _ r18 Try.underlying41 rfl (by rw [hLl]; kernel_rfl) ?_)
        refine HLC.out.mono ?_
        rintro e w15 ⟨rfl, hx15⟩
        have HX15 : Hid (Ex0 wr w15) := hx15
        have s13 := (hx15.block _ (Array.getElem?_eq_some_iff.1 r13).1 not_false).trans r13
        have s17 : w15.heap[w7.heap.size]? = some (.cells PD 41 (0, 0)) := ((HXC.out.trans0 hx15).block _ (Array.getElem?_eq_some_iff.1 HC17.out).1 not_false).trans HC17.out
        have HOD := Lib.hid (HOC.out _ hx15)
        clear hx15 r13 r18
        go_wp2_with (first | refine wpList_load_row_g rfl 28 (.tmp 13) rfl w3.heap.size rfl 28 RA (0, 0) _ s13 Try.underlying28 rfl (by rw [hRs]; kernel_rfl) ?_ | refine wpList_load_row_g rfl 41 (.tmp 17) rfl w7.heap.size rfl 41 PD (0, 0) _ s17 Try.underlying41 rfl (by rw [hDl]; kernel_rfl) ?_)
        refine HOD.out.mono ?_
        rintro e w16 ⟨rfl, hx16⟩
        have HX16 : Hid (Ex0 wr w16) := HX15.out.trans0 hx16
        have s8 : w16.heap[b8]? = some (.cells VD 24 (0, 0)) := (((HCU.out.trans0 HXC.out).trans0 HX16.out).block _ (Array.getElem?_eq_some_iff.1 H8.out).1 not_false).trans H8.out
        have srow := HPRB.out _ HX16.out
        clear hx16 s13 s17
        cases cr with
        | true =>
          go_wp2_with fail
          go_ret
          exact ⟨rfl, HEND.out _ HX16.out⟩
        | false =>
          have hne := HBF.out rfl
          go_wp2_with (first | refine wpList_load_row_g rfl 24 (.tmp 8) rfl b8 rfl 24 VD (0, 0) _ s8 Try.underlying24 rfl (by rw [hvd]; kernel_rfl) ?_ | refine wpList_load_at_gd rfl 24 (.tmp 118) rfl ⟨w5.heap.size, 4, none⟩ rfl VB.toList _ srow Try.underlying24 rfl (by rw [Array.length_toList, hvb]; kernel_rfl) ?_)
          go_ret
          exact ⟨rfl, HEND.out _ HX16.out⟩
end Go.Proofs.Ythbdmfbjkkmplaa
