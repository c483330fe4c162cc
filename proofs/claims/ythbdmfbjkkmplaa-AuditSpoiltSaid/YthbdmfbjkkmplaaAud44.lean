/- The walk of AuditRoots: disks that there are. -/
import Derived.Test.YthbdmfbjkkmplaaAud42
namespace Go.Proofs.Ythbdmfbjkkmplaa
open Go.RowKit Go.Proofs.YthbdmfbjkkmplaaB Go.Proofs.Ythbdmfbjkkmplaa.Sha

theorem reads_disk' (v n : Nat) (hv : v ≤ 8) (hn : n ≤ 256) (c1 c2 : Nat) (bl : List (List Nat)) (hbl : AllB 32 bl) (A : Option Addr) (cap : Nat) (w : World) (h : DiskI c1 c2 n bl A cap w) :
    Reads v n diskFn (diskCap c1 c2) (blkAt bl) (fun _ => False) (fun _ w' => DiskI c1 c2 n bl A cap w') w where
  ok := blkAt_ok hbl
  low := fun b hb => hb.elim
  start := h
  keep := fun i w1 w2 h1 hx => by
    refine ⟨(hx.block _ (Array.getElem?_eq_some_iff.1 h1.1).1 (by have := (Array.getElem?_eq_some_iff.1 h.1).1; omega)).trans h1.1, (hx.block _ (Array.getElem?_eq_some_iff.1 h1.2.1).1 (by have := (Array.getElem?_eq_some_iff.1 h.2.1).1; omega)).trans h1.2.1, ?_⟩
    by_cases h0 : 0 < bl.length
    · exact h1.2.2.ex hx (fun b hb => by have := h.2.2.lt h0 (by decide) b hb; omega)
    · exact ⟨h1.2.2.len, h1.2.2.small, fun hn => absurd hn h0⟩
  ent := fun args w => by rfl
  call := fun a b ha hb w' hi => by
    refine (disk1_any a b n (by omega) hb hn c1 c2 bl hbl A cap w' hi).mono ?_
    rintro e w'' ⟨rfl, hx⟩
    refine ⟨_, _, rfl, blkAt_ok hbl _, ?_, hi.ex hx not_false not_false (fun _ _ => not_false), hx⟩
    by_cases h1 : a * n + b < bl.length
    · simp [h1]
    · simp only [h1, decide_false, Bool.false_eq_true, if_false]
      unfold blkAt
      rw [List.getD_eq_getElem?_getD, List.getElem?_eq_none (by omega)]; rfl

set_option maxRecDepth 100000 in
set_option maxHeartbeats 1000000 in
theorem roots_yes (v n : Nat) (hv1 : 1 ≤ v) (hv : v ≤ 8) (hn1 : 1 ≤ n) (hn : n ≤ 256) (hvn : v * n ≤ 24) (A : Option Addr) (bl : List (List Nat)) (cap : Nat) (hL : bl.length ≤ 48) (hbl : AllB 32 bl) (vol blk : Nat) (hvol : vol < 256) (hblk : blk < 256) (B : List Nat) (hB : B.length = 32 ∧ ∀ y ∈ B, y < 256) (w : World) (hs : Sl w 32 A bl.length (rowN 32 bl)) :
    Calls Try.prog 3 (rootsArgs v n A bl.length cap vol blk B) w fun e w' => e = .returned (.bool true) ∧ Below w.heap.size w w' := by
  have HF : Hid (fitsB v n = true) := by
    show _ = _
    simp only [fitsB, decide_eq_true_eq]; omega
  obtain ⟨N, hN⟩ : ∃ N, N = v * n := ⟨_, rfl⟩
  have hmul : (v : Int) * (n : Int) = (N : Int) := by rw [hN]; simp
  have i24 : ¬ (24 : Int) < (N : Int) := by omega
  have hmx : (1 : Int) ≤ (n : Int) := by omega
  have hN1 : 1 ≤ N := by rw [hN]; exact Nat.mul_pos hv1 hn1
  have hN24 : N ≤ 24 := by omega
  have HLA := Lib.hid (leaf_any vol blk hvol hblk B hB.1 hB.2)
  have HLR := Lib.hid (rleaf61_any vol blk hvol hblk B hB.1 hB.2)
  obtain ⟨LS, hLS⟩ : ∃ V, V = (u8s (leafS vol blk B)).toArray := ⟨_, rfl⟩
  have heq : ∀ w', (Op.equalIn 10000 28 (.agg LS) (.agg LS)).run Try.prog w' = .ok true w' := fun w' => by
    have := run_eql_bytes (P := Try.prog) w' 28 5 16 .u8 Try.underlying28 Try.underlying5 (by kernel_rfl) (fun w => by kernel_rfl) (leafS vol blk B) (leafS vol blk B) (leafS_len _ _ _) (leafS_len _ _ _)
    rw [decide_eq_true rfl] at this
    rw [hLS]; exact this
  rw [← hLS] at HLA HLR
  clear hLS
  obtain ⟨VB, hVB⟩ : ∃ V, V = (u8s B).toArray := ⟨_, rfl⟩
  have hvb : VB.size = 32 := by rw [hVB]; simp [u8s_len, hB.1]
  unfold rootsArgs
  rw [← hVB] at HLA HLR ⊢
  have ev : IntKind.i64.wrap (vol : Int) = (vol : Int) := by rw [IntKind.wrap_i64]; omega
  have ek : IntKind.i64.wrap (blk : Int) = (blk : Int) := by rw [IntKind.wrap_i64]; omega
  have i48 : ¬ (48 : Int) < (bl.length : Int) := by omega
  have ht16 : (treeS (leafN (blkAt bl) n N)).length = 16 := treeS_len (by rw [leafN_len]; omega)
  have HLV : Hid (∀ w', Ex0 w w' → Calls Try.prog 16 #[.int .i64 v, .int .i64 n, .slice A bl.length cap] w' fun e w'' => ∃ v', e = .returned v' ∧ w''.ownsRow w'.heap.size 28 16 v' N (rowN 16 (leafN (blkAt bl) n N)) ∧ Ex0 w' w'') := fun w' hx => by
    have := rleaves_any v n hv hn bl hbl (by omega) A cap w' (hs.ex0 hx)
    rw [← hN] at this; exact this
  have HRD : Hid (∀ w' c1 c2, Ex0 w w' → w'.heap[c1]? = some (.cells #[.int .i64 n] 3 (0, 0)) → w'.heap[c2]? = some (.cells #[.slice A bl.length cap] 22 (0, 0)) → Calls Try.prog 11 #[.int .i64 v, .int .i64 n, .func (.func diskFn) #[] (diskCap c1 c2)] w' fun e w'' => e = .returned (.tuple #[.agg (u8s (treeS (leafN (blkAt bl) n N))).toArray, .int .i64 0]) ∧ Ex0 w' w'') := fun w' c1 c2 hx h1 h2 => by
    have := aroot_yes v n hv1 hv hn1 hn diskFn (diskCap c1 c2) (blkAt bl) _ _ w' (reads_disk' v n hv hn c1 c2 bl hbl A cap w' ⟨h1, h2, hs.ex0 hx⟩)
    rw [← hN] at this
    exact this.mono fun e w'' ⟨h1, _, h2⟩ => ⟨h1, h2⟩
  have HRR : Hid (∀ (A' : Option Addr) (cap' : Nat) w', N ≤ cap' → Sl w' 16 A' N (rowN 16 (leafN (blkAt bl) n N)) → Calls Try.prog 15 #[.slice A' N cap'] w' fun e w'' => e = .returned (.agg (u8s (treeS (leafN (blkAt bl) n N))).toArray) ∧ Ex0 w' w'') := fun A' cap' w' hc hsl => by
    have := rroot_aux N (leafN (blkAt bl) n N) A' cap' w' (by rw [leafN_len]; omega) (by rw [leafN_len]; omega) (by rw [leafN_len]; omega) (leafN_ok _ _ _) (by rw [leafN_len]; omega) (by rw [leafN_len]; exact hsl)
    rw [leafN_len] at this; exact this
  obtain ⟨L, hLe⟩ : ∃ L, L = bl.length := ⟨_, rfl⟩
  rw [← hLe] at HLV HRD hL i48 ⊢
  obtain ⟨RW, hRW⟩ : ∃ R, R = rowN 16 (leafN (blkAt bl) n N) := ⟨_, rfl⟩
  rw [← hRW] at HLV HRR
  obtain ⟨RS, hRS⟩ : ∃ R, R = treeS (leafN (blkAt bl) n N) := ⟨_, rfl⟩
  rw [← hRS] at HRD HRR ht16
  clear hB hVB hRS hRW hLe hs hbl hN
  go_enter Try.func3, Try.ntmps3
  iterate 7 go_step
  generalize hW : World.alloc w _ = W
  have HX0 : Hid (Ex0 w W) := by show Ex0 w W; rw [← hW]; exact Ex.alloc _ _
  have h11 : W.heap[w.heap.size]? = some (.cells VB 24 (0, 0)) := by rw [← hW]; exact heap_alloc_new w _
  obtain ⟨b11, e11⟩ : ∃ b, b = w.heap.size := ⟨_, rfl⟩
  rw [← e11] at h11 ⊢
  have H11 := Lib.hid h11
  have HCU : Hid (Ex0 W W) := Ex.refl _ _
  clear hW e11 h11
  obtain ⟨ZA, hZA⟩ : ∃ V, V = (u8s RS).toArray := ⟨_, rfl⟩
  have HZ16 : Hid (∀ v ∈ ZA, v.oneCell' = true) := by show ∀ v ∈ ZA, _; rw [hZA]; simpa using u8s_one RS
  have hZs : ZA.size = 16 := by rw [hZA]; simp [u8s_len, ht16]
  have heqz : ∀ w', (Op.equalIn 10000 28 (.agg ZA) (.agg ZA)).run Try.prog w' = .ok true w' := fun w' => by
    have := run_eql_bytes (P := Try.prog) w' 28 5 16 .u8 Try.underlying28 Try.underlying5 (by kernel_rfl) (fun w => by kernel_rfl) RS RS ht16 ht16
    rw [decide_eq_true rfl] at this
    rw [hZA]; exact this
  have hg1 : Try.prog.eqGuardType Try.prog.depth 28 = false := by kernel_rfl
  rw [← hZA] at HRD HRR
  have HLD : Hid (∀ (o : Oper) (a : Act) (w' : World), o.op = .load 24 (.tmp 11) → a.eval (.tmp 11) = .pointer (some ⟨b11, 0, none⟩) → w'.heap[b11]? = some (.cells VB 24 (0, 0)) → (execOp a.eval o).run Try.prog w' = .ok (.value (.agg VB)) w') := fun o a w' h1 h2 h3 => exec_load_row 24 (.tmp 11) h1 b11 h2 _ VB _ _ h3 Try.underlying24 rfl (by rw [hvb]; kernel_rfl)
  clear hZA
  go_wp2_with (first | (refine (awake_any _).mono ?_; rintro e w1 ⟨rfl, hx1⟩; have HCU := Lib.hid (HCU.out.trans0 hx1); clear hx1) | (refine (fits_any _ _ _).mono ?_; rintro e w' ⟨rfl, rfl⟩; rw [HF.out]) | (refine (disk_any _ _ _ _ _).mono ?_; rintro e w2 ⟨rfl, hk1, hk2, hx2⟩; have HCU := Lib.hid (HCU.out.trans0 hx2); have HRN := Lib.hid (HRD.out _ _ _ (HX0.out.trans0 HCU.out) hk1 hk2); clear hx2 hk1 hk2) | (refine HRN.out.mono ?_; rintro e w3 ⟨rfl, hx3⟩; have HCU := Lib.hid (HCU.out.trans0 hx3); clear hx3) | (refine wpList_store_all rfl 28 (.tmp 13) (.tmp 42) rfl w3.heap.size rfl ZA _ rfl 28 (heap_alloc_new _ _) (by rw [hZs]; rfl) HZ16.out (by rw [hZs]; kernel_rfl) ?_; rw [World.setRow_alloc_new]; obtain ⟨w5, hw5⟩ : ∃ w5, w5 = w3.alloc (.cells ZA 28) := ⟨_, rfl⟩; rw [← hw5]; have HCU : Hid (Ex0 W w5) := (by rw [hw5]; exact HCU.out.alloc' _); have H13 : Hid (w5.heap[w3.heap.size]? = some (.cells ZA 28 (0, 0))) := (by rw [hw5]; exact heap_alloc_new _ _); clear hw5))
  have hS : w5.drew.heap[b11]? = some (.cells VB 24 (0, 0)) := (HCU.out.block _ (Array.getElem?_eq_some_iff.1 H11.out).1 not_false).trans H11.out
  have HCU : Hid (Ex0 W w5.drew) := HCU.out.drew'
  have HC5 : Hid (Ex0 w5 w5.drew) := (Ex.refl _ _).drew'
  refine wp_region_takes (fun w1 => w1.heap[b11]? = some (.cells VB 24 (0, 0))) (by kernel_rfl) ?_
  simp only [List.length_cons, List.length_nil]
  refine' wpAnyH_do 0 rfl (by kernel_rfl) (fun _ _ _ _ h => h) (by rfl) (by assumption) ⟨_, fun w' hS => ?_, ?_⟩
  rotate_left
  · ((try dsimp only at hS); go_split_ands; go_simp; try (with_reducible rfl))
  simp only [Act.put, List.setIfInBounds_toArray, List.set_cons_zero, List.set_cons_succ]
  refine' wpAnyH_do 1 rfl (by kernel_rfl) (fun _ _ _ _ h => h) (by rfl) (by assumption) ⟨_, fun w' hS => ?_, ?_⟩
  rotate_left
  · ((try dsimp only at hS); go_split_ands; go_simp; try (with_reducible rfl))
  simp only [Act.put, List.setIfInBounds_toArray, List.set_cons_zero, List.set_cons_succ]
  refine' wpAnyH_do 2 rfl (by kernel_rfl) (fun _ _ _ _ h => h) (by rfl) (by assumption) ⟨_, fun w' hS => ?_, ?_⟩
  rotate_left
  · ((try dsimp only at hS); go_split_ands; go_simp; try (with_reducible rfl))
  simp only [Act.put, List.setIfInBounds_toArray, List.set_cons_zero, List.set_cons_succ]
  refine' wpAnyH_do 3 rfl (by kernel_rfl) (fun _ _ _ _ h => h) (by rfl) (by assumption) ⟨_, fun w' hS => ?_, ?_⟩
  rotate_left
  · ((try dsimp only at hS); go_split_ands; go_simp; try (with_reducible rfl))
  simp only [Act.put, List.setIfInBounds_toArray, List.set_cons_zero, List.set_cons_succ]
  refine' wpAnyH_do 4 rfl (by kernel_rfl) (fun _ _ _ _ h => h) (by rfl) (by assumption) ⟨_, fun w' hS => HLD.out _ _ _ rfl rfl hS, ?_⟩
  simp only [Act.put, List.setIfInBounds_toArray, List.set_cons_zero, List.set_cons_succ]
  refine' wpAnyH_do 6 rfl (by kernel_rfl) (fun _ _ _ _ h => h) (by rfl) (by assumption) ⟨_, fun w' hS => ?_, ?_⟩
  rotate_left
  · ((try dsimp only at hS); go_split_ands; go_simp; try (with_reducible rfl))
  simp only [Act.put, List.setIfInBounds_toArray, List.set_cons_zero, List.set_cons_succ]
  refine' wpAnyH_do 7 rfl (by kernel_rfl) (fun _ _ _ _ h => h) (by rfl) (by assumption) ⟨_, fun w' hS => ?_, ?_⟩
  rotate_left
  · ((try dsimp only at hS); go_split_ands; go_simp; try (with_reducible rfl))
  simp only [Act.put, List.setIfInBounds_toArray, List.set_cons_zero, List.set_cons_succ]
  refine' wpAnyH_do 8 rfl (by kernel_rfl) (fun _ _ _ _ h => h) (by rfl) (by assumption) ⟨_, fun w' hS => ?_, ?_⟩
  rotate_left
  · ((try dsimp only at hS); go_split_ands; go_simp; try (with_reducible rfl))
  simp only [Act.put, List.setIfInBounds_toArray, List.set_cons_zero, List.set_cons_succ]
  refine' wpAnyH_do 9 rfl (by kernel_rfl) (fun _ _ _ _ h => h) (by rfl) (by assumption) ⟨_, fun w' hS => ?_, ?_⟩
  rotate_left
  · ((try dsimp only at hS); go_split_ands; go_simp; try (with_reducible rfl))
  simp only [Act.put, List.setIfInBounds_toArray, List.set_cons_zero, List.set_cons_succ]
  refine' wpAnyH_do 10 rfl (by kernel_rfl) (fun _ _ _ _ h => h) (by rfl) (by assumption) ⟨_, fun w' hS => HLD.out _ _ _ rfl rfl hS, ?_⟩
  simp only [Act.put, List.setIfInBounds_toArray, List.set_cons_zero, List.set_cons_succ]
  refine wpAnyH_eff 5 rfl (by kernel_rfl) (by rfl) (fun K hK => ?_)
  have HKK := Lib.hid hK
  clear hK
  go_simp
  refine (HLA.out _).mono ?_
  rintro e w6 ⟨rfl, hx6⟩
  have hS6 := (hx6.block _ (Array.getElem?_eq_some_iff.1 hS).1 not_false).trans hS
  have HCU := Lib.hid (HCU.out.trans0 hx6)
  have HC5 := Lib.hid (HC5.out.trans0 hx6)
  clear hx6 hS
  dsimp only
  refine HKK.out _ _ hS6 ?_
  clear HKK K
  refine wpAnyH_eff 11 rfl (by kernel_rfl) (by rfl) (fun K hK => ?_)
  have HKK := Lib.hid hK
  clear hK
  go_simp
  refine (HLR.out _).mono ?_
  rintro e w7 ⟨rfl, hx7⟩
  have hS7 := (hx7.block _ (Array.getElem?_eq_some_iff.1 hS6).1 not_false).trans hS6
  have HCU := Lib.hid (HCU.out.trans0 hx7)
  have HC5 := Lib.hid (HC5.out.trans0 hx7)
  clear hx7 hS6
  dsimp only
  refine HKK.out _ _ hS7 ?_
  clear HKK K
  refine' wpAnyH_do 12 rfl (by kernel_rfl) (fun _ _ _ _ h => h) (by rfl) (by assumption) ⟨_, fun w' hS => ?_, ?_⟩
  rotate_left
  · ((try dsimp only at hS); go_split_ands; go_simp; try (with_reducible rfl))
  simp only [Act.put, List.setIfInBounds_toArray, List.set_cons_zero, List.set_cons_succ]
  refine wpAnyH_done (by kernel_rfl) ?_ _
  go_wp2_with (first | (refine (fits_any _ _ _).mono ?_; rintro e w' ⟨rfl, rfl⟩; rw [HF.out]))
  have hS8 : w7.drew.heap[w3.heap.size]? = some (.cells ZA 28 (0, 0)) := (HC5.out.block _ (Array.getElem?_eq_some_iff.1 H13.out).1 not_false).trans H13.out
  have HCU : Hid (Ex0 W w7.drew) := HCU.out.drew'
  have HLD13 : Hid (∀ (o : Oper) (a : Act) (w' : World), o.op = .load 28 (.tmp 13) → a.eval (.tmp 13) = .pointer (some ⟨w3.heap.size, 0, none⟩) → w'.heap[w3.heap.size]? = some (.cells ZA 28 (0, 0)) → (execOp a.eval o).run Try.prog w' = .ok (.value (.agg ZA)) w') := fun o a w' h1 h2 h3 => exec_load_row 28 (.tmp 13) h1 _ h2 _ ZA _ _ h3 Try.underlying28 rfl (by rw [hZs]; kernel_rfl)
  refine wp_region_takes (fun w1 => w1.heap[w3.heap.size]? = some (.cells ZA 28 (0, 0))) (by kernel_rfl) ?_
  simp only [List.length_cons, List.length_nil]
  clear hS7
  refine' wpAnyH_do 0 rfl (by kernel_rfl) (fun _ _ _ _ h => h) (by rfl) (by assumption) ⟨_, fun w' hS => ?_, ?_⟩
  rotate_left
  · ((try dsimp only at hS); go_split_ands; go_simp; try (with_reducible rfl))
  simp only [Act.put, List.setIfInBounds_toArray, List.set_cons_zero, List.set_cons_succ]
  refine' wpAnyH_do 1 rfl (by kernel_rfl) (fun _ _ _ _ h => h) (by rfl) (by assumption) ⟨_, fun w' hS => ?_, ?_⟩
  rotate_left
  · ((try dsimp only at hS); go_split_ands; go_simp; try (with_reducible rfl))
  simp only [Act.put, List.setIfInBounds_toArray, List.set_cons_zero, List.set_cons_succ]
  refine' wpAnyH_do 2 rfl (by kernel_rfl) (fun _ _ _ _ h => h) (by rfl) (by assumption) ⟨_, fun w' hS => ?_, ?_⟩
  rotate_left
  · ((try dsimp only at hS); go_split_ands; go_simp; try (with_reducible rfl))
  simp only [Act.put, List.setIfInBounds_toArray, List.set_cons_zero, List.set_cons_succ]
  refine' wpAnyH_do 3 rfl (by kernel_rfl) (fun _ _ _ _ h => h) (by rfl) (by assumption) ⟨_, fun w' hS => HLD13.out _ _ _ rfl rfl hS, ?_⟩
  simp only [Act.put, List.setIfInBounds_toArray, List.set_cons_zero, List.set_cons_succ]
  refine' wpAnyH_do 4 rfl (by kernel_rfl) (fun _ _ _ _ h => h) (by rfl) (by assumption) ⟨_, fun w' hS => ?_, ?_⟩
  rotate_left
  · ((try dsimp only at hS); go_split_ands; go_simp; try (with_reducible rfl))
  simp only [Act.put, List.setIfInBounds_toArray, List.set_cons_zero, List.set_cons_succ]
  refine' wpAnyH_do 5 rfl (by kernel_rfl) (fun _ _ _ _ h => h) (by rfl) (by assumption) ⟨_, fun w' hS => ?_, ?_⟩
  rotate_left
  · ((try dsimp only at hS); go_split_ands; go_simp; try (with_reducible rfl))
  simp only [Act.put, List.setIfInBounds_toArray, List.set_cons_zero, List.set_cons_succ]
  refine' wpAnyH_do 6 rfl (by kernel_rfl) (fun _ _ _ _ h => h) (by rfl) (by assumption) ⟨_, fun w' hS => ?_, ?_⟩
  rotate_left
  · ((try dsimp only at hS); go_split_ands; go_simp; try (with_reducible rfl))
  simp only [Act.put, List.setIfInBounds_toArray, List.set_cons_zero, List.set_cons_succ]
  refine wpAnyH_eff 7 rfl (by kernel_rfl) (by rfl) (fun K hK => ?_)
  have HKK := Lib.hid hK
  clear hK
  go_simp
  refine (HLV.out _ (HX0.out.trans0 HCU.out)).mono ?_
  rintro e w8 ⟨vl, rfl, hol, hx8⟩
  have HOL := Lib.hid hol
  obtain ⟨A', cap', rfl, hsl, _, hnl⟩ := own_sl' HOL.out
  have hcap : N ≤ cap' := (by rcases HOL.out.2 with ⟨h, h0⟩ | ⟨g, cp', cur, h, _, _, h4, _⟩ <;> first | omega | (cases h; exact h4))
  have HRO := Lib.hid (HRR.out _ _ _ hcap hsl)
  have hS9 := (hx8.block _ (Array.getElem?_eq_some_iff.1 hS8).1 not_false).trans hS8
  have HCU := Lib.hid (HCU.out.trans0 hx8)
  clear hx8 hS8 hol hsl hnl hcap
  dsimp only
  refine HKK.out _ _ hS9 ?_
  clear HKK K
  refine wpAnyH_eff 8 rfl (by kernel_rfl) (by rfl) (fun K hK => ?_)
  have HKK := Lib.hid hK
  clear hK
  go_simp
  refine HRO.out.mono ?_
  rintro e w9 ⟨rfl, hx9⟩
  have hS10 := (hx9.block _ (Array.getElem?_eq_some_iff.1 hS9).1 not_false).trans hS9
  have HCU := Lib.hid (HCU.out.trans0 hx9)
  clear hx9 hS9
  dsimp only
  refine HKK.out _ _ hS10 ?_
  clear HKK K
  refine' wpAnyH_do 9 rfl (by kernel_rfl) (fun _ _ _ _ h => h) (by rfl) (by assumption) ⟨_, fun w' hS => ?_, ?_⟩
  rotate_left
  · ((try dsimp only at hS); go_split_ands; go_simp; try (with_reducible rfl))
  simp only [Act.put, List.setIfInBounds_toArray, List.set_cons_zero, List.set_cons_succ]
  refine' wpAnyH_do 10 rfl (by kernel_rfl) (fun _ _ _ _ h => h) (by rfl) (by assumption) ⟨_, fun w' hS => ?_, ?_⟩
  rotate_left
  · ((try dsimp only at hS); go_split_ands; go_simp; try (with_reducible rfl))
  simp only [Act.put, List.setIfInBounds_toArray, List.set_cons_zero, List.set_cons_succ]
  refine' wpAnyH_do 11 rfl (by kernel_rfl) (fun _ _ _ _ h => h) (by rfl) (by assumption) ⟨_, fun w' hS => ?_, ?_⟩
  rotate_left
  · ((try dsimp only at hS); go_split_ands; go_simp; try (with_reducible rfl))
  simp only [Act.put, List.setIfInBounds_toArray, List.set_cons_zero, List.set_cons_succ]
  refine wpAnyH_done (by kernel_rfl) ?_ _
  go_wp2_with fail
  go_ret
  exact ⟨ret_bool (by simp), low_of_ex (HX0.out.trans0 HCU.out)⟩
end Go.Proofs.Ythbdmfbjkkmplaa
