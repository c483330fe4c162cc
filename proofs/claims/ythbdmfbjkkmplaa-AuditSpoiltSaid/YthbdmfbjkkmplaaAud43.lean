/- The walk of AuditRoots: disks that there are not. -/
import Derived.Test.YthbdmfbjkkmplaaAud42
namespace Go.Proofs.Ythbdmfbjkkmplaa
open Go.RowKit Go.Proofs.YthbdmfbjkkmplaaB Go.Proofs.Ythbdmfbjkkmplaa.Sha

set_option maxRecDepth 100000 in
set_option maxHeartbeats 1000000 in
theorem roots_no (v n : Int) (h : fitsB v n = false) (A : Option Addr) (L cap : Nat) (hL : L ≤ 48) (vol blk : Nat) (hvol : vol < 256) (hblk : blk < 256) (B : List Nat) (hB : B.length = 32 ∧ ∀ y ∈ B, y < 256) (w : World) :
    Calls Try.prog 3 (rootsArgs v n A L cap vol blk B) w fun e w' => e = .returned (.bool true) ∧ Below w.heap.size w w' := by
  have HF := Lib.hid h
  have HLA := Lib.hid (leaf_any vol blk hvol hblk B hB.1 hB.2)
  have HLR := Lib.hid (rleaf61_any vol blk hvol hblk B hB.1 hB.2)
  obtain ⟨LS, hLS⟩ : ∃ V, V = (u8s (leafS vol blk B)).toArray := ⟨_, rfl⟩
  have heq : ∀ w', (Op.equalIn 10000 28 (.agg LS) (.agg LS)).run Try.prog w' = .ok true w' := fun w' => by
    have := run_eql_bytes (P := Try.prog) w' 28 5 16 .u8 Try.underlying28 Try.underlying5 (by kernel_rfl) (fun w => by kernel_rfl) (leafS vol blk B) (leafS vol blk B) (leafS_len _ _ _) (leafS_len _ _ _)
    rw [decide_eq_true rfl] at this
    rw [hLS]; exact this
  rw [← hLS] at HLA HLR
  clear hLS
  obtain ⟨VB, hVB⟩ : ∃ V, V = (u8s B).toArray := ⟨_, rfl⟩
  have hvb : VB.size = 32 := by rw [hVB]; simp [u8s_len, hB.1]
  unfold rootsArgs
  rw [← hVB] at HLA HLR ⊢
  have ev : IntKind.i64.wrap (vol : Int) = (vol : Int) := by rw [IntKind.wrap_i64]; omega
  have ek : IntKind.i64.wrap (blk : Int) = (blk : Int) := by rw [IntKind.wrap_i64]; omega
  have i48 : ¬ (48 : Int) < (L : Int) := by omega
  clear h hB hVB
  go_enter Try.func3, Try.ntmps3
  iterate 7 go_step
  generalize hW : World.alloc w _ = W
  have HX0 : Hid (Ex0 w W) := by show Ex0 w W; rw [← hW]; exact Ex.alloc _ _
  have h11 : W.heap[w.heap.size]? = some (.cells VB 24 (0, 0)) := by rw [← hW]; exact heap_alloc_new w _
  obtain ⟨b11, e11⟩ : ∃ b, b = w.heap.size := ⟨_, rfl⟩
  rw [← e11] at h11 ⊢
  have H11 := Lib.hid h11
  have HCU : Hid (Ex0 W W) := Ex.refl _ _
  clear hW e11 h11
  obtain ⟨ZA, hZA⟩ : ∃ V, V = (u8s z16).toArray := ⟨_, rfl⟩
  have HZ16 : Hid (∀ v ∈ ZA, v.oneCell' = true) := by show ∀ v ∈ ZA, _; rw [hZA]; simpa using u8s_one z16
  have hZs : ZA.size = 16 := by rw [hZA]; simp [u8s_len, z16]
  have heqz : ∀ w', (Op.equalIn 10000 28 (.agg ZA) (.agg #[.int .u8 0, .int .u8 0, .int .u8 0, .int .u8 0, .int .u8 0, .int .u8 0, .int .u8 0, .int .u8 0, .int .u8 0, .int .u8 0, .int .u8 0, .int .u8 0, .int .u8 0, .int .u8 0, .int .u8 0, .int .u8 0])).run Try.prog w' = .ok true w' := fun w' => by
    have := run_eql_bytes (P := Try.prog) w' 28 5 16 .u8 Try.underlying28 Try.underlying5 (by kernel_rfl) (fun w => by kernel_rfl) z16 z16 z16_len z16_len
    rw [decide_eq_true rfl] at this
    rw [hZA]; exact this
  have hg1 : Try.prog.eqGuardType Try.prog.depth 28 = false := by kernel_rfl
  have HRN : Hid (∀ cp w', Calls Try.prog 11 #[.int .i64 v, .int .i64 n, .func (.func diskFn) #[] cp] w' fun e w'' => e = .returned (.tuple #[.agg ZA, .int .i64 2]) ∧ Ex0 w' w'') := fun cp w' => by rw [hZA]; exact aroot_no v n HF.out diskFn cp w'
  have HLD : Hid (∀ (o : Oper) (a : Act) (w' : World), o.op = .load 24 (.tmp 11) → a.eval (.tmp 11) = .pointer (some ⟨b11, 0, none⟩) → w'.heap[b11]? = some (.cells VB 24 (0, 0)) → (execOp a.eval o).run Try.prog w' = .ok (.value (.agg VB)) w') := fun o a w' h1 h2 h3 => exec_load_row 24 (.tmp 11) h1 b11 h2 _ VB _ _ h3 Try.underlying24 rfl (by rw [hvb]; kernel_rfl)
  clear hZA
  by_cases hmx : 1 ≤ n
  all_goals
    go_wp2_with (first | (refine (awake_any _).mono ?_; rintro e w1 ⟨rfl, hx1⟩; have HCU := Lib.hid (HCU.out.trans0 hx1); clear hx1) | (refine (fits_any _ _ _).mono ?_; rintro e w' ⟨rfl, rfl⟩; rw [HF.out]) | (refine (disk_any _ _ _ _ _).mono ?_; rintro e w2 ⟨rfl, _, _, hx2⟩; have HCU := Lib.hid (HCU.out.trans0 hx2); clear hx2) | (refine (HRN.out _ _).mono ?_; rintro e w3 ⟨rfl, hx3⟩; have HCU := Lib.hid (HCU.out.trans0 hx3); clear hx3) | (refine wpList_store_all rfl 28 (.tmp 13) (.tmp 42) rfl w3.heap.size rfl ZA _ rfl 28 (heap_alloc_new _ _) (by rw [hZs]; rfl) HZ16.out (by rw [hZs]; kernel_rfl) ?_; rw [World.setRow_alloc_new]; obtain ⟨w5, hw5⟩ : ∃ w5, w5 = w3.alloc (.cells ZA 28) := ⟨_, rfl⟩; rw [← hw5]; have HCU : Hid (Ex0 W w5) := (by rw [hw5]; exact HCU.out.alloc' _); have H13 : Hid (w5.heap[w3.heap.size]? = some (.cells ZA 28 (0, 0))) := (by rw [hw5]; exact heap_alloc_new _ _); clear hw5))
    have hS : w5.drew.heap[b11]? = some (.cells VB 24 (0, 0)) := (HCU.out.block _ (Array.getElem?_eq_some_iff.1 H11.out).1 not_false).trans H11.out
    have HCU : Hid (Ex0 W w5.drew) := HCU.out.drew'
    have HC5 : Hid (Ex0 w5 w5.drew) := (Ex.refl _ _).drew'
    refine wp_region_takes (fun w1 => w1.heap[b11]? = some (.cells VB 24 (0, 0))) (by kernel_rfl) ?_
    simp only [List.length_cons, List.length_nil]
    refine' wpAnyH_do 0 rfl (by kernel_rfl) (fun _ _ _ _ h => h) (by rfl) (by assumption) ⟨_, fun w' hS => ?_, ?_⟩
    rotate_left
    · ((try dsimp only at hS); go_split_ands; go_simp; try (with_reducible rfl))
    simp only [Act.put, List.setIfInBounds_toArray, List.set_cons_zero, List.set_cons_succ]
    refine' wpAnyH_do 1 rfl (by kernel_rfl) (fun _ _ _ _ h => h) (by rfl) (by assumption) ⟨_, fun w' hS => ?_, ?_⟩
    rotate_left
    · ((try dsimp only at hS); go_split_ands; go_simp; try (with_reducible rfl))
    simp only [Act.put, List.setIfInBounds_toArray, List.set_cons_zero, List.set_cons_succ]
    refine' wpAnyH_do 2 rfl (by kernel_rfl) (fun _ _ _ _ h => h) (by rfl) (by assumption) ⟨_, fun w' hS => ?_, ?_⟩
    rotate_left
    · ((try dsimp only at hS); go_split_ands; go_simp; try (with_reducible rfl))
    simp only [Act.put, List.setIfInBounds_toArray, List.set_cons_zero, List.set_cons_succ]
    refine' wpAnyH_do 3 rfl (by kernel_rfl) (fun _ _ _ _ h => h) (by rfl) (by assumption) ⟨_, fun w' hS => ?_, ?_⟩
    rotate_left
    · ((try dsimp only at hS); go_split_ands; go_simp; try (with_reducible rfl))
    simp only [Act.put, List.setIfInBounds_toArray, List.set_cons_zero, List.set_cons_succ]
    refine' wpAnyH_do 4 rfl (by kernel_rfl) (fun _ _ _ _ h => h) (by rfl) (by assumption) ⟨_, fun w' hS => HLD.out _ _ _ rfl rfl hS, ?_⟩
    simp only [Act.put, List.setIfInBounds_toArray, List.set_cons_zero, List.set_cons_succ]
    refine' wpAnyH_do 6 rfl (by kernel_rfl) (fun _ _ _ _ h => h) (by rfl) (by assumption) ⟨_, fun w' hS => ?_, ?_⟩
    rotate_left
    · ((try dsimp only at hS); go_split_ands; go_simp; try (with_reducible rfl))
    simp only [Act.put, List.setIfInBounds_toArray, List.set_cons_zero, List.set_cons_succ]
    refine' wpAnyH_do 7 rfl (by kernel_rfl) (fun _ _ _ _ h => h) (by rfl) (by assumption) ⟨_, fun w' hS => ?_, ?_⟩
    rotate_left
    · ((try dsimp only at hS); go_split_ands; go_simp; try (with_reducible rfl))
    simp only [Act.put, List.setIfInBounds_toArray, List.set_cons_zero, List.set_cons_succ]
    refine' wpAnyH_do 8 rfl (by kernel_rfl) (fun _ _ _ _ h => h) (by rfl) (by assumption) ⟨_, fun w' hS => ?_, ?_⟩
    rotate_left
    · ((try dsimp only at hS); go_split_ands; go_simp; try (with_reducible rfl))
    simp only [Act.put, List.setIfInBounds_toArray, List.set_cons_zero, List.set_cons_succ]
    refine' wpAnyH_do 9 rfl (by kernel_rfl) (fun _ _ _ _ h => h) (by rfl) (by assumption) ⟨_, fun w' hS => ?_, ?_⟩
    rotate_left
    · ((try dsimp only at hS); go_split_ands; go_simp; try (with_reducible rfl))
    simp only [Act.put, List.setIfInBounds_toArray, List.set_cons_zero, List.set_cons_succ]
    refine' wpAnyH_do 10 rfl (by kernel_rfl) (fun _ _ _ _ h => h) (by rfl) (by assumption) ⟨_, fun w' hS => HLD.out _ _ _ rfl rfl hS, ?_⟩
    simp only [Act.put, List.setIfInBounds_toArray, List.set_cons_zero, List.set_cons_succ]
    refine wpAnyH_eff 5 rfl (by kernel_rfl) (by rfl) (fun K hK => ?_)
    have HKK := Lib.hid hK
    clear hK
    go_simp
    refine (HLA.out _).mono ?_
    rintro e w6 ⟨rfl, hx6⟩
    have hS6 := (hx6.block _ (Array.getElem?_eq_some_iff.1 hS).1 not_false).trans hS
    have HCU := Lib.hid (HCU.out.trans0 hx6)
    have HC5 := Lib.hid (HC5.out.trans0 hx6)
    clear hx6 hS
    dsimp only
    refine HKK.out _ _ hS6 ?_
    clear HKK K
    refine wpAnyH_eff 11 rfl (by kernel_rfl) (by rfl) (fun K hK => ?_)
    have HKK := Lib.hid hK
    clear hK
    go_simp
    refine (HLR.out _).mono ?_
    rintro e w7 ⟨rfl, hx7⟩
    have hS7 := (hx7.block _ (Array.getElem?_eq_some_iff.1 hS6).1 not_false).trans hS6
    have HCU := Lib.hid (HCU.out.trans0 hx7)
    have HC5 := Lib.hid (HC5.out.trans0 hx7)
    clear hx7 hS6
    dsimp only
    refine HKK.out _ _ hS7 ?_
    clear HKK K
    refine' wpAnyH_do 12 rfl (by kernel_rfl) (fun _ _ _ _ h => h) (by rfl) (by assumption) ⟨_, fun w' hS => ?_, ?_⟩
    rotate_left
    · ((try dsimp only at hS); go_split_ands; go_simp; try (with_reducible rfl))
    simp only [Act.put, List.setIfInBounds_toArray, List.set_cons_zero, List.set_cons_succ]
    refine wpAnyH_done (by kernel_rfl) ?_ _
    have h13 : w7.heap[w3.heap.size]? = some (.cells ZA 28 (0, 0)) := (HC5.out.block _ (Array.getElem?_eq_some_iff.1 H13.out).1 not_false).trans H13.out
    go_wp2_with (first | (refine (fits_any _ _ _).mono ?_; rintro e w' ⟨rfl, rfl⟩; rw [HF.out]) | refine wpList_load_row rfl 28 (.tmp 13) rfl w3.heap.size rfl 28 ZA (0, 0) _ h13 Try.underlying28 rfl (by rw [hZs]; kernel_rfl) ?_)
    go_ret
    exact ⟨ret_bool (by simp), low_of_ex (HX0.out.trans0 HCU.out)⟩
end Go.Proofs.Ythbdmfbjkkmplaa
