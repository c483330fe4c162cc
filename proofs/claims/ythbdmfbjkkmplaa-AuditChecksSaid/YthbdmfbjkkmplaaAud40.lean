/- The walk of AuditChecks. -/
import Derived.Test.YthbdmfbjkkmplaaAud38
import Derived.Test.YthbdmfbjkkmplaaAud32
namespace Go.Proofs.Ythbdmfbjkkmplaa
open Go.RowKit Go.Proofs.YthbdmfbjkkmplaaB Go.Proofs.Ythbdmfbjkkmplaa.Sha

set_option maxRecDepth 100000 in
set_option maxHeartbeats 2000000 in
theorem checks_walk (root : List Nat) (hr : root.length = 16) (v n a b : Int) (B : List Nat) (hB : B.length = 32 ∧ ∀ y ∈ B, y < 256) (A : Option Addr) (cap : Nat) (ls : List (List Nat)) (hok : AllB 16 ls) (hcap : ls.length ≤ cap) (w : World) (hs : Sl w 16 A ls.length (rowN 16 ls)) :
    Calls Try.prog 5 #[.agg (u8s root).toArray, .agg (proofC v n a b B A ls.length cap).toArray] w fun e w' => e = .returned (.bool true) ∧ Below w.heap.size w w' := by
  have HC1 : Hid (ls.length ≤ 40 → ∀ w', Ex0 w w' → Calls Try.prog 19 #[.agg (u8s root).toArray, .agg (proofC v n a b B A ls.length cap).toArray] w' fun e w'' => e = .returned (.bool (acheck root v n a b B ls)) ∧ Ex0 w' w'') := fun hl w' hx => acheck_any root hr v n a b B hB A cap ls hok (by omega) hcap w' (hs.ex0 hx)
  have HC2 : Hid (ls.length ≤ 40 → ∀ w', Ex0 w w' → Calls Try.prog 20 #[.agg (u8s root).toArray, .int .i64 v, .int .i64 n, .int .i64 a, .int .i64 b, .agg (u8s B).toArray, .slice A ls.length cap] w' fun e w'' => e = .returned (.bool (acheck root v n a b B ls)) ∧ Ex0 w' w'') := fun hl w' hx => rcheck61_any root hr v n a b B hB A cap ls hok (by omega) hcap w' (hs.ex0 hx)
  have hsm := hs.small
  obtain ⟨L, hLe⟩ : ∃ L, L = ls.length := ⟨_, rfl⟩
  rw [← hLe] at HC1 HC2 hsm ⊢
  obtain ⟨c, hc⟩ : ∃ c, c = acheck root v n a b B ls := ⟨_, rfl⟩
  rw [← hc] at HC1 HC2
  obtain ⟨RA, hRA⟩ : ∃ V, V = (u8s root).toArray := ⟨_, rfl⟩
  have hRs : RA.size = 16 := by rw [hRA]; simp [u8s_len, hr]
  obtain ⟨PA, hPA⟩ : ∃ V, V = (proofC v n a b B A L cap).toArray := ⟨_, rfl⟩
  obtain ⟨VB, hVB⟩ : ∃ V, V = (u8s B).toArray := ⟨_, rfl⟩
  have hvb : VB.size = 32 := by rw [hVB]; simp [u8s_len, hB.1]
  have hPl : PA.size = 37 := by rw [hPA]; simp [proofC, u8s_len, hB.1]
  have hp0 : PA[0]? = some (.int .i64 v) := by rw [hPA]; simp [proofC]
  have hp1 : PA[1]? = some (.int .i64 n) := by rw [hPA]; simp [proofC]
  have hp2 : PA[2]? = some (.int .i64 a) := by rw [hPA]; simp [proofC]
  have hp3 : PA[3]? = some (.int .i64 b) := by rw [hPA]; simp [proofC]
  have hp36 : PA[36]? = some (.slice A L cap) := by rw [hPA]; simp [proofC, List.getElem?_append_right, u8s_len, hB.1]
  have hpr : ∀ j u, VB.toList[j]? = some u → PA[4 + j]? = some u := fun j u hu => by
    rw [hVB] at hu
    have hj : j < (u8s B).length := (List.getElem?_eq_some_iff.1 hu).1
    rw [hPA]
    simp only [proofC, List.getElem?_toArray]
    rw [List.getElem?_append_right (by simp), show 4 + j - [Value.int IntKind.i64 v, Value.int IntKind.i64 n, Value.int IntKind.i64 a, Value.int IntKind.i64 b].length = j by simp, List.getElem?_append_left hj]
    exact hu
  rw [← hRA, ← hPA] at HC1 ⊢
  rw [← hRA, ← hVB] at HC2
  have HPR := Lib.hid hpr
  have HP := Lib.hid (And.intro hp0 (And.intro hp1 (And.intro hp2 (And.intro hp3 hp36))))
  clear hok hs hLe hRA hPA hp0 hp1 hp2 hp3 hp36 hpr hB hVB hc hcap
  go_enter Try.func5, Try.ntmps5
  iterate 9 go_step
  generalize hW : World.alloc (World.alloc w _) _ = W
  have h2' : W.heap[w.heap.size]? = some (.cells RA 28 (0, 0)) := by rw [← hW]; exact heap_alloc2_old w _ _
  have h3' : W.heap[w.heap.size + 1]? = some (.cells PA 41 (0, 0)) := by rw [← hW]; exact heap_alloc2_new w _ _
  have hx2 : Ex0 w W := by rw [← hW]; exact (Ex.alloc _ _).alloc' _
  obtain ⟨b2, e2⟩ : ∃ b, b = w.heap.size := ⟨_, rfl⟩
  obtain ⟨b3, e3⟩ : ∃ b, b = w.heap.size + 1 := ⟨_, rfl⟩
  rw [← e3] at h3'
  rw [← e2] at h2'
  rw [← e3, ← e2]
  have c0 : W.cell? ⟨b3, 0, none⟩ = some (.int .i64 v) := by rw [cell_of_row _ _ _ _ _ _ h3']; exact HP.out.1
  have c1 : W.cell? ⟨b3, 1, none⟩ = some (.int .i64 n) := by rw [cell_of_row _ _ _ _ _ _ h3']; exact HP.out.2.1
  have c2 : W.cell? ⟨b3, 2, none⟩ = some (.int .i64 a) := by rw [cell_of_row _ _ _ _ _ _ h3']; exact HP.out.2.2.1
  have c3 : W.cell? ⟨b3, 3, none⟩ = some (.int .i64 b) := by rw [cell_of_row _ _ _ _ _ _ h3']; exact HP.out.2.2.2.1
  have c36 : W.cell? ⟨b3, 36, none⟩ = some (.slice A L cap) := by rw [cell_of_row _ _ _ _ _ _ h3']; exact HP.out.2.2.2.2
  have hrb : RowAt W ⟨b3, 4, none⟩ VB.toList := fun j u hu => by
    rw [Addr.add_lit, cell_of_row _ _ _ _ _ _ h3']; exact HPR.out j u hu
  have HSS : Hid (W.heap[b2]? = some (.cells RA 28 (0, 0)) ∧ W.heap[b3]? = some (.cells PA 41 (0, 0)) ∧ RowAt W ⟨b3, 4, none⟩ VB.toList ∧ W.cell? ⟨b3, 0, none⟩ = some (.int .i64 v) ∧ W.cell? ⟨b3, 1, none⟩ = some (.int .i64 n) ∧ W.cell? ⟨b3, 2, none⟩ = some (.int .i64 a) ∧ W.cell? ⟨b3, 3, none⟩ = some (.int .i64 b) ∧ W.cell? ⟨b3, 36, none⟩ = some (.slice A L cap)) := ⟨h2', h3', hrb, c0, c1, c2, c3, c36⟩
  have HX := Lib.hid hx2
  have HC36 := Lib.hid c36
  clear hW hx2 e2 e3 h3' h2' hrb c36 c0 c1 c2 c3
  by_cases h40 : L ≤ 40
  · have i40 : ¬ (40 : Int) < (L : Int) := by omega
    have HD1 := Lib.hid (HC1.out h40)
    have HD2 := Lib.hid (HC2.out h40)
    clear HC1 HC2
    go_wp2_with (refine (awake_any _).mono ?_; rintro e w1 ⟨rfl, hx1⟩; have HX1 := Lib.hid hx1; have d36 := hx1.cellS HC36.out not_false; clear hx1)
    have keepS : ∀ w1 w2 : World, (w1.heap[b2]? = some (.cells RA 28 (0, 0)) ∧ w1.heap[b3]? = some (.cells PA 41 (0, 0)) ∧ RowAt w1 ⟨b3, 4, none⟩ VB.toList ∧ w1.cell? ⟨b3, 0, none⟩ = some (.int .i64 v) ∧ w1.cell? ⟨b3, 1, none⟩ = some (.int .i64 n) ∧ w1.cell? ⟨b3, 2, none⟩ = some (.int .i64 a) ∧ w1.cell? ⟨b3, 3, none⟩ = some (.int .i64 b) ∧ w1.cell? ⟨b3, 36, none⟩ = some (.slice A L cap)) → Ex0 w1 w2 →
        (w2.heap[b2]? = some (.cells RA 28 (0, 0)) ∧ w2.heap[b3]? = some (.cells PA 41 (0, 0)) ∧ RowAt w2 ⟨b3, 4, none⟩ VB.toList ∧ w2.cell? ⟨b3, 0, none⟩ = some (.int .i64 v) ∧ w2.cell? ⟨b3, 1, none⟩ = some (.int .i64 n) ∧ w2.cell? ⟨b3, 2, none⟩ = some (.int .i64 a) ∧ w2.cell? ⟨b3, 3, none⟩ = some (.int .i64 b) ∧ w2.cell? ⟨b3, 36, none⟩ = some (.slice A L cap)) :=
      fun w1 w2 h hx => ⟨(hx.block _ (Array.getElem?_eq_some_iff.1 h.1).1 not_false).trans h.1, (hx.block _ (Array.getElem?_eq_some_iff.1 h.2.1).1 not_false).trans h.2.1, h.2.2.1.ex hx not_false, hx.cellS h.2.2.2.1 not_false, hx.cellS h.2.2.2.2.1 not_false, hx.cellS h.2.2.2.2.2.1 not_false, hx.cellS h.2.2.2.2.2.2.1 not_false, hx.cellS h.2.2.2.2.2.2.2 not_false⟩
    have KEEP := Lib.hid keepS
    have HLD1 : Hid (∀ (o : Oper) (a : Act) (w' : World), o.op = .load 28 (.tmp 2) → a.eval (.tmp 2) = .pointer (some ⟨b2, 0, none⟩) → w'.heap[b2]? = some (.cells RA 28 (0, 0)) → (execOp a.eval o).run Try.prog w' = .ok (.value (.agg RA)) w') := fun o a w' h1 h2 h3 => exec_load_row 28 (.tmp 2) h1 b2 h2 _ RA _ _ h3 Try.underlying28 rfl (by rw [hRs]; kernel_rfl)
    have HLD3 : Hid (∀ (o : Oper) (a : Act) (w' : World), o.op = .load 41 (.tmp 3) → a.eval (.tmp 3) = .pointer (some ⟨b3, 0, none⟩) → w'.heap[b3]? = some (.cells PA 41 (0, 0)) → (execOp a.eval o).run Try.prog w' = .ok (.value (.agg PA)) w') := fun o a w' h1 h2 h3 => exec_load_row 41 (.tmp 3) h1 b3 h2 _ PA _ _ h3 Try.underlying41 rfl (by rw [hPl]; kernel_rfl)
    have HLD2 : Hid (∀ (o : Oper) (a : Act) (w' : World), o.op = .load 24 (.tmp 26) → a.eval (.tmp 26) = .pointer (some ⟨b3, 4, none⟩) → RowAt w' ⟨b3, 4, none⟩ VB.toList → (execOp a.eval o).run Try.prog w' = .ok (.value (.agg VB)) w') := fun o a w' h1 h2 h3 => exec_load_at 24 (.tmp 26) h1 _ h2 VB.toList _ h3 Try.underlying24 rfl (by rw [Array.length_toList, hvb]; kernel_rfl)
    have HCU : Hid (Ex0 W w1.drew) := HX1.out.drew'
    have hS := KEEP.out _ _ HSS.out HCU.out
    clear keepS d36
    refine wp_region_takes (fun w1 => w1.heap[b2]? = some (.cells RA 28 (0, 0)) ∧ w1.heap[b3]? = some (.cells PA 41 (0, 0)) ∧ RowAt w1 ⟨b3, 4, none⟩ VB.toList ∧ w1.cell? ⟨b3, 0, none⟩ = some (.int .i64 v) ∧ w1.cell? ⟨b3, 1, none⟩ = some (.int .i64 n) ∧ w1.cell? ⟨b3, 2, none⟩ = some (.int .i64 a) ∧ w1.cell? ⟨b3, 3, none⟩ = some (.int .i64 b) ∧ w1.cell? ⟨b3, 36, none⟩ = some (.slice A L cap)) (by kernel_rfl) ?_
    simp only [List.length_cons, List.length_nil]
    refine' wpAnyH_do 0 rfl (by kernel_rfl) (fun _ _ _ _ h => h) (by rfl) (by assumption) ⟨_, fun w' hS => HLD1.out _ _ _ rfl rfl hS.1, ?_⟩
    simp only [Act.put, List.setIfInBounds_toArray, List.set_cons_zero, List.set_cons_succ]
    refine' wpAnyH_do 1 rfl (by kernel_rfl) (fun _ _ _ _ h => h) (by rfl) (by assumption) ⟨_, fun w' hS => HLD3.out _ _ _ rfl rfl hS.2.1, ?_⟩
    simp only [Act.put, List.setIfInBounds_toArray, List.set_cons_zero, List.set_cons_succ]
    refine' wpAnyH_do 3 rfl (by kernel_rfl) (fun _ _ _ _ h => h) (by rfl) (by assumption) ⟨_, fun w' hS => HLD1.out _ _ _ rfl rfl hS.1, ?_⟩
    simp only [Act.put, List.setIfInBounds_toArray, List.set_cons_zero, List.set_cons_succ]
    refine' wpAnyH_do 4 rfl (by kernel_rfl) (fun _ _ _ _ h => h) (by rfl) (by assumption) ⟨_, fun w' hS => ?_, ?_⟩
    rotate_left
    · ((try dsimp only at hS); go_split_ands; go_simp; try (with_reducible rfl))
    simp only [Act.put, List.setIfInBounds_toArray, List.set_cons_zero, List.set_cons_succ]
    refine' wpAnyH_do 5 rfl (by kernel_rfl) (fun _ _ _ _ h => h) (by rfl) (by assumption) ⟨_, fun w' hS => ?_, ?_⟩
    rotate_left
    · ((try dsimp only at hS); go_split_ands; go_simp; try (with_reducible rfl))
    simp only [Act.put, List.setIfInBounds_toArray, List.set_cons_zero, List.set_cons_succ]
    refine' wpAnyH_do 6 rfl (by kernel_rfl) (fun _ _ _ _ h => h) (by rfl) (by assumption) ⟨_, fun w' hS => ?_, ?_⟩
    rotate_left
    · ((try dsimp only at hS); go_split_ands; go_simp; try (with_reducible rfl))
    simp only [Act.put, List.setIfInBounds_toArray, List.set_cons_zero, List.set_cons_succ]
    refine' wpAnyH_do 7 rfl (by kernel_rfl) (fun _ _ _ _ h => h) (by rfl) (by assumption) ⟨_, fun w' hS => ?_, ?_⟩
    rotate_left
    · ((try dsimp only at hS); go_split_ands; go_simp; try (with_reducible rfl))
    simp only [Act.put, List.setIfInBounds_toArray, List.set_cons_zero, List.set_cons_succ]
    refine' wpAnyH_do 8 rfl (by kernel_rfl) (fun _ _ _ _ h => h) (by rfl) (by assumption) ⟨_, fun w' hS => ?_, ?_⟩
    rotate_left
    · ((try dsimp only at hS); go_split_ands; go_simp; try (with_reducible rfl))
    simp only [Act.put, List.setIfInBounds_toArray, List.set_cons_zero, List.set_cons_succ]
    refine' wpAnyH_do 9 rfl (by kernel_rfl) (fun _ _ _ _ h => h) (by rfl) (by assumption) ⟨_, fun w' hS => ?_, ?_⟩
    rotate_left
    · ((try dsimp only at hS); go_split_ands; go_simp; try (with_reducible rfl))
    simp only [Act.put, List.setIfInBounds_toArray, List.set_cons_zero, List.set_cons_succ]
    refine' wpAnyH_do 10 rfl (by kernel_rfl) (fun _ _ _ _ h => h) (by rfl) (by assumption) ⟨_, fun w' hS => ?_, ?_⟩
    rotate_left
    · ((try dsimp only at hS); go_split_ands; go_simp; try (with_reducible rfl))
    simp only [Act.put, List.setIfInBounds_toArray, List.set_cons_zero, List.set_cons_succ]
    refine' wpAnyH_do 11 rfl (by kernel_rfl) (fun _ _ _ _ h => h) (by rfl) (by assumption) ⟨_, fun w' hS => ?_, ?_⟩
    rotate_left
    · ((try dsimp only at hS); go_split_ands; go_simp; try (with_reducible rfl))
    simp only [Act.put, List.setIfInBounds_toArray, List.set_cons_zero, List.set_cons_succ]
    refine' wpAnyH_do 12 rfl (by kernel_rfl) (fun _ _ _ _ h => h) (by rfl) (by assumption) ⟨_, fun w' hS => ?_, ?_⟩
    rotate_left
    · ((try dsimp only at hS); go_split_ands; go_simp; try (with_reducible rfl))
    simp only [Act.put, List.setIfInBounds_toArray, List.set_cons_zero, List.set_cons_succ]
    refine' wpAnyH_do 13 rfl (by kernel_rfl) (fun _ _ _ _ h => h) (by rfl) (by assumption) ⟨_, fun w' hS => HLD2.out _ _ _ rfl rfl hS.2.2.1, ?_⟩
    simp only [Act.put, List.setIfInBounds_toArray, List.set_cons_zero, List.set_cons_succ]
    refine' wpAnyH_do 14 rfl (by kernel_rfl) (fun _ _ _ _ h => h) (by rfl) (by assumption) ⟨_, fun w' hS => ?_, ?_⟩
    rotate_left
    · ((try dsimp only at hS); go_split_ands; go_simp; try (with_reducible rfl))
    simp only [Act.put, List.setIfInBounds_toArray, List.set_cons_zero, List.set_cons_succ]
    refine' wpAnyH_do 15 rfl (by kernel_rfl) (fun _ _ _ _ h => h) (by rfl) (by assumption) ⟨_, fun w' hS => ?_, ?_⟩
    rotate_left
    · ((try dsimp only at hS); go_split_ands; go_simp; try (with_reducible rfl))
    simp only [Act.put, List.setIfInBounds_toArray, List.set_cons_zero, List.set_cons_succ]
    refine wpAnyH_eff 2 rfl (by kernel_rfl) (by rfl) (fun K hK => ?_)
    have HKK := Lib.hid hK
    clear hK
    go_simp
    refine (HD1.out _ (HX.out.trans0 HCU.out)).mono ?_
    rintro e w3 ⟨rfl, hx3⟩
    have hS3 := KEEP.out _ _ hS hx3
    have HX3 := Lib.hid (HCU.out.trans0 hx3)
    clear hx3 hS
    dsimp only
    refine HKK.out _ _ hS3 ?_
    clear HKK K
    refine wpAnyH_eff 16 rfl (by kernel_rfl) (by rfl) (fun K hK => ?_)
    have HKK := Lib.hid hK
    clear hK
    go_simp
    refine (HD2.out _ (HX.out.trans0 HX3.out)).mono ?_
    rintro e w4 ⟨rfl, hx4⟩
    have hS4 := KEEP.out _ _ hS3 hx4
    have HX4 := Lib.hid (HX3.out.trans0 hx4)
    clear hx4 hS3
    dsimp only
    refine HKK.out _ _ hS4 ?_
    clear HKK K
    refine' wpAnyH_do 17 rfl (by kernel_rfl) (fun _ _ _ _ h => h) (by rfl) (by assumption) ⟨_, fun w' hS => ?_, ?_⟩
    rotate_left
    · ((try dsimp only at hS); go_split_ands; go_simp; try (with_reducible rfl))
    simp only [Act.put, List.setIfInBounds_toArray, List.set_cons_zero, List.set_cons_succ]
    refine' wpAnyH_do 18 rfl (by kernel_rfl) (fun _ _ _ _ h => h) (by rfl) (by assumption) ⟨_, fun w' hS => ?_, ?_⟩
    rotate_left
    · ((try dsimp only at hS); go_split_ands; go_simp; try (with_reducible rfl))
    simp only [Act.put, List.setIfInBounds_toArray, List.set_cons_zero, List.set_cons_succ]
    refine wpAnyH_done (by kernel_rfl) ?_ _
    go_wp2_with fail
    go_ret
    exact ⟨ret_bool (by simp), low_of_ex (HX.out.trans0 HX4.out)⟩
  · have i40 : (40 : Int) < (L : Int) := by omega
    clear HC1 HC2 HSS
    have HCU : Hid (Ex0 W W) := Ex.refl _ _
    go_wp2_with (refine (awake_any _).mono ?_; rintro e w1 ⟨rfl, hx1⟩; have HCU := Lib.hid (HCU.out.trans0 hx1); have d36 := HCU.out.cellS HC36.out not_false; clear hx1)
    go_ret
    exact ⟨rfl, low_of_ex (HX.out.trans0 HCU.out)⟩
end Go.Proofs.Ythbdmfbjkkmplaa
