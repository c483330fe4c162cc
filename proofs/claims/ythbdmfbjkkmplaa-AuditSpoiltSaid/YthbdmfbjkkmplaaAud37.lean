/- Contracts of layer 61: awake. -/
import Derived.Test.YthbdmfbjkkmplaaAud36
import Derived.Test.YthbdmfbjkkmplaaAud35
import Derived.Test.YthbdmfbjkkmplaaAud34
import Derived.Test.YthbdmfbjkkmplaaB9
import Derived.Test.YthbdmfbjkkmplaaB5
namespace Go.Proofs.Ythbdmfbjkkmplaa
open Go.RowKit Go.Proofs.YthbdmfbjkkmplaaB Go.Proofs.Ythbdmfbjkkmplaa.Sha

theorem proofC_flip (v n a b : Int) (B : List Nat) (A : Option Addr) (m cap : Nat) (b' : Int) : (proofC v n a b B A m cap).toArray.setIfInBounds 3 (.int .i64 b') = (proofC v n a b' B A m cap).toArray := by
  apply Array.ext'
  simp [proofC]

set_option maxRecDepth 100000 in
set_option maxHeartbeats 4000000 in
theorem awake_any (w : World) :
    Calls Try.prog 9 #[] w fun e w' => e = .returned (.bool true) ∧ Ex0 w w' := by
  go_enter Try.func9, Try.ntmps9
  go_wp2_with fail
  generalize hW : World.alloc w _ = W0
  have hx0 : Ex0 w W0 := by rw [← hW]; exact Ex.alloc _ _
  have hb0 : W0.heap[w.heap.size]? = some (.cells (rowN 32 [exB1, exB2]).toArray 24 (0, 0)) := by rw [← hW]; exact heap_alloc_new w _
  have hs0 : Sl W0 32 (some ⟨w.heap.size, 0, none⟩) 2 (rowN 32 [exB1, exB2]) := by
    have := sl_block hb0 (sz := 32) (n := 2) (by simp [rowN_len]) (by decide)
    simpa using this
  obtain ⟨b0, e0⟩ : ∃ b, b = w.heap.size := ⟨_, rfl⟩
  rw [← e0] at hb0 hs0 ⊢
  have hlt0 : b0 < W0.heap.size := (Array.getElem?_eq_some_iff.1 hb0).1
  refine (disk_any 2 (some ⟨b0, 0, none⟩) 2 2 W0).mono ?_
  rintro e w1 ⟨rfl, hc1, hc2, hx1⟩
  obtain ⟨c1, ec1⟩ : ∃ c, c = W0.heap.size := ⟨_, rfl⟩
  obtain ⟨c2, ec2⟩ : ∃ c, c = W0.heap.size + 1 := ⟨_, rfl⟩
  rw [← ec1] at hc1
  rw [← ec2] at hc2
  rw [← ec2, ← ec1]
  have HD : Hid (∀ w', Ex0 w1 w' → Reads 1 2 diskFn (diskCap c1 c2) (blkAt [exB1, exB2]) (fun _ => False) (fun _ w' => DiskI c1 c2 (2 : Nat) [exB1, exB2] (some ⟨b0, 0, none⟩) 2 w') w') := fun w' hx => by
    refine reads_disk 1 2 (by decide) (by decide) c1 c2 [exB1, exB2] ex_ok (some ⟨b0, 0, none⟩) 2 w' (DiskI.ex (S := fun _ => False) ⟨hc1, hc2, hs0.ex0 hx1⟩ hx not_false not_false (fun _ _ => not_false)) (fun b hb => ?_)
    cases hb
    have := hx1.size; have := hx.size
    show b0 < _
    omega
  have HRT : Hid (∀ w', Ex0 w1 w' → Calls Try.prog 11 #[.int .i64 1, .int .i64 2, .func (.func diskFn) #[] (diskCap c1 c2)] w' fun e w'' => e = .returned (.tuple #[.agg (u8s exR).toArray, .int .i64 0]) ∧ Ex0 w' w'') := fun w' hx => by
    refine (aroot_yes 1 2 (by decide) (by decide) (by decide) (by decide) diskFn (diskCap c1 c2) _ _ _ w' (HD.out w' hx)).mono ?_
    rintro e w'' ⟨rfl, _, hx'⟩
    rw [ex_leaves, ex_tree]
    exact ⟨rfl, hx'⟩
  have HPV : Hid (∀ w', Ex0 w1 w' → Calls Try.prog 17 #[.int .i64 1, .int .i64 2, .int .i64 0, .int .i64 1, .func (.func diskFn) #[] (diskCap c1 c2)] w' fun e w'' => ∃ A cap, e = .returned (.tuple #[.agg (proofC 1 2 0 1 exB2 A 1 cap).toArray, .int .i64 0]) ∧ 1 ≤ cap ∧ Sl w'' 16 A 1 (rowN 16 [oneS exX]) ∧ Ex0 w' w'') := fun w' hx => by
    refine (aprove_yes 1 2 0 1 (by decide) (by decide) (by decide) (by decide) (by decide) (by decide) diskFn (diskCap c1 c2) _ _ _ w' (HD.out w' hx)).mono ?_
    rintro e w'' ⟨A, cap, rfl, ⟨h1, _⟩, h2, _, _, hx'⟩
    rw [ex_leaves, show 0 * 2 + 1 = 1 from rfl, ex_proof] at h1 h2 ⊢
    exact ⟨A, cap, rfl, h1, h2, hx'⟩
  have HX1 := Lib.hid (hx0.trans0 hx1)
  have hrl : (u8s exR).length = 16 := by rw [u8s_len, exR, joinS_len]
  have H1R : Hid (∀ u ∈ (u8s exR).toArray, u.oneCell' = true) := by show ∀ u ∈ _, _; simpa using u8s_one exR
  obtain ⟨RA, hRA⟩ : ∃ V, V = (u8s exR).toArray := ⟨_, rfl⟩
  have hrs : RA.size = 16 := by rw [hRA]; simpa using hrl
  rw [← hRA] at HRT H1R
  have HRA := Lib.hid hRA
  clear hW hx0 hb0 hs0 e0 hlt0 hc1 hc2 hx1 ec1 ec2 HD hrl hRA
  go_wp2_with (first | (refine (HRT.out _ (Ex.refl _ _)).mono ?_; rintro e w2 ⟨rfl, hx2⟩; have HX2 := Lib.hid hx2; clear hx2) | (refine wpList_store_all rfl 28 (.tmp 2) (.tmp 14) rfl w2.heap.size rfl RA _ rfl 28 (heap_alloc_new _ _) (by rw [hrs]; rfl) H1R.out (by rw [hrs]; kernel_rfl) ?_; rw [World.setRow_alloc_new]; obtain ⟨w3, hw3⟩ : ∃ w3, w3 = w2.alloc (.cells RA 28) := ⟨_, rfl⟩; rw [← hw3]; have HX3 : Hid (Ex0 w1 w3) := (by rw [hw3]; exact HX2.out.alloc' _); have H2 : Hid (w3.heap[w2.heap.size]? = some (.cells RA 28 (0, 0))) := (by rw [hw3]; exact heap_alloc_new _ _); clear hw3) | (refine (HPV.out _ HX3.out).mono ?_; rintro e w4 ⟨A, cap, rfl, hcap, hsp, hx4⟩; have HX4 := Lib.hid (HX3.out.trans0 hx4); have HX34 := Lib.hid hx4; have HSP := Lib.hid hsp; have hps : (proofC 1 2 0 1 exB2 A 1 cap).toArray.size = 37 := (by rw [List.size_toArray, proofC_len 1 2 0 1 (by decide : exB2.length = 32)]); have H1P : Hid (∀ u ∈ (proofC 1 2 0 1 exB2 A 1 cap).toArray, u.oneCell' = true) := (by show ∀ u ∈ _, _; simpa using proofC_one 1 2 0 1 exB2 A 1 cap); obtain ⟨PA, hPA⟩ : ∃ P, P = (proofC 1 2 0 1 exB2 A 1 cap).toArray := ⟨_, rfl⟩; rw [← hPA] at hps H1P ⊢; have HPA := Lib.hid hPA; clear hx4 hsp hPA) | (refine wpList_store_all rfl 41 (.tmp 4) (.tmp 19) rfl w4.heap.size rfl PA _ rfl 41 (heap_alloc_new _ _) (by rw [hps]; rfl) H1P.out (by rw [hps]; kernel_rfl) ?_; rw [World.setRow_alloc_new]; obtain ⟨w5, hw5⟩ : ∃ w5, w5 = w4.alloc (.cells PA 41) := ⟨_, rfl⟩; rw [← hw5]; have HX5 : Hid (Ex0 w4 w5) := (by rw [hw5]; exact Ex.alloc _ _); have h4 : w5.heap[w4.heap.size]? = some (.cells PA 41 (0, 0)) := (by rw [hw5]; exact heap_alloc_new _ _); obtain ⟨b4, e4⟩ : ∃ b, b = w4.heap.size := ⟨_, rfl⟩; rw [← e4] at h4 ⊢; have E4 := Lib.hid e4; clear hw5 e4) | refine wpList_load_row rfl 41 (.tmp 4) rfl b4 rfl 41 PA (0, 0) _ h4 Try.underlying41 rfl (by rw [hps]; kernel_rfl) ?_ | (refine wpList_store_all rfl 41 (.tmp 6) (.tmp 21) rfl w5.heap.size rfl PA _ rfl 41 (heap_alloc_new _ _) (by rw [hps]; rfl) H1P.out (by rw [hps]; kernel_rfl) ?_; rw [World.setRow_alloc_new]; obtain ⟨w6, hw6⟩ : ∃ w6, w6 = w5.alloc (.cells PA 41) := ⟨_, rfl⟩; rw [← hw6]; have HX6 : Hid (Ex0 w5 w6) := (by rw [hw6]; exact Ex.alloc _ _); have h6 : w6.heap[w5.heap.size]? = some (.cells PA 41 (0, 0)) := (by rw [hw6]; exact heap_alloc_new _ _); have E46 : Hid (b4 < w5.heap.size) := ((Array.getElem?_eq_some_iff.1 h4).1); have H4 := Lib.hid h4; obtain ⟨b6, e6⟩ : ∃ b, b = w5.heap.size := ⟨_, rfl⟩; rw [← e6] at h6 E46 ⊢; have c63 : w6.cell? ⟨b6, 3, none⟩ = some (.int .i64 1) := (by rw [cell_of_row _ _ _ _ _ _ h6, HPA.out]; rfl); have f63 : w6.frozen? ⟨b6, 3, none⟩ = false := frozen_of_row _ _ _ _ _ h6; have E6 := Lib.hid e6; have H6 := Lib.hid h6; clear hw6 e6 h4 h6))
  generalize hw7 : World.setCell w6 _ _ = w7
  have hq : w7.heap[b6]? = some (.cells (proofC 1 2 0 0 exB2 A 1 cap).toArray 41 (0, 0)) := by
    rw [← hw7, heap_setCell_same w6 b6 3 _ _ _ H6.out, HPA.out, proofC_flip]
  have hx67 : Ex (· = b6) w6 w7 := by rw [← hw7]; exact Ex.setCell w6 ⟨b6, 3, none⟩ _
  have hp : w7.heap[b4]? = some (.cells PA 41 (0, 0)) := (hx67.block b4 (by have := E46.out; have := (Array.getElem?_eq_some_iff.1 H6.out).1; omega) (by have := E46.out; omega)).trans ((HX6.out.block _ (Array.getElem?_eq_some_iff.1 H4.out).1 not_false).trans H4.out)
  have hrt : w7.heap[w2.heap.size]? = some (.cells RA 28 (0, 0)) := by
    have h3 := (((HX34.out.trans0 HX5.out).trans0 HX6.out).block _ (Array.getElem?_eq_some_iff.1 H2.out).1 not_false).trans H2.out
    refine (hx67.block _ (Array.getElem?_eq_some_iff.1 h3).1 ?_).trans h3
    have h1 := (Array.getElem?_eq_some_iff.1 H2.out).1
    have h2 := HX34.out.size
    have h4 := HX5.out.size
    have h5 := E6.out
    omega
  have hsp7 : Sl w7 16 A 1 (rowN 16 [oneS exX]) := ((HSP.out.ex0 HX5.out).ex0 HX6.out).ex hx67 (fun b hb he => by
    have h1 := HSP.out.lt (by decide) (by decide) b hb
    have h2 := HX5.out.size
    have h5 := E6.out
    omega)
  have hxw : Ex0 w w7 := by
    have h0 := (((HX1.out.trans0 HX4.out).trans0 HX5.out).trans0 HX6.out)
    have h1 := ((HX1.out.trans0 HX4.out).trans0 HX5.out).size
    exact h0.trans hx67 (fun _ _ h => h) (fun i hi h => by have := E6.out; omega)
  have hB32 : exB2.length = 32 ∧ ∀ y ∈ exB2, y < 256 := ex_ok exB2 (by simp)
  have hRo : exR.length = 16 := by rw [exR, joinS_len]
  have hokS : AllB 16 [oneS exX] := AllB.single (oneS_len _) (oneS_lt _)
  obtain ⟨QA, hQA⟩ : ∃ Q, Q = (proofC 1 2 0 0 exB2 A 1 cap).toArray := ⟨_, rfl⟩
  rw [← hQA] at hq
  have hqs : QA.size = 37 := by rw [hQA, List.size_toArray, proofC_len 1 2 0 0 hB32.1]
  obtain ⟨VB, hVB⟩ : ∃ V, V = (u8s exB2).toArray := ⟨_, rfl⟩
  have hvb : VB.size = 32 := by rw [hVB]; simp [u8s_len, hB32.1]
  obtain ⟨VY, hVY⟩ : ∃ V, V = (u8s exY).toArray := ⟨_, rfl⟩
  have hrb : RowAt w7 ⟨b4, 4, none⟩ VB.toList := fun j u hu => by
    rw [Addr.add_lit, cell_of_row _ _ _ _ _ _ hp, HPA.out]
    rw [hVB] at hu
    have hj : j < (u8s exB2).length := (List.getElem?_eq_some_iff.1 hu).1
    simp only [proofC, List.getElem?_toArray]
    rw [List.getElem?_append_right (by simp), show 4 + j - [Value.int IntKind.i64 1, Value.int IntKind.i64 2, Value.int IntKind.i64 0, Value.int IntKind.i64 1].length = j by simp, List.getElem?_append_left hj]
    exact hu
  have hc36 : w7.cell? ⟨b4, 36, none⟩ = some (.slice A 1 cap) := by
    rw [cell_of_row _ _ _ _ _ _ hp, HPA.out]; simp [proofC, List.getElem?_append_right, u8s_len, hB32.1]
  have HC1 : Hid (∀ w', Ex0 w7 w' → Calls Try.prog 19 #[.agg RA, .agg PA] w' fun e w'' => e = .returned (.bool true) ∧ Ex0 w' w'') := fun w' hx => by
    have := acheck_any exR hRo 1 2 0 1 exB2 hB32 A cap [oneS exX] hokS (by simp) (by simpa using hcap) w' (by simpa using hsp7.ex0 hx)
    rw [ex_yes] at this
    rw [HRA.out, HPA.out]; exact this
  have HC2 : Hid (∀ w', Ex0 w7 w' → Calls Try.prog 19 #[.agg RA, .agg QA] w' fun e w'' => e = .returned (.bool false) ∧ Ex0 w' w'') := fun w' hx => by
    have := acheck_any exR hRo 1 2 0 0 exB2 hB32 A cap [oneS exX] hokS (by simp) (by simpa using hcap) w' (by simpa using hsp7.ex0 hx)
    rw [ex_no] at this
    rw [HRA.out, hQA]; exact this
  have HL1 : Hid (∀ w', Calls Try.prog 13 #[.int .i64 0, .int .i64 1, .agg VB] w' fun e w'' => e = .returned (.agg VY) ∧ Ex0 w' w'') := fun w' => by
    rw [hVB, hVY]; exact leaf_any 0 1 (by decide) (by decide) exB2 hB32.1 hB32.2 w'
  have HL2 : Hid (∀ w', Calls Try.prog 14 #[.int .i64 0, .int .i64 1, .agg VB] w' fun e w'' => e = .returned (.agg VY) ∧ Ex0 w' w'') := fun w' => by
    rw [hVB, hVY]; exact rleaf61_any 0 1 (by decide) (by decide) exB2 hB32.1 hB32.2 w'
  have heqB : ∀ w', (Op.equalIn 10000 24 (.agg VB) (.agg #[.int .u8 2, .int .u8 0, .int .u8 0, .int .u8 0, .int .u8 0, .int .u8 0, .int .u8 0, .int .u8 0, .int .u8 0, .int .u8 0, .int .u8 0, .int .u8 0, .int .u8 0, .int .u8 0, .int .u8 0, .int .u8 0, .int .u8 0, .int .u8 0, .int .u8 0, .int .u8 0, .int .u8 0, .int .u8 0, .int .u8 0, .int .u8 0, .int .u8 0, .int .u8 0, .int .u8 0, .int .u8 0, .int .u8 0, .int .u8 0, .int .u8 0, .int .u8 0])).run Try.prog w' = .ok true w' := fun w' => by
    have := run_eql_bytes (P := Try.prog) w' 24 5 32 .u8 Try.underlying24 Try.underlying5 (by kernel_rfl) (fun w => by kernel_rfl) exB2 exB2 hB32.1 hB32.1
    rw [decide_eq_true rfl] at this
    rw [hVB]; exact this
  have heqY : ∀ w', (Op.equalIn 10000 28 (.agg VY) (.agg VY)).run Try.prog w' = .ok true w' := fun w' => by
    have := run_eql_bytes (P := Try.prog) w' 28 5 16 .u8 Try.underlying28 Try.underlying5 (by kernel_rfl) (fun w => by kernel_rfl) exY exY (leafS_len _ _ _) (leafS_len _ _ _)
    rw [decide_eq_true rfl] at this
    rw [hVY]; exact this
  have hg1 : Try.prog.eqGuardType Try.prog.depth 28 = false := by kernel_rfl
  have hg2 : Try.prog.eqGuardType Try.prog.depth 24 = false := by kernel_rfl
  obtain ⟨rb, erb⟩ : ∃ b, b = w2.heap.size := ⟨_, rfl⟩
  rw [← erb] at hrt ⊢
  have keepS : ∀ w1 w2 : World, (w1.heap[rb]? = some (.cells RA 28 (0, 0)) ∧ w1.heap[b4]? = some (.cells PA 41 (0, 0)) ∧ w1.heap[b6]? = some (.cells QA 41 (0, 0)) ∧ RowAt w1 ⟨b4, 4, none⟩ VB.toList ∧ w1.cell? ⟨b4, 36, none⟩ = some (.slice A 1 cap)) → Ex0 w1 w2 → (w2.heap[rb]? = some (.cells RA 28 (0, 0)) ∧ w2.heap[b4]? = some (.cells PA 41 (0, 0)) ∧ w2.heap[b6]? = some (.cells QA 41 (0, 0)) ∧ RowAt w2 ⟨b4, 4, none⟩ VB.toList ∧ w2.cell? ⟨b4, 36, none⟩ = some (.slice A 1 cap)) :=
    fun w1 w2 h hx => ⟨(hx.block _ (Array.getElem?_eq_some_iff.1 h.1).1 not_false).trans h.1, (hx.block _ (Array.getElem?_eq_some_iff.1 h.2.1).1 not_false).trans h.2.1, (hx.block _ (Array.getElem?_eq_some_iff.1 h.2.2.1).1 not_false).trans h.2.2.1, h.2.2.2.1.ex hx not_false, hx.cellS h.2.2.2.2 not_false⟩
  have KEEP := Lib.hid keepS
  have HLD1 : Hid (∀ (o : Oper) (a : Act) (w' : World), o.op = .load 28 (.tmp 2) → a.eval (.tmp 2) = .pointer (some ⟨rb, 0, none⟩) → w'.heap[rb]? = some (.cells RA 28 (0, 0)) → (execOp a.eval o).run Try.prog w' = .ok (.value (.agg RA)) w') := fun o a w' h1 h2 h3 => exec_load_row 28 (.tmp 2) h1 rb h2 _ RA _ _ h3 Try.underlying28 rfl (by rw [hrs]; kernel_rfl)
  have HLD4 : Hid (∀ (o : Oper) (a : Act) (w' : World), o.op = .load 41 (.tmp 4) → a.eval (.tmp 4) = .pointer (some ⟨b4, 0, none⟩) → w'.heap[b4]? = some (.cells PA 41 (0, 0)) → (execOp a.eval o).run Try.prog w' = .ok (.value (.agg PA)) w') := fun o a w' h1 h2 h3 => exec_load_row 41 (.tmp 4) h1 b4 h2 _ PA _ _ h3 Try.underlying41 rfl (by rw [hps]; kernel_rfl)
  have HLD6 : Hid (∀ (o : Oper) (a : Act) (w' : World), o.op = .load 41 (.tmp 6) → a.eval (.tmp 6) = .pointer (some ⟨b6, 0, none⟩) → w'.heap[b6]? = some (.cells QA 41 (0, 0)) → (execOp a.eval o).run Try.prog w' = .ok (.value (.agg QA)) w') := fun o a w' h1 h2 h3 => exec_load_row 41 (.tmp 6) h1 b6 h2 _ QA _ _ h3 Try.underlying41 rfl (by rw [hqs]; kernel_rfl)
  have HLDB : Hid (∀ (x : Operand) (o : Oper) (a : Act) (w' : World), o.op = .load 24 x → a.eval x = .pointer (some ⟨b4, 4, none⟩) → RowAt w' ⟨b4, 4, none⟩ VB.toList → (execOp a.eval o).run Try.prog w' = .ok (.value (.agg VB)) w') := fun x o a w' h1 h2 h3 => exec_load_at 24 x h1 _ h2 VB.toList _ h3 Try.underlying24 rfl (by rw [Array.length_toList, hvb]; kernel_rfl)
  have HCU : Hid (Ex0 w7 w7.drew) := Ex.drew w7
  have hS := KEEP.out _ _ ⟨hrt, hp, hq, hrb, hc36⟩ HCU.out
  have HXW := Lib.hid hxw
  clear keepS hq hp hrt hrb hc36 hsp7 hxw hx67 hw7 erb hQA hVB hVY hB32 hRo hokS c63 f63 hcap
  go_wp2_with fail
  refine wp_region_takes (fun w' => (w'.heap[rb]? = some (.cells RA 28 (0, 0)) ∧ w'.heap[b4]? = some (.cells PA 41 (0, 0)) ∧ w'.heap[b6]? = some (.cells QA 41 (0, 0)) ∧ RowAt w' ⟨b4, 4, none⟩ VB.toList ∧ w'.cell? ⟨b4, 36, none⟩ = some (.slice A 1 cap))) (by kernel_rfl) ?_
  simp only [List.length_cons, List.length_nil]
  refine' wpAnyH_do 0 rfl (by kernel_rfl) (fun _ _ _ _ h => h) (by rfl) (by assumption) ⟨_, fun w' hS => ?_, ?_⟩
  rotate_left
  · ((try dsimp only at hS); go_split_ands; go_simp; try (with_reducible rfl))
  simp only [Act.put, List.setIfInBounds_toArray, List.set_cons_zero, List.set_cons_succ]
  refine' wpAnyH_do 1 rfl (by kernel_rfl) (fun _ _ _ _ h => h) (by rfl) (by assumption) ⟨_, fun w' hS => ?_, ?_⟩
  rotate_left
  · ((try dsimp only at hS); go_split_ands; go_simp; try (with_reducible rfl))
  simp only [Act.put, List.setIfInBounds_toArray, List.set_cons_zero, List.set_cons_succ]
  refine' wpAnyH_do 2 rfl (by kernel_rfl) (fun _ _ _ _ h => h) (by rfl) (by assumption) ⟨_, fun w' hS => ?_, ?_⟩
  rotate_left
  · ((try dsimp only at hS); go_split_ands; go_simp; try (with_reducible rfl))
  simp only [Act.put, List.setIfInBounds_toArray, List.set_cons_zero, List.set_cons_succ]
  refine' wpAnyH_do 3 rfl (by kernel_rfl) (fun _ _ _ _ h => h) (by rfl) (by assumption) ⟨_, fun w' hS => ?_, ?_⟩
  rotate_left
  · ((try dsimp only at hS); go_split_ands; go_simp; try (with_reducible rfl))
  simp only [Act.put, List.setIfInBounds_toArray, List.set_cons_zero, List.set_cons_succ]
  refine' wpAnyH_do 4 rfl (by kernel_rfl) (fun _ _ _ _ h => h) (by rfl) (by assumption) ⟨_, fun w' hS => ?_, ?_⟩
  rotate_left
  · ((try dsimp only at hS); go_split_ands; go_simp; try (with_reducible rfl))
  simp only [Act.put, List.setIfInBounds_toArray, List.set_cons_zero, List.set_cons_succ]
  refine' wpAnyH_do 5 rfl (by kernel_rfl) (fun _ _ _ _ h => h) (by rfl) (by assumption) ⟨_, fun w' hS => ?_, ?_⟩
  rotate_left
  · ((try dsimp only at hS); go_split_ands; go_simp; try (with_reducible rfl))
  simp only [Act.put, List.setIfInBounds_toArray, List.set_cons_zero, List.set_cons_succ]
  refine' wpAnyH_do 6 rfl (by kernel_rfl) (fun _ _ _ _ h => h) (by rfl) (by assumption) ⟨_, fun w' hS => ?_, ?_⟩
  rotate_left
  · ((try dsimp only at hS); go_split_ands; go_simp; try (with_reducible rfl))
  simp only [Act.put, List.setIfInBounds_toArray, List.set_cons_zero, List.set_cons_succ]
  refine' wpAnyH_do 7 rfl (by kernel_rfl) (fun _ _ _ _ h => h) (by rfl) (by assumption) ⟨_, fun w' hS => ?_, ?_⟩
  rotate_left
  · ((try dsimp only at hS); go_split_ands; go_simp; try (with_reducible rfl))
  simp only [Act.put, List.setIfInBounds_toArray, List.set_cons_zero, List.set_cons_succ]
  refine' wpAnyH_do 8 rfl (by kernel_rfl) (fun _ _ _ _ h => h) (by rfl) (by assumption) ⟨_, fun w' hS => ?_, ?_⟩
  rotate_left
  · ((try dsimp only at hS); go_split_ands; go_simp; try (with_reducible rfl))
  simp only [Act.put, List.setIfInBounds_toArray, List.set_cons_zero, List.set_cons_succ]
  refine' wpAnyH_do 9 rfl (by kernel_rfl) (fun _ _ _ _ h => h) (by rfl) (by assumption) ⟨_, fun w' hS => ?_, ?_⟩
  rotate_left
  · ((try dsimp only at hS); go_split_ands; go_simp; try (with_reducible rfl))
  simp only [Act.put, List.setIfInBounds_toArray, List.set_cons_zero, List.set_cons_succ]
  refine' wpAnyH_do 10 rfl (by kernel_rfl) (fun _ _ _ _ h => h) (by rfl) (by assumption) ⟨_, fun w' hS => ?_, ?_⟩
  rotate_left
  · ((try dsimp only at hS); go_split_ands; go_simp; try (with_reducible rfl))
  simp only [Act.put, List.setIfInBounds_toArray, List.set_cons_zero, List.set_cons_succ]
  refine' wpAnyH_do 11 rfl (by kernel_rfl) (fun _ _ _ _ h => h) (by rfl) (by assumption) ⟨_, fun w' hS => ?_, ?_⟩
  rotate_left
  · ((try dsimp only at hS); go_split_ands; go_simp; try (with_reducible rfl))
  simp only [Act.put, List.setIfInBounds_toArray, List.set_cons_zero, List.set_cons_succ]
  refine' wpAnyH_do 12 rfl (by kernel_rfl) (fun _ _ _ _ h => h) (by rfl) (by assumption) ⟨_, fun w' hS => ?_, ?_⟩
  rotate_left
  · ((try dsimp only at hS); go_split_ands; go_simp; try (with_reducible rfl))
  simp only [Act.put, List.setIfInBounds_toArray, List.set_cons_zero, List.set_cons_succ]
  refine' wpAnyH_do 13 rfl (by kernel_rfl) (fun _ _ _ _ h => h) (by rfl) (by assumption) ⟨_, fun w' hS => ?_, ?_⟩
  rotate_left
  · ((try dsimp only at hS); go_split_ands; go_simp; try (with_reducible rfl))
  simp only [Act.put, List.setIfInBounds_toArray, List.set_cons_zero, List.set_cons_succ]
  refine' wpAnyH_do 14 rfl (by kernel_rfl) (fun _ _ _ _ h => h) (by rfl) (by assumption) ⟨_, fun w' hS => HLDB.out (.tmp 36) _ _ _ rfl rfl hS.2.2.2.1, ?_⟩
  simp only [Act.put, List.setIfInBounds_toArray, List.set_cons_zero, List.set_cons_succ]
  refine' wpAnyH_do 15 rfl (by kernel_rfl) (fun _ _ _ _ h => h) (by rfl) (by assumption) ⟨_, fun w' hS => ?_, ?_⟩
  rotate_left
  · ((try dsimp only at hS); go_split_ands; go_simp; try (with_reducible rfl))
  simp only [Act.put, List.setIfInBounds_toArray, List.set_cons_zero, List.set_cons_succ]
  refine' wpAnyH_do 16 rfl (by kernel_rfl) (fun _ _ _ _ h => h) (by rfl) (by assumption) ⟨_, fun w' hS => ?_, ?_⟩
  rotate_left
  · ((try dsimp only at hS); go_split_ands; go_simp; try (with_reducible rfl))
  simp only [Act.put, List.setIfInBounds_toArray, List.set_cons_zero, List.set_cons_succ]
  refine' wpAnyH_do 17 rfl (by kernel_rfl) (fun _ _ _ _ h => h) (by rfl) (by assumption) ⟨_, fun w' hS => ?_, ?_⟩
  rotate_left
  · ((try dsimp only at hS); go_split_ands; go_simp; try (with_reducible rfl))
  simp only [Act.put, List.setIfInBounds_toArray, List.set_cons_zero, List.set_cons_succ]
  refine' wpAnyH_do 18 rfl (by kernel_rfl) (fun _ _ _ _ h => h) (by rfl) (by assumption) ⟨_, fun w' hS => ?_, ?_⟩
  rotate_left
  · ((try dsimp only at hS); go_split_ands; go_simp; try (with_reducible rfl))
  simp only [Act.put, List.setIfInBounds_toArray, List.set_cons_zero, List.set_cons_succ]
  refine' wpAnyH_do 19 rfl (by kernel_rfl) (fun _ _ _ _ h => h) (by rfl) (by assumption) ⟨_, fun w' hS => HLD1.out _ _ _ rfl rfl hS.1, ?_⟩
  simp only [Act.put, List.setIfInBounds_toArray, List.set_cons_zero, List.set_cons_succ]
  refine' wpAnyH_do 20 rfl (by kernel_rfl) (fun _ _ _ _ h => h) (by rfl) (by assumption) ⟨_, fun w' hS => HLD4.out _ _ _ rfl rfl hS.2.1, ?_⟩
  simp only [Act.put, List.setIfInBounds_toArray, List.set_cons_zero, List.set_cons_succ]
  refine wpAnyH_eff 21 rfl (by kernel_rfl) (by rfl) (fun K hK => ?_)
  have HKK := Lib.hid hK
  clear hK
  go_simp
  refine (HC1.out _ HCU.out).mono ?_
  rintro e w8 ⟨rfl, hx8⟩
  have hS8 := KEEP.out _ _ hS hx8
  have HX8 := Lib.hid (HCU.out.trans0 hx8)
  clear hx8 hS
  dsimp only
  refine HKK.out _ _ hS8 ?_
  clear HKK K
  refine' wpAnyH_do 22 rfl (by kernel_rfl) (fun _ _ _ _ h => h) (by rfl) (by assumption) ⟨_, fun w' hS => ?_, ?_⟩
  rotate_left
  · ((try dsimp only at hS); go_split_ands; go_simp; try (with_reducible rfl))
  simp only [Act.put, List.setIfInBounds_toArray, List.set_cons_zero, List.set_cons_succ]
  refine' wpAnyH_do 23 rfl (by kernel_rfl) (fun _ _ _ _ h => h) (by rfl) (by assumption) ⟨_, fun w' hS => ?_, ?_⟩
  rotate_left
  · ((try dsimp only at hS); go_split_ands; go_simp; try (with_reducible rfl))
  simp only [Act.put, List.setIfInBounds_toArray, List.set_cons_zero, List.set_cons_succ]
  refine' wpAnyH_do 24 rfl (by kernel_rfl) (fun _ _ _ _ h => h) (by rfl) (by assumption) ⟨_, fun w' hS => HLD1.out _ _ _ rfl rfl hS.1, ?_⟩
  simp only [Act.put, List.setIfInBounds_toArray, List.set_cons_zero, List.set_cons_succ]
  refine' wpAnyH_do 25 rfl (by kernel_rfl) (fun _ _ _ _ h => h) (by rfl) (by assumption) ⟨_, fun w' hS => HLD6.out _ _ _ rfl rfl hS.2.2.1, ?_⟩
  simp only [Act.put, List.setIfInBounds_toArray, List.set_cons_zero, List.set_cons_succ]
  refine wpAnyH_eff 26 rfl (by kernel_rfl) (by rfl) (fun K hK => ?_)
  have HKK := Lib.hid hK
  clear hK
  go_simp
  refine (HC2.out _ HX8.out).mono ?_
  rintro e w9 ⟨rfl, hx9⟩
  have hS9 := KEEP.out _ _ hS8 hx9
  have HX9 := Lib.hid (HX8.out.trans0 hx9)
  clear hx9 hS8
  dsimp only
  refine HKK.out _ _ hS9 ?_
  clear HKK K
  refine' wpAnyH_do 27 rfl (by kernel_rfl) (fun _ _ _ _ h => h) (by rfl) (by assumption) ⟨_, fun w' hS => ?_, ?_⟩
  rotate_left
  · ((try dsimp only at hS); go_split_ands; go_simp; try (with_reducible rfl))
  simp only [Act.put, List.setIfInBounds_toArray, List.set_cons_zero, List.set_cons_succ]
  refine' wpAnyH_do 28 rfl (by kernel_rfl) (fun _ _ _ _ h => h) (by rfl) (by assumption) ⟨_, fun w' hS => ?_, ?_⟩
  rotate_left
  · ((try dsimp only at hS); go_split_ands; go_simp; try (with_reducible rfl))
  simp only [Act.put, List.setIfInBounds_toArray, List.set_cons_zero, List.set_cons_succ]
  refine' wpAnyH_do 29 rfl (by kernel_rfl) (fun _ _ _ _ h => h) (by rfl) (by assumption) ⟨_, fun w' hS => ?_, ?_⟩
  rotate_left
  · ((try dsimp only at hS); go_split_ands; go_simp; try (with_reducible rfl))
  simp only [Act.put, List.setIfInBounds_toArray, List.set_cons_zero, List.set_cons_succ]
  refine' wpAnyH_do 30 rfl (by kernel_rfl) (fun _ _ _ _ h => h) (by rfl) (by assumption) ⟨_, fun w' hS => ?_, ?_⟩
  rotate_left
  · ((try dsimp only at hS); go_split_ands; go_simp; try (with_reducible rfl))
  simp only [Act.put, List.setIfInBounds_toArray, List.set_cons_zero, List.set_cons_succ]
  refine' wpAnyH_do 31 rfl (by kernel_rfl) (fun _ _ _ _ h => h) (by rfl) (by assumption) ⟨_, fun w' hS => HLDB.out (.tmp 53) _ _ _ rfl rfl hS.2.2.2.1, ?_⟩
  simp only [Act.put, List.setIfInBounds_toArray, List.set_cons_zero, List.set_cons_succ]
  refine' wpAnyH_do 33 rfl (by kernel_rfl) (fun _ _ _ _ h => h) (by rfl) (by assumption) ⟨_, fun w' hS => ?_, ?_⟩
  rotate_left
  · ((try dsimp only at hS); go_split_ands; go_simp; try (with_reducible rfl))
  simp only [Act.put, List.setIfInBounds_toArray, List.set_cons_zero, List.set_cons_succ]
  refine' wpAnyH_do 34 rfl (by kernel_rfl) (fun _ _ _ _ h => h) (by rfl) (by assumption) ⟨_, fun w' hS => HLDB.out (.tmp 56) _ _ _ rfl rfl hS.2.2.2.1, ?_⟩
  simp only [Act.put, List.setIfInBounds_toArray, List.set_cons_zero, List.set_cons_succ]
  refine wpAnyH_eff 32 rfl (by kernel_rfl) (by rfl) (fun K hK => ?_)
  have HKK := Lib.hid hK
  clear hK
  go_simp
  refine (HL1.out _).mono ?_
  rintro e w10 ⟨rfl, hx10⟩
  have hS10 := KEEP.out _ _ hS9 hx10
  have HX10 := Lib.hid (HX9.out.trans0 hx10)
  clear hx10 hS9
  dsimp only
  refine HKK.out _ _ hS10 ?_
  clear HKK K
  refine wpAnyH_eff 35 rfl (by kernel_rfl) (by rfl) (fun K hK => ?_)
  have HKK := Lib.hid hK
  clear hK
  go_simp
  refine (HL2.out _).mono ?_
  rintro e w11 ⟨rfl, hx11⟩
  have hS11 := KEEP.out _ _ hS10 hx11
  have HX11 := Lib.hid (HX10.out.trans0 hx11)
  clear hx11 hS10
  dsimp only
  refine HKK.out _ _ hS11 ?_
  clear HKK K
  refine' wpAnyH_do 36 rfl (by kernel_rfl) (fun _ _ _ _ h => h) (by rfl) (by assumption) ⟨_, fun w' hS => ?_, ?_⟩
  rotate_left
  · ((try dsimp only at hS); go_split_ands; go_simp; try (with_reducible rfl))
  simp only [Act.put, List.setIfInBounds_toArray, List.set_cons_zero, List.set_cons_succ]
  refine' wpAnyH_do 37 rfl (by kernel_rfl) (fun _ _ _ _ h => h) (by rfl) (by assumption) ⟨_, fun w' hS => ?_, ?_⟩
  rotate_left
  · ((try dsimp only at hS); go_split_ands; go_simp; try (with_reducible rfl))
  simp only [Act.put, List.setIfInBounds_toArray, List.set_cons_zero, List.set_cons_succ]
  refine' wpAnyH_do 38 rfl (by kernel_rfl) (fun _ _ _ _ h => h) (by rfl) (by assumption) ⟨_, fun w' hS => ?_, ?_⟩
  rotate_left
  · ((try dsimp only at hS); go_split_ands; go_simp; try (with_reducible rfl))
  simp only [Act.put, List.setIfInBounds_toArray, List.set_cons_zero, List.set_cons_succ]
  refine wpAnyH_done (by kernel_rfl) ?_ _
  go_wp2_with fail
  go_ret
  exact ⟨rfl, HXW.out.trans0 HX11.out⟩
end Go.Proofs.Ythbdmfbjkkmplaa
