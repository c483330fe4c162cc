/- Contracts of layer 61: audit's Check and the document's. -/
import Derived.Test.YthbdmfbjkkmplaaAud22
import Derived.Test.YthbdmfbjkkmplaaAud28
import Derived.Test.YthbdmfbjkkmplaaB9
namespace Go.Proofs.Ythbdmfbjkkmplaa
open Go.RowKit Go.Proofs.YthbdmfbjkkmplaaB Go.Proofs.Ythbdmfbjkkmplaa.Sha

def acheck (root : List Nat) (v n a b : Int) (B : List Nat) (ls : List (List Nat)) : Bool :=
  if placeB v n a b then checkS root (v.toNat * n.toNat) (n.toNat * a.toNat + b.toNat) (leafS a.toNat b.toNat B) ls else false
/-- a proof's cells -/
def proofC (v n a b : Int) (B : List Nat) (A : Option Addr) (m cap : Nat) : List Value := [Value.int .i64 v, Value.int .i64 n, Value.int .i64 a, Value.int .i64 b] ++ (u8s B ++ [Value.slice A m cap])
theorem placeB_nat {v n a b : Int} (h : placeB v n a b = true) : ∃ v' n' a' b' : Nat, v = v' ∧ n = n' ∧ a = a' ∧ b = b' ∧ 1 ≤ v' ∧ v' ≤ 8 ∧ 1 ≤ n' ∧ n' ≤ 256 ∧ a' < v' ∧ b' < n' ∧ n' * a' + b' < v' * n' ∧ v' * n' ≤ 2048 := by
  simp only [placeB, fitsB, Bool.and_eq_true, decide_eq_true_eq] at h
  obtain ⟨⟨h1, h2, h3, h4⟩, h5, h6, h7, h8⟩ := h
  obtain ⟨v', rfl⟩ : ∃ v' : Nat, v = v' := ⟨v.toNat, by omega⟩
  obtain ⟨n', rfl⟩ : ∃ v' : Nat, n = v' := ⟨n.toNat, by omega⟩
  obtain ⟨a', rfl⟩ : ∃ v' : Nat, a = v' := ⟨a.toNat, by omega⟩
  obtain ⟨b', rfl⟩ : ∃ v' : Nat, b = v' := ⟨b.toNat, by omega⟩
  have ha : a' + 1 ≤ v' := by omega
  have h9 : (a' + 1) * n' ≤ v' * n' := Nat.mul_le_mul_right _ ha
  rw [Nat.succ_mul] at h9
  have h10 : v' * n' ≤ 8 * 256 := Nat.mul_le_mul (by omega) (by omega)
  have h11 : n' * a' = a' * n' := Nat.mul_comm _ _
  exact ⟨v', n', a', b', rfl, rfl, rfl, rfl, by omega, by omega, by omega, by omega, by omega, by omega, by omega, by omega⟩

set_option maxRecDepth 100000 in
set_option maxHeartbeats 2000000 in
theorem acheck_any (root : List Nat) (hr : root.length = 16) (v n a b : Int) (B : List Nat) (hB : B.length = 32 ∧ ∀ y ∈ B, y < 256) (A : Option Addr) (cap : Nat) (ls : List (List Nat)) (hok : AllB 16 ls) (hl : ls.length ≤ 100000) (hcap : ls.length ≤ cap) (w : World) (hs : Sl w 16 A ls.length (rowN 16 ls)) :
    Calls Try.prog 19 #[.agg (u8s root).toArray, .agg (proofC v n a b B A ls.length cap).toArray] w fun e w' => e = .returned (.bool (acheck root v n a b B ls)) ∧ Ex0 w w' := by
  have HOK := Lib.hid hok
  have HS := Lib.hid hs
  obtain ⟨L, hLe⟩ : ∃ L, L = ls.length := ⟨_, rfl⟩
  rw [← hLe] at HS hl hcap ⊢
  have HLE := Lib.hid hLe
  obtain ⟨RA, hRA⟩ : ∃ V, V = (u8s root).toArray := ⟨_, rfl⟩
  have hRs : RA.size = 16 := by rw [hRA]; simp [u8s_len, hr]
  rw [← hRA]
  have HRA := Lib.hid hRA
  obtain ⟨PA, hPA⟩ : ∃ V, V = (proofC v n a b B A L cap).toArray := ⟨_, rfl⟩
  have hPl : PA.size = 37 := by rw [hPA]; simp [proofC, u8s_len, hB.1]
  have hp0 : PA[0]? = some (.int .i64 v) := by rw [hPA]; simp [proofC]
  have hp1 : PA[1]? = some (.int .i64 n) := by rw [hPA]; simp [proofC]
  have hp2 : PA[2]? = some (.int .i64 a) := by rw [hPA]; simp [proofC]
  have hp3 : PA[3]? = some (.int .i64 b) := by rw [hPA]; simp [proofC]
  have hp36 : PA[36]? = some (.slice A L cap) := by rw [hPA]; simp [proofC, List.getElem?_append_right, u8s_len, hB.1]
  have hpr : ∀ j u, (u8s B)[j]? = some u → PA[4 + j]? = some u := fun j u hu => by
    have hj : j < (u8s B).length := (List.getElem?_eq_some_iff.1 hu).1
    rw [hPA]
    simp only [proofC, List.getElem?_toArray]
    rw [List.getElem?_append_right (by simp), show 4 + j - [Value.int IntKind.i64 v, Value.int IntKind.i64 n, Value.int IntKind.i64 a, Value.int IntKind.i64 b].length = j by simp, List.getElem?_append_left hj]
    exact hu
  rw [← hPA]
  have HPR := Lib.hid hpr
  have HP := Lib.hid (And.intro hp0 (And.intro hp1 (And.intro hp2 (And.intro hp3 hp36))))
  have HBK := Lib.hid hB
  clear hok hs hLe hRA hPA hp0 hp1 hp2 hp3 hp36 hpr hB
  cases hpl : placeB v n a b
  · have HA : Hid (acheck root v n a b B ls = false) := by show _ = _; unfold acheck; rw [hpl]; rfl
    have HPL := Lib.hid (place_no v n a b hpl)
    clear hpl
    go_enter Try.func19, Try.ntmps19
    iterate 9 go_step
    generalize hW : World.alloc (World.alloc w _) _ = W
    have h3 : W.heap[w.heap.size + 1]? = some (.cells PA 41 (0, 0)) := by rw [← hW]; exact heap_alloc2_new w _ _
    have hx2 : Ex0 w W := by rw [← hW]; exact (Ex.alloc _ _).alloc' _
    obtain ⟨b2, e2⟩ : ∃ b, b = w.heap.size := ⟨_, rfl⟩
    obtain ⟨b3, e3⟩ : ∃ b, b = w.heap.size + 1 := ⟨_, rfl⟩
    rw [← e3] at h3
    rw [← e3, ← e2]
    have c0 : W.cell? ⟨b3, 0, none⟩ = some (.int .i64 v) := by rw [cell_of_row _ _ _ _ _ _ h3]; exact HP.out.1
    have c1 : W.cell? ⟨b3, 1, none⟩ = some (.int .i64 n) := by rw [cell_of_row _ _ _ _ _ _ h3]; exact HP.out.2.1
    have c2 : W.cell? ⟨b3, 2, none⟩ = some (.int .i64 a) := by rw [cell_of_row _ _ _ _ _ _ h3]; exact HP.out.2.2.1
    have c3 : W.cell? ⟨b3, 3, none⟩ = some (.int .i64 b) := by rw [cell_of_row _ _ _ _ _ _ h3]; exact HP.out.2.2.2.1
    have HX := Lib.hid hx2
    clear hW hx2 e2 e3 h3
    go_wp2_with (refine (HPL.out _).mono ?_; rintro e w' ⟨rfl, rfl⟩)
    have hS : True := trivial
    refine wp_region_takes (fun _ => True) (by kernel_rfl) ?_
    simp only [List.length_cons, List.length_nil]
    refine' wpAnyH_do 0 rfl (by kernel_rfl) (fun _ _ _ _ h => h) (by rfl) (by assumption) ⟨_, fun w' hS => ?_, ?_⟩
    rotate_left
    · ((try dsimp only at hS); go_split_ands; go_simp; try (with_reducible rfl))
    simp only [Act.put, List.setIfInBounds_toArray, List.set_cons_zero, List.set_cons_succ]
    refine' wpAnyH_do 1 rfl (by kernel_rfl) (fun _ _ _ _ h => h) (by rfl) (by assumption) ⟨_, fun w' hS => ?_, ?_⟩
    rotate_left
    · ((try dsimp only at hS); go_split_ands; go_simp; try (with_reducible rfl))
    simp only [Act.put, List.setIfInBounds_toArray, List.set_cons_zero, List.set_cons_succ]
    refine wpAnyH_pass 2 rfl (by kernel_rfl) (fun _ _ _ _ h => h) (by rfl) (by assumption) ?_
    simp only [Act.put, List.setIfInBounds_toArray, List.set_cons_zero, List.set_cons_succ]
    refine wpAnyH_pass 3 rfl (by kernel_rfl) (fun _ _ _ _ h => h) (by rfl) (by assumption) ?_
    simp only [Act.put, List.setIfInBounds_toArray, List.set_cons_zero, List.set_cons_succ]
    refine wpAnyH_pass 4 rfl (by kernel_rfl) (fun _ _ _ _ h => h) (by rfl) (by assumption) ?_
    simp only [Act.put, List.setIfInBounds_toArray, List.set_cons_zero, List.set_cons_succ]
    refine wpAnyH_pass 5 rfl (by kernel_rfl) (fun _ _ _ _ h => h) (by rfl) (by assumption) ?_
    simp only [Act.put, List.setIfInBounds_toArray, List.set_cons_zero, List.set_cons_succ]
    refine wpAnyH_pass 6 rfl (by kernel_rfl) (fun _ _ _ _ h => h) (by rfl) (by assumption) ?_
    simp only [Act.put, List.setIfInBounds_toArray, List.set_cons_zero, List.set_cons_succ]
    refine wpAnyH_pass 7 rfl (by kernel_rfl) (fun _ _ _ _ h => h) (by rfl) (by assumption) ?_
    simp only [Act.put, List.setIfInBounds_toArray, List.set_cons_zero, List.set_cons_succ]
    refine wpAnyH_pass 8 rfl (by kernel_rfl) (fun _ _ _ _ h => h) (by rfl) (by assumption) ?_
    simp only [Act.put, List.setIfInBounds_toArray, List.set_cons_zero, List.set_cons_succ]
    refine wpAnyH_pass 9 rfl (by kernel_rfl) (fun _ _ _ _ h => h) (by rfl) (by assumption) ?_
    simp only [Act.put, List.setIfInBounds_toArray, List.set_cons_zero, List.set_cons_succ]
    refine wpAnyH_pass 10 rfl (by kernel_rfl) (fun _ _ _ _ h => h) (by rfl) (by assumption) ?_
    simp only [Act.put, List.setIfInBounds_toArray, List.set_cons_zero, List.set_cons_succ]
    refine wpAnyH_pass 11 rfl (by kernel_rfl) (fun _ _ _ _ h => h) (by rfl) (by assumption) ?_
    simp only [Act.put, List.setIfInBounds_toArray, List.set_cons_zero, List.set_cons_succ]
    refine wpAnyH_pass 12 rfl (by kernel_rfl) (fun _ _ _ _ h => h) (by rfl) (by assumption) ?_
    simp only [Act.put, List.setIfInBounds_toArray, List.set_cons_zero, List.set_cons_succ]
    refine wpAnyH_pass 13 rfl (by kernel_rfl) (fun _ _ _ _ h => h) (by rfl) (by assumption) ?_
    simp only [Act.put, List.setIfInBounds_toArray, List.set_cons_zero, List.set_cons_succ]
    refine wpAnyH_pass 14 rfl (by kernel_rfl) (fun _ _ _ _ h => h) (by rfl) (by assumption) ?_
    simp only [Act.put, List.setIfInBounds_toArray, List.set_cons_zero, List.set_cons_succ]
    refine wpAnyH_pass 15 rfl (by kernel_rfl) (fun _ _ _ _ h => h) (by rfl) (by assumption) ?_
    simp only [Act.put, List.setIfInBounds_toArray, List.set_cons_zero, List.set_cons_succ]
    refine wpAnyH_pass 16 rfl (by kernel_rfl) (fun _ _ _ _ h => h) (by rfl) (by assumption) ?_
    simp only [Act.put, List.setIfInBounds_toArray, List.set_cons_zero, List.set_cons_succ]
    refine wpAnyH_pass 17 rfl (by kernel_rfl) (fun _ _ _ _ h => h) (by rfl) (by assumption) ?_
    simp only [Act.put, List.setIfInBounds_toArray, List.set_cons_zero, List.set_cons_succ]
    refine wpAnyH_pass 18 rfl (by kernel_rfl) (fun _ _ _ _ h => h) (by rfl) (by assumption) ?_
    simp only [Act.put, List.setIfInBounds_toArray, List.set_cons_zero, List.set_cons_succ]
    refine' wpAnyH_do 19 rfl (by kernel_rfl) (fun _ _ _ _ h => h) (by rfl) (by assumption) ⟨_, fun w' hS => ?_, ?_⟩
    rotate_left
    · ((try dsimp only at hS); go_split_ands; go_simp; try (with_reducible rfl))
    simp only [Act.put, List.setIfInBounds_toArray, List.set_cons_zero, List.set_cons_succ]
    refine' wpAnyH_do 20 rfl (by kernel_rfl) (fun _ _ _ _ h => h) (by rfl) (by assumption) ⟨_, fun w' hS => ?_, ?_⟩
    rotate_left
    · ((try dsimp only at hS); go_split_ands; go_simp; try (with_reducible rfl))
    simp only [Act.put, List.setIfInBounds_toArray, List.set_cons_zero, List.set_cons_succ]
    refine wpAnyH_done (by kernel_rfl) ?_ _
    go_wp2_with fail
    go_ret
    exact ⟨ret_bool (by rw [HA.out]), HX.out.drew'⟩
  · obtain ⟨v', n', a', b', rfl, rfl, rfl, rfl, h1, h2, h3, h4, h5, h6, h7, h8⟩ := placeB_nat hpl
    have HA : Hid (acheck root v' n' a' b' B ls = checkS root (v' * n') (n' * a' + b') (leafS a' b' B) ls) := by show _ = _; unfold acheck; rw [hpl]; rfl
    have HPL := Lib.hid (place_yes _ _ _ _ hpl)
    have HMC := Lib.hid (fun w' (hx : Ex0 w w') => mcheck_any root hr (v' * n') (n' * a' + b') (leafS a' b' B) ls A cap w' (by omega) (by omega) h7 ⟨leafS_len _ _ _, leafS_lt _ _ _⟩ HOK.out (by rw [← HLE.out]; exact hl) (by rw [← HLE.out]; exact hcap) (by have := HS.out.ex0 hx; rw [HLE.out] at this; exact this))
    rw [← HLE.out, ← HRA.out] at HMC
    have HLF := Lib.hid (leaf_any a' b' (by omega) (by omega) B HBK.out.1 HBK.out.2)
    obtain ⟨VB, hVB⟩ : ∃ V, V = (u8s B).toArray := ⟨_, rfl⟩
    obtain ⟨VL, hVL⟩ : ∃ V, V = (u8s (leafS a' b' B)).toArray := ⟨_, rfl⟩
    rw [← hVB, ← hVL] at HLF
    rw [← hVL] at HMC
    have hvb : VB.size = 32 := by rw [hVB]; simp [u8s_len, HBK.out.1]
    have HVB : Hid (u8s B = VB.toList) := by rw [hVB]; exact rfl
    obtain ⟨N, hN⟩ : ∃ N, N = v' * n' := ⟨_, rfl⟩
    obtain ⟨M, hM⟩ : ∃ M, M = n' * a' + b' := ⟨_, rfl⟩
    rw [← hN, ← hM] at HMC HA h7
    have eN : (v' : Int) * (n' : Int) = (N : Int) := by rw [hN]; simp
    have eM : (n' : Int) * (a' : Int) + (b' : Int) = (M : Int) := by rw [hM]; simp
    rw [eM] at HPL
    have hNb : N ≤ 2048 := by rw [hN]; exact h8
    have vN : IntKind.i64.wrap (N : Int) = (N : Int) := by rw [IntKind.wrap_i64]; omega
    clear hpl hVB hVL hN hM h7 h8
    go_enter Try.func19, Try.ntmps19
    iterate 9 go_step
    generalize hW : World.alloc (World.alloc w _) _ = W
    have h2' : W.heap[w.heap.size]? = some (.cells RA 28 (0, 0)) := by rw [← hW]; exact heap_alloc2_old w _ _
    have h3' : W.heap[w.heap.size + 1]? = some (.cells PA 41 (0, 0)) := by rw [← hW]; exact heap_alloc2_new w _ _
    have hx2 : Ex0 w W := by rw [← hW]; exact (Ex.alloc _ _).alloc' _
    obtain ⟨b2, e2⟩ : ∃ b, b = w.heap.size := ⟨_, rfl⟩
    obtain ⟨b3, e3⟩ : ∃ b, b = w.heap.size + 1 := ⟨_, rfl⟩
    rw [← e3] at h3'
    rw [← e2] at h2'
    rw [← e3, ← e2]
    have c0 : W.cell? ⟨b3, 0, none⟩ = some (.int .i64 v') := by rw [cell_of_row _ _ _ _ _ _ h3']; exact HP.out.1
    have c1 : W.cell? ⟨b3, 1, none⟩ = some (.int .i64 n') := by rw [cell_of_row _ _ _ _ _ _ h3']; exact HP.out.2.1
    have c2 : W.cell? ⟨b3, 2, none⟩ = some (.int .i64 a') := by rw [cell_of_row _ _ _ _ _ _ h3']; exact HP.out.2.2.1
    have c3 : W.cell? ⟨b3, 3, none⟩ = some (.int .i64 b') := by rw [cell_of_row _ _ _ _ _ _ h3']; exact HP.out.2.2.2.1
    have c36 : W.cell? ⟨b3, 36, none⟩ = some (.slice A L cap) := by rw [cell_of_row _ _ _ _ _ _ h3']; exact HP.out.2.2.2.2
    have hrb : RowAt W ⟨b3, 4, none⟩ VB.toList := fun j u hu => by
      rw [Addr.add_lit, cell_of_row _ _ _ _ _ _ h3']; exact HPR.out j u (by rw [HVB.out]; exact hu)
    have HSS : Hid (W.heap[b2]? = some (.cells RA 28 (0, 0)) ∧ RowAt W ⟨b3, 4, none⟩ VB.toList ∧ W.cell? ⟨b3, 0, none⟩ = some (.int .i64 v') ∧ W.cell? ⟨b3, 1, none⟩ = some (.int .i64 n') ∧ W.cell? ⟨b3, 2, none⟩ = some (.int .i64 a') ∧ W.cell? ⟨b3, 3, none⟩ = some (.int .i64 b') ∧ W.cell? ⟨b3, 36, none⟩ = some (.slice A L cap)) := ⟨h2', hrb, c0, c1, c2, c3, c36⟩
    have HX := Lib.hid hx2
    clear hW hx2 e2 e3 h3' h2' hrb c36
    go_wp2_with (refine (HPL.out _).mono ?_; rintro e w' ⟨rfl, rfl⟩)
    have keepS : ∀ w1 w2 : World, (w1.heap[b2]? = some (.cells RA 28 (0, 0)) ∧ RowAt w1 ⟨b3, 4, none⟩ VB.toList ∧ w1.cell? ⟨b3, 0, none⟩ = some (.int .i64 v') ∧ w1.cell? ⟨b3, 1, none⟩ = some (.int .i64 n') ∧ w1.cell? ⟨b3, 2, none⟩ = some (.int .i64 a') ∧ w1.cell? ⟨b3, 3, none⟩ = some (.int .i64 b') ∧ w1.cell? ⟨b3, 36, none⟩ = some (.slice A L cap)) → Ex0 w1 w2 →
        (w2.heap[b2]? = some (.cells RA 28 (0, 0)) ∧ RowAt w2 ⟨b3, 4, none⟩ VB.toList ∧ w2.cell? ⟨b3, 0, none⟩ = some (.int .i64 v') ∧ w2.cell? ⟨b3, 1, none⟩ = some (.int .i64 n') ∧ w2.cell? ⟨b3, 2, none⟩ = some (.int .i64 a') ∧ w2.cell? ⟨b3, 3, none⟩ = some (.int .i64 b') ∧ w2.cell? ⟨b3, 36, none⟩ = some (.slice A L cap)) :=
      fun w1 w2 h hx => ⟨(hx.block _ (Array.getElem?_eq_some_iff.1 h.1).1 not_false).trans h.1, h.2.1.ex hx not_false, hx.cellS h.2.2.1 not_false, hx.cellS h.2.2.2.1 not_false, hx.cellS h.2.2.2.2.1 not_false, hx.cellS h.2.2.2.2.2.1 not_false, hx.cellS h.2.2.2.2.2.2 not_false⟩
    have KEEP := Lib.hid keepS
    have HLD1 : Hid (∀ (o : Oper) (a : Act) (w' : World), o.op = .load 28 (.tmp 2) → a.eval (.tmp 2) = .pointer (some ⟨b2, 0, none⟩) → w'.heap[b2]? = some (.cells RA 28 (0, 0)) → (execOp a.eval o).run Try.prog w' = .ok (.value (.agg RA)) w') := fun o a w' h1 h2 h3 => exec_load_row 28 (.tmp 2) h1 b2 h2 _ RA _ _ h3 Try.underlying28 rfl (by rw [hRs]; kernel_rfl)
    have HLD2 : Hid (∀ (o : Oper) (a : Act) (w' : World), o.op = .load 24 (.tmp 32) → a.eval (.tmp 32) = .pointer (some ⟨b3, 4, none⟩) → RowAt w' ⟨b3, 4, none⟩ VB.toList → (execOp a.eval o).run Try.prog w' = .ok (.value (.agg VB)) w') := fun o a w' h1 h2 h3 => exec_load_at 24 (.tmp 32) h1 _ h2 VB.toList _ h3 Try.underlying24 rfl (by rw [Array.length_toList, hvb]; kernel_rfl)
    clear keepS c0 c1 c2 c3
    refine wp_region_takes (fun w1 => (w1.heap[b2]? = some (.cells RA 28 (0, 0)) ∧ RowAt w1 ⟨b3, 4, none⟩ VB.toList ∧ w1.cell? ⟨b3, 0, none⟩ = some (.int .i64 v') ∧ w1.cell? ⟨b3, 1, none⟩ = some (.int .i64 n') ∧ w1.cell? ⟨b3, 2, none⟩ = some (.int .i64 a') ∧ w1.cell? ⟨b3, 3, none⟩ = some (.int .i64 b') ∧ w1.cell? ⟨b3, 36, none⟩ = some (.slice A L cap))) (by kernel_rfl) ?_
    simp only [List.length_cons, List.length_nil]
    have HCU : Hid (Ex0 W W.drew) := Ex.drew W
    have hS := KEEP.out _ _ HSS.out HCU.out
    refine' wpAnyH_do 0 rfl (by kernel_rfl) (fun _ _ _ _ h => h) (by rfl) (by assumption) ⟨_, fun w' hS => ?_, ?_⟩
    rotate_left
    · ((try dsimp only at hS); go_split_ands; go_simp; try (with_reducible rfl))
    simp only [Act.put, List.setIfInBounds_toArray, List.set_cons_zero, List.set_cons_succ]
    refine' wpAnyH_do 1 rfl (by kernel_rfl) (fun _ _ _ _ h => h) (by rfl) (by assumption) ⟨_, fun w' hS => ?_, ?_⟩
    rotate_left
    · ((try dsimp only at hS); go_split_ands; go_simp; try (with_reducible rfl))
    simp only [Act.put, List.setIfInBounds_toArray, List.set_cons_zero, List.set_cons_succ]
    refine' wpAnyH_do 2 rfl (by kernel_rfl) (fun _ _ _ _ h => h) (by rfl) (by assumption) ⟨_, fun w' hS => HLD1.out _ _ _ rfl rfl hS.1, ?_⟩
    simp only [Act.put, List.setIfInBounds_toArray, List.set_cons_zero, List.set_cons_succ]
    refine' wpAnyH_do 3 rfl (by kernel_rfl) (fun _ _ _ _ h => h) (by rfl) (by assumption) ⟨_, fun w' hS => ?_, ?_⟩
    rotate_left
    · ((try dsimp only at hS); go_split_ands; go_simp; try (with_reducible rfl))
    simp only [Act.put, List.setIfInBounds_toArray, List.set_cons_zero, List.set_cons_succ]
    refine' wpAnyH_do 4 rfl (by kernel_rfl) (fun _ _ _ _ h => h) (by rfl) (by assumption) ⟨_, fun w' hS => ?_, ?_⟩
    rotate_left
    · ((try dsimp only at hS); go_split_ands; go_simp; try (with_reducible rfl))
    simp only [Act.put, List.setIfInBounds_toArray, List.set_cons_zero, List.set_cons_succ]
    refine' wpAnyH_do 5 rfl (by kernel_rfl) (fun _ _ _ _ h => h) (by rfl) (by assumption) ⟨_, fun w' hS => ?_, ?_⟩
    rotate_left
    · ((try dsimp only at hS); go_split_ands; go_simp; try (with_reducible rfl))
    simp only [Act.put, List.setIfInBounds_toArray, List.set_cons_zero, List.set_cons_succ]
    refine' wpAnyH_do 6 rfl (by kernel_rfl) (fun _ _ _ _ h => h) (by rfl) (by assumption) ⟨_, fun w' hS => ?_, ?_⟩
    rotate_left
    · ((try dsimp only at hS); go_split_ands; go_simp; try (with_reducible rfl))
    simp only [Act.put, List.setIfInBounds_toArray, List.set_cons_zero, List.set_cons_succ]
    refine' wpAnyH_do 7 rfl (by kernel_rfl) (fun _ _ _ _ h => h) (by rfl) (by assumption) ⟨_, fun w' hS => ?_, ?_⟩
    rotate_left
    · ((try dsimp only at hS); go_split_ands; go_simp; try (with_reducible rfl))
    simp only [Act.put, List.setIfInBounds_toArray, List.set_cons_zero, List.set_cons_succ]
    refine' wpAnyH_do 8 rfl (by kernel_rfl) (fun _ _ _ _ h => h) (by rfl) (by assumption) ⟨_, fun w' hS => ?_, ?_⟩
    rotate_left
    · ((try dsimp only at hS); go_split_ands; go_simp; try (with_reducible rfl))
    simp only [Act.put, List.setIfInBounds_toArray, List.set_cons_zero, List.set_cons_succ]
    refine' wpAnyH_do 9 rfl (by kernel_rfl) (fun _ _ _ _ h => h) (by rfl) (by assumption) ⟨_, fun w' hS => ?_, ?_⟩
    rotate_left
    · ((try dsimp only at hS); go_split_ands; go_simp; try (with_reducible rfl))
    simp only [Act.put, List.setIfInBounds_toArray, List.set_cons_zero, List.set_cons_succ]
    refine' wpAnyH_do 10 rfl (by kernel_rfl) (fun _ _ _ _ h => h) (by rfl) (by assumption) ⟨_, fun w' hS => ?_, ?_⟩
    rotate_left
    · ((try dsimp only at hS); go_split_ands; go_simp; try (with_reducible rfl))
    simp only [Act.put, List.setIfInBounds_toArray, List.set_cons_zero, List.set_cons_succ]
    refine' wpAnyH_do 11 rfl (by kernel_rfl) (fun _ _ _ _ h => h) (by rfl) (by assumption) ⟨_, fun w' hS => ?_, ?_⟩
    rotate_left
    · ((try dsimp only at hS); go_split_ands; go_simp; try (with_reducible rfl))
    simp only [Act.put, List.setIfInBounds_toArray, List.set_cons_zero, List.set_cons_succ]
    refine' wpAnyH_do 12 rfl (by kernel_rfl) (fun _ _ _ _ h => h) (by rfl) (by assumption) ⟨_, fun w' hS => ?_, ?_⟩
    rotate_left
    · ((try dsimp only at hS); go_split_ands; go_simp; try (with_reducible rfl))
    simp only [Act.put, List.setIfInBounds_toArray, List.set_cons_zero, List.set_cons_succ]
    refine' wpAnyH_do 13 rfl (by kernel_rfl) (fun _ _ _ _ h => h) (by rfl) (by assumption) ⟨_, fun w' hS => ?_, ?_⟩
    rotate_left
    · ((try dsimp only at hS); go_split_ands; go_simp; try (with_reducible rfl))
    simp only [Act.put, List.setIfInBounds_toArray, List.set_cons_zero, List.set_cons_succ]
    refine' wpAnyH_do 14 rfl (by kernel_rfl) (fun _ _ _ _ h => h) (by rfl) (by assumption) ⟨_, fun w' hS => HLD2.out _ _ _ rfl rfl hS.2.1, ?_⟩
    simp only [Act.put, List.setIfInBounds_toArray, List.set_cons_zero, List.set_cons_succ]
    refine' wpAnyH_do 16 rfl (by kernel_rfl) (fun _ _ _ _ h => h) (by rfl) (by assumption) ⟨_, fun w' hS => ?_, ?_⟩
    rotate_left
    · ((try dsimp only at hS); go_split_ands; go_simp; try (with_reducible rfl))
    simp only [Act.put, List.setIfInBounds_toArray, List.set_cons_zero, List.set_cons_succ]
    refine' wpAnyH_do 17 rfl (by kernel_rfl) (fun _ _ _ _ h => h) (by rfl) (by assumption) ⟨_, fun w' hS => ?_, ?_⟩
    rotate_left
    · ((try dsimp only at hS); go_split_ands; go_simp; try (with_reducible rfl))
    simp only [Act.put, List.setIfInBounds_toArray, List.set_cons_zero, List.set_cons_succ]
    refine wpAnyH_eff 15 rfl (by kernel_rfl) (by rfl) (fun K hK => ?_)
    have HKK := Lib.hid hK
    clear hK
    go_simp
    refine (HLF.out _).mono ?_
    rintro e w3 ⟨rfl, hx3⟩
    have hS3 := KEEP.out _ _ hS hx3
    have HX3 := Lib.hid (HCU.out.trans0 hx3)
    clear hx3 hS
    dsimp only
    refine HKK.out _ _ hS3 ?_
    clear HKK K
    refine wpAnyH_eff 18 rfl (by kernel_rfl) (by rfl) (fun K hK => ?_)
    have HKK := Lib.hid hK
    clear hK
    go_simp
    refine (HMC.out _ (HX.out.trans0 HX3.out)).mono ?_
    rintro e w4 ⟨rfl, hx4⟩
    have hS4 := KEEP.out _ _ hS3 hx4
    have HX4 := Lib.hid (HX3.out.trans0 hx4)
    clear hx4 hS3
    dsimp only
    refine HKK.out _ _ hS4 ?_
    clear HKK K
    refine' wpAnyH_do 19 rfl (by kernel_rfl) (fun _ _ _ _ h => h) (by rfl) (by assumption) ⟨_, fun w' hS => ?_, ?_⟩
    rotate_left
    · ((try dsimp only at hS); go_split_ands; go_simp; try (with_reducible rfl))
    simp only [Act.put, List.setIfInBounds_toArray, List.set_cons_zero, List.set_cons_succ]
    refine' wpAnyH_do 20 rfl (by kernel_rfl) (fun _ _ _ _ h => h) (by rfl) (by assumption) ⟨_, fun w' hS => ?_, ?_⟩
    rotate_left
    · ((try dsimp only at hS); go_split_ands; go_simp; try (with_reducible rfl))
    simp only [Act.put, List.setIfInBounds_toArray, List.set_cons_zero, List.set_cons_succ]
    refine wpAnyH_done (by kernel_rfl) ?_ _
    go_wp2_with fail
    go_ret
    exact ⟨ret_bool (by rw [HA.out]), HX.out.trans0 HX4.out⟩
end Go.Proofs.Ythbdmfbjkkmplaa
