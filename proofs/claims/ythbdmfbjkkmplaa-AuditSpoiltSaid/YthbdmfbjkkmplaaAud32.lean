/- Contracts of layer 61: the document's Check. -/
import Derived.Test.YthbdmfbjkkmplaaAud31
namespace Go.Proofs.Ythbdmfbjkkmplaa
open Go.RowKit Go.Proofs.YthbdmfbjkkmplaaB Go.Proofs.Ythbdmfbjkkmplaa.Sha

set_option maxRecDepth 100000 in
set_option maxHeartbeats 2000000 in
theorem rcheck61_any (root : List Nat) (hr : root.length = 16) (v n a b : Int) (B : List Nat) (hB : B.length = 32 ∧ ∀ y ∈ B, y < 256) (A : Option Addr) (cap : Nat) (ls : List (List Nat)) (hok : AllB 16 ls) (hl : ls.length ≤ 100000) (hcap : ls.length ≤ cap) (w : World) (hs : Sl w 16 A ls.length (rowN 16 ls)) :
    Calls Try.prog 20 #[.agg (u8s root).toArray, .int .i64 v, .int .i64 n, .int .i64 a, .int .i64 b, .agg (u8s B).toArray, .slice A ls.length cap] w fun e w' => e = .returned (.bool (acheck root v n a b B ls)) ∧ Ex0 w w' := by
  have HOK := Lib.hid hok
  have HS := Lib.hid hs
  obtain ⟨L, hLe⟩ : ∃ L, L = ls.length := ⟨_, rfl⟩
  rw [← hLe] at HS hl hcap ⊢
  have HLE := Lib.hid hLe
  obtain ⟨RA, hRA⟩ : ∃ V, V = (u8s root).toArray := ⟨_, rfl⟩
  have hRs : RA.size = 16 := by rw [hRA]; simp [u8s_len, hr]
  rw [← hRA]
  have HRA := Lib.hid hRA
  obtain ⟨VB, hVB⟩ : ∃ V, V = (u8s B).toArray := ⟨_, rfl⟩
  have hvb : VB.size = 32 := by rw [hVB]; simp [u8s_len, hB.1]
  rw [← hVB]
  have HVB := Lib.hid hVB
  have HBK := Lib.hid hB
  clear hok hs hLe hRA hVB hB
  cases hpl : placeB v n a b
  · have HA : Hid (acheck root v n a b B ls = false) := by show _ = _; unfold acheck; rw [hpl]; rfl
    cases hf : fitsB v n
    · have HF := Lib.hid hf
      clear hf hpl
      go_enter Try.func20, Try.ntmps20
      go_wp2_with (refine (fits_any _ _ _).mono ?_; rintro e w' ⟨rfl, rfl⟩; rw [HF.out])
      go_ret
      exact ⟨ret_bool (by rw [HA.out]), (Ex.alloc _ _).alloc' _⟩
    · have HF := Lib.hid hf
      simp only [placeB, hf, Bool.true_and, decide_eq_false_iff_not] at hpl
      clear hf
      by_cases h1 : 0 ≤ a
      · by_cases h2 : a < v
        · by_cases h3 : 0 ≤ b
          · have h4 : ¬ b < n := fun h4 => hpl ⟨h1, h2, h3, h4⟩
            clear hpl
            go_enter Try.func20, Try.ntmps20
            go_wp2_with (refine (fits_any _ _ _).mono ?_; rintro e w' ⟨rfl, rfl⟩; rw [HF.out])
            go_ret
            exact ⟨ret_bool (by rw [HA.out]), (Ex.alloc _ _).alloc' _⟩
          · clear hpl
            go_enter Try.func20, Try.ntmps20
            go_wp2_with (refine (fits_any _ _ _).mono ?_; rintro e w' ⟨rfl, rfl⟩; rw [HF.out])
            go_ret
            exact ⟨ret_bool (by rw [HA.out]), (Ex.alloc _ _).alloc' _⟩
        · clear hpl
          go_enter Try.func20, Try.ntmps20
          go_wp2_with (refine (fits_any _ _ _).mono ?_; rintro e w' ⟨rfl, rfl⟩; rw [HF.out])
          go_ret
          exact ⟨ret_bool (by rw [HA.out]), (Ex.alloc _ _).alloc' _⟩
      · clear hpl
        go_enter Try.func20, Try.ntmps20
        go_wp2_with (refine (fits_any _ _ _).mono ?_; rintro e w' ⟨rfl, rfl⟩; rw [HF.out])
        go_ret
        exact ⟨ret_bool (by rw [HA.out]), (Ex.alloc _ _).alloc' _⟩
  · have hpl2 := hpl
    simp only [placeB, Bool.and_eq_true] at hpl2
    have HF := Lib.hid hpl2.1
    obtain ⟨v', n', a', b', rfl, rfl, rfl, rfl, h1, h2, h3, h4, h5, h6, h7, h8⟩ := placeB_nat hpl
    have HA : Hid (acheck root v' n' a' b' B ls = checkS root (v' * n') (n' * a' + b') (leafS a' b' B) ls) := by show _ = _; unfold acheck; rw [hpl]; rfl
    have HMC := Lib.hid (fun w' (hx : Ex0 w w') => rcheck_any root hr (v' * n') (n' * a' + b') (leafS a' b' B) ls A cap w' (by omega) (by omega) h7 ⟨leafS_len _ _ _, leafS_lt _ _ _⟩ HOK.out (by rw [← HLE.out]; exact hl) (by rw [← HLE.out]; exact hcap) (by have := HS.out.ex0 hx; rw [HLE.out] at this; exact this))
    rw [← HLE.out, ← HRA.out] at HMC
    have HLF := Lib.hid (rleaf61_any a' b' (by omega) (by omega) B HBK.out.1 HBK.out.2)
    obtain ⟨VL, hVL⟩ : ∃ V, V = (u8s (leafS a' b' B)).toArray := ⟨_, rfl⟩
    rw [← HVB.out, ← hVL] at HLF
    rw [← hVL] at HMC
    obtain ⟨N, hN⟩ : ∃ N, N = v' * n' := ⟨_, rfl⟩
    obtain ⟨M, hM⟩ : ∃ M, M = n' * a' + b' := ⟨_, rfl⟩
    rw [← hN, ← hM] at HMC HA h7
    obtain ⟨M1, hM1⟩ : ∃ M, M = a' * n' := ⟨_, rfl⟩
    have eN : (v' : Int) * (n' : Int) = (N : Int) := by rw [hN]; simp
    have eM1 : (a' : Int) * (n' : Int) = (M1 : Int) := by rw [hM1]; simp
    have eM : (M1 : Int) + (b' : Int) = (M : Int) := by rw [hM, hM1, Nat.mul_comm]; simp
    have hNb : N ≤ 2048 := by rw [hN]; exact h8
    have hM1b : M1 ≤ 2048 := by rw [hM1]; rw [hM, Nat.mul_comm] at h7; omega
    have vN : IntKind.i64.wrap (N : Int) = (N : Int) := by rw [IntKind.wrap_i64]; omega
    have vM1 : IntKind.i64.wrap (M1 : Int) = (M1 : Int) := by rw [IntKind.wrap_i64]; omega
    have vM : IntKind.i64.wrap (M : Int) = (M : Int) := by rw [IntKind.wrap_i64]; omega
    have iab : (a' : Int) < (v' : Int) := by omega
    have ibn : (b' : Int) < (n' : Int) := by omega
    clear hpl hpl2 hVL hN hM h7 h8 hM1
    go_enter Try.func20, Try.ntmps20
    iterate 9 go_step
    generalize hW : World.alloc (World.alloc w _) _ = W
    have h2' : W.heap[w.heap.size]? = some (.cells RA 28 (0, 0)) := by rw [← hW]; exact heap_alloc2_old w _ _
    have h3' : W.heap[w.heap.size + 1]? = some (.cells VB 24 (0, 0)) := by rw [← hW]; exact heap_alloc2_new w _ _
    have hx2 : Ex0 w W := by rw [← hW]; exact (Ex.alloc _ _).alloc' _
    obtain ⟨b2, e2⟩ : ∃ b, b = w.heap.size := ⟨_, rfl⟩
    obtain ⟨b3, e3⟩ : ∃ b, b = w.heap.size + 1 := ⟨_, rfl⟩
    rw [← e3] at h3'
    rw [← e2] at h2'
    rw [← e3, ← e2]
    have HSS : Hid (W.heap[b2]? = some (.cells RA 28 (0, 0)) ∧ W.heap[b3]? = some (.cells VB 24 (0, 0))) := ⟨h2', h3'⟩
    have HX := Lib.hid hx2
    clear hW hx2 e2 e3 h3' h2'
    go_wp2_with (refine (fits_any _ _ _).mono ?_; rintro e w' ⟨rfl, rfl⟩; rw [HF.out])
    have keepS : ∀ w1 w2 : World, (w1.heap[b2]? = some (.cells RA 28 (0, 0)) ∧ w1.heap[b3]? = some (.cells VB 24 (0, 0))) → Ex0 w1 w2 → (w2.heap[b2]? = some (.cells RA 28 (0, 0)) ∧ w2.heap[b3]? = some (.cells VB 24 (0, 0))) :=
      fun w1 w2 h hx => ⟨(hx.block _ (Array.getElem?_eq_some_iff.1 h.1).1 not_false).trans h.1, (hx.block _ (Array.getElem?_eq_some_iff.1 h.2).1 not_false).trans h.2⟩
    have KEEP := Lib.hid keepS
    have HLD1 : Hid (∀ (o : Oper) (a : Act) (w' : World), o.op = .load 28 (.tmp 7) → a.eval (.tmp 7) = .pointer (some ⟨b2, 0, none⟩) → w'.heap[b2]? = some (.cells RA 28 (0, 0)) → (execOp a.eval o).run Try.prog w' = .ok (.value (.agg RA)) w') := fun o a w' h1 h2 h3 => exec_load_row 28 (.tmp 7) h1 b2 h2 _ RA _ _ h3 Try.underlying28 rfl (by rw [hRs]; kernel_rfl)
    have HLD2 : Hid (∀ (o : Oper) (a : Act) (w' : World), o.op = .load 24 (.tmp 12) → a.eval (.tmp 12) = .pointer (some ⟨b3, 0, none⟩) → w'.heap[b3]? = some (.cells VB 24 (0, 0)) → (execOp a.eval o).run Try.prog w' = .ok (.value (.agg VB)) w') := fun o a w' h1 h2 h3 => exec_load_row 24 (.tmp 12) h1 b3 h2 _ VB _ _ h3 Try.underlying24 rfl (by rw [hvb]; kernel_rfl)
    clear keepS
    refine wp_region_takes (fun w1 => (w1.heap[b2]? = some (.cells RA 28 (0, 0)) ∧ w1.heap[b3]? = some (.cells VB 24 (0, 0)))) (by kernel_rfl) ?_
    simp only [List.length_cons, List.length_nil]
    have HCU : Hid (Ex0 W W.drew) := Ex.drew W
    have hS := KEEP.out _ _ HSS.out HCU.out
    refine' wpAnyH_do 0 rfl (by kernel_rfl) (fun _ _ _ _ h => h) (by rfl) (by assumption) ⟨_, fun w' hS => HLD1.out _ _ _ rfl rfl hS.1, ?_⟩
    simp only [Act.put, List.setIfInBounds_toArray, List.set_cons_zero, List.set_cons_succ]
    refine' wpAnyH_do 1 rfl (by kernel_rfl) (fun _ _ _ _ h => h) (by rfl) (by assumption) ⟨_, fun w' hS => ?_, ?_⟩
    rotate_left
    · ((try dsimp only at hS); go_split_ands; go_simp; try (with_reducible rfl))
    simp only [Act.put, List.setIfInBounds_toArray, List.set_cons_zero, List.set_cons_succ]
    refine' wpAnyH_do 2 rfl (by kernel_rfl) (fun _ _ _ _ h => h) (by rfl) (by assumption) ⟨_, fun w' hS => ?_, ?_⟩
    rotate_left
    · ((try dsimp only at hS); go_split_ands; go_simp; try (with_reducible rfl))
    simp only [Act.put, List.setIfInBounds_toArray, List.set_cons_zero, List.set_cons_succ]
    refine' wpAnyH_do 3 rfl (by kernel_rfl) (fun _ _ _ _ h => h) (by rfl) (by assumption) ⟨_, fun w' hS => ?_, ?_⟩
    rotate_left
    · ((try dsimp only at hS); go_split_ands; go_simp; try (with_reducible rfl))
    simp only [Act.put, List.setIfInBounds_toArray, List.set_cons_zero, List.set_cons_succ]
    refine' wpAnyH_do 4 rfl (by kernel_rfl) (fun _ _ _ _ h => h) (by rfl) (by assumption) ⟨_, fun w' hS => ?_, ?_⟩
    rotate_left
    · ((try dsimp only at hS); go_split_ands; go_simp; try (with_reducible rfl))
    simp only [Act.put, List.setIfInBounds_toArray, List.set_cons_zero, List.set_cons_succ]
    refine' wpAnyH_do 5 rfl (by kernel_rfl) (fun _ _ _ _ h => h) (by rfl) (by assumption) ⟨_, fun w' hS => ?_, ?_⟩
    rotate_left
    · ((try dsimp only at hS); go_split_ands; go_simp; try (with_reducible rfl))
    simp only [Act.put, List.setIfInBounds_toArray, List.set_cons_zero, List.set_cons_succ]
    refine' wpAnyH_do 6 rfl (by kernel_rfl) (fun _ _ _ _ h => h) (by rfl) (by assumption) ⟨_, fun w' hS => ?_, ?_⟩
    rotate_left
    · ((try dsimp only at hS); go_split_ands; go_simp; try (with_reducible rfl))
    simp only [Act.put, List.setIfInBounds_toArray, List.set_cons_zero, List.set_cons_succ]
    refine' wpAnyH_do 7 rfl (by kernel_rfl) (fun _ _ _ _ h => h) (by rfl) (by assumption) ⟨_, fun w' hS => ?_, ?_⟩
    rotate_left
    · ((try dsimp only at hS); go_split_ands; go_simp; try (with_reducible rfl))
    simp only [Act.put, List.setIfInBounds_toArray, List.set_cons_zero, List.set_cons_succ]
    refine' wpAnyH_do 8 rfl (by kernel_rfl) (fun _ _ _ _ h => h) (by rfl) (by assumption) ⟨_, fun w' hS => ?_, ?_⟩
    rotate_left
    · ((try dsimp only at hS); go_split_ands; go_simp; try (with_reducible rfl))
    simp only [Act.put, List.setIfInBounds_toArray, List.set_cons_zero, List.set_cons_succ]
    refine' wpAnyH_do 9 rfl (by kernel_rfl) (fun _ _ _ _ h => h) (by rfl) (by assumption) ⟨_, fun w' hS => ?_, ?_⟩
    rotate_left
    · ((try dsimp only at hS); go_split_ands; go_simp; try (with_reducible rfl))
    simp only [Act.put, List.setIfInBounds_toArray, List.set_cons_zero, List.set_cons_succ]
    refine' wpAnyH_do 10 rfl (by kernel_rfl) (fun _ _ _ _ h => h) (by rfl) (by assumption) ⟨_, fun w' hS => ?_, ?_⟩
    rotate_left
    · ((try dsimp only at hS); go_split_ands; go_simp; try (with_reducible rfl))
    simp only [Act.put, List.setIfInBounds_toArray, List.set_cons_zero, List.set_cons_succ]
    refine' wpAnyH_do 11 rfl (by kernel_rfl) (fun _ _ _ _ h => h) (by rfl) (by assumption) ⟨_, fun w' hS => HLD2.out _ _ _ rfl rfl hS.2, ?_⟩
    simp only [Act.put, List.setIfInBounds_toArray, List.set_cons_zero, List.set_cons_succ]
    refine' wpAnyH_do 13 rfl (by kernel_rfl) (fun _ _ _ _ h => h) (by rfl) (by assumption) ⟨_, fun w' hS => ?_, ?_⟩
    rotate_left
    · ((try dsimp only at hS); go_split_ands; go_simp; try (with_reducible rfl))
    simp only [Act.put, List.setIfInBounds_toArray, List.set_cons_zero, List.set_cons_succ]
    refine wpAnyH_eff 12 rfl (by kernel_rfl) (by rfl) (fun K hK => ?_)
    have HKK := Lib.hid hK
    clear hK
    go_simp
    refine (HLF.out _).mono ?_
    rintro e w3 ⟨rfl, hx3⟩
    have hS3 := KEEP.out _ _ hS hx3
    have HX3 := Lib.hid (HCU.out.trans0 hx3)
    clear hx3 hS
    dsimp only
    refine HKK.out _ _ hS3 ?_
    clear HKK K
    refine wpAnyH_eff 14 rfl (by kernel_rfl) (by rfl) (fun K hK => ?_)
    have HKK := Lib.hid hK
    clear hK
    go_simp
    refine (HMC.out _ (HX.out.trans0 HX3.out)).mono ?_
    rintro e w4 ⟨rfl, hx4⟩
    have hS4 := KEEP.out _ _ hS3 hx4
    have HX4 := Lib.hid (HX3.out.trans0 hx4)
    clear hx4 hS3
    dsimp only
    refine HKK.out _ _ hS4 ?_
    clear HKK K
    refine' wpAnyH_do 15 rfl (by kernel_rfl) (fun _ _ _ _ h => h) (by rfl) (by assumption) ⟨_, fun w' hS => ?_, ?_⟩
    rotate_left
    · ((try dsimp only at hS); go_split_ands; go_simp; try (with_reducible rfl))
    simp only [Act.put, List.setIfInBounds_toArray, List.set_cons_zero, List.set_cons_succ]
    refine wpAnyH_done (by kernel_rfl) ?_ _
    go_wp2_with fail
    go_ret
    exact ⟨ret_bool (by rw [HA.out]), HX.out.trans0 HX4.out⟩
end Go.Proofs.Ythbdmfbjkkmplaa
