/- Contracts of layer 61: merkle's climb. Printed by genaud21.py. -/
import Derived.Test.YthbdmfbjkkmplaaAud20
namespace Go.Proofs.Ythbdmfbjkkmplaa
open Go.RowKit Go.Proofs.YthbdmfbjkkmplaaB Go.Proofs.Ythbdmfbjkkmplaa.Sha

set_option maxRecDepth 100000 in
set_option maxHeartbeats 1000000 in
theorem climb_aux (m : Nat) : ∀ (n i : Nat) (x : List Nat) (ls : List (List Nat)) (A : Option Addr) (cap : Nat) (w : World), 0 < n → n ≤ m → n ≤ 100000 → i < n → (x.length = 16 ∧ ∀ y ∈ x, y < 256) → AllB 16 ls → ls.length ≤ 100000 → ls.length ≤ cap → Sl w 16 A ls.length (rowN 16 ls) →
    Calls Try.prog 45 #[.int .i64 n, .int .i64 i, .agg (u8s x).toArray, .slice A ls.length cap] w fun e w' => e = .returned (.tuple #[.agg (u8s (comeS n i x ls).1).toArray, .bool (comeS n i x ls).2]) ∧ Ex0 w w' := by
  induction m with
  | zero => intro n i x ls A cap w h0 h1; omega
  | succ m ih =>
    intro n i x ls A cap w h0 h1 hL hi hx16 hok hl hcap hs
    have IH := Lib.hid ih
    have HOK := Lib.hid hok
    have HS := Lib.hid hs
    have HX16 := Lib.hid hx16
    clear ih hok hs hx16
    obtain ⟨L, hLe⟩ : ∃ L, L = ls.length := ⟨_, rfl⟩
    rw [← hLe] at hl hcap HS ⊢
    have HLE := Lib.hid hLe
    clear hLe
    have hcok := comeS_ok n i x ls h0
    obtain ⟨CA, hCA⟩ : ∃ CA, CA = (u8s (comeS n i x ls).1).toArray := ⟨_, rfl⟩
    obtain ⟨CB, hCB⟩ : ∃ CB, CB = (comeS n i x ls).2 := ⟨_, rfl⟩
    have hsz : CA.size = 16 := by rw [hCA]; simp [u8s_len, hcok.1]
    have H1C : Hid (∀ v ∈ CA, v.oneCell' = true) := by show ∀ v ∈ CA, _; rw [hCA]; simpa using u8s_one (comeS n i x ls).1
    rw [← hCA, ← hCB]
    have HCA := Lib.hid hCA
    have HCB := Lib.hid hCB
    clear hCA hCB hcok
    obtain ⟨XA, hXA⟩ : ∃ XA, XA = (u8s x).toArray := ⟨_, rfl⟩
    have hXs : XA.size = 16 := by rw [hXA]; simp [u8s_len, HX16.out.1]
    rw [← hXA]
    have HXA := Lib.hid hXA
    clear hXA
    go_enter Try.func45, Try.ntmps45
    iterate 12 go_step
    generalize hW : World.alloc (World.alloc w _) _ = W
    have h6 : W.heap[w.heap.size]? = some (.cells XA 28 (0, 0)) := by rw [← hW]; exact heap_alloc2_old w _ _
    have h8 : W8 W (w.heap.size + 1) 28 (List.replicate 16 0) := by rw [← hW]; exact heap_alloc2_new w _ _
    have hx2 : Ex0 w W := by rw [← hW]; exact (Ex.alloc _ _).alloc' _
    obtain ⟨b6, e6⟩ : ∃ b, b = w.heap.size := ⟨_, rfl⟩
    obtain ⟨b8, e8⟩ : ∃ b, b = w.heap.size + 1 := ⟨_, rfl⟩
    rw [← e8] at h8
    rw [← e6] at h6
    rw [← e8, ← e6]
    have H6 := Lib.hid h6
    have H8 := Lib.hid h8
    have HX := Lib.hid hx2
    have E6 := Lib.hid e6
    have E8 := Lib.hid e8
    clear hW h8 hx2 e6 e8
    by_cases h1n : n = 1
    · subst h1n
      have HCO : Hid (∀ w, Calls Try.prog 47 #[.agg XA] w fun e w' => e = .returned (.agg CA) ∧ Ex0 w w') := fun w => by
        rw [HCA.out, HXA.out]; exact one_any x HX16.out.1 HX16.out.2 w
      have HB : Hid (CB = decide (L = 0)) := by
        show _ = _
        rw [HCB.out, comeS_one, HLE.out]; cases ls <;> rfl
      by_cases hL0 : L = 0
      · subst hL0
        go_wp2_with (first | refine wpList_load_row rfl 28 (.tmp 6) rfl b6 rfl 28 XA (0, 0) _ h6 Try.underlying28 rfl (by rw [hXs]; kernel_rfl) ?_ | (refine (HCO.out _).mono ?_; rintro e w2 ⟨rfl, hx2⟩; have HX2 := Lib.hid (HX.out.trans0 hx2); have HE := Lib.hid (H8.out.ex hx2 not_false); clear hx2) | refine wpList_store_all rfl 28 (.tmp 8) (.tmp 20) rfl b8 rfl CA _ rfl 28 HE.out (by rw [hsz]; rfl) H1C.out (by rw [hsz]; kernel_rfl) ?_)
        refine bodyPost_ret (results_row_tmp rfl _ _ b8 _ _ _ _ rfl (setRow_heap _ _ _ _ _ _ HE.out) Try.underlying28 rfl (by rw [hsz]; kernel_rfl) (.bool CB) (by rw [HB.out]; rfl)) rfl ?_
        exact ⟨rfl, HX2.out.trans (ex_setRow _ _ _) (fun _ _ h => h) (fun i hi h => by have := E8.out; omega)⟩
      · have iL0 : ¬ (L : Int) = 0 := by omega
        go_wp2_with (first | refine wpList_load_row rfl 28 (.tmp 6) rfl b6 rfl 28 XA (0, 0) _ h6 Try.underlying28 rfl (by rw [hXs]; kernel_rfl) ?_ | (refine (HCO.out _).mono ?_; rintro e w2 ⟨rfl, hx2⟩; have HX2 := Lib.hid (HX.out.trans0 hx2); have HE := Lib.hid (H8.out.ex hx2 not_false); clear hx2) | refine wpList_store_all rfl 28 (.tmp 8) (.tmp 20) rfl b8 rfl CA _ rfl 28 HE.out (by rw [hsz]; rfl) H1C.out (by rw [hsz]; kernel_rfl) ?_)
        refine bodyPost_ret (results_row_tmp rfl _ _ b8 _ _ _ _ rfl (setRow_heap _ _ _ _ _ _ HE.out) Try.underlying28 rfl (by rw [hsz]; kernel_rfl) (.bool CB) (by rw [HB.out]; simp [hL0])) rfl ?_
        exact ⟨rfl, HX2.out.trans (ex_setRow _ _ _) (fun _ _ h => h) (fun i hi h => by have := E8.out; omega)⟩
    · have hn2 : 2 ≤ n := by omega
      have in1 : ¬ (n : Int) = 1 := by omega
      by_cases hL0 : L = 0
      · subst hL0
        have hln : ls = [] := List.eq_nil_of_length_eq_zero HLE.out.symm
        have HR0 : Hid (CA = (u8s (List.replicate 16 0)).toArray ∧ CB = false) := by
          show _ ∧ _
          rw [HCA.out, HCB.out, hln, comeS_nil hn2]; exact ⟨rfl, rfl⟩
        have HZ16 : Hid (∀ v ∈ (u8s (List.replicate 16 0)).toArray, v.oneCell' = true) := by show ∀ v ∈ _, _; simpa using u8s_one (List.replicate 16 0)
        clear hln
        go_wp2_with (refine wpList_store_all rfl 28 (.tmp 8) (.tmp 27) rfl b8 rfl (u8s (List.replicate 16 0)).toArray _ rfl 28 H8.out (by rfl) HZ16.out (by kernel_rfl) ?_)
        refine bodyPost_ret (results_row_tmp rfl _ _ b8 _ _ _ _ rfl (setRow_heap _ _ _ _ _ _ H8.out) Try.underlying28 rfl (by kernel_rfl) (.bool CB) (by rw [HR0.out.2]; rfl)) rfl ?_
        exact ⟨by rw [HR0.out.1]; rfl, HX.out.trans (ex_setRow _ _ _) (fun _ _ h => h) (fun i hi h => by have := E8.out; omega)⟩
      · have iL0 : ¬ (L : Int) = 0 := by omega
        obtain ⟨j, hj⟩ : ∃ j, j = L - 1 := ⟨_, rfl⟩
        have ej : (L : Int) - 1 = (j : Int) := by omega
        have hjL : j < L := by omega
        have ijL : (j : Int) < L := by omega
        have hLj : L = j + 1 := by omega
        have hc1 := cutN_pos hn2
        have hc2 := cutN_lt hn2
        have HC := Lib.hid (cut_any n (by omega))
        obtain ⟨ps, s, hps⟩ : ∃ ps s, ls = ps ++ [s] := by
          rcases List.eq_nil_or_concat ls with h | ⟨ps, s, h⟩
          · have := HLE.out; rw [h] at this; exact absurd this hL0
          · exact ⟨ps, s, by rw [h, List.concat_eq_append]⟩
        have hpl : ps.length = j := by have := HLE.out; rw [hps] at this; simp at this; omega
        have hsg : ls.getD j [] = s := by rw [hps, ← hpl]; simp
        have hs16 := HOK.out.get (i := j) (by rw [← HLE.out]; exact hjL)
        rw [hsg] at hs16
        have HPOK : Hid (AllB 16 ps) := fun y hy => HOK.out y (by rw [hps]; exact List.mem_append_left _ hy)
        have HPS : Hid (∀ w', Ex0 W w' → Sl w' 16 A ps.length (rowN 16 ps)) := fun w' hx' => by
          have h1 := ((HS.out.ex0 HX.out).ex0 hx').part HLE.out (k := j) (by omega)
          rw [hps, ← hpl, List.take_left] at h1; exact h1
        obtain ⟨g, off, hAg, hr⟩ := (HS.out.ex0 HX.out).elemN (by decide) HLE.out (i := j) hjL (by rw [hsg]; exact hs16.1)
        rw [hsg] at hr
        subst hAg
        have HR := Lib.hid hr
        have HS16 := Lib.hid hs16
        have HPL := Lib.hid hpl
        obtain ⟨k, hk⟩ : ∃ k, k = cutN n := ⟨_, rfl⟩
        rw [← hk] at hc1 hc2 HC
        have HLEFT : Hid (i < k → (comeS n i x ls).1 = joinS (comeS k i x ps).1 s ∧ (comeS n i x ls).2 = (comeS k i x ps).2) := fun h => by
          rw [hps, comeS_left hn2 x ps s (by rw [← hk]; exact h), ← hk]; exact ⟨rfl, rfl⟩
        have HRIGHT : Hid (¬ i < k → (comeS n i x ls).1 = joinS s (comeS (n - k) (i - k) x ps).1 ∧ (comeS n i x ls).2 = (comeS (n - k) (i - k) x ps).2) := fun h => by
          rw [hps, comeS_right hn2 x ps s (by rw [← hk]; exact h), ← hk]; exact ⟨rfl, rfl⟩
        have HLJ := Lib.hid hLj
        clear hps hpl hsg hs16 hr hk hj hLj
        obtain ⟨SS, hSS⟩ : ∃ S, S = u8s s := ⟨_, rfl⟩
        have hSs : SS.length = 16 := by rw [hSS, u8s_len]; exact HS16.out.1
        have H1S : Hid (∀ v ∈ SS.toArray, v.oneCell' = true) := by show ∀ v ∈ _, _; rw [hSS]; simpa using u8s_one s
        rw [← hSS] at HR
        have HSS := Lib.hid hSS
        clear hSS
        have hslP : ∀ w', (Instr.sliceAt 37 (.slice (some ⟨g, off, none⟩) L cap) none (some (.int .i64 j)) none).run Try.prog w' = .ok (.slice (some ⟨g, off, none⟩) j cap) w' := fun w' =>
          run_sliceAt_high (P := Try.prog) (sz := 16) Try.underlying37 (by kernel_rfl) _ L cap j (by omega) w'
        -- the call below, on either side
        have vj : IntKind.i64.wrap (j : Int) = (j : Int) := by rw [IntKind.wrap_i64]; omega
        have ijc : (j : Int) ≤ (cap : Int) := by omega
        by_cases hik : i < k
        · have iik : (i : Int) < (k : Int) := by omega
          have HT := comeS_ok k i x ps (by omega)
          have HTE := HLEFT.out hik
          obtain ⟨T, hT⟩ : ∃ T, T = (comeS k i x ps).1 := ⟨_, rfl⟩
          obtain ⟨TB, hTB⟩ : ∃ T, T = (comeS k i x ps).2 := ⟨_, rfl⟩
          rw [← hT] at HT HTE
          rw [← hTB] at HTE
          have HIC : Hid (∀ w', Ex0 W w' → Calls Try.prog 45 #[.int .i64 (k : Nat), .int .i64 (i : Nat), .agg XA, .slice (some ⟨g, off, none⟩) j cap] w' fun e w'' => e = .returned (.tuple #[.agg (u8s T).toArray, .bool TB]) ∧ Ex0 w' w'') := fun w' hx => by
            have := IH.out k i x ps (some ⟨g, off, none⟩) cap w' (by omega) (by omega) (by omega) (by omega) HX16.out HPOK.out (by have := HPL.out; omega) (by have := HPL.out; omega) (HPS.out w' hx)
            rw [← hT, ← hTB, ← HXA.out, HPL.out] at this; exact this
          have HJ : Hid (∀ w', Calls Try.prog 49 #[.agg (u8s T).toArray, .agg SS.toArray] w' fun e w'' => e = .returned (.agg CA) ∧ Ex0 w' w'') := fun w' => by
            rw [HCA.out, HTE.1, HSS.out]; exact join_any T s HT.1 HT.2 HS16.out.1 HS16.out.2 w'
          obtain ⟨VA, hVA⟩ : ∃ V, V = (u8s T).toArray := ⟨_, rfl⟩
          have hVs : VA.size = 16 := by rw [hVA]; simp [u8s_len, HT.1]
          have H1V : Hid (∀ v ∈ VA, v.oneCell' = true) := by show ∀ v ∈ _, _; rw [hVA]; simpa using u8s_one T
          rw [← hVA] at HIC HJ
          have HCBE : Hid (CB = TB) := by show _ = _; rw [HCB.out]; exact HTE.2
          clear hT hTB HT HTE hVA
          go_wp2_with fail
          have hS : RowAt W.drew ⟨g, off + j * 16, none⟩ SS := HR.out.ex (Ex.drew W) not_false
          have hld : ∀ (o : Oper) (a : Act) (w' : World), o.op = .load 28 (.tmp 32) → a.eval (.tmp 32) = .pointer (some ⟨g, off + j * 16, none⟩) → RowAt w' ⟨g, off + j * 16, none⟩ SS → (execOp a.eval o).run Try.prog w' = .ok (.value (.agg SS.toArray)) w' := fun o a w' h1 h2 h3 => exec_load_at 28 (.tmp 32) h1 _ h2 SS _ h3 Try.underlying28 rfl (by rw [hSs]; kernel_rfl)
          have HLD := Lib.hid hld
          clear hld
          refine wp_region_takes (fun w' => RowAt w' ⟨g, off + j * 16, none⟩ SS) (by kernel_rfl) ?_
          simp only [List.length_cons, List.length_nil]
          refine' wpAnyH_do 0 rfl (by kernel_rfl) (fun _ _ _ _ h => h) (by rfl) (by assumption) ⟨_, fun w' hS => ?_, ?_⟩
          rotate_left
          · ((try dsimp only at hS); go_split_ands; go_simp; try (with_reducible rfl))
          simp only [Act.put, List.setIfInBounds_toArray, List.set_cons_zero, List.set_cons_succ]
          refine' wpAnyH_do 1 rfl (by kernel_rfl) (fun _ _ _ _ h => h) (by rfl) (by assumption) ⟨_, fun w' hS => ?_, ?_⟩
          rotate_left
          · ((try dsimp only at hS); go_split_ands; go_simp; try (with_reducible rfl))
          simp only [Act.put, List.setIfInBounds_toArray, List.set_cons_zero, List.set_cons_succ]
          refine' wpAnyH_do 2 rfl (by kernel_rfl) (fun _ _ _ _ h => h) (by rfl) (by assumption) ⟨_, fun w' hS => ?_, ?_⟩
          rotate_left
          · ((try dsimp only at hS); go_split_ands; go_simp; try (with_reducible rfl))
          simp only [Act.put, List.setIfInBounds_toArray, List.set_cons_zero, List.set_cons_succ]
          refine' wpAnyH_do 3 rfl (by kernel_rfl) (fun _ _ _ _ h => h) (by rfl) (by assumption) ⟨_, fun w' hS => ?_, ?_⟩
          rotate_left
          · ((try dsimp only at hS); go_split_ands; go_simp; try (with_reducible rfl))
          simp only [Act.put, List.setIfInBounds_toArray, List.set_cons_zero, List.set_cons_succ]
          refine' wpAnyH_do 4 rfl (by kernel_rfl) (fun _ _ _ _ h => h) (by rfl) (by assumption) ⟨_, fun w' hS => ?_, ?_⟩
          rotate_left
          · ((try dsimp only at hS); go_split_ands; go_simp; try (with_reducible rfl))
          simp only [Act.put, List.setIfInBounds_toArray, List.set_cons_zero, List.set_cons_succ]
          refine' wpAnyH_do 5 rfl (by kernel_rfl) (fun _ _ _ _ h => h) (by rfl) (by assumption) ⟨_, fun w' hS => HLD.out _ _ _ rfl rfl hS, ?_⟩
          simp only [Act.put, List.setIfInBounds_toArray, List.set_cons_zero, List.set_cons_succ]
          refine' wpAnyH_do 6 rfl (by kernel_rfl) (fun _ _ _ _ h => h) (by rfl) (by assumption) ⟨_, fun w' hS => ?_, ?_⟩
          rotate_left
          · ((try dsimp only at hS); go_split_ands; go_simp; try (with_reducible rfl))
          simp only [Act.put, List.setIfInBounds_toArray, List.set_cons_zero, List.set_cons_succ]
          refine' wpAnyH_do 7 rfl (by kernel_rfl) (fun _ _ _ _ h => h) (by rfl) (by assumption) ⟨_, fun w' hS => ?_, ?_⟩
          rotate_left
          · ((try dsimp only at hS); go_split_ands; go_simp; try (with_reducible rfl))
          simp only [Act.put, List.setIfInBounds_toArray, List.set_cons_zero, List.set_cons_succ]
          refine' wpAnyH_do 8 rfl (by kernel_rfl) (fun _ _ _ _ h => h) (by rfl) (by assumption) ⟨_, fun w' hS => ?_, ?_⟩
          rotate_left
          · ((try dsimp only at hS); go_split_ands; go_simp; try (with_reducible rfl))
          simp only [Act.put, List.setIfInBounds_toArray, List.set_cons_zero, List.set_cons_succ]
          refine' wpAnyH_do 9 rfl (by kernel_rfl) (fun _ _ _ _ h => h) (by rfl) (by assumption) ⟨_, fun w' hS => ?_, ?_⟩
          rotate_left
          · ((try dsimp only at hS); go_split_ands; go_simp; try (with_reducible rfl))
          simp only [Act.put, List.setIfInBounds_toArray, List.set_cons_zero, List.set_cons_succ]
          refine' wpAnyH_do 10 rfl (by kernel_rfl) (fun _ _ _ _ h => h) (by rfl) (by assumption) ⟨_, fun w' hS => ?_, ?_⟩
          rotate_left
          · ((try dsimp only at hS); go_split_ands; go_simp; try (with_reducible rfl))
          simp only [Act.put, List.setIfInBounds_toArray, List.set_cons_zero, List.set_cons_succ]
          refine wpAnyH_eff 11 rfl (by kernel_rfl) (by rfl) (fun K hK => ?_)
          have HKK := Lib.hid hK
          clear hK
          go_simp
          refine HKK.out _ (W.drew.alloc (.cells (u8s (List.replicate 16 0)).toArray 28)) (hS.ex (Ex.alloc _ _) not_false) ?_
          clear HKK K
          refine wpAnyH_eff 12 rfl (by kernel_rfl) (by rfl) (fun K hK => ?_)
          have HKK := Lib.hid hK
          clear hK
          refine wp_store_all 28 (.tmp 10) (.tmp 33) rfl W.heap.size rfl SS.toArray _ rfl 28 (heap_alloc_new W.drew _) (by rw [List.size_toArray, List.size_toArray, hSs]; rfl) H1S.out (by rw [List.size_toArray, hSs]; kernel_rfl) ?_
          have e1w : (W.drew.alloc (.cells (u8s (List.replicate 16 0)).toArray 28)).setRow W.heap.size SS.toArray = W.drew.alloc (.cells SS.toArray 28) := World.setRow_alloc_new ..
          rw [e1w]
          clear e1w
          obtain ⟨W1, hW1⟩ : ∃ W1, W1 = W.drew.alloc (.cells SS.toArray 28) := ⟨_, rfl⟩
          rw [← hW1]
          have hx1 : Ex0 W W1 := by rw [hW1]; exact (Ex.drew W).alloc' _
          have h10 : W1.heap[W.heap.size]? = some (.cells SS.toArray 28 (0, 0)) := by rw [hW1]; exact heap_alloc_new W.drew _
          obtain ⟨b10, e10⟩ : ∃ b, b = W.heap.size := ⟨_, rfl⟩
          rw [← e10] at h10 ⊢
          have HX1 := Lib.hid hx1
          have H10 := Lib.hid h10
          have E10 := Lib.hid e10
          have hS1 : RowAt W1 ⟨g, off + j * 16, none⟩ SS := HR.out.ex hx1 not_false
          have h6' : W1.heap[b6]? = some (.cells XA 28 (0, 0)) := (hx1.block _ (Array.getElem?_eq_some_iff.1 H6.out).1 not_false).trans H6.out
          clear hW1 hx1 h10 e10 hS
          refine HKK.out _ _ hS1 ?_
          clear HKK K
          simp only [Act.put]
          refine' wpAnyH_do 13 rfl (by kernel_rfl) (fun _ _ _ _ h => h) (by rfl) (by assumption) ⟨_, fun w' hS => ?_, ?_⟩
          rotate_left
          · ((try dsimp only at hS); go_split_ands; go_simp; try (with_reducible rfl))
          simp only [Act.put, List.setIfInBounds_toArray, List.set_cons_zero, List.set_cons_succ]
          refine wpAnyH_done (by kernel_rfl) ?_ _
          clear hS1 h6
          go_wp2_with (first | (refine (HC.out _).mono ?_; rintro e w' ⟨rfl, rfl⟩) | refine wpList_load_row rfl 28 (.tmp 6) rfl b6 rfl 28 XA (0, 0) _ h6' Try.underlying28 rfl (by rw [hXs]; kernel_rfl) ?_ | (refine (HIC.out _ HX1.out).mono ?_; rintro e w3 ⟨rfl, hx3⟩; have HX3 := Lib.hid hx3; clear hx3) | (refine wpList_store_all rfl 28 (.tmp 13) (.tmp 50) rfl w3.heap.size rfl VA _ rfl 28 (heap_alloc_new _ _) (by rw [hVs]; rfl) H1V.out (by rw [hVs]; kernel_rfl) ?_; rw [World.setRow_alloc_new]; obtain ⟨w7, hw7⟩ : ∃ w7, w7 = w3.alloc (.cells VA 28) := ⟨_, rfl⟩; rw [← hw7]; have hx7 : Ex0 w3 w7 := (by rw [hw7]; exact Ex.alloc _ _); have h12 : w7.heap[w3.heap.size]? = some (.cells VA 28 (0, 0)) := (by rw [hw7]; exact heap_alloc_new _ _); have HX7 : Hid (Ex0 W w7) := ((HX1.out.trans0 HX3.out).trans0 hx7); have h10 : w7.heap[b10]? = some (.cells SS.toArray 28 (0, 0)) := (((HX3.out.trans0 hx7).block _ (Array.getElem?_eq_some_iff.1 H10.out).1 not_false).trans H10.out); clear hw7 hx7) | refine wpList_load_row rfl 28 (.tmp 10) rfl b10 rfl 28 SS.toArray (0, 0) _ h10 Try.underlying28 rfl (by rw [List.size_toArray, hSs]; kernel_rfl) ?_ | refine wpList_load_row rfl 28 (.tmp 13) rfl w3.heap.size rfl 28 VA (0, 0) _ h12 Try.underlying28 rfl (by rw [hVs]; kernel_rfl) ?_ | (refine (HJ.out _).mono ?_; rintro e w8 ⟨rfl, hx8⟩; have HX8 := Lib.hid (HX7.out.trans0 hx8); have HE := Lib.hid (H8.out.ex (HX7.out.trans0 hx8) not_false); clear hx8) | refine wpList_store_all rfl 28 (.tmp 8) (.tmp 54) rfl b8 rfl CA _ rfl 28 HE.out (by rw [hsz]; rfl) H1C.out (by rw [hsz]; kernel_rfl) ?_)
          refine bodyPost_ret (results_row_tmp rfl _ _ b8 _ _ _ _ rfl (setRow_heap _ _ _ _ _ _ HE.out) Try.underlying28 rfl (by rw [hsz]; kernel_rfl) (.bool CB) (by rw [HCBE.out]; rfl)) rfl ?_
          exact ⟨rfl, (HX.out.trans0 HX8.out).trans (ex_setRow _ _ _) (fun _ _ h => h) (fun i hi h => by have := E8.out; omega)⟩

        · have iik : ¬ (i : Int) < (k : Int) := by omega
          have e1 : (n : Int) - (k : Int) = ((n - k : Nat) : Int) := by omega
          have e2 : (i : Int) - (k : Int) = ((i - k : Nat) : Int) := by omega
          have vn : IntKind.i64.wrap ((n - k : Nat) : Int) = ((n - k : Nat) : Int) := by rw [IntKind.wrap_i64]; omega
          have vi : IntKind.i64.wrap ((i - k : Nat) : Int) = ((i - k : Nat) : Int) := by rw [IntKind.wrap_i64]; omega
          have HT := comeS_ok (n - k) (i - k) x ps (by omega)
          have HTE := HRIGHT.out hik
          obtain ⟨T, hT⟩ : ∃ T, T = (comeS (n - k) (i - k) x ps).1 := ⟨_, rfl⟩
          obtain ⟨TB, hTB⟩ : ∃ T, T = (comeS (n - k) (i - k) x ps).2 := ⟨_, rfl⟩
          rw [← hT] at HT HTE
          rw [← hTB] at HTE
          have HIC : Hid (∀ w', Ex0 W w' → Calls Try.prog 45 #[.int .i64 ((n - k) : Nat), .int .i64 ((i - k) : Nat), .agg XA, .slice (some ⟨g, off, none⟩) j cap] w' fun e w'' => e = .returned (.tuple #[.agg (u8s T).toArray, .bool TB]) ∧ Ex0 w' w'') := fun w' hx => by
            have := IH.out (n - k) (i - k) x ps (some ⟨g, off, none⟩) cap w' (by omega) (by omega) (by omega) (by omega) HX16.out HPOK.out (by have := HPL.out; omega) (by have := HPL.out; omega) (HPS.out w' hx)
            rw [← hT, ← hTB, ← HXA.out, HPL.out] at this; exact this
          have HJ : Hid (∀ w', Calls Try.prog 49 #[.agg SS.toArray, .agg (u8s T).toArray] w' fun e w'' => e = .returned (.agg CA) ∧ Ex0 w' w'') := fun w' => by
            rw [HCA.out, HTE.1, HSS.out]; exact join_any s T HS16.out.1 HS16.out.2 HT.1 HT.2 w'
          obtain ⟨VA, hVA⟩ : ∃ V, V = (u8s T).toArray := ⟨_, rfl⟩
          have hVs : VA.size = 16 := by rw [hVA]; simp [u8s_len, HT.1]
          have H1V : Hid (∀ v ∈ VA, v.oneCell' = true) := by show ∀ v ∈ _, _; rw [hVA]; simpa using u8s_one T
          rw [← hVA] at HIC HJ
          have HCBE : Hid (CB = TB) := by show _ = _; rw [HCB.out]; exact HTE.2
          clear hT hTB HT HTE hVA
          go_wp2_with fail
          have hS : RowAt W.drew ⟨g, off + j * 16, none⟩ SS := HR.out.ex (Ex.drew W) not_false
          have hld : ∀ (o : Oper) (a : Act) (w' : World), o.op = .load 28 (.tmp 32) → a.eval (.tmp 32) = .pointer (some ⟨g, off + j * 16, none⟩) → RowAt w' ⟨g, off + j * 16, none⟩ SS → (execOp a.eval o).run Try.prog w' = .ok (.value (.agg SS.toArray)) w' := fun o a w' h1 h2 h3 => exec_load_at 28 (.tmp 32) h1 _ h2 SS _ h3 Try.underlying28 rfl (by rw [hSs]; kernel_rfl)
          have HLD := Lib.hid hld
          clear hld
          refine wp_region_takes (fun w' => RowAt w' ⟨g, off + j * 16, none⟩ SS) (by kernel_rfl) ?_
          simp only [List.length_cons, List.length_nil]
          refine' wpAnyH_do 0 rfl (by kernel_rfl) (fun _ _ _ _ h => h) (by rfl) (by assumption) ⟨_, fun w' hS => ?_, ?_⟩
          rotate_left
          · ((try dsimp only at hS); go_split_ands; go_simp; try (with_reducible rfl))
          simp only [Act.put, List.setIfInBounds_toArray, List.set_cons_zero, List.set_cons_succ]
          refine' wpAnyH_do 1 rfl (by kernel_rfl) (fun _ _ _ _ h => h) (by rfl) (by assumption) ⟨_, fun w' hS => ?_, ?_⟩
          rotate_left
          · ((try dsimp only at hS); go_split_ands; go_simp; try (with_reducible rfl))
          simp only [Act.put, List.setIfInBounds_toArray, List.set_cons_zero, List.set_cons_succ]
          refine' wpAnyH_do 2 rfl (by kernel_rfl) (fun _ _ _ _ h => h) (by rfl) (by assumption) ⟨_, fun w' hS => ?_, ?_⟩
          rotate_left
          · ((try dsimp only at hS); go_split_ands; go_simp; try (with_reducible rfl))
          simp only [Act.put, List.setIfInBounds_toArray, List.set_cons_zero, List.set_cons_succ]
          refine' wpAnyH_do 3 rfl (by kernel_rfl) (fun _ _ _ _ h => h) (by rfl) (by assumption) ⟨_, fun w' hS => ?_, ?_⟩
          rotate_left
          · ((try dsimp only at hS); go_split_ands; go_simp; try (with_reducible rfl))
          simp only [Act.put, List.setIfInBounds_toArray, List.set_cons_zero, List.set_cons_succ]
          refine' wpAnyH_do 4 rfl (by kernel_rfl) (fun _ _ _ _ h => h) (by rfl) (by assumption) ⟨_, fun w' hS => ?_, ?_⟩
          rotate_left
          · ((try dsimp only at hS); go_split_ands; go_simp; try (with_reducible rfl))
          simp only [Act.put, List.setIfInBounds_toArray, List.set_cons_zero, List.set_cons_succ]
          refine' wpAnyH_do 5 rfl (by kernel_rfl) (fun _ _ _ _ h => h) (by rfl) (by assumption) ⟨_, fun w' hS => HLD.out _ _ _ rfl rfl hS, ?_⟩
          simp only [Act.put, List.setIfInBounds_toArray, List.set_cons_zero, List.set_cons_succ]
          refine' wpAnyH_do 6 rfl (by kernel_rfl) (fun _ _ _ _ h => h) (by rfl) (by assumption) ⟨_, fun w' hS => ?_, ?_⟩
          rotate_left
          · ((try dsimp only at hS); go_split_ands; go_simp; try (with_reducible rfl))
          simp only [Act.put, List.setIfInBounds_toArray, List.set_cons_zero, List.set_cons_succ]
          refine' wpAnyH_do 7 rfl (by kernel_rfl) (fun _ _ _ _ h => h) (by rfl) (by assumption) ⟨_, fun w' hS => ?_, ?_⟩
          rotate_left
          · ((try dsimp only at hS); go_split_ands; go_simp; try (with_reducible rfl))
          simp only [Act.put, List.setIfInBounds_toArray, List.set_cons_zero, List.set_cons_succ]
          refine' wpAnyH_do 8 rfl (by kernel_rfl) (fun _ _ _ _ h => h) (by rfl) (by assumption) ⟨_, fun w' hS => ?_, ?_⟩
          rotate_left
          · ((try dsimp only at hS); go_split_ands; go_simp; try (with_reducible rfl))
          simp only [Act.put, List.setIfInBounds_toArray, List.set_cons_zero, List.set_cons_succ]
          refine' wpAnyH_do 9 rfl (by kernel_rfl) (fun _ _ _ _ h => h) (by rfl) (by assumption) ⟨_, fun w' hS => ?_, ?_⟩
          rotate_left
          · ((try dsimp only at hS); go_split_ands; go_simp; try (with_reducible rfl))
          simp only [Act.put, List.setIfInBounds_toArray, List.set_cons_zero, List.set_cons_succ]
          refine' wpAnyH_do 10 rfl (by kernel_rfl) (fun _ _ _ _ h => h) (by rfl) (by assumption) ⟨_, fun w' hS => ?_, ?_⟩
          rotate_left
          · ((try dsimp only at hS); go_split_ands; go_simp; try (with_reducible rfl))
          simp only [Act.put, List.setIfInBounds_toArray, List.set_cons_zero, List.set_cons_succ]
          refine wpAnyH_eff 11 rfl (by kernel_rfl) (by rfl) (fun K hK => ?_)
          have HKK := Lib.hid hK
          clear hK
          go_simp
          refine HKK.out _ (W.drew.alloc (.cells (u8s (List.replicate 16 0)).toArray 28)) (hS.ex (Ex.alloc _ _) not_false) ?_
          clear HKK K
          refine wpAnyH_eff 12 rfl (by kernel_rfl) (by rfl) (fun K hK => ?_)
          have HKK := Lib.hid hK
          clear hK
          refine wp_store_all 28 (.tmp 10) (.tmp 33) rfl W.heap.size rfl SS.toArray _ rfl 28 (heap_alloc_new W.drew _) (by rw [List.size_toArray, List.size_toArray, hSs]; rfl) H1S.out (by rw [List.size_toArray, hSs]; kernel_rfl) ?_
          have e1w : (W.drew.alloc (.cells (u8s (List.replicate 16 0)).toArray 28)).setRow W.heap.size SS.toArray = W.drew.alloc (.cells SS.toArray 28) := World.setRow_alloc_new ..
          rw [e1w]
          clear e1w
          obtain ⟨W1, hW1⟩ : ∃ W1, W1 = W.drew.alloc (.cells SS.toArray 28) := ⟨_, rfl⟩
          rw [← hW1]
          have hx1 : Ex0 W W1 := by rw [hW1]; exact (Ex.drew W).alloc' _
          have h10 : W1.heap[W.heap.size]? = some (.cells SS.toArray 28 (0, 0)) := by rw [hW1]; exact heap_alloc_new W.drew _
          obtain ⟨b10, e10⟩ : ∃ b, b = W.heap.size := ⟨_, rfl⟩
          rw [← e10] at h10 ⊢
          have HX1 := Lib.hid hx1
          have H10 := Lib.hid h10
          have E10 := Lib.hid e10
          have hS1 : RowAt W1 ⟨g, off + j * 16, none⟩ SS := HR.out.ex hx1 not_false
          have h6' : W1.heap[b6]? = some (.cells XA 28 (0, 0)) := (hx1.block _ (Array.getElem?_eq_some_iff.1 H6.out).1 not_false).trans H6.out
          clear hW1 hx1 h10 e10 hS
          refine HKK.out _ _ hS1 ?_
          clear HKK K
          simp only [Act.put]
          refine' wpAnyH_do 13 rfl (by kernel_rfl) (fun _ _ _ _ h => h) (by rfl) (by assumption) ⟨_, fun w' hS => ?_, ?_⟩
          rotate_left
          · ((try dsimp only at hS); go_split_ands; go_simp; try (with_reducible rfl))
          simp only [Act.put, List.setIfInBounds_toArray, List.set_cons_zero, List.set_cons_succ]
          refine wpAnyH_done (by kernel_rfl) ?_ _
          clear hS1 h6
          go_wp2_with (first | (refine (HC.out _).mono ?_; rintro e w' ⟨rfl, rfl⟩) | refine wpList_load_row rfl 28 (.tmp 6) rfl b6 rfl 28 XA (0, 0) _ h6' Try.underlying28 rfl (by rw [hXs]; kernel_rfl) ?_ | (refine (HIC.out _ HX1.out).mono ?_; rintro e w3 ⟨rfl, hx3⟩; have HX3 := Lib.hid hx3; clear hx3) | (refine wpList_store_all rfl 28 (.tmp 15) (.tmp 66) rfl w3.heap.size rfl VA _ rfl 28 (heap_alloc_new _ _) (by rw [hVs]; rfl) H1V.out (by rw [hVs]; kernel_rfl) ?_; rw [World.setRow_alloc_new]; obtain ⟨w7, hw7⟩ : ∃ w7, w7 = w3.alloc (.cells VA 28) := ⟨_, rfl⟩; rw [← hw7]; have hx7 : Ex0 w3 w7 := (by rw [hw7]; exact Ex.alloc _ _); have h12 : w7.heap[w3.heap.size]? = some (.cells VA 28 (0, 0)) := (by rw [hw7]; exact heap_alloc_new _ _); have HX7 : Hid (Ex0 W w7) := ((HX1.out.trans0 HX3.out).trans0 hx7); have h10 : w7.heap[b10]? = some (.cells SS.toArray 28 (0, 0)) := (((HX3.out.trans0 hx7).block _ (Array.getElem?_eq_some_iff.1 H10.out).1 not_false).trans H10.out); clear hw7 hx7) | refine wpList_load_row rfl 28 (.tmp 10) rfl b10 rfl 28 SS.toArray (0, 0) _ h10 Try.underlying28 rfl (by rw [List.size_toArray, hSs]; kernel_rfl) ?_ | refine wpList_load_row rfl 28 (.tmp 15) rfl w3.heap.size rfl 28 VA (0, 0) _ h12 Try.underlying28 rfl (by rw [hVs]; kernel_rfl) ?_ | (refine (HJ.out _).mono ?_; rintro e w8 ⟨rfl, hx8⟩; have HX8 := Lib.hid (HX7.out.trans0 hx8); have HE := Lib.hid (H8.out.ex (HX7.out.trans0 hx8) not_false); clear hx8) | refine wpList_store_all rfl 28 (.tmp 8) (.tmp 70) rfl b8 rfl CA _ rfl 28 HE.out (by rw [hsz]; rfl) H1C.out (by rw [hsz]; kernel_rfl) ?_)
          refine bodyPost_ret (results_row_tmp rfl _ _ b8 _ _ _ _ rfl (setRow_heap _ _ _ _ _ _ HE.out) Try.underlying28 rfl (by rw [hsz]; kernel_rfl) (.bool CB) (by rw [HCBE.out]; rfl)) rfl ?_
          exact ⟨rfl, (HX.out.trans0 HX8.out).trans (ex_setRow _ _ _) (fun _ _ h => h) (fun i hi h => by have := E8.out; omega)⟩

end Go.Proofs.Ythbdmfbjkkmplaa
