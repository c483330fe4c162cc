/- Contracts of layer 61: the document's Proof. Printed by genaud27.py. -/
import Derived.Test.YthbdmfbjkkmplaaAud19
import Derived.Test.YthbdmfbjkkmplaaAud26
namespace Go.Proofs.Ythbdmfbjkkmplaa
open Go.RowKit Go.Proofs.YthbdmfbjkkmplaaB Go.Proofs.Ythbdmfbjkkmplaa.Sha

theorem proofS_len_le : ∀ (m : Nat) (l : List (List Nat)) (i : Nat), l.length ≤ m → (proofS l i).length ≤ l.length
  | 0, l, i, h => by rw [proofS_one (by omega)]; simp
  | m + 1, l, i, h => by
    by_cases h2 : 2 ≤ l.length
    · have c1 := cutN_pos h2
      have c2 := cutN_lt h2
      by_cases hi : i < cutN l.length
      · rw [proofS_left h2 hi]
        have := proofS_len_le m (l.take (cutN l.length)) i (by simp; omega)
        simp at this ⊢; omega
      · rw [proofS_right h2 hi]
        have := proofS_len_le m (l.drop (cutN l.length)) (i - cutN l.length) (by simp; omega)
        simp at this ⊢; omega
    · rw [proofS_one (by omega)]; simp

set_option maxRecDepth 100000 in
set_option maxHeartbeats 2000000 in
theorem rproof_aux (m : Nat) : ∀ (ls : List (List Nat)) (i : Nat) (A : Option Addr) (cap : Nat) (w : World), 0 < ls.length → ls.length ≤ m → ls.length ≤ 100000 → i < ls.length → AllB 16 ls → ls.length ≤ cap → Sl w 16 A ls.length (rowN 16 ls) →
    Calls Try.prog 18 #[.slice A ls.length cap, .int .i64 i] w fun e w' => ∃ v, e = .returned v ∧ w'.ownsRow w.heap.size 28 16 v (proofS ls i).length (rowN 16 (proofS ls i)) ∧ Ex0 w w' := by
  induction m with
  | zero => intro ls i A cap w h0 h1; omega
  | succ m ih =>
    intro ls i A cap w h0 h1 hL hi hok hcap hs
    obtain ⟨i0, hi0, hz0, hz1, hz2⟩ := info_parts infoSum
    have IH := Lib.hid ih
    have HOK := Lib.hid hok
    have HS := Lib.hid hs
    clear ih hok hs
    obtain ⟨n, hn⟩ : ∃ n, n = ls.length := ⟨_, rfl⟩
    rw [← hn] at h0 h1 hL hcap HS hi ⊢
    have HN := Lib.hid hn
    clear hn
    by_cases h2n : n < 2
    · have hp0 : proofS ls i = [] := proofS_one (by rw [← HN.out]; exact h2n) i
      have HP0 := Lib.hid hp0
      have i2n : (n : Int) < 2 := by omega
      clear hp0
      go_enter Try.func18, Try.ntmps18
      go_wp2
      go_ret
      rw [HP0.out]
      exact ⟨_, rfl, own_empty (heap_alloc_new w _) _ (Nat.le_refl _), Ex.alloc _ _⟩
    · have hn2 : 2 ≤ n := by omega
      have i2n : ¬ (n : Int) < 2 := by omega
      have hc1 := cutN_pos hn2
      have hc2 := cutN_lt hn2
      have HC := Lib.hid (half_int n (by omega))
      have HPL : Hid (i < cutN n → proofS ls i = proofS (ls.take (cutN n)) i ++ [treeS (ls.drop (cutN n))]) := fun h => by
        rw [HN.out] at h ⊢; exact proofS_left (by rw [← HN.out]; exact hn2) h
      have HPR : Hid (¬ i < cutN n → proofS ls i = proofS (ls.drop (cutN n)) (i - cutN n) ++ [treeS (ls.take (cutN n))]) := fun h => by
        rw [HN.out] at h ⊢; exact proofS_right (by rw [← HN.out]; exact hn2) h
      obtain ⟨k, hk⟩ : ∃ k, k = cutN n := ⟨_, rfl⟩
      rw [← hk] at hc1 hc2 HC HPL HPR
      clear hk
      have hslL : ∀ w', (Instr.sliceAt 37 (.slice A n cap) none (some (.int .i64 k)) none).run Try.prog w' = .ok (.slice A k cap) w' := fun w' =>
        run_sliceAt_high (P := Try.prog) (sz := 16) Try.underlying37 (by kernel_rfl) A n cap k (by omega) w'
      have hslR : ∀ w', (Instr.sliceAt 37 (.slice A n cap) (some (.int .i64 k)) none none).run Try.prog w' = .ok (.slice (A.map (·.add (k * 16))) (n - k) (cap - k)) w' := fun w' => by
        have := run_sliceAt_low (P := Try.prog) (sz := 16) Try.underlying37 (by kernel_rfl) A n cap k (by omega) w'
        rw [if_neg (by omega)] at this; exact this
      have lT : (ls.take k).length = k := by rw [List.length_take, ← HN.out, Nat.min_eq_left (by omega)]
      have lD : (ls.drop k).length = n - k := by rw [List.length_drop, ← HN.out]
      have HSL : Hid (∀ w', Ex0 w w' → Sl w' 16 A k (rowN 16 (ls.take k))) := fun w' hx => (HS.out.ex0 hx).part HN.out (by omega)
      have HSR : Hid (∀ w', Ex0 w w' → Sl w' 16 (A.map (·.add (k * 16))) (n - k) (rowN 16 (ls.drop k))) := fun w' hx => (HS.out.ex0 hx).rest HN.out (by omega)
      by_cases hik : i < k
      · have iik : (i : Int) < (k : Int) := by omega
        have HIP : Hid (∀ w', Ex0 w w' → Calls Try.prog 18 #[.slice A k cap, .int .i64 (i : Nat)] w' fun e w'' => ∃ v, e = .returned v ∧ w''.ownsRow w'.heap.size 28 16 v (proofS (ls.take k) (i)).length (rowN 16 (proofS (ls.take k) (i))) ∧ Ex0 w' w'') := fun w' hx => by
          have := IH.out (ls.take k) (i) A cap w' (by rw [lT]; omega) (by rw [lT]; omega) (by rw [lT]; omega) (by rw [lT]; omega) (HOK.out.take k) (by rw [lT]; omega) (by rw [lT]; exact HSL.out w' hx)
          rw [lT] at this; exact this
        have HIR : Hid (∀ w', Ex0 w w' → Calls Try.prog 15 #[.slice (A.map (·.add (k * 16))) (n - k) (cap - k)] w' fun e w'' => e = .returned (.agg (u8s (treeS (ls.drop k))).toArray) ∧ Ex0 w' w'') := fun w' hx => by
          have := rroot_aux (ls.drop k).length (ls.drop k) (A.map (·.add (k * 16))) (cap - k) w' (by rw [lD]; omega) (Nat.le_refl _) (by rw [lD]; omega) (HOK.out.drop k) (by rw [lD]; omega) (by rw [lD]; exact HSR.out w' hx)
          rw [lD] at this; exact this
        have hple := proofS_len_le _ (ls.take k) (i) (Nat.le_refl _)
        rw [lT] at hple
        have HPE := Lib.hid (HPL.out hik)
        have htr : (treeS (ls.drop k)).length = 16 := treeS_len (by rw [lD]; omega)
        obtain ⟨PR, hPR⟩ : ∃ P, P = proofS (ls.take k) (i) := ⟨_, rfl⟩
        obtain ⟨TR, hTR⟩ : ∃ T, T = treeS (ls.drop k) := ⟨_, rfl⟩
        rw [← hPR] at HIP HPE hple
        rw [← hTR] at HIR HPE htr
        have HTR := Lib.hid (And.intro htr True.intro)
        obtain ⟨np, hnp⟩ : ∃ n, n = PR.length := ⟨_, rfl⟩
        rw [← hnp] at HIP hple
        have HNP := Lib.hid hnp.symm
        obtain ⟨VR, hVR⟩ : ∃ V, V = (u8s TR).toArray := ⟨_, rfl⟩
        rw [← hVR] at HIR
        have hvs : VR.size = 16 := by rw [hVR]; simp [u8s_len, htr]
        have H1V : Hid (∀ u ∈ VR.toList, u.oneCell' = true) := by show ∀ u ∈ _, _; rw [hVR]; exact u8s_one TR
        have HVR := Lib.hid hVR
        have hf := sum_fold VR hvs
        obtain ⟨AR, hAR⟩ : ∃ AR, AR = A.map (·.add (k * 16)) := ⟨_, rfl⟩
        obtain ⟨nr, hnr⟩ : ∃ nr, nr = n - k := ⟨_, rfl⟩
        obtain ⟨cr, hcr⟩ : ∃ cr, cr = cap - k := ⟨_, rfl⟩
        rw [← hAR, ← hnr, ← hcr] at HIR hslR
        have hnpb : np ≤ 100000 := by omega
        clear hPR hTR htr hnp hVR hAR lT lD hnr hcr hple
        go_enter Try.func18, Try.ntmps18
        go_wp2_with (refine (HC.out _).mono ?_; rintro e w' ⟨rfl, rfl⟩)
        refine wp_region_takes (fun _ => True) (by kernel_rfl) ?_
        simp only [List.length_cons, List.length_nil]
        have hS : True := trivial
        have HCU : Hid (Ex0 w w.drew) := Ex.drew _
        refine' wpAnyH_do 0 rfl (by kernel_rfl) (fun _ _ _ _ h => h) (by rfl) (by assumption) ⟨_, fun w' hS => ?_, ?_⟩
        rotate_left
        · ((try dsimp only at hS); go_split_ands; go_simp; try (with_reducible rfl))
        simp only [Act.put, List.setIfInBounds_toArray, List.set_cons_zero, List.set_cons_succ]
        refine' wpAnyH_do 1 rfl (by kernel_rfl) (fun _ _ _ _ h => h) (by rfl) (by assumption) ⟨_, fun w' hS => ?_, ?_⟩
        rotate_left
        · ((try dsimp only at hS); go_split_ands; go_simp; try (with_reducible rfl))
        simp only [Act.put, List.setIfInBounds_toArray, List.set_cons_zero, List.set_cons_succ]
        refine' wpAnyH_do 2 rfl (by kernel_rfl) (fun _ _ _ _ h => h) (by rfl) (by assumption) ⟨_, fun w' hS => ?_, ?_⟩
        rotate_left
        · ((try dsimp only at hS); go_split_ands; go_simp; try (with_reducible rfl))
        simp only [Act.put, List.setIfInBounds_toArray, List.set_cons_zero, List.set_cons_succ]
        refine' wpAnyH_do 3 rfl (by kernel_rfl) (fun _ _ _ _ h => h) (by rfl) (by assumption) ⟨_, fun w' hS => ?_, ?_⟩
        rotate_left
        · ((try dsimp only at hS); go_split_ands; go_simp; try (with_reducible rfl))
        simp only [Act.put, List.setIfInBounds_toArray, List.set_cons_zero, List.set_cons_succ]
        refine' wpAnyH_do 5 rfl (by kernel_rfl) (fun _ _ _ _ h => h) (by rfl) (by assumption) ⟨_, fun w' hS => ?_, ?_⟩
        rotate_left
        · ((try dsimp only at hS); go_split_ands; go_simp; try (with_reducible rfl))
        simp only [Act.put, List.setIfInBounds_toArray, List.set_cons_zero, List.set_cons_succ]
        refine' wpAnyH_do 6 rfl (by kernel_rfl) (fun _ _ _ _ h => h) (by rfl) (by assumption) ⟨_, fun w' hS => ?_, ?_⟩
        rotate_left
        · ((try dsimp only at hS); go_split_ands; go_simp; try (with_reducible rfl))
        simp only [Act.put, List.setIfInBounds_toArray, List.set_cons_zero, List.set_cons_succ]
        refine' wpAnyH_do 7 rfl (by kernel_rfl) (fun _ _ _ _ h => h) (by rfl) (by assumption) ⟨_, fun w' hS => ?_, ?_⟩
        rotate_left
        · ((try dsimp only at hS); go_split_ands; go_simp; try (with_reducible rfl))
        simp only [Act.put, List.setIfInBounds_toArray, List.set_cons_zero, List.set_cons_succ]
        refine wpAnyH_eff 4 rfl (by kernel_rfl) (by rfl) (fun K hK => ?_)
        have HKK := Lib.hid hK
        clear hK
        go_simp
        refine (HIP.out _ HCU.out).mono ?_
        rintro e w2 ⟨v2, rfl, ho2, hx2⟩
        have HCU2 := Lib.hid (HCU.out.trans0 hx2)
        have HO2 : Hid (w2.ownsRow w.heap.size 28 16 v2 np (rowN 16 PR)) := own_base ho2 (fun k hk => Nat.le_trans HCU.out.size (ho2.lt k hk).1)
        clear hx2 ho2
        dsimp only
        refine HKK.out _ _ trivial ?_
        clear HKK K
        refine wpAnyH_eff 8 rfl (by kernel_rfl) (by rfl) (fun K hK => ?_)
        have HKK := Lib.hid hK
        clear hK
        go_simp
        refine (HIR.out _ HCU2.out).mono ?_
        rintro e w3 ⟨rfl, hx3⟩
        have HCU3 := Lib.hid (HCU2.out.trans0 hx3)
        have HO3 : Hid (w3.ownsRow w.heap.size 28 16 v2 np (rowN 16 PR)) := own_ex HO2.out hx3 (fun _ _ => id)
        clear hx3
        dsimp only
        refine HKK.out _ _ trivial ?_
        clear HKK K
        refine wpAnyH_eff 9 rfl (by kernel_rfl) (by rfl) (fun K hK => ?_)
        have HKK := Lib.hid hK
        clear hK
        go_simp
        refine HKK.out _ _ trivial ?_
        clear HKK K
        refine wpAnyH_eff 10 rfl (by kernel_rfl) (by rfl) (fun K hK => ?_)
        have HKK := Lib.hid hK
        clear hK
        refine wp_append_sl (.tmp 20) (.tmp 25) 37 rfl w.heap.size 28 i0 _ 16 16 Try.underlying37 hi0 hz0 hz1 hz2 rfl (by decide) v2 np _ rfl (own_ex HO3.out (Ex.alloc w3 (.cells VR 28)) (fun _ _ => id)) (some ⟨w3.heap.size, 0, none⟩) 1 1 VR.toList rfl (sl_block (heap_alloc_new w3 (.cells VR 28)) (by simp [hvs]) (by decide)) (fun h => by cases h) H1V.out (by unfold maxLen; omega) (by omega) (by have := HCU3.out.size; simp; omega) ?_
        intro v4 w4 ho4 hg4 hb4
        have HX4 : Hid (Ex0 w w4) := ex_of_new (HCU3.out.alloc' _) hg4 (fun b hb => (HO3.out.lt b hb).1)
        have HO4 := Lib.hid ho4
        clear ho4 hg4 hb4
        refine HKK.out _ _ trivial ?_
        clear HKK K
        simp only [Act.put, List.setIfInBounds_toArray, List.set_cons_zero, List.set_cons_succ]
        refine' wpAnyH_do 11 rfl (by kernel_rfl) (fun _ _ _ _ h => h) (by rfl) (by assumption) ⟨_, fun w' hS => ?_, ?_⟩
        rotate_left
        · ((try dsimp only at hS); go_split_ands; go_simp; try (with_reducible rfl))
        simp only [Act.put, List.setIfInBounds_toArray, List.set_cons_zero, List.set_cons_succ]
        refine wpAnyH_done (by kernel_rfl) ?_ _
        clear hS
        go_wp2_with fail
        go_ret
        refine ⟨_, rfl, ?_, HX4.out⟩
        rw [HPE.out, List.length_append, HNP.out, rowN_append, rowN_single, encN_eq HTR.out.1, show u8s TR = VR.toList by rw [HVR.out]]; exact HO4.out

      · have iik : ¬ (i : Int) < (k : Int) := by omega
        have e2 : (i : Int) - (k : Int) = ((i - k : Nat) : Int) := by omega
        have v2i : IntKind.i64.wrap ((i - k : Nat) : Int) = ((i - k : Nat) : Int) := by rw [IntKind.wrap_i64]; omega
        have HIP : Hid (∀ w', Ex0 w w' → Calls Try.prog 18 #[.slice (A.map (·.add (k * 16))) (n - k) (cap - k), .int .i64 (i - k : Nat)] w' fun e w'' => ∃ v, e = .returned v ∧ w''.ownsRow w'.heap.size 28 16 v (proofS (ls.drop k) (i - k)).length (rowN 16 (proofS (ls.drop k) (i - k))) ∧ Ex0 w' w'') := fun w' hx => by
          have := IH.out (ls.drop k) (i - k) (A.map (·.add (k * 16))) (cap - k) w' (by rw [lD]; omega) (by rw [lD]; omega) (by rw [lD]; omega) (by rw [lD]; omega) (HOK.out.drop k) (by rw [lD]; omega) (by rw [lD]; exact HSR.out w' hx)
          rw [lD] at this; exact this
        have HIR : Hid (∀ w', Ex0 w w' → Calls Try.prog 15 #[.slice A k cap] w' fun e w'' => e = .returned (.agg (u8s (treeS (ls.take k))).toArray) ∧ Ex0 w' w'') := fun w' hx => by
          have := rroot_aux (ls.take k).length (ls.take k) A cap w' (by rw [lT]; omega) (Nat.le_refl _) (by rw [lT]; omega) (HOK.out.take k) (by rw [lT]; omega) (by rw [lT]; exact HSL.out w' hx)
          rw [lT] at this; exact this
        have hple := proofS_len_le _ (ls.drop k) (i - k) (Nat.le_refl _)
        rw [lD] at hple
        have HPE := Lib.hid (HPR.out hik)
        have htr : (treeS (ls.take k)).length = 16 := treeS_len (by rw [lT]; omega)
        obtain ⟨PR, hPR⟩ : ∃ P, P = proofS (ls.drop k) (i - k) := ⟨_, rfl⟩
        obtain ⟨TR, hTR⟩ : ∃ T, T = treeS (ls.take k) := ⟨_, rfl⟩
        rw [← hPR] at HIP HPE hple
        rw [← hTR] at HIR HPE htr
        have HTR := Lib.hid (And.intro htr True.intro)
        obtain ⟨np, hnp⟩ : ∃ n, n = PR.length := ⟨_, rfl⟩
        rw [← hnp] at HIP hple
        have HNP := Lib.hid hnp.symm
        obtain ⟨VR, hVR⟩ : ∃ V, V = (u8s TR).toArray := ⟨_, rfl⟩
        rw [← hVR] at HIR
        have hvs : VR.size = 16 := by rw [hVR]; simp [u8s_len, htr]
        have H1V : Hid (∀ u ∈ VR.toList, u.oneCell' = true) := by show ∀ u ∈ _, _; rw [hVR]; exact u8s_one TR
        have HVR := Lib.hid hVR
        have hf := sum_fold VR hvs
        obtain ⟨AR, hAR⟩ : ∃ AR, AR = A.map (·.add (k * 16)) := ⟨_, rfl⟩
        obtain ⟨nr, hnr⟩ : ∃ nr, nr = n - k := ⟨_, rfl⟩
        obtain ⟨cr, hcr⟩ : ∃ cr, cr = cap - k := ⟨_, rfl⟩
        rw [← hAR, ← hnr, ← hcr] at HIP hslR
        have hnpb : np ≤ 100000 := by omega
        clear hPR hTR htr hnp hVR hAR lT lD hnr hcr hple
        go_enter Try.func18, Try.ntmps18
        go_wp2_with (refine (HC.out _).mono ?_; rintro e w' ⟨rfl, rfl⟩)
        refine wp_region_takes (fun _ => True) (by kernel_rfl) ?_
        simp only [List.length_cons, List.length_nil]
        have hS : True := trivial
        have HCU : Hid (Ex0 w w.drew) := Ex.drew _
        refine' wpAnyH_do 0 rfl (by kernel_rfl) (fun _ _ _ _ h => h) (by rfl) (by assumption) ⟨_, fun w' hS => ?_, ?_⟩
        rotate_left
        · ((try dsimp only at hS); go_split_ands; go_simp; try (with_reducible rfl))
        simp only [Act.put, List.setIfInBounds_toArray, List.set_cons_zero, List.set_cons_succ]
        refine' wpAnyH_do 1 rfl (by kernel_rfl) (fun _ _ _ _ h => h) (by rfl) (by assumption) ⟨_, fun w' hS => ?_, ?_⟩
        rotate_left
        · ((try dsimp only at hS); go_split_ands; go_simp; try (with_reducible rfl))
        simp only [Act.put, List.setIfInBounds_toArray, List.set_cons_zero, List.set_cons_succ]
        refine' wpAnyH_do 2 rfl (by kernel_rfl) (fun _ _ _ _ h => h) (by rfl) (by assumption) ⟨_, fun w' hS => ?_, ?_⟩
        rotate_left
        · ((try dsimp only at hS); go_split_ands; go_simp; try (with_reducible rfl))
        simp only [Act.put, List.setIfInBounds_toArray, List.set_cons_zero, List.set_cons_succ]
        refine' wpAnyH_do 3 rfl (by kernel_rfl) (fun _ _ _ _ h => h) (by rfl) (by assumption) ⟨_, fun w' hS => ?_, ?_⟩
        rotate_left
        · ((try dsimp only at hS); go_split_ands; go_simp; try (with_reducible rfl))
        simp only [Act.put, List.setIfInBounds_toArray, List.set_cons_zero, List.set_cons_succ]
        refine' wpAnyH_do 4 rfl (by kernel_rfl) (fun _ _ _ _ h => h) (by rfl) (by assumption) ⟨_, fun w' hS => ?_, ?_⟩
        rotate_left
        · ((try dsimp only at hS); go_split_ands; go_simp; try (with_reducible rfl))
        simp only [Act.put, List.setIfInBounds_toArray, List.set_cons_zero, List.set_cons_succ]
        refine' wpAnyH_do 5 rfl (by kernel_rfl) (fun _ _ _ _ h => h) (by rfl) (by assumption) ⟨_, fun w' hS => ?_, ?_⟩
        rotate_left
        · ((try dsimp only at hS); go_split_ands; go_simp; try (with_reducible rfl))
        simp only [Act.put, List.setIfInBounds_toArray, List.set_cons_zero, List.set_cons_succ]
        refine' wpAnyH_do 7 rfl (by kernel_rfl) (fun _ _ _ _ h => h) (by rfl) (by assumption) ⟨_, fun w' hS => ?_, ?_⟩
        rotate_left
        · ((try dsimp only at hS); go_split_ands; go_simp; try (with_reducible rfl))
        simp only [Act.put, List.setIfInBounds_toArray, List.set_cons_zero, List.set_cons_succ]
        refine' wpAnyH_do 8 rfl (by kernel_rfl) (fun _ _ _ _ h => h) (by rfl) (by assumption) ⟨_, fun w' hS => ?_, ?_⟩
        rotate_left
        · ((try dsimp only at hS); go_split_ands; go_simp; try (with_reducible rfl))
        simp only [Act.put, List.setIfInBounds_toArray, List.set_cons_zero, List.set_cons_succ]
        refine' wpAnyH_do 9 rfl (by kernel_rfl) (fun _ _ _ _ h => h) (by rfl) (by assumption) ⟨_, fun w' hS => ?_, ?_⟩
        rotate_left
        · ((try dsimp only at hS); go_split_ands; go_simp; try (with_reducible rfl))
        simp only [Act.put, List.setIfInBounds_toArray, List.set_cons_zero, List.set_cons_succ]
        refine wpAnyH_eff 6 rfl (by kernel_rfl) (by rfl) (fun K hK => ?_)
        have HKK := Lib.hid hK
        clear hK
        go_simp
        refine (HIP.out _ HCU.out).mono ?_
        rintro e w2 ⟨v2, rfl, ho2, hx2⟩
        have HCU2 := Lib.hid (HCU.out.trans0 hx2)
        have HO2 : Hid (w2.ownsRow w.heap.size 28 16 v2 np (rowN 16 PR)) := own_base ho2 (fun k hk => Nat.le_trans HCU.out.size (ho2.lt k hk).1)
        clear hx2 ho2
        dsimp only
        refine HKK.out _ _ trivial ?_
        clear HKK K
        refine wpAnyH_eff 10 rfl (by kernel_rfl) (by rfl) (fun K hK => ?_)
        have HKK := Lib.hid hK
        clear hK
        go_simp
        refine (HIR.out _ HCU2.out).mono ?_
        rintro e w3 ⟨rfl, hx3⟩
        have HCU3 := Lib.hid (HCU2.out.trans0 hx3)
        have HO3 : Hid (w3.ownsRow w.heap.size 28 16 v2 np (rowN 16 PR)) := own_ex HO2.out hx3 (fun _ _ => id)
        clear hx3
        dsimp only
        refine HKK.out _ _ trivial ?_
        clear HKK K
        refine wpAnyH_eff 11 rfl (by kernel_rfl) (by rfl) (fun K hK => ?_)
        have HKK := Lib.hid hK
        clear hK
        go_simp
        refine HKK.out _ _ trivial ?_
        clear HKK K
        refine wpAnyH_eff 12 rfl (by kernel_rfl) (by rfl) (fun K hK => ?_)
        have HKK := Lib.hid hK
        clear hK
        refine wp_append_sl (.tmp 33) (.tmp 38) 37 rfl w.heap.size 28 i0 _ 16 16 Try.underlying37 hi0 hz0 hz1 hz2 rfl (by decide) v2 np _ rfl (own_ex HO3.out (Ex.alloc w3 (.cells VR 28)) (fun _ _ => id)) (some ⟨w3.heap.size, 0, none⟩) 1 1 VR.toList rfl (sl_block (heap_alloc_new w3 (.cells VR 28)) (by simp [hvs]) (by decide)) (fun h => by cases h) H1V.out (by unfold maxLen; omega) (by omega) (by have := HCU3.out.size; simp; omega) ?_
        intro v4 w4 ho4 hg4 hb4
        have HX4 : Hid (Ex0 w w4) := ex_of_new (HCU3.out.alloc' _) hg4 (fun b hb => (HO3.out.lt b hb).1)
        have HO4 := Lib.hid ho4
        clear ho4 hg4 hb4
        refine HKK.out _ _ trivial ?_
        clear HKK K
        simp only [Act.put, List.setIfInBounds_toArray, List.set_cons_zero, List.set_cons_succ]
        refine' wpAnyH_do 13 rfl (by kernel_rfl) (fun _ _ _ _ h => h) (by rfl) (by assumption) ⟨_, fun w' hS => ?_, ?_⟩
        rotate_left
        · ((try dsimp only at hS); go_split_ands; go_simp; try (with_reducible rfl))
        simp only [Act.put, List.setIfInBounds_toArray, List.set_cons_zero, List.set_cons_succ]
        refine wpAnyH_done (by kernel_rfl) ?_ _
        clear hS
        go_wp2_with fail
        go_ret
        refine ⟨_, rfl, ?_, HX4.out⟩
        rw [HPE.out, List.length_append, HNP.out, rowN_append, rowN_single, encN_eq HTR.out.1, show u8s TR = VR.toList by rw [HVR.out]]; exact HO4.out

end Go.Proofs.Ythbdmfbjkkmplaa
