/- Contracts of layer 61: the document's Root of sums. -/
import Derived.Test.YthbdmfbjkkmplaaAud18
import Derived.Test.YthbdmfbjkkmplaaB9
namespace Go.Proofs.Ythbdmfbjkkmplaa
open Go.RowKit Go.Proofs.YthbdmfbjkkmplaaB Go.Proofs.Ythbdmfbjkkmplaa.Sha

set_option maxRecDepth 100000 in
set_option maxHeartbeats 2000000 in
theorem rroot_aux (m : Nat) : ∀ (ls : List (List Nat)) (A : Option Addr) (cap : Nat) (w : World), 0 < ls.length → ls.length ≤ m → ls.length ≤ 100000 → AllB 16 ls → ls.length ≤ cap → Sl w 16 A ls.length (rowN 16 ls) →
    Calls Try.prog 15 #[.slice A ls.length cap] w fun e w' => e = .returned (.agg (u8s (treeS ls)).toArray) ∧ Ex0 w w' := by
  induction m with
  | zero => intro ls A cap w h0 h1; omega
  | succ m ih =>
    intro ls A cap w h0 h1 hL hok hcap hs
    have IH := Lib.hid ih
    have HOK := Lib.hid hok
    have HS := Lib.hid hs
    clear ih hok hs
    obtain ⟨n, hn⟩ : ∃ n, n = ls.length := ⟨_, rfl⟩
    rw [← hn] at h0 h1 hL hcap HS ⊢
    have HN := Lib.hid hn
    clear hn
    have ht16 : (treeS ls).length = 16 := treeS_len (by rw [← HN.out]; exact h0)
    obtain ⟨CA, hCA⟩ : ∃ CA, CA = (u8s (treeS ls)).toArray := ⟨_, rfl⟩
    have hsz : CA.size = 16 := by rw [hCA]; simp [u8s_len, ht16]
    have H1C : Hid (∀ v ∈ CA, v.oneCell' = true) := by show ∀ v ∈ CA, _; rw [hCA]; simpa using u8s_one (treeS ls)
    rw [← hCA]
    have HCA := Lib.hid hCA
    clear hCA ht16
    go_enter Try.func15, Try.ntmps15
    iterate 6 go_step
    generalize hW : World.alloc w _ = W
    have h2 : W8 W w.heap.size 28 (List.replicate 16 0) := by rw [← hW]; exact heap_alloc_new w _
    have hx : Ex0 w W := by rw [← hW]; exact Ex.alloc _ _
    obtain ⟨b2, e2⟩ : ∃ b, b = w.heap.size := ⟨_, rfl⟩
    rw [← e2] at h2 ⊢
    have H2 := Lib.hid h2
    have E2 := Lib.hid e2
    have HX := Lib.hid hx
    clear hW e2 h2 hx
    by_cases h1n : n = 1
    · subst h1n
      obtain ⟨g, off, rfl, hr⟩ := (HS.out.ex0 HX.out).elemN (by decide) HN.out (i := 0) (by decide) (HOK.out.get (by rw [← HN.out]; decide)).1
      have hx16 := HOK.out.get (i := 0) (by rw [← HN.out]; decide)
      obtain ⟨x, hxe⟩ : ∃ x, x = ls.getD 0 [] := ⟨_, rfl⟩
      rw [← hxe] at hr hx16
      simp only [Nat.zero_mul, Nat.add_zero] at hr
      have HTR : Hid (treeS ls = oneS x) := by
        show _ = _
        match ls, HN.out, hxe with
        | [y], _, h => rw [h]; rfl
      have HR := Lib.hid hr
      have HX16 := Lib.hid hx16
      have hxs : (u8s x).length = 16 := by rw [u8s_len]; exact hx16.1
      clear hxe hr hx16
      have HCO : Hid (∀ w, Calls Try.prog 29 #[.agg (u8s x).toArray] w fun e w' => e = .returned (.agg CA) ∧ Ex0 w w') := fun w => by
        rw [HCA.out, HTR.out]; exact rleaf_any x HX16.out.1 HX16.out.2 w
      obtain ⟨XS, hXS⟩ : ∃ XS, XS = u8s x := ⟨_, rfl⟩
      rw [← hXS] at HR HCO hxs
      clear hXS
      go_wp2_with (first | refine wpList_load_at rfl 28 (.tmp 12) rfl ⟨g, off, none⟩ rfl XS _ HR.out Try.underlying28 rfl (by rw [hxs]; kernel_rfl) ?_ | (refine (HCO.out _).mono ?_; rintro e w2 ⟨rfl, hx2⟩; have HX2 := Lib.hid (HX.out.trans0 hx2); have HE := Lib.hid (H2.out.ex hx2 not_false); clear hx2) | refine wpList_store_all rfl 28 (.tmp 2) (.tmp 14) rfl b2 rfl CA _ rfl 28 HE.out (by rw [hsz]; rfl) H1C.out (by rw [hsz]; kernel_rfl) ?_)
      refine bodyPost_ret (results_cell_row rfl _ _ b2 _ _ _ _ rfl (setRow_heap _ _ _ _ _ _ HE.out) Try.underlying28 rfl (by rw [hsz]; kernel_rfl)) rfl ?_
      exact ⟨rfl, HX2.out.trans (ex_setRow _ _ _) (fun _ _ h => h) (fun i hi h => by have := E2.out; omega)⟩
    · have hn2 : 2 ≤ n := by omega
      have hc1 := cutN_pos hn2
      have hc2 := cutN_lt hn2
      have HC := Lib.hid (half_int n (by omega))
      have HTR : Hid (treeS ls = joinS (treeS (ls.take (cutN n))) (treeS (ls.drop (cutN n)))) := by
        show _ = _
        rw [HN.out]; exact treeS_two (by rw [← HN.out]; exact hn2)
      obtain ⟨k, hk⟩ : ∃ k, k = cutN n := ⟨_, rfl⟩
      rw [← hk] at hc1 hc2 HC HTR
      clear hk
      have hslL : ∀ w', (Instr.sliceAt 37 (.slice A n cap) none (some (.int .i64 k)) none).run Try.prog w' = .ok (.slice A k cap) w' := fun w' =>
        run_sliceAt_high (P := Try.prog) (sz := 16) Try.underlying37 (by kernel_rfl) A n cap k (by omega) w'
      have hslR : ∀ w', (Instr.sliceAt 37 (.slice A n cap) (some (.int .i64 k)) none none).run Try.prog w' = .ok (.slice (A.map (·.add (k * 16))) (n - k) (cap - k)) w' := fun w' => by
        have := run_sliceAt_low (P := Try.prog) (sz := 16) Try.underlying37 (by kernel_rfl) A n cap k (by omega) w'
        rw [if_neg (by omega)] at this; exact this
      have lT : (ls.take k).length = k := by rw [List.length_take, ← HN.out, Nat.min_eq_left (by omega)]
      have lD : (ls.drop k).length = n - k := by rw [List.length_drop, ← HN.out]
      obtain ⟨TL, hTL⟩ : ∃ TL, TL = treeS (ls.take k) := ⟨_, rfl⟩
      obtain ⟨TR, hTR⟩ : ∃ TR, TR = treeS (ls.drop k) := ⟨_, rfl⟩
      have hl1 : TL.length = 16 ∧ ∀ x ∈ TL, x < 256 := by rw [hTL]; exact ⟨treeS_len (by rw [lT]; omega), treeS_lt (by rw [lT]; omega)⟩
      have hr1 : TR.length = 16 ∧ ∀ x ∈ TR, x < 256 := by rw [hTR]; exact ⟨treeS_len (by rw [lD]; omega), treeS_lt (by rw [lD]; omega)⟩
      have HIL : Hid (∀ w', Ex0 W w' → Calls Try.prog 15 #[.slice A k cap] w' fun e w'' => e = .returned (.agg (u8s TL).toArray) ∧ Ex0 w' w'') := fun w' hx => by
        have := IH.out (ls.take k) A cap w' (by rw [lT]; exact hc1) (by rw [lT]; omega) (by rw [lT]; omega) (HOK.out.take k) (by rw [lT]; omega) (by rw [lT]; exact ((HS.out.ex0 HX.out).ex0 hx).part HN.out (by omega))
        rw [lT, ← hTL] at this; exact this
      have HIR : Hid (∀ w', Ex0 W w' → Calls Try.prog 15 #[.slice (A.map (·.add (k * 16))) (n - k) (cap - k)] w' fun e w'' => e = .returned (.agg (u8s TR).toArray) ∧ Ex0 w' w'') := fun w' hx => by
        have := IH.out (ls.drop k) (A.map (·.add (k * 16))) (cap - k) w' (by rw [lD]; omega) (by rw [lD]; omega) (by rw [lD]; omega) (HOK.out.drop k) (by rw [lD]; omega) (by rw [lD]; exact ((HS.out.ex0 HX.out).ex0 hx).rest HN.out (by omega))
        rw [lD, ← hTR] at this; exact this
      have HJ : Hid (∀ w', Calls Try.prog 31 #[.agg (u8s TL).toArray, .agg (u8s TR).toArray] w' fun e w'' => e = .returned (.agg CA) ∧ Ex0 w' w'') := fun w' => by
        rw [HCA.out, HTR.out, ← hTL, ← hTR]; exact rjoin_any TL TR hl1.1 hl1.2 hr1.1 hr1.2 w'
      obtain ⟨VL, hVL⟩ : ∃ V, V = (u8s TL).toArray := ⟨_, rfl⟩
      obtain ⟨VR, hVR⟩ : ∃ V, V = (u8s TR).toArray := ⟨_, rfl⟩
      rw [← hVL] at HIL HJ
      rw [← hVR] at HIR HJ
      obtain ⟨AR, hAR⟩ : ∃ AR, AR = A.map (·.add (k * 16)) := ⟨_, rfl⟩
      rw [← hAR] at HIR hslR
      obtain ⟨nr, hnr⟩ : ∃ nr, nr = n - k := ⟨_, rfl⟩
      obtain ⟨cr, hcr⟩ : ∃ cr, cr = cap - k := ⟨_, rfl⟩
      rw [← hnr, ← hcr] at HIR hslR
      have HCU : Hid (Ex0 W W.drew) := Ex.drew _
      clear hTL hTR hl1 hr1 hVL hVR hAR lT lD hnr hcr hcap
      have hn0 : ¬ (n : Int) = 0 := by omega
      have hn1 : ¬ (n : Int) = 1 := by omega
      clear h1n h1
      go_wp2_with (refine (HC.out _).mono ?_; rintro e w' ⟨rfl, rfl⟩)
      go_region_law (first | (go_simp; go_at_call 15; (with_reducible refine (HIL.out _ HCU.out).mono ?_); rintro e w3 ⟨rfl, hx3⟩; have HCU := Lib.hid (HCU.out.trans0 hx3); clear hx3; dsimp only) | (go_simp; go_at_call 15; (with_reducible refine (HIR.out _ HCU.out).mono ?_); rintro e w3 ⟨rfl, hx3⟩; have HCU := Lib.hid (HCU.out.trans0 hx3); clear hx3; dsimp only) | (go_simp; go_at_call 31; refine (HJ.out _).mono ?_; rintro e w2 ⟨rfl, hx2⟩; have HCU := Lib.hid (HCU.out.trans0 hx2); have HE := Lib.hid (H2.out.ex HCU.out not_false); have hst := run_storeCells_all (P := Try.prog) (A := CA) HE.out (by rw [hsz]; rfl) H1C.out; clear hx2; dsimp only))
      all_goals
        go_wp2_with fail
        refine bodyPost_ret (results_cell_row rfl _ _ b2 _ _ _ _ rfl (setRow_heap _ _ _ _ _ _ HE.out) Try.underlying28 rfl (by rw [hsz]; kernel_rfl)) rfl ?_
        exact ⟨rfl, (HX.out.trans0 HCU.out).trans (ex_setRow _ _ _) (fun _ _ h => h) (fun i hi h => by have := E2.out; omega)⟩
end Go.Proofs.Ythbdmfbjkkmplaa
