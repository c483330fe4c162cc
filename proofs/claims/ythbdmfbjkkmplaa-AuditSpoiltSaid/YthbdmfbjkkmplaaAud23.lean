/- Contracts of layer 61: merkle's grow. -/
import Derived.Test.YthbdmfbjkkmplaaAud17
import Derived.Test.YthbdmfbjkkmplaaB9
namespace Go.Proofs.Ythbdmfbjkkmplaa
open Go.RowKit Go.Proofs.YthbdmfbjkkmplaaB Go.Proofs.Ythbdmfbjkkmplaa.Sha

/-- a part's cells -/
def partC (s : List Nat) (n : Nat) (l r : Option Addr) : Array Value := (u8s s ++ [Value.int .i64 n, Value.pointer l, Value.pointer r]).toArray
/-- a tree of leaves -/
inductive TreeAt (w : World) : Nat → List (List Nat) → Prop
  | one (b : Nat) (x : List Nat) (h : w.heap[b]? = some (.cells (partC (oneS x) 1 none none) 75 (0, 0))) : TreeAt w b [x]
  | two (b b1 b2 : Nat) (l : List (List Nat)) (h2 : 2 ≤ l.length) (h : w.heap[b]? = some (.cells (partC (treeS l) l.length (some ⟨b1, 0, none⟩) (some ⟨b2, 0, none⟩)) 75 (0, 0)))
      (hl : TreeAt w b1 (l.take (cutN l.length))) (hr : TreeAt w b2 (l.drop (cutN l.length))) : TreeAt w b l
theorem TreeAt.ex0 {w w' : World} {b : Nat} {l : List (List Nat)} (h : TreeAt w b l) (hx : Ex0 w w') : TreeAt w' b l := by
  induction h with
  | one b x h => exact .one b x ((hx.block _ (Array.getElem?_eq_some_iff.1 h).1 not_false).trans h)
  | two b b1 b2 l h2 h _ _ ih1 ih2 => exact .two b b1 b2 l h2 ((hx.block _ (Array.getElem?_eq_some_iff.1 h).1 not_false).trans h) ih1 ih2
theorem TreeAt.pos {w : World} {b : Nat} {l : List (List Nat)} (h : TreeAt w b l) : 0 < l.length := by
  cases h with
  | one => simp
  | two b b1 b2 l h2 => omega
theorem TreeAt.top {w : World} {b : Nat} {l : List (List Nat)} (h : TreeAt w b l) : ∃ p q, w.heap[b]? = some (.cells (partC (treeS l) l.length p q) 75 (0, 0)) := by
  cases h with
  | one b x h => exact ⟨_, _, h⟩
  | two b b1 b2 l h2 h => exact ⟨_, _, h⟩
theorem TreeAt.row {w : World} {b : Nat} {l : List (List Nat)} (h : TreeAt w b l) : RowAt w ⟨b, 0, none⟩ (u8s (treeS l)) := by
  obtain ⟨p, q, h⟩ := h.top
  intro j u hu
  rw [Addr.add_lit, cell_of_row _ _ _ _ _ _ h]
  unfold partC
  have hj : j < (u8s (treeS l)).length := (List.getElem?_eq_some_iff.1 hu).1
  simpa [List.getElem?_append_left hj] using hu
theorem TreeAt.num {w : World} {b : Nat} {l : List (List Nat)} (h : TreeAt w b l) : w.cell? ⟨b, 16, none⟩ = some (.int .i64 l.length) := by
  have hp := h.pos
  obtain ⟨p, q, h⟩ := h.top
  rw [cell_of_row _ _ _ _ _ _ h]
  have hl := treeS_len hp
  simp [partC, u8s_len, hl, List.getElem?_append_right]

/-- a part's cells as the program builds them -/
theorem part_fold (C : Array Value) (h : C.size = 16) : ∃ P : Array Value, P.size = 19 ∧ Array.foldl (fun (cs : Array Value) (x : Value × Nat) => cs.setIfInBounds x.snd x.fst)
      #[.int .u8 0, .int .u8 0, .int .u8 0, .int .u8 0, .int .u8 0, .int .u8 0, .int .u8 0, .int .u8 0, .int .u8 0, .int .u8 0, .int .u8 0, .int .u8 0, .int .u8 0, .int .u8 0, .int .u8 0, .int .u8 0, .int .i64 0, .pointer none, .pointer none] C.zipIdx 0 16 = P ∧
    P = (C.toList ++ [Value.int .i64 0, Value.pointer none, Value.pointer none]).toArray := by
  refine ⟨_, ?_, fold_lay _ C 16 h.symm (by rw [h]; simp), ?_⟩
  · simp [h]
  · rw [h]; rfl
theorem part_one (s : List Nat) (hs : s.length = 16) (P : Array Value) (hP : P = ((u8s s).toArray.toList ++ [Value.int .i64 0, Value.pointer none, Value.pointer none]).toArray) : P.setIfInBounds 16 (.int .i64 1) = partC s 1 none none := by
  subst hP
  apply Array.ext'
  have hl : (u8s s).length = 16 := by rw [u8s_len]; exact hs
  simp [partC, hl, List.set_append_right]
theorem part_two (s : List Nat) (hs : s.length = 16) (P : Array Value) (hP : P = ((u8s s).toArray.toList ++ [Value.int .i64 0, Value.pointer none, Value.pointer none]).toArray) (n : Nat) (p q : Option Addr) :
    ((P.setIfInBounds 16 (.int .i64 n)).setIfInBounds 17 (.pointer p)).setIfInBounds 18 (.pointer q) = partC s n p q := by
  subst hP
  apply Array.ext'
  have hl : (u8s s).length = 16 := by rw [u8s_len]; exact hs
  simp [partC, hl, List.set_append_right]

set_option maxRecDepth 100000 in
set_option maxHeartbeats 1000000 in
theorem grow_aux (m : Nat) : ∀ (ls : List (List Nat)) (A : Option Addr) (cap : Nat) (w : World), 0 < ls.length → ls.length ≤ m → ls.length ≤ 100000 → AllB 16 ls → ls.length ≤ cap → Sl w 16 A ls.length (rowN 16 ls) →
    Calls Try.prog 36 #[.slice A ls.length cap] w fun e w' => ∃ b, e = .returned (.pointer (some ⟨b, 0, none⟩)) ∧ TreeAt w' b ls ∧ Ex0 w w' := by
  induction m with
  | zero => intro ls A cap w h0 h1; omega
  | succ m ih =>
    intro ls A cap w h0 h1 hL hok hcap hs
    have IH := Lib.hid ih
    have HOK := Lib.hid hok
    have HS := Lib.hid hs
    clear ih hok hs
    obtain ⟨n, hn⟩ : ∃ n, n = ls.length := ⟨_, rfl⟩
    rw [← hn] at h0 h1 hL hcap HS ⊢
    have HN := Lib.hid hn
    clear hn
    by_cases h1n : n = 1
    · subst h1n
      obtain ⟨g, off, rfl, hr⟩ := HS.out.elemN (by decide) HN.out (i := 0) (by decide) (HOK.out.get (by rw [← HN.out]; decide)).1
      have hx16 := HOK.out.get (i := 0) (by rw [← HN.out]; decide)
      obtain ⟨x, hxe⟩ : ∃ x, x = ls.getD 0 [] := ⟨_, rfl⟩
      rw [← hxe] at hr hx16
      simp only [Nat.zero_mul, Nat.add_zero] at hr
      have HTR : Hid (ls = [x]) := by
        show _ = _
        match ls, HN.out, hxe with
        | [y], _, h => rw [h]; rfl
      have HR := Lib.hid hr
      have HX16 := Lib.hid hx16
      have hxs : (u8s x).length = 16 := by rw [u8s_len]; exact hx16.1
      clear hxe hr hx16
      have HCO : Hid (∀ w, Calls Try.prog 47 #[.agg (u8s x).toArray] w fun e w' => e = .returned (.agg (u8s (oneS x)).toArray) ∧ Ex0 w w') := fun w => one_any x HX16.out.1 HX16.out.2 w
      obtain ⟨XS, hXS⟩ : ∃ XS, XS = u8s x := ⟨_, rfl⟩
      rw [← hXS] at HR HCO hxs
      clear hXS
      obtain ⟨CA, hCA⟩ : ∃ CA, CA = (u8s (oneS x)).toArray := ⟨_, rfl⟩
      have hCs : CA.size = 16 := by rw [hCA]; simp [u8s_len, oneS_len]
      rw [← hCA] at HCO
      have HCA := Lib.hid hCA
      clear hCA
      obtain ⟨PC, hPs, hfold, hPC⟩ := part_fold CA hCs
      have HPC := Lib.hid hPC
      clear hPC
      go_enter Try.func36, Try.ntmps36
      go_wp2_with (first | refine wpList_load_at rfl 28 (.tmp 10) rfl ⟨g, off, none⟩ rfl XS _ HR.out Try.underlying28 rfl (by rw [hxs]; kernel_rfl) ?_ | (refine (HCO.out _).mono ?_; rintro e w2 ⟨rfl, hx2⟩; have HX2 := Lib.hid hx2; clear hx2))
      go_ret
      refine ⟨_, rfl, ?_, HX2.out.alloc' _⟩
      rw [HTR.out]
      refine .one _ x ?_
      rw [heap_alloc_new, ← part_one (oneS x) (oneS_len x) PC (by rw [HPC.out, HCA.out])]
    · have hn2 : 2 ≤ n := by omega
      have hc1 := cutN_pos hn2
      have hc2 := cutN_lt hn2
      have HC := Lib.hid (cut_any n (by omega))
      obtain ⟨k, hk⟩ : ∃ k, k = cutN n := ⟨_, rfl⟩
      rw [← hk] at hc1 hc2 HC
      have HK := Lib.hid hk
      clear hk
      have hslL : ∀ w', (Instr.sliceAt 37 (.slice A n cap) none (some (.int .i64 k)) none).run Try.prog w' = .ok (.slice A k cap) w' := fun w' =>
        run_sliceAt_high (P := Try.prog) (sz := 16) Try.underlying37 (by kernel_rfl) A n cap k (by omega) w'
      have hslR : ∀ w', (Instr.sliceAt 37 (.slice A n cap) (some (.int .i64 k)) none none).run Try.prog w' = .ok (.slice (A.map (·.add (k * 16))) (n - k) (cap - k)) w' := fun w' => by
        have := run_sliceAt_low (P := Try.prog) (sz := 16) Try.underlying37 (by kernel_rfl) A n cap k (by omega) w'
        rw [if_neg (by omega)] at this; exact this
      have lT : (ls.take k).length = k := by rw [List.length_take, ← HN.out, Nat.min_eq_left (by omega)]
      have lD : (ls.drop k).length = n - k := by rw [List.length_drop, ← HN.out]
      have HIL : Hid (∀ w', Ex0 w w' → Calls Try.prog 36 #[.slice A k cap] w' fun e w'' => ∃ b, e = .returned (.pointer (some ⟨b, 0, none⟩)) ∧ TreeAt w'' b (ls.take k) ∧ Ex0 w' w'') := fun w' hx => by
        have := IH.out (ls.take k) A cap w' (by rw [lT]; exact hc1) (by rw [lT]; omega) (by rw [lT]; omega) (HOK.out.take k) (by rw [lT]; omega) (by rw [lT]; exact (HS.out.ex0 hx).part HN.out (by omega))
        rw [lT] at this; exact this
      have HIR : Hid (∀ w', Ex0 w w' → Calls Try.prog 36 #[.slice (A.map (·.add (k * 16))) (n - k) (cap - k)] w' fun e w'' => ∃ b, e = .returned (.pointer (some ⟨b, 0, none⟩)) ∧ TreeAt w'' b (ls.drop k) ∧ Ex0 w' w'') := fun w' hx => by
        have := IH.out (ls.drop k) (A.map (·.add (k * 16))) (cap - k) w' (by rw [lD]; omega) (by rw [lD]; omega) (by rw [lD]; omega) (HOK.out.drop k) (by rw [lD]; omega) (by rw [lD]; exact (HS.out.ex0 hx).rest HN.out (by omega))
        rw [lD] at this; exact this
      obtain ⟨TL, hTL⟩ : ∃ TL, TL = treeS (ls.take k) := ⟨_, rfl⟩
      obtain ⟨TR, hTR⟩ : ∃ TR, TR = treeS (ls.drop k) := ⟨_, rfl⟩
      have hl1 : TL.length = 16 ∧ ∀ x ∈ TL, x < 256 := by rw [hTL]; exact ⟨treeS_len (by rw [lT]; omega), treeS_lt (by rw [lT]; omega)⟩
      have hr1 : TR.length = 16 ∧ ∀ x ∈ TR, x < 256 := by rw [hTR]; exact ⟨treeS_len (by rw [lD]; omega), treeS_lt (by rw [lD]; omega)⟩
      have HJ : Hid (∀ w', Calls Try.prog 49 #[.agg (u8s TL).toArray, .agg (u8s TR).toArray] w' fun e w'' => e = .returned (.agg (u8s (joinS TL TR)).toArray) ∧ Ex0 w' w'') := fun w' => join_any TL TR hl1.1 hl1.2 hr1.1 hr1.2 w'
      have HTR : Hid (treeS ls = joinS TL TR) := by
        show _ = _
        rw [hTL, hTR, HK.out, HN.out]; exact treeS_two (by rw [← HN.out]; exact hn2)
      have HTT := Lib.hid (And.intro hTL hTR)
      have hls : (u8s TL).length = 16 := by rw [u8s_len]; exact hl1.1
      have hrs : (u8s TR).length = 16 := by rw [u8s_len]; exact hr1.1
      obtain ⟨VL, hVL⟩ : ∃ V, V = u8s TL := ⟨_, rfl⟩
      obtain ⟨VR, hVR⟩ : ∃ V, V = u8s TR := ⟨_, rfl⟩
      rw [← hVL] at HJ hls
      rw [← hVR] at HJ hrs
      have HVV := Lib.hid (And.intro hVL hVR)
      obtain ⟨CA, hCA⟩ : ∃ CA, CA = (u8s (joinS TL TR)).toArray := ⟨_, rfl⟩
      have hCs : CA.size = 16 := by rw [hCA]; simp [u8s_len, joinS_len]
      rw [← hCA] at HJ
      have HCA := Lib.hid hCA
      obtain ⟨PC, hPs, hfold, hPC⟩ := part_fold CA hCs
      have HPC := Lib.hid hPC
      obtain ⟨AR, hAR⟩ : ∃ AR, AR = A.map (·.add (k * 16)) := ⟨_, rfl⟩
      rw [← hAR] at HIR hslR
      obtain ⟨nr, hnr⟩ : ∃ nr, nr = n - k := ⟨_, rfl⟩
      obtain ⟨cr, hcr⟩ : ∃ cr, cr = cap - k := ⟨_, rfl⟩
      rw [← hnr, ← hcr] at HIR hslR
      have HCU : Hid (Ex0 w w.drew) := Ex.drew _
      have hn1 : ¬ (n : Int) = 1 := by omega
      have hld : ∀ (b : Nat) (V : List Value) (x : Operand) (o : Oper) (a : Act) (w' : World), V.length = 16 → o.op = .load 28 x → a.eval x = .pointer (some ⟨b, 0, none⟩) → RowAt w' ⟨b, 0, none⟩ V → (execOp a.eval o).run Try.prog w' = .ok (.value (.agg V.toArray)) w' := fun b V x o a w' hv h1 h2 h3 => exec_load_at 28 x h1 _ h2 V _ h3 Try.underlying28 rfl (by rw [hv]; kernel_rfl)
      have HLD := Lib.hid hld
      clear hTL hTR hl1 hr1 hVL hVR hAR lT lD hnr hcr hcap h1n h1 hCA hPC hld
      go_enter Try.func36, Try.ntmps36
      go_wp2_with (refine (HC.out _).mono ?_; rintro e w' ⟨rfl, rfl⟩)
      refine wp_region_takes (fun _ => True) (by kernel_rfl) ?_
      simp only [List.length_cons, List.length_nil]
      have hS : True := trivial
      refine' wpAnyH_do 0 rfl (by kernel_rfl) (fun _ _ _ _ h => h) (by rfl) (by assumption) ⟨_, fun w' hS => ?_, ?_⟩
      rotate_left
      · ((try dsimp only at hS); go_split_ands; go_simp; try (with_reducible rfl))
      simp only [Act.put, List.setIfInBounds_toArray, List.set_cons_zero, List.set_cons_succ]
      refine' wpAnyH_do 1 rfl (by kernel_rfl) (fun _ _ _ _ h => h) (by rfl) (by assumption) ⟨_, fun w' hS => ?_, ?_⟩
      rotate_left
      · ((try dsimp only at hS); go_split_ands; go_simp; try (with_reducible rfl))
      simp only [Act.put, List.setIfInBounds_toArray, List.set_cons_zero, List.set_cons_succ]
      refine' wpAnyH_do 2 rfl (by kernel_rfl) (fun _ _ _ _ h => h) (by rfl) (by assumption) ⟨_, fun w' hS => ?_, ?_⟩
      rotate_left
      · ((try dsimp only at hS); go_split_ands; go_simp; try (with_reducible rfl))
      simp only [Act.put, List.setIfInBounds_toArray, List.set_cons_zero, List.set_cons_succ]
      refine' wpAnyH_do 4 rfl (by kernel_rfl) (fun _ _ _ _ h => h) (by rfl) (by assumption) ⟨_, fun w' hS => ?_, ?_⟩
      rotate_left
      · ((try dsimp only at hS); go_split_ands; go_simp; try (with_reducible rfl))
      simp only [Act.put, List.setIfInBounds_toArray, List.set_cons_zero, List.set_cons_succ]
      refine' wpAnyH_do 5 rfl (by kernel_rfl) (fun _ _ _ _ h => h) (by rfl) (by assumption) ⟨_, fun w' hS => ?_, ?_⟩
      rotate_left
      · ((try dsimp only at hS); go_split_ands; go_simp; try (with_reducible rfl))
      simp only [Act.put, List.setIfInBounds_toArray, List.set_cons_zero, List.set_cons_succ]
      refine' wpAnyH_do 6 rfl (by kernel_rfl) (fun _ _ _ _ h => h) (by rfl) (by assumption) ⟨_, fun w' hS => ?_, ?_⟩
      rotate_left
      · ((try dsimp only at hS); go_split_ands; go_simp; try (with_reducible rfl))
      simp only [Act.put, List.setIfInBounds_toArray, List.set_cons_zero, List.set_cons_succ]
      refine wpAnyH_eff 3 rfl (by kernel_rfl) (by rfl) (fun K hK => ?_)
      have HKK := Lib.hid hK
      clear hK
      go_simp
      refine (HIL.out _ HCU.out).mono ?_
      rintro e w2 ⟨bl, rfl, htl, hx2⟩
      have HCU2 := Lib.hid (HCU.out.trans0 hx2)
      have HTL := Lib.hid htl
      clear hx2 htl
      dsimp only
      refine HKK.out _ _ trivial ?_
      clear HKK K
      refine wpAnyH_eff 7 rfl (by kernel_rfl) (by rfl) (fun K hK => ?_)
      have HKK := Lib.hid hK
      clear hK
      go_simp
      refine (HIR.out _ HCU2.out).mono ?_
      rintro e w3 ⟨br, rfl, htr, hx3⟩
      have HCU3 := Lib.hid (HCU2.out.trans0 hx3)
      have HTRR := Lib.hid htr
      have HXR := Lib.hid hx3
      clear hx3 htr
      dsimp only
      refine HKK.out _ _ trivial ?_
      clear HKK K
      refine' wpAnyH_do 8 rfl (by kernel_rfl) (fun _ _ _ _ h => h) (by rfl) (by assumption) ⟨_, fun w' hS => ?_, ?_⟩
      rotate_left
      · ((try dsimp only at hS); go_split_ands; go_simp; try (with_reducible rfl))
      simp only [Act.put, List.setIfInBounds_toArray, List.set_cons_zero, List.set_cons_succ]
      refine' wpAnyH_do 9 rfl (by kernel_rfl) (fun _ _ _ _ h => h) (by rfl) (by assumption) ⟨_, fun w' hS => ?_, ?_⟩
      rotate_left
      · ((try dsimp only at hS); go_split_ands; go_simp; try (with_reducible rfl))
      simp only [Act.put, List.setIfInBounds_toArray, List.set_cons_zero, List.set_cons_succ]
      refine wpAnyH_done (by kernel_rfl) ?_ _
      clear hS
      go_wp2_with fail
      have hS1 : RowAt w3 ⟨bl, 0, none⟩ VL := by rw [HVV.out.1, HTT.out.1]; exact (HTL.out.ex0 HXR.out).row
      have hS2 : RowAt w3 ⟨br, 0, none⟩ VR := by rw [HVV.out.2, HTT.out.2]; exact HTRR.out.row
      have HTL' : Hid (TreeAt w3 bl (ls.take k)) := HTL.out.ex0 HXR.out
      have HTR' : Hid (TreeAt w3 br (ls.drop k)) := HTRR.out
      have hS : RowAt w3.drew ⟨bl, 0, none⟩ VL ∧ RowAt w3.drew ⟨br, 0, none⟩ VR := ⟨hS1.ex (Ex.drew _) not_false, hS2.ex (Ex.drew _) not_false⟩
      refine wp_region_takes (fun w' => RowAt w' ⟨bl, 0, none⟩ VL ∧ RowAt w' ⟨br, 0, none⟩ VR) (by kernel_rfl) ?_
      simp only [List.length_cons, List.length_nil]
      clear hS1 hS2
      have HSS := Lib.hid hS
      clear hS
      have hS := HSS.out
      refine' wpAnyH_do 0 rfl (by kernel_rfl) (fun _ _ _ _ h => h) (by rfl) (by assumption) ⟨_, fun w' hS => ?_, ?_⟩
      rotate_left
      · ((try dsimp only at hS); go_split_ands; go_simp; try (with_reducible rfl))
      simp only [Act.put, List.setIfInBounds_toArray, List.set_cons_zero, List.set_cons_succ]
      refine' wpAnyH_do 1 rfl (by kernel_rfl) (fun _ _ _ _ h => h) (by rfl) (by assumption) ⟨_, fun w' hS => ?_, ?_⟩
      rotate_left
      · ((try dsimp only at hS); go_split_ands; go_simp; try (with_reducible rfl))
      simp only [Act.put, List.setIfInBounds_toArray, List.set_cons_zero, List.set_cons_succ]
      refine' wpAnyH_do 2 rfl (by kernel_rfl) (fun _ _ _ _ h => h) (by rfl) (by assumption) ⟨_, fun w' hS => ?_, ?_⟩
      rotate_left
      · ((try dsimp only at hS); go_split_ands; go_simp; try (with_reducible rfl))
      simp only [Act.put, List.setIfInBounds_toArray, List.set_cons_zero, List.set_cons_succ]
      refine' wpAnyH_do 3 rfl (by kernel_rfl) (fun _ _ _ _ h => h) (by rfl) (by assumption) ⟨_, fun w' hS => HLD.out bl VL (.tmp 28) _ _ _ hls rfl rfl hS.1, ?_⟩
      simp only [Act.put, List.setIfInBounds_toArray, List.set_cons_zero, List.set_cons_succ]
      refine' wpAnyH_do 4 rfl (by kernel_rfl) (fun _ _ _ _ h => h) (by rfl) (by assumption) ⟨_, fun w' hS => ?_, ?_⟩
      rotate_left
      · ((try dsimp only at hS); go_split_ands; go_simp; try (with_reducible rfl))
      simp only [Act.put, List.setIfInBounds_toArray, List.set_cons_zero, List.set_cons_succ]
      refine' wpAnyH_do 5 rfl (by kernel_rfl) (fun _ _ _ _ h => h) (by rfl) (by assumption) ⟨_, fun w' hS => ?_, ?_⟩
      rotate_left
      · ((try dsimp only at hS); go_split_ands; go_simp; try (with_reducible rfl))
      simp only [Act.put, List.setIfInBounds_toArray, List.set_cons_zero, List.set_cons_succ]
      refine' wpAnyH_do 6 rfl (by kernel_rfl) (fun _ _ _ _ h => h) (by rfl) (by assumption) ⟨_, fun w' hS => ?_, ?_⟩
      rotate_left
      · ((try dsimp only at hS); go_split_ands; go_simp; try (with_reducible rfl))
      simp only [Act.put, List.setIfInBounds_toArray, List.set_cons_zero, List.set_cons_succ]
      refine' wpAnyH_do 7 rfl (by kernel_rfl) (fun _ _ _ _ h => h) (by rfl) (by assumption) ⟨_, fun w' hS => HLD.out br VR (.tmp 32) _ _ _ hrs rfl rfl hS.2, ?_⟩
      simp only [Act.put, List.setIfInBounds_toArray, List.set_cons_zero, List.set_cons_succ]
      refine' wpAnyH_do 9 rfl (by kernel_rfl) (fun _ _ _ _ h => h) (by rfl) (by assumption) ⟨_, fun w' hS => ?_, ?_⟩
      rotate_left
      · ((try dsimp only at hS); go_split_ands; go_simp; try (with_reducible rfl))
      simp only [Act.put, List.setIfInBounds_toArray, List.set_cons_zero, List.set_cons_succ]
      refine' wpAnyH_do 10 rfl (by kernel_rfl) (fun _ _ _ _ h => h) (by rfl) (by assumption) ⟨_, fun w' hS => ?_, ?_⟩
      rotate_left
      · ((try dsimp only at hS); go_split_ands; go_simp; try (with_reducible rfl))
      simp only [Act.put, List.setIfInBounds_toArray, List.set_cons_zero, List.set_cons_succ]
      refine' wpAnyH_do 11 rfl (by kernel_rfl) (fun _ _ _ _ h => h) (by rfl) (by assumption) ⟨_, fun w' hS => ?_, ?_⟩
      rotate_left
      · ((try dsimp only at hS); go_split_ands; go_simp; try (with_reducible rfl))
      simp only [Act.put, List.setIfInBounds_toArray, List.set_cons_zero, List.set_cons_succ]
      refine' wpAnyH_do 12 rfl (by kernel_rfl) (fun _ _ _ _ h => h) (by rfl) (by assumption) ⟨_, fun w' hS => ?_, ?_⟩
      rotate_left
      · ((try dsimp only at hS); go_split_ands; go_simp; try (with_reducible rfl))
      simp only [Act.put, List.setIfInBounds_toArray, List.set_cons_zero, List.set_cons_succ]
      refine wpAnyH_eff 8 rfl (by kernel_rfl) (by rfl) (fun K hK => ?_)
      have HKK := Lib.hid hK
      clear hK
      go_simp
      refine (HJ.out _).mono ?_
      rintro e w5 ⟨rfl, hx5⟩
      have hS5 : RowAt w5 ⟨bl, 0, none⟩ VL ∧ RowAt w5 ⟨br, 0, none⟩ VR := ⟨hS.1.ex hx5 not_false, hS.2.ex hx5 not_false⟩
      have HX5 : Hid (Ex0 w3 w5) := (Ex.drew w3).trans0 hx5
      clear hx5 hS
      dsimp only
      refine HKK.out _ _ hS5 ?_
      clear HKK K
      refine' wpAnyH_do 13 rfl (by kernel_rfl) (fun _ _ _ _ h => h) (by rfl) (by assumption) ⟨_, fun w' hS => ?_, ?_⟩
      rotate_left
      · ((try dsimp only at hS); go_split_ands; go_simp; try (with_reducible rfl))
      simp only [Act.put, List.setIfInBounds_toArray, List.set_cons_zero, List.set_cons_succ]
      refine wpAnyH_eff 14 rfl (by kernel_rfl) (by rfl) (fun K hK => ?_)
      have HKK := Lib.hid hK
      clear hK
      go_simp
      rw [part_two (joinS TL TR) (joinS_len _ _) PC (by rw [HPC.out, HCA.out]) n (some ⟨bl, 0, none⟩) (some ⟨br, 0, none⟩)]
      obtain ⟨PV, hPV⟩ : ∃ P, P = partC (joinS TL TR) n (some ⟨bl, 0, none⟩) (some ⟨br, 0, none⟩) := ⟨_, rfl⟩
      rw [← hPV]
      have hx6 : Ex0 w5 (w5.alloc (.cells PV 75)) := Ex.alloc _ _
      have hS6 : RowAt (w5.alloc (.cells PV 75)) ⟨bl, 0, none⟩ VL ∧ RowAt (w5.alloc (.cells PV 75)) ⟨br, 0, none⟩ VR := ⟨hS5.1.ex hx6 not_false, hS5.2.ex hx6 not_false⟩
      refine HKK.out _ _ hS6 ?_
      have HPV := Lib.hid hPV
      clear HKK K hS5 hPV
      refine' wpAnyH_do 15 rfl (by kernel_rfl) (fun _ _ _ _ h => h) (by rfl) (by assumption) ⟨_, fun w' hS => ?_, ?_⟩
      rotate_left
      · ((try dsimp only at hS); go_split_ands; go_simp; try (with_reducible rfl))
      simp only [Act.put, List.setIfInBounds_toArray, List.set_cons_zero, List.set_cons_succ]
      refine wpAnyH_done (by kernel_rfl) ?_ _
      clear hS6
      have HX6 := Lib.hid (HX5.out.trans0 hx6)
      clear hx6
      go_wp2_with fail
      go_ret
      refine ⟨_, rfl, ?_, HCU3.out.trans0 HX6.out⟩
      refine .two _ bl br ls (by rw [← HN.out]; exact hn2) ?_ ?_ ?_
      · rw [heap_alloc_new, HPV.out, HTR.out, HN.out]
      · rw [← HN.out, ← HK.out]; exact HTL'.out.ex0 HX6.out
      · rw [← HN.out, ← HK.out]; exact HTR'.out.ex0 HX6.out
end Go.Proofs.Ythbdmfbjkkmplaa
