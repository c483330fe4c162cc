/- Contracts of layer 61: the sums of merkle's leaves and joints. -/
import Derived.Test.YthbdmfbjkkmplaaAud6
import Derived.Test.YthbdmfbjkkmplaaAud0
import Derived.Test.YthbdmfbjkkmplaaAud1
import Derived.Test.YthbdmfbjkkmplaaB9
namespace Go.Proofs.Ythbdmfbjkkmplaa
open Go.RowKit Go.Proofs.YthbdmfbjkkmplaaB Go.Proofs.Ythbdmfbjkkmplaa.Sha

theorem z16_len : z16.length = 16 := by simp [z16]
theorem z16_lt : ∀ x ∈ z16, x < 256 := fun x hx => by have := List.eq_of_mem_replicate hx; subst this; decide

set_option maxRecDepth 100000 in
set_option maxHeartbeats 1000000 in
theorem one_any (x : List Nat) (hx : x.length = 16) (hb : ∀ y ∈ x, y < 256) (w : World) :
    Calls Try.prog 47 #[.agg (u8s x).toArray] w fun e w' => e = .returned (.agg (u8s (oneS x)).toArray) ∧ Ex0 w w' := by
  obtain ⟨i0, hi0, hz0, hz1, hz2⟩ := info_parts infoU8
  obtain ⟨PA, hPA⟩ : ∃ PA, PA = (u8s x).toArray := ⟨_, rfl⟩
  rw [← hPA]
  have HPA := Lib.hid hPA
  have HB := Lib.hid hb
  clear hPA hb
  have hsl : ∀ w', (Instr.sliceAt 28 (.pointer (some ⟨w.heap.size, 0, none⟩)) none none none).run Try.prog w' = .ok (.slice (some ⟨w.heap.size, 0, none⟩) 16 16) w' :=
    run_sliceAt_whole (P := Try.prog) Try.underlying28 (by kernel_rfl) w.heap.size 0 (by decide)
  go_enter Try.func47, Try.ntmps47
  iterate 9 go_step
  generalize hW : World.alloc (World.alloc w _) _ = W
  have h0 : W8 W w.heap.size 28 x := by rw [← hW]; subst HPA; exact heap_alloc2_old w _ _
  have h1 : W8 W (w.heap.size + 1) 28 (List.replicate 16 0) := by rw [← hW]; exact heap_alloc2_new w _ _
  have hx2 : Ex0 w W := by rw [← hW]; exact (Ex.alloc _ _).alloc' _
  obtain ⟨b0, e0⟩ : ∃ b, b = w.heap.size := ⟨_, rfl⟩
  obtain ⟨b1, e1⟩ : ∃ b, b = w.heap.size + 1 := ⟨_, rfl⟩
  rw [← e1] at h1
  rw [← e0] at h0 hsl
  rw [← e1, ← e0]
  have H0 := Lib.hid h0
  have H1 := Lib.hid h1
  have HX := Lib.hid hx2
  have E0 := Lib.hid e0
  have E1 := Lib.hid e1
  clear hW h0 h1 hx2 e0 e1
  have hs0 : Hid (Sl (W.alloc (.cells #[.int .u8 0] 5)) 1 (some ⟨b0, 0, none⟩) 16 (u8s x)) := by
    have := sl_block (H0.out.ex (Ex.alloc W (.cells #[.int .u8 0] 5)) not_false) (sz := 1) (n := 16) (by simp [u8s_len, hx]) (by decide)
    show Sl _ _ _ _ _
    simpa using this
  go_wp2_with (refine wpList_append_sl rfl (.tmp 4) (.tmp 5) 58 rfl _ 5 i0 _ 1 1 Try.underlying58 hi0 hz0 hz1 hz2 rfl (by decide) (.slice (some ⟨W.heap.size, 0, none⟩) 1 1) 1 [.int .u8 0] rfl ⟨by simp, .inr ⟨_, 1, _, rfl, Nat.le_refl _, heap_alloc_new W _, Nat.le_refl _, by decide, by simp, by simp⟩⟩ (some ⟨b0, 0, none⟩) 16 16 (u8s x) rfl hs0.out (fun h => by cases h) (u8s_one _) (by decide) (by decide) (by simp) ?_; intro v3 w3 ho3 hg3 hb3; have HX3 : Hid (Ex0 W w3) := ex_of_new (Ex.alloc _ _) hg3 (fun b hb => by cases hb; exact Nat.le_refl _); obtain ⟨A1, cap1, rfl, hsl1, _, hnl1⟩ := own_sl' ho3; have HSL := Lib.hid hsl1; have HNL := Lib.hid hnl1; clear ho3 hg3 hb3 hsl1 hnl1)
  have hz16 : (u8s z16).toArray = #[.int .u8 0, .int .u8 0, .int .u8 0, .int .u8 0, .int .u8 0, .int .u8 0, .int .u8 0, .int .u8 0, .int .u8 0, .int .u8 0, .int .u8 0, .int .u8 0, .int .u8 0, .int .u8 0, .int .u8 0, .int .u8 0] := rfl
  have hl : (0 :: x).length = 1 + 16 := by simp [hx]
  have hch := chain_any z16 z16_len z16_lt A1 cap1 (0 :: x) (fun y hy => by
    rcases List.mem_cons.1 hy with rfl | h
    · decide
    · exact HB.out y h) (by rw [hl]; decide) w3 (by rw [hl]; exact HSL.out) HNL.out
  rw [hz16, hl] at hch
  refine hch.mono ?_
  rintro e w4 ⟨rfl, hx4⟩
  have HX4 := Lib.hid (HX3.out.trans0 hx4)
  clear hx4 hch
  obtain ⟨CA, hCA⟩ : ∃ CA, CA = (u8s (chain z16 (0 :: x))).toArray := ⟨_, rfl⟩
  rw [← hCA]
  have hsz : CA.size = 16 := by rw [hCA]; simp [u8s_len, chain_len]
  have H1C : Hid (∀ v ∈ CA, v.oneCell' = true) := by show ∀ v ∈ CA, _; rw [hCA]; simpa using u8s_one (chain z16 (0 :: x))
  have HCA := Lib.hid hCA
  have HE := Lib.hid (H1.out.ex HX4.out not_false)
  clear hCA hz16
  go_wp2_with (refine wpList_store_all rfl 28 (.tmp 2) (.tmp 7) rfl b1 rfl CA _ rfl 28 HE.out (by rw [hsz]; rfl) H1C.out (by rw [hsz]; kernel_rfl) ?_)
  refine bodyPost_ret (results_cell_row rfl _ _ b1 _ _ _ _ rfl (setRow_heap _ _ _ _ _ _ HE.out) Try.underlying28 rfl (by rw [hsz]; kernel_rfl)) rfl ?_
  exact ⟨by rw [HCA.out]; rfl, (HX.out.trans0 HX4.out).trans (ex_setRow _ _ _) (fun _ _ h => h) (fun i hi h => by have := E1.out; omega)⟩

set_option maxRecDepth 100000 in
set_option maxHeartbeats 1000000 in
theorem join_any (x y : List Nat) (hx : x.length = 16) (hb : ∀ z ∈ x, z < 256) (hy : y.length = 16) (hc : ∀ z ∈ y, z < 256) (w : World) :
    Calls Try.prog 49 #[.agg (u8s x).toArray, .agg (u8s y).toArray] w fun e w' => e = .returned (.agg (u8s (joinS x y)).toArray) ∧ Ex0 w w' := by
  obtain ⟨PA, hPA⟩ : ∃ PA, PA = (u8s x).toArray := ⟨_, rfl⟩
  obtain ⟨PB, hPB⟩ : ∃ PA, PA = (u8s y).toArray := ⟨_, rfl⟩
  rw [← hPA, ← hPB]
  have HPA := Lib.hid hPA
  have HPB := Lib.hid hPB
  have HB := Lib.hid hb
  have HC := Lib.hid hc
  clear hPA hPB hb hc
  have hsl : ∀ w', (Instr.sliceAt 28 (.pointer (some ⟨w.heap.size, 0, none⟩)) none none none).run Try.prog w' = .ok (.slice (some ⟨w.heap.size, 0, none⟩) 16 16) w' :=
    run_sliceAt_whole (P := Try.prog) Try.underlying28 (by kernel_rfl) w.heap.size 0 (by decide)
  have hsl1 : ∀ w', (Instr.sliceAt 28 (.pointer (some ⟨w.heap.size + 1, 0, none⟩)) none none none).run Try.prog w' = .ok (.slice (some ⟨w.heap.size + 1, 0, none⟩) 16 16) w' :=
    run_sliceAt_whole (P := Try.prog) Try.underlying28 (by kernel_rfl) (w.heap.size + 1) 0 (by decide)
  go_enter Try.func49, Try.ntmps49
  iterate 12 go_step
  generalize hW : World.alloc (World.alloc (World.alloc w _) _) _ = W
  have h0 : W8 W w.heap.size 28 x := by rw [← hW]; subst HPA; exact (alloc3 w _ _ _).1
  have h1 : W8 W (w.heap.size + 1) 28 y := by rw [← hW]; subst HPB; exact (alloc3 w _ _ _).2.1
  have h2 : W8 W (w.heap.size + 1 + 1) 28 (List.replicate 16 0) := by rw [← hW]; exact (alloc3 w _ _ _).2.2.1
  have hx2 : Ex0 w W := by rw [← hW]; exact ((Ex.alloc _ _).alloc' _).alloc' _
  obtain ⟨b0, e0⟩ : ∃ b, b = w.heap.size := ⟨_, rfl⟩
  obtain ⟨b1, e1⟩ : ∃ b, b = w.heap.size + 1 := ⟨_, rfl⟩
  obtain ⟨b2, e2⟩ : ∃ b, b = w.heap.size + 1 + 1 := ⟨_, rfl⟩
  rw [← e2] at h2
  rw [← e1] at h1 hsl1
  rw [← e0] at h0 hsl
  rw [← e2, ← e1, ← e0]
  have H0 := Lib.hid h0
  have H1 := Lib.hid h1
  have H2 := Lib.hid h2
  have HX := Lib.hid hx2
  have E0 := Lib.hid e0
  have E1 := Lib.hid e1
  have E2 := Lib.hid e2
  clear hW h0 h1 h2 hx2 e0 e1 e2
  go_wp2_with fail
  have HCC : Hid (Calls Try.prog 40 #[.slice (some ⟨W.heap.size + 1, 0, none⟩) 3 3] ((W.alloc (.cells #[.int .u8 1] 5)).alloc (.cells #[.slice (some ⟨W.heap.size, 0, none⟩) 1 1, .slice (some ⟨b0, 0, none⟩) 16 16, .slice (some ⟨b1, 0, none⟩) 16 16] 58)).drew
      fun e w1 => ∃ A cap, e = .returned (.slice A (1 :: (x ++ y)).length cap) ∧ Sl w1 1 A (1 :: (x ++ y)).length (u8s (1 :: (x ++ y))) ∧ (A = none → cap = 0) ∧ Ex0 W w1) := by
    show Calls _ _ _ _ _
    generalize hw1 : W.alloc (.cells #[.int .u8 1] 5) = W1
    have hx1 : Ex0 W W1 := by rw [← hw1]; exact Ex.alloc _ _
    have hn : W8 W1 W.heap.size 5 [1] := by rw [← hw1]; exact heap_alloc_new W _
    have hs1 : W.heap.size + 1 = W1.heap.size := by rw [← hw1]; simp
    rw [hs1]
    generalize hw2 : (W1.alloc _).drew = W2
    have hx2 : Ex0 W1 W2 := by rw [← hw2]; exact (Ex.alloc _ _).drew'
    have hn2 : W2.heap[W1.heap.size]? = some (.cells #[.slice (some ⟨W.heap.size, 0, none⟩) 1 1, .slice (some ⟨b0, 0, none⟩) 16 16, .slice (some ⟨b1, 0, none⟩) 16 16] 58 (0, 0)) := by rw [← hw2]; exact heap_alloc_new W1 _
    refine (concat_any W1.heap.size 3 [Bp.mk (some ⟨W.heap.size, 0, none⟩) 1 [1], Bp.mk (some ⟨b0, 0, none⟩) 16 x, Bp.mk (some ⟨b1, 0, none⟩) 16 y] W2 ?_ ?_ (by simp) (by simp [flat]) (by simp [flat, hx, hy])).mono ?_
    · intro j hj
      rw [cell_of_row _ _ _ _ _ _ hn2]
      match j, hj with
      | 0, _ => simp [Bp.val]
      | 1, _ => simp [Bp.val, hx]
      | 2, _ => simp [Bp.val, hy]
    · intro p hp
      simp only [List.mem_cons, List.not_mem_nil, or_false] at hp
      rcases hp with rfl | rfl | rfl
      · refine ⟨?_, fun h => by cases h⟩
        have := sl_block (hn.ex hx2 not_false) (sz := 1) (n := 1) (by simp [u8s_len]) (by decide)
        simpa using this
      · refine ⟨?_, fun h => by cases h⟩
        have := sl_block ((H0.out.ex hx1 not_false).ex hx2 not_false) (sz := 1) (n := 16) (by simp [u8s_len, hx]) (by decide)
        simpa [hx] using this
      · refine ⟨?_, fun h => by cases h⟩
        have := sl_block ((H1.out.ex hx1 not_false).ex hx2 not_false) (sz := 1) (n := 16) (by simp [u8s_len, hy]) (by decide)
        simpa [hy] using this
    · rintro e w1 ⟨v, rfl, ho, hx3⟩
      rw [show flat [Bp.mk (some ⟨W.heap.size, 0, none⟩) 1 [1], Bp.mk (some ⟨b0, 0, none⟩) 16 x, Bp.mk (some ⟨b1, 0, none⟩) 16 y] = 1 :: (x ++ y) by simp [flat]] at ho
      obtain ⟨A, cap, rfl, hsl, _, hnl⟩ := own_sl' ho
      exact ⟨A, cap, rfl, hsl, hnl, (hx1.trans0 hx2).trans0 hx3⟩
  have HCH : Hid (∀ w1 A cap, Sl w1 1 A (1 :: (x ++ y)).length (u8s (1 :: (x ++ y))) → (A = none → cap = 0) → Calls Try.prog 27 #[.agg #[.int .u8 0, .int .u8 0, .int .u8 0, .int .u8 0, .int .u8 0, .int .u8 0, .int .u8 0, .int .u8 0, .int .u8 0, .int .u8 0, .int .u8 0, .int .u8 0, .int .u8 0, .int .u8 0, .int .u8 0, .int .u8 0], .slice A (1 :: (x ++ y)).length cap] w1 fun e w' => e = .returned (.agg (u8s (joinS x y)).toArray) ∧ Ex0 w1 w') := by
    intro w1 A cap h1 h2
    exact chain_any z16 z16_len z16_lt A cap (1 :: (x ++ y)) (fun z hz => by
      rcases List.mem_cons.1 hz with rfl | h
      · decide
      · rcases List.mem_append.1 h with h | h
        · exact HB.out z h
        · exact HC.out z h) (by simp [hx, hy]) w1 h1 h2
  obtain ⟨CA, hCA⟩ : ∃ CA, CA = (u8s (joinS x y)).toArray := ⟨_, rfl⟩
  rw [← hCA] at HCH
  have hsz : CA.size = 16 := by rw [hCA]; simp [u8s_len, joinS_len]
  have H1C : Hid (∀ v ∈ CA, v.oneCell' = true) := by show ∀ v ∈ CA, _; rw [hCA]; simpa using u8s_one (joinS x y)
  have HCA := Lib.hid hCA
  clear hCA
  obtain ⟨TL, hTL⟩ : ∃ n, n = (1 :: (x ++ y)).length := ⟨_, rfl⟩
  rw [← hTL] at HCC HCH
  clear hTL
  go_region_law (first | (go_simp; go_at_call 40; refine HCC.out.mono ?_; rintro e w1 ⟨A1, cap1, rfl, hsl1, hnl1, hx1⟩; have HSL := Lib.hid hsl1; have HNL := Lib.hid hnl1; have HX1 := Lib.hid hx1; clear hsl1 hnl1 hx1; dsimp only) | (go_simp; go_at_call 27; refine (HCH.out _ _ _ HSL.out HNL.out).mono ?_; rintro e w2 ⟨rfl, hx2⟩; have HX2 := Lib.hid (HX1.out.trans0 hx2); have HE := Lib.hid (H2.out.ex HX2.out not_false); have hst := run_storeCells_all (P := Try.prog) (A := CA) HE.out (by rw [hsz]; rfl) H1C.out; clear hx2; dsimp only))
  go_wp2_with fail
  refine bodyPost_ret (results_cell_row rfl _ _ b2 _ _ _ _ rfl (setRow_heap _ _ _ _ _ _ HE.out) Try.underlying28 rfl (by rw [hsz]; kernel_rfl)) rfl ?_
  exact ⟨by rw [HCA.out], (HX.out.trans0 HX2.out).trans (ex_setRow _ _ _) (fun _ _ h => h) (fun i hi h => by have := E2.out; omega)⟩

theorem cut_any (n : Nat) (hn : n ≤ 1000000000) (w : World) :
    Calls Try.prog 48 #[.int .i64 n] w fun e w' => e = .returned (.int .i64 (cutN n : Nat)) ∧ w = w' := by
  have e : (n : Int) - (n : Int) / 2 = ((cutN n : Nat) : Int) := by unfold cutN; omega
  have hd : 0 ≤ (n : Int) / 2 := by omega
  have hd2 : (n : Int) / 2 ≤ n := by omega
  go_enter Try.func48, Try.ntmps48
  go_wp2
  go_ret
  exact ⟨by first | trivial | rfl, rfl⟩
end Go.Proofs.Ythbdmfbjkkmplaa
