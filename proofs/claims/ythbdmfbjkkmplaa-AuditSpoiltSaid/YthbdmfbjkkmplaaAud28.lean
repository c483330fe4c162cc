/- Contracts of layer 61: the leaves. Printed by genaud28.py. -/
import Derived.Test.YthbdmfbjkkmplaaAud18
namespace Go.Proofs.Ythbdmfbjkkmplaa
open Go.RowKit Go.Proofs.YthbdmfbjkkmplaaB Go.Proofs.Ythbdmfbjkkmplaa.Sha

def leafS (v k : Nat) (b : List Nat) : List Nat := chain z16 (v :: 0 :: k :: b)
theorem leafS_len (v k : Nat) (b : List Nat) : (leafS v k b).length = 16 := chain_len _ _
theorem leafS_lt (v k : Nat) (b : List Nat) : ∀ x ∈ leafS v k b, x < 256 := chain_lt _ _

def fitsB (v n : Int) : Bool := decide (1 ≤ v ∧ v ≤ 8 ∧ 1 ≤ n ∧ n ≤ 256)

set_option maxRecDepth 100000 in
set_option maxHeartbeats 1000000 in
theorem leaf_any (v k : Nat) (hv : v < 256) (hk : k < 256) (x : List Nat) (hx : x.length = 32) (hb : ∀ y ∈ x, y < 256) (w : World) :
    Calls Try.prog 13 #[.int .i64 v, .int .i64 k, .agg (u8s x).toArray] w fun e w' => e = .returned (.agg (u8s (leafS v k x)).toArray) ∧ Ex0 w w' := by
  obtain ⟨i0, hi0, hz0, hz1, hz2⟩ := info_parts infoU8
  obtain ⟨PA, hPA⟩ : ∃ PA, PA = (u8s x).toArray := ⟨_, rfl⟩
  rw [← hPA]
  have HPA := Lib.hid hPA
  have HB := Lib.hid hb
  clear hPA hb
  have hk8 : (k : Int) / 256 = 0 := by omega
  have hkm : (k : Int) % 256 = (k : Int) := by omega
  have hvm : (v : Int) % 256 = (v : Int) := by omega
  have hsl : ∀ w', (Instr.sliceAt 24 (.pointer (some ⟨w.heap.size, 0, none⟩)) none none none).run Try.prog w' = .ok (.slice (some ⟨w.heap.size, 0, none⟩) 32 32) w' :=
    run_sliceAt_whole (P := Try.prog) Try.underlying24 (by kernel_rfl) w.heap.size 0 (by decide)
  go_enter Try.func13, Try.ntmps13
  iterate 9 go_step
  generalize hW : World.alloc (World.alloc w _) _ = W
  have h0 : W8 W w.heap.size 24 x := by rw [← hW]; subst HPA; exact heap_alloc2_old w _ _
  have h1 : W8 W (w.heap.size + 1) 28 (List.replicate 16 0) := by rw [← hW]; exact heap_alloc2_new w _ _
  have hx2 : Ex0 w W := by rw [← hW]; exact (Ex.alloc _ _).alloc' _
  obtain ⟨b0, e0⟩ : ∃ b, b = w.heap.size := ⟨_, rfl⟩
  obtain ⟨b1, e1⟩ : ∃ b, b = w.heap.size + 1 := ⟨_, rfl⟩
  rw [← e1] at h1
  rw [← e0] at h0 hsl
  rw [← e1, ← e0]
  have H0 := Lib.hid h0
  have H1 := Lib.hid h1
  have HX := Lib.hid hx2
  have E0 := Lib.hid e0
  have E1 := Lib.hid e1
  clear hW h0 h1 hx2 e0 e1
  have hs0 : Hid (Sl (W.alloc (.cells #[.int .u8 v, .int .u8 0, .int .u8 k] 5)) 1 (some ⟨b0, 0, none⟩) 32 (u8s x)) := by
    have := sl_block (H0.out.ex (Ex.alloc W (.cells #[.int .u8 v, .int .u8 0, .int .u8 k] 5)) not_false) (sz := 1) (n := 32) (by simp [u8s_len, hx]) (by decide)
    show Sl _ _ _ _ _
    simpa using this
  go_wp2_with (refine wpList_append_sl rfl (.tmp 15) (.tmp 16) 58 rfl _ 5 i0 _ 1 1 Try.underlying58 hi0 hz0 hz1 hz2 rfl (by decide) (.slice (some ⟨W.heap.size, 0, none⟩) 3 3) 3 [.int .u8 v, .int .u8 0, .int .u8 k] rfl ⟨by simp, .inr ⟨_, 3, _, rfl, Nat.le_refl _, heap_alloc_new W _, Nat.le_refl _, by decide, by simp, by simp⟩⟩ (some ⟨b0, 0, none⟩) 32 32 (u8s x) rfl hs0.out (fun h => by cases h) (u8s_one _) (by decide) (by decide) (by simp) ?_; intro v3 w3 ho3 hg3 hb3; have HX3 : Hid (Ex0 W w3) := ex_of_new (Ex.alloc _ _) hg3 (fun b hb => by cases hb; exact Nat.le_refl _); obtain ⟨A1, cap1, rfl, hsl1, _, hnl1⟩ := own_sl' ho3; have HSL := Lib.hid hsl1; have HNL := Lib.hid hnl1; clear ho3 hg3 hb3 hsl1 hnl1)
  have hz16 : (u8s z16).toArray = #[.int .u8 0, .int .u8 0, .int .u8 0, .int .u8 0, .int .u8 0, .int .u8 0, .int .u8 0, .int .u8 0, .int .u8 0, .int .u8 0, .int .u8 0, .int .u8 0, .int .u8 0, .int .u8 0, .int .u8 0, .int .u8 0] := rfl
  have hl : (v :: 0 :: k :: x).length = 3 + 32 := by simp [hx]
  have hch := chain_any z16 z16_len z16_lt A1 cap1 (v :: 0 :: k :: x) (fun y hy => by
    simp only [List.mem_cons] at hy
    rcases hy with rfl | rfl | rfl | h
    · exact hv
    · decide
    · exact hk
    · exact HB.out y h) (by rw [hl]; decide) w3 (by rw [hl]; exact HSL.out) HNL.out
  rw [hz16, hl] at hch
  refine hch.mono ?_
  rintro e w4 ⟨rfl, hx4⟩
  have HX4 := Lib.hid (HX3.out.trans0 hx4)
  clear hx4 hch
  obtain ⟨CA, hCA⟩ : ∃ CA, CA = (u8s (chain z16 (v :: 0 :: k :: x))).toArray := ⟨_, rfl⟩
  rw [← hCA]
  have hsz : CA.size = 16 := by rw [hCA]; simp [u8s_len, chain_len]
  have H1C : Hid (∀ v ∈ CA, v.oneCell' = true) := by show ∀ v ∈ CA, _; rw [hCA]; simpa using u8s_one (chain z16 (v :: 0 :: k :: x))
  have HCA := Lib.hid hCA
  have HE := Lib.hid (H1.out.ex HX4.out not_false)
  clear hCA hz16
  go_wp2_with (refine wpList_store_all rfl 28 (.tmp 6) (.tmp 18) rfl b1 rfl CA _ rfl 28 HE.out (by rw [hsz]; rfl) H1C.out (by rw [hsz]; kernel_rfl) ?_)
  refine bodyPost_ret (results_cell_row rfl _ _ b1 _ _ _ _ rfl (setRow_heap _ _ _ _ _ _ HE.out) Try.underlying28 rfl (by rw [hsz]; kernel_rfl)) rfl ?_
  exact ⟨by rw [HCA.out]; rfl, (HX.out.trans0 HX4.out).trans (ex_setRow _ _ _) (fun _ _ h => h) (fun i hi h => by have := E1.out; omega)⟩

set_option maxRecDepth 100000 in
set_option maxHeartbeats 1000000 in
theorem rleaf61_any (v k : Nat) (hv : v < 256) (hk : k < 256) (x : List Nat) (hx : x.length = 32) (hb : ∀ y ∈ x, y < 256) (w : World) :
    Calls Try.prog 14 #[.int .i64 v, .int .i64 k, .agg (u8s x).toArray] w fun e w' => e = .returned (.agg (u8s (leafS v k x)).toArray) ∧ Ex0 w w' := by
  obtain ⟨i0, hi0, hz0, hz1, hz2⟩ := info_parts infoU8
  obtain ⟨PA, hPA⟩ : ∃ PA, PA = (u8s x).toArray := ⟨_, rfl⟩
  rw [← hPA]
  have HPA := Lib.hid hPA
  have HB := Lib.hid hb
  clear hPA hb
  have hk8 : (k : Int) / 256 = 0 := by omega
  have hkm : (k : Int) % 256 = (k : Int) := by omega
  have hvm : (v : Int) % 256 = (v : Int) := by omega
  have hsl : ∀ w', (Instr.sliceAt 24 (.pointer (some ⟨w.heap.size, 0, none⟩)) none none none).run Try.prog w' = .ok (.slice (some ⟨w.heap.size, 0, none⟩) 32 32) w' :=
    run_sliceAt_whole (P := Try.prog) Try.underlying24 (by kernel_rfl) w.heap.size 0 (by decide)
  go_enter Try.func14, Try.ntmps14
  iterate 9 go_step
  generalize hW : World.alloc (World.alloc w _) _ = W
  have h0 : W8 W w.heap.size 24 x := by rw [← hW]; subst HPA; exact heap_alloc2_old w _ _
  have h1 : W8 W (w.heap.size + 1) 28 (List.replicate 16 0) := by rw [← hW]; exact heap_alloc2_new w _ _
  have hx2 : Ex0 w W := by rw [← hW]; exact (Ex.alloc _ _).alloc' _
  obtain ⟨b0, e0⟩ : ∃ b, b = w.heap.size := ⟨_, rfl⟩
  obtain ⟨b1, e1⟩ : ∃ b, b = w.heap.size + 1 := ⟨_, rfl⟩
  rw [← e1] at h1
  rw [← e0] at h0 hsl
  rw [← e1, ← e0]
  have H0 := Lib.hid h0
  have H1 := Lib.hid h1
  have HX := Lib.hid hx2
  have E0 := Lib.hid e0
  have E1 := Lib.hid e1
  clear hW h0 h1 hx2 e0 e1
  have hs0 : Hid (Sl (W.alloc (.cells #[.int .u8 v, .int .u8 0, .int .u8 k] 5)) 1 (some ⟨b0, 0, none⟩) 32 (u8s x)) := by
    have := sl_block (H0.out.ex (Ex.alloc W (.cells #[.int .u8 v, .int .u8 0, .int .u8 k] 5)) not_false) (sz := 1) (n := 32) (by simp [u8s_len, hx]) (by decide)
    show Sl _ _ _ _ _
    simpa using this
  go_wp2_with (refine wpList_append_sl rfl (.tmp 20) (.tmp 21) 58 rfl _ 5 i0 _ 1 1 Try.underlying58 hi0 hz0 hz1 hz2 rfl (by decide) (.slice (some ⟨W.heap.size, 0, none⟩) 3 3) 3 [.int .u8 v, .int .u8 0, .int .u8 k] rfl ⟨by simp, .inr ⟨_, 3, _, rfl, Nat.le_refl _, heap_alloc_new W _, Nat.le_refl _, by decide, by simp, by simp⟩⟩ (some ⟨b0, 0, none⟩) 32 32 (u8s x) rfl hs0.out (fun h => by cases h) (u8s_one _) (by decide) (by decide) (by simp) ?_; intro v3 w3 ho3 hg3 hb3; have HX3 : Hid (Ex0 W w3) := ex_of_new (Ex.alloc _ _) hg3 (fun b hb => by cases hb; exact Nat.le_refl _); obtain ⟨A1, cap1, rfl, hsl1, _, hnl1⟩ := own_sl' ho3; have HSL := Lib.hid hsl1; have HNL := Lib.hid hnl1; clear ho3 hg3 hb3 hsl1 hnl1)
  have hz16 : (u8s z16).toArray = #[.int .u8 0, .int .u8 0, .int .u8 0, .int .u8 0, .int .u8 0, .int .u8 0, .int .u8 0, .int .u8 0, .int .u8 0, .int .u8 0, .int .u8 0, .int .u8 0, .int .u8 0, .int .u8 0, .int .u8 0, .int .u8 0] := rfl
  have hl : (v :: 0 :: k :: x).length = 3 + 32 := by simp [hx]
  have hch := rchain_any z16 z16_len z16_lt A1 cap1 (v :: 0 :: k :: x) (fun y hy => by
    simp only [List.mem_cons] at hy
    rcases hy with rfl | rfl | rfl | h
    · exact hv
    · decide
    · exact hk
    · exact HB.out y h) (by rw [hl]; decide) w3 (by rw [hl]; exact HSL.out) HNL.out
  rw [hz16, hl] at hch
  refine hch.mono ?_
  rintro e w4 ⟨rfl, hx4⟩
  have HX4 := Lib.hid (HX3.out.trans0 hx4)
  clear hx4 hch
  obtain ⟨CA, hCA⟩ : ∃ CA, CA = (u8s (chain z16 (v :: 0 :: k :: x))).toArray := ⟨_, rfl⟩
  rw [← hCA]
  have hsz : CA.size = 16 := by rw [hCA]; simp [u8s_len, chain_len]
  have H1C : Hid (∀ v ∈ CA, v.oneCell' = true) := by show ∀ v ∈ CA, _; rw [hCA]; simpa using u8s_one (chain z16 (v :: 0 :: k :: x))
  have HCA := Lib.hid hCA
  have HE := Lib.hid (H1.out.ex HX4.out not_false)
  clear hCA hz16
  go_wp2_with (refine wpList_store_all rfl 28 (.tmp 6) (.tmp 23) rfl b1 rfl CA _ rfl 28 HE.out (by rw [hsz]; rfl) H1C.out (by rw [hsz]; kernel_rfl) ?_)
  refine bodyPost_ret (results_cell_row rfl _ _ b1 _ _ _ _ rfl (setRow_heap _ _ _ _ _ _ HE.out) Try.underlying28 rfl (by rw [hsz]; kernel_rfl)) rfl ?_
  exact ⟨by rw [HCA.out]; rfl, (HX.out.trans0 HX4.out).trans (ex_setRow _ _ _) (fun _ _ h => h) (fun i hi h => by have := E1.out; omega)⟩

theorem there_any (v n : Int) (w : World) :
    Calls Try.prog 22 #[.int .i64 v, .int .i64 n] w fun e w' => e = .returned (.bool (fitsB v n)) ∧ w = w' := by
  by_cases h1 : 1 ≤ v
  · by_cases h2 : v ≤ 8
    · by_cases h3 : 1 ≤ n
      · by_cases h4 : n ≤ 256
        · have HF : Hid (fitsB v n = true) := by show _ = _; simp [fitsB, h1, h2, h3, h4]
          go_enter Try.func22, Try.ntmps22
          go_wp2
          go_ret
          exact ⟨ret_bool (by rw [HF.out]), rfl⟩
        · have HF : Hid (fitsB v n = false) := by show _ = _; simp [fitsB, h4]
          go_enter Try.func22, Try.ntmps22
          go_wp2
          go_ret
          exact ⟨ret_bool (by rw [HF.out]), rfl⟩
      · have HF : Hid (fitsB v n = false) := by show _ = _; simp [fitsB, h3]
        go_enter Try.func22, Try.ntmps22
        go_wp2
        go_ret
        exact ⟨ret_bool (by rw [HF.out]), rfl⟩
    · have HF : Hid (fitsB v n = false) := by show _ = _; simp [fitsB, h2]
      go_enter Try.func22, Try.ntmps22
      go_wp2
      go_ret
      exact ⟨ret_bool (by rw [HF.out]), rfl⟩
  · have HF : Hid (fitsB v n = false) := by show _ = _; simp [fitsB, h1]
    go_enter Try.func22, Try.ntmps22
    go_wp2
    go_ret
    exact ⟨ret_bool (by rw [HF.out]), rfl⟩

theorem fits_any (v n : Int) (w : World) :
    Calls Try.prog 10 #[.int .i64 v, .int .i64 n] w fun e w' => e = .returned (.bool (fitsB v n)) ∧ w = w' := by
  by_cases h1 : 1 ≤ v
  · by_cases h2 : v ≤ 8
    · by_cases h3 : 1 ≤ n
      · by_cases h4 : n ≤ 256
        · have HF : Hid (fitsB v n = true) := by show _ = _; simp [fitsB, h1, h2, h3, h4]
          go_enter Try.func10, Try.ntmps10
          go_wp2
          go_ret
          exact ⟨ret_bool (by rw [HF.out]), rfl⟩
        · have HF : Hid (fitsB v n = false) := by show _ = _; simp [fitsB, h4]
          go_enter Try.func10, Try.ntmps10
          go_wp2
          go_ret
          exact ⟨ret_bool (by rw [HF.out]), rfl⟩
      · have HF : Hid (fitsB v n = false) := by show _ = _; simp [fitsB, h3]
        go_enter Try.func10, Try.ntmps10
        go_wp2
        go_ret
        exact ⟨ret_bool (by rw [HF.out]), rfl⟩
    · have HF : Hid (fitsB v n = false) := by show _ = _; simp [fitsB, h2]
      go_enter Try.func10, Try.ntmps10
      go_wp2
      go_ret
      exact ⟨ret_bool (by rw [HF.out]), rfl⟩
  · have HF : Hid (fitsB v n = false) := by show _ = _; simp [fitsB, h1]
    go_enter Try.func10, Try.ntmps10
    go_wp2
    go_ret
    exact ⟨ret_bool (by rw [HF.out]), rfl⟩

def placeB (v n a b : Int) : Bool := fitsB v n && decide (0 ≤ a ∧ a < v ∧ 0 ≤ b ∧ b < n)
theorem place_yes (v n a b : Int) (h : placeB v n a b = true) (w : World) :
    Calls Try.prog 32 #[.int .i64 v, .int .i64 n, .int .i64 a, .int .i64 b] w fun e w' => e = .returned (.tuple #[.int .i64 (n * a + b), .bool true]) ∧ w = w' := by
  simp only [placeB, Bool.and_eq_true, decide_eq_true_eq] at h
  obtain ⟨hf, h1, h2, h3, h4⟩ := h
  have HF := Lib.hid hf
  have hb := hf
  simp only [fitsB, decide_eq_true_eq] at hb
  obtain ⟨b1, b2, b3, b4⟩ := hb
  have hm1 : 0 ≤ n * a := Int.mul_nonneg (by omega) h1
  have hm2 : n * a ≤ 256 * 8 := Int.mul_le_mul b4 (by omega) (by omega) (by omega)
  clear hf
  go_enter Try.func32, Try.ntmps32
  go_wp2_with (refine (there_any _ _ _).mono ?_; rintro e w' ⟨rfl, rfl⟩; rw [HF.out])
  go_ret2
  exact ⟨rfl, rfl⟩
theorem place_no (v n a b : Int) (h : placeB v n a b = false) (w : World) :
    Calls Try.prog 32 #[.int .i64 v, .int .i64 n, .int .i64 a, .int .i64 b] w fun e w' => e = .returned (.tuple #[.int .i64 0, .bool false]) ∧ w = w' := by
  cases hf : fitsB v n
  · have HF := Lib.hid hf
    clear hf h
    go_enter Try.func32, Try.ntmps32
    go_wp2_with (refine (there_any _ _ _).mono ?_; rintro e w' ⟨rfl, rfl⟩; rw [HF.out])
    go_ret2
    exact ⟨rfl, rfl⟩
  · have HF := Lib.hid hf
    simp only [placeB, hf, Bool.true_and, decide_eq_false_iff_not] at h
    clear hf
    by_cases h1 : 0 ≤ a
    · by_cases h2 : a < v
      · by_cases h3 : 0 ≤ b
        · have h4 : ¬ b < n := fun h4 => h ⟨h1, h2, h3, h4⟩
          clear h
          go_enter Try.func32, Try.ntmps32
          go_wp2_with (refine (there_any _ _ _).mono ?_; rintro e w' ⟨rfl, rfl⟩; rw [HF.out])
          go_ret2
          exact ⟨rfl, rfl⟩
        · clear h
          go_enter Try.func32, Try.ntmps32
          go_wp2_with (refine (there_any _ _ _).mono ?_; rintro e w' ⟨rfl, rfl⟩; rw [HF.out])
          go_ret2
          exact ⟨rfl, rfl⟩
      · clear h
        go_enter Try.func32, Try.ntmps32
        go_wp2_with (refine (there_any _ _ _).mono ?_; rintro e w' ⟨rfl, rfl⟩; rw [HF.out])
        go_ret2
        exact ⟨rfl, rfl⟩
    · clear h
      go_enter Try.func32, Try.ntmps32
      go_wp2_with (refine (there_any _ _ _).mono ?_; rintro e w' ⟨rfl, rfl⟩; rw [HF.out])
      go_ret2
      exact ⟨rfl, rfl⟩
end Go.Proofs.Ythbdmfbjkkmplaa
