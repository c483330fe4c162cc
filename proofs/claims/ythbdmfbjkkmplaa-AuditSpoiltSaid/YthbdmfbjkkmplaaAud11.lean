/- Contracts of layer 61: the document's roots (printed by genaud11.py). -/
import Derived.Test.YthbdmfbjkkmplaaAud8
namespace Go.Proofs.Ythbdmfbjkkmplaa
open Go.RowKit Go.Proofs.YthbdmfbjkkmplaaB Go.Proofs.Ythbdmfbjkkmplaa.Sha

theorem y_int (x m : Nat) : IntKind.u64.wrap ((x : Int) + IntKind.u64.wrap (2 ^ m)) = (((x + 2 ^ m) % 18446744073709551616 : Nat) : Int) := by
  simp only [wrap64]
  rw [Int.add_emod_emod]
  simp
theorem tmod_nat (y k : Nat) : (y : Int).tmod k = ((y % k : Nat) : Int) := by rw [Int.tmod_eq_emod_of_nonneg (by omega)]; simp
theorem tdiv_nat (y k : Nat) : (y : Int).tdiv k = ((y / k : Nat) : Int) := by rw [Int.tdiv_eq_ediv_of_nonneg (by omega)]; simp
theorem wrap_nat {y : Nat} (h : y < 18446744073709551616) : IntKind.u64.wrap (y : Int) = (y : Int) := by rw [wrap64]; omega
theorem dig1 (y : Nat) : (y : Int).tmod 65536 = ((y % 65536 : Nat) : Int) := tmod_nat y 65536
theorem dig2 {y : Nat} (h : y < 18446744073709551616) : IntKind.u64.wrap ((y : Int).tdiv 65536) = ((y / 65536 : Nat) : Int) := by
  have := tdiv_nat y 65536
  rw [show (65536 : Int) = ((65536 : Nat) : Int) from rfl, this]; exact wrap_nat (by omega)


set_option maxRecDepth 100000 in
set_option maxHeartbeats 2000000 in
theorem root2_any (p : Nat) (hp : p < 1000) (w : World) :
    Calls Try.prog 61 #[.int .i64 p, .int .i64 2] w fun e w' => e = .returned (.int .u32 (rootN p 2 : Nat)) ∧ Ex0 w w' := by
  obtain ⟨Z, hZ⟩ : ∃ Z, Z = (u64s (List.replicate 5 0)).toArray := ⟨_, rfl⟩
  have hmk : ∀ w, (Instr.makeSlice 102 (.int .i64 5) (.int .i64 5)).run Try.prog w = .ok (.slice (some ⟨w.heap.size, 0, none⟩) 5 5) (w.alloc (.cells Z 92)) := fun w => by rw [hZ]; exact run_make64 5 (by decide) w
  have hW0 : Hid (W64 (w.alloc (.cells Z 92)) w.heap.size 92 (List.replicate 5 0)) := by show _ = _; rw [hZ]; exact heap_alloc_new _ _
  have HZ := Lib.hid hZ
  clear hZ
  have c0 := hW0.out.cell (j := 4) (by decide)
  have f0 := hW0.out.frozen 4
  go_enter Try.func61, Try.ntmps61
  go_wp2_with fail
  have h1 : W64 (w.alloc (.cells (Z.setIfInBounds 4 (.int .u64 p)) 92)) w.heap.size 92 (goalN p 2) := by
    unfold W64; rw [heap_alloc_new, HZ.out]; rfl
  have hx1 : Ex0 w (w.alloc (.cells (Z.setIfInBounds 4 (.int .u64 p)) 92)) := Ex.alloc w _
  generalize w.alloc (.cells (Z.setIfInBounds 4 (.int .u64 p)) 92) = W at h1 hx1 ⊢
  obtain ⟨g, hg⟩ : ∃ g, g = w.heap.size := ⟨_, rfl⟩
  rw [← hg] at h1 ⊢
  have H1 := Lib.hid h1
  have HX1 := Lib.hid hx1
  clear h1 hx1 hg c0 f0 hmk hW0
  go_loopw [7, 8, 9, 10, 11] (fun x b _ _ _ wr => ∃ k : Nat, k ≤ 37 ∧ b = .int .i64 (36 - (k : Int)) ∧ x = .int .u64 (rootS p 2 k : Nat) ∧ Ex0 W wr) (fun _ b _ _ _ _ => (intOf b + 1).toNat)
  case atStart => exact ⟨0, by omega, rfl, rfl, Ex.refl _ _⟩
  case round =>
    obtain ⟨k, hk, rfl, rfl, hxr⟩ := hrel
    have HXR := Lib.hid hxr
    clear hxr
    by_cases hlt : k < 37
    · obtain ⟨m, hm⟩ : ∃ m, m = 36 - k := ⟨_, rfl⟩
      have em : (36 : Int) - (k : Int) = (m : Int) := by omega
      have hm36 : m ≤ 36 := by omega
      obtain ⟨x, hx⟩ : ∃ x, x = rootS p 2 k := ⟨_, rfl⟩
      obtain ⟨Y, hY⟩ : ∃ Y, Y = (x + 2 ^ m) % 18446744073709551616 := ⟨_, rfl⟩
      have hYl : Y < 18446744073709551616 := by rw [hY]; exact Nat.mod_lt _ (by decide)
      have HYI : Hid (IntKind.u64.wrap ((x : Int) + IntKind.u64.wrap (2 ^ m)) = (Y : Int)) := by rw [hY]; exact y_int x m
      have HS : Hid (rootS p 2 (k + 1) = if aboveN (timesN (digits Y) (digits Y)) (goalN p 2) = true then x else Y) := by
        show _ = _
        simp only [rootS, rootStep, ← hx, ← hm, ← hY]
        rfl
      have HY2 := Lib.hid (dig2 hYl)
      have HY3 := Lib.hid (dig2 (y := Y / 65536) (by omega))
      rw [← hx]
      clear hx hm hY
      go_wp2_with fail
      simp only [HYI.out, HY2.out, HY3.out, dig1]
      change Calls _ _ _ (wr.alloc (.cells (u64s (digits Y)).toArray 92)) _
      obtain ⟨gd, hgd⟩ : ∃ gd, gd = wr.heap.size := ⟨_, rfl⟩
      have hd : W64 (wr.alloc (.cells (u64s (digits Y)).toArray 92)) gd 92 (digits Y) := by rw [hgd]; exact heap_alloc_new _ _
      have hxd : Ex0 wr (wr.alloc (.cells (u64s (digits Y)).toArray 92)) := Ex.alloc _ _
      rw [← hgd]
      generalize wr.alloc (.cells (u64s (digits Y)).toArray 92) = wd at hd hxd ⊢
      have HRD := Lib.hid hd.row
      have HLD := Lib.hid hd.lt
      have HXD := Lib.hid hxd
      clear hd hxd hgd
      refine (times_any gd 0 3 gd 0 3 (digits Y) (digits Y) (by simp [digits]) (by simp [digits]) _ HRD.out HRD.out HLD.out HLD.out).mono ?_
      rintro e w3 ⟨g2, rfl, hg2, hw2, hx2⟩
      have HW2 := Lib.hid hw2
      have HX1 := Lib.hid hx2
      clear hg2 hw2 hx2
      have hl6 : (timesN (digits Y) (digits Y)).length = 6 := by rw [timesN_len]; rfl
      rw [hl6]
      go_wp2_with fail
      have HA := above_any g2 0 6 g 0 5 (timesN (digits Y) (digits Y)) (goalN p 2) (by rw [hl6]; decide) (by simp [goalN]) _ HW2.out.row ((((H1.out.ex HXR.out not_false).ex HXD.out not_false).ex HX1.out not_false).row)
      rw [hl6, show (goalN p 2).length = 5 from by simp [goalN]] at HA
      refine HA.mono ?_
      rintro e w5 ⟨rfl, rfl⟩
      clear HA
      cases hab : aboveN (timesN (digits Y) (digits Y)) (goalN p 2)
      all_goals
        rw [hab] at HS
        have HAB := Lib.hid hab
        clear hab
        go_wp2
        go_roundw
        case rel =>
          refine ⟨k + 1, by omega, by go_num, ?_, (HXR.out.trans0 HXD.out).trans0 HX1.out⟩
          rw [HS.out]; simp
        case measure => simp [intOf] <;> omega
    · obtain rfl : k = 37 := by omega
      have HRN : Hid (rootN p 2 = rootS p 2 37 % 4294967296) := rfl
      generalize rootS p 2 37 = x at HRN ⊢
      go_wp2
      go_ret
      exact ⟨ret_int (by rw [HRN.out]; simp), HX1.out.trans0 HXR.out⟩

set_option maxRecDepth 100000 in
set_option maxHeartbeats 2000000 in
theorem root3_any (p : Nat) (hp : p < 1000) (w : World) :
    Calls Try.prog 61 #[.int .i64 p, .int .i64 3] w fun e w' => e = .returned (.int .u32 (rootN p 3 : Nat)) ∧ Ex0 w w' := by
  obtain ⟨Z, hZ⟩ : ∃ Z, Z = (u64s (List.replicate 7 0)).toArray := ⟨_, rfl⟩
  have hmk : ∀ w, (Instr.makeSlice 102 (.int .i64 7) (.int .i64 7)).run Try.prog w = .ok (.slice (some ⟨w.heap.size, 0, none⟩) 7 7) (w.alloc (.cells Z 92)) := fun w => by rw [hZ]; exact run_make64 7 (by decide) w
  have hW0 : Hid (W64 (w.alloc (.cells Z 92)) w.heap.size 92 (List.replicate 7 0)) := by show _ = _; rw [hZ]; exact heap_alloc_new _ _
  have HZ := Lib.hid hZ
  clear hZ
  have c0 := hW0.out.cell (j := 6) (by decide)
  have f0 := hW0.out.frozen 6
  go_enter Try.func61, Try.ntmps61
  go_wp2_with fail
  have h1 : W64 (w.alloc (.cells (Z.setIfInBounds 6 (.int .u64 p)) 92)) w.heap.size 92 (goalN p 3) := by
    unfold W64; rw [heap_alloc_new, HZ.out]; rfl
  have hx1 : Ex0 w (w.alloc (.cells (Z.setIfInBounds 6 (.int .u64 p)) 92)) := Ex.alloc w _
  generalize w.alloc (.cells (Z.setIfInBounds 6 (.int .u64 p)) 92) = W at h1 hx1 ⊢
  obtain ⟨g, hg⟩ : ∃ g, g = w.heap.size := ⟨_, rfl⟩
  rw [← hg] at h1 ⊢
  have H1 := Lib.hid h1
  have HX1 := Lib.hid hx1
  clear h1 hx1 hg c0 f0 hmk hW0
  go_loopw [7, 8, 9, 10, 11] (fun x b _ _ _ wr => ∃ k : Nat, k ≤ 37 ∧ b = .int .i64 (36 - (k : Int)) ∧ x = .int .u64 (rootS p 3 k : Nat) ∧ Ex0 W wr) (fun _ b _ _ _ _ => (intOf b + 1).toNat)
  case atStart => exact ⟨0, by omega, rfl, rfl, Ex.refl _ _⟩
  case round =>
    obtain ⟨k, hk, rfl, rfl, hxr⟩ := hrel
    have HXR := Lib.hid hxr
    clear hxr
    by_cases hlt : k < 37
    · obtain ⟨m, hm⟩ : ∃ m, m = 36 - k := ⟨_, rfl⟩
      have em : (36 : Int) - (k : Int) = (m : Int) := by omega
      have hm36 : m ≤ 36 := by omega
      obtain ⟨x, hx⟩ : ∃ x, x = rootS p 3 k := ⟨_, rfl⟩
      obtain ⟨Y, hY⟩ : ∃ Y, Y = (x + 2 ^ m) % 18446744073709551616 := ⟨_, rfl⟩
      have hYl : Y < 18446744073709551616 := by rw [hY]; exact Nat.mod_lt _ (by decide)
      have HYI : Hid (IntKind.u64.wrap ((x : Int) + IntKind.u64.wrap (2 ^ m)) = (Y : Int)) := by rw [hY]; exact y_int x m
      have HS : Hid (rootS p 3 (k + 1) = if aboveN (timesN (timesN (digits Y) (digits Y)) (digits Y)) (goalN p 3) = true then x else Y) := by
        show _ = _
        simp only [rootS, rootStep, ← hx, ← hm, ← hY]
        rfl
      have HY2 := Lib.hid (dig2 hYl)
      have HY3 := Lib.hid (dig2 (y := Y / 65536) (by omega))
      rw [← hx]
      clear hx hm hY
      go_wp2_with fail
      simp only [HYI.out, HY2.out, HY3.out, dig1]
      change Calls _ _ _ (wr.alloc (.cells (u64s (digits Y)).toArray 92)) _
      obtain ⟨gd, hgd⟩ : ∃ gd, gd = wr.heap.size := ⟨_, rfl⟩
      have hd : W64 (wr.alloc (.cells (u64s (digits Y)).toArray 92)) gd 92 (digits Y) := by rw [hgd]; exact heap_alloc_new _ _
      have hxd : Ex0 wr (wr.alloc (.cells (u64s (digits Y)).toArray 92)) := Ex.alloc _ _
      rw [← hgd]
      generalize wr.alloc (.cells (u64s (digits Y)).toArray 92) = wd at hd hxd ⊢
      have HRD := Lib.hid hd.row
      have HLD := Lib.hid hd.lt
      have HXD := Lib.hid hxd
      clear hd hxd hgd
      refine (times_any gd 0 3 gd 0 3 (digits Y) (digits Y) (by simp [digits]) (by simp [digits]) _ HRD.out HRD.out HLD.out HLD.out).mono ?_
      rintro e w3 ⟨g2, rfl, hg2, hw2, hx2⟩
      have HW2 := Lib.hid hw2
      have HX1 := Lib.hid hx2
      clear hg2 hw2 hx2
      have hl6 : (timesN (digits Y) (digits Y)).length = 6 := by rw [timesN_len]; rfl
      rw [hl6]
      go_wp2_with fail
      have HT := times_any g2 0 6 gd 0 3 (timesN (digits Y) (digits Y)) (digits Y) (by rw [timesN_len]; simp [digits]) (by simp [digits]) w3 HW2.out.row (HRD.out.ex HX1.out not_false) HW2.out.lt (Nat.lt_of_lt_of_le HLD.out HX1.out.size)
      rw [hl6] at HT
      refine HT.mono ?_
      rintro e w4 ⟨g3, rfl, hg3, hw3, hx3⟩
      have HW3 := Lib.hid hw3
      have HX1 := Lib.hid (HX1.out.trans0 hx3)
      clear hg3 hw3 hx3 HT
      have hl9 : (timesN (timesN (digits Y) (digits Y)) (digits Y)).length = 9 := by rw [timesN_len, timesN_len]; rfl
      rw [hl9]
      go_wp2_with fail
      have HA := above_any g3 0 9 g 0 7 (timesN (timesN (digits Y) (digits Y)) (digits Y)) (goalN p 3) (by rw [hl9]; decide) (by simp [goalN]) _ HW3.out.row ((((H1.out.ex HXR.out not_false).ex HXD.out not_false).ex HX1.out not_false).row)
      rw [hl9, show (goalN p 3).length = 7 from by simp [goalN]] at HA
      refine HA.mono ?_
      rintro e w5 ⟨rfl, rfl⟩
      clear HA
      cases hab : aboveN (timesN (timesN (digits Y) (digits Y)) (digits Y)) (goalN p 3)
      all_goals
        rw [hab] at HS
        have HAB := Lib.hid hab
        clear hab
        go_wp2
        go_roundw
        case rel =>
          refine ⟨k + 1, by omega, by go_num, ?_, (HXR.out.trans0 HXD.out).trans0 HX1.out⟩
          rw [HS.out]; simp
        case measure => simp [intOf] <;> omega
    · obtain rfl : k = 37 := by omega
      have HRN : Hid (rootN p 3 = rootS p 3 37 % 4294967296) := rfl
      generalize rootS p 3 37 = x at HRN ⊢
      go_wp2
      go_ret
      exact ⟨ret_int (by rw [HRN.out]; simp), HX1.out.trans0 HXR.out⟩
end Go.Proofs.Ythbdmfbjkkmplaa
