/- Layer 28: the law MomentWindows, the walk. -/
import Derived.Test.YthlmcoeikelheaaMom14
import Derived.Test.YthlmcoeikelheaaMom23
namespace Go.Proofs.Ythlmcoeikelheaa
open Go.RowKit Go.Proofs.YthlmcoeikelheaaB Go.Shelf

set_option maxRecDepth 100000 in
set_option maxHeartbeats 8000000 in
theorem windows_walk (A : Option Addr) (n cap : Nat) (l : List DeedM) (win0 : Int) (hw0 : 0 ≤ win0) (hw255 : win0 ≤ 255) (w : World) (hl : Sl w 3 A n (l.flatMap DeedM.cells)) :
    Calls Try.prog 4 #[.slice A n cap, .int .u8 win0] w fun e w' => e = .returned (.bool true) ∧ Below w.heap.size w w' := by
  have hm := hl.small
  have hln : l.length = n := by have := hl.len; rw [flat_len DeedM.cells 3 DeedM.len] at this; omega
  go_enter Try.func4, Try.ntmps4
  go_wp2_with fail
  refine (awake_any _).mono ?_
  rintro e w1 ⟨rfl, hx1⟩
  have hl1 := hl.ex0 hx1
  have HX1 := Lib.hid hx1
  clear hx1 hl
  by_cases h60 : 40 < n
  · go_wp2
    go_ret
    exact ⟨rfl, HX1.out.below (Nat.le_refl _) (fun _ h => h.elim)⟩
  have h60' : (n : Int) ≤ 40 := by omega
  go_wp2_with fail
  refine (new_any w1).mono ?_
  rintro e w2 ⟨rfl, hT2, hx2⟩
  have T0 := Both.start hT2 hx2
  generalize hp : w1.heap.size = p at T0 ⊢
  clear hx2 hT2 hp
  go_wp2
  go_loopw [8] (fun i wr => ∃ k : Nat, k ≤ n ∧ i = .int .i64 k ∧ (moms (l.take k)).length ≤ k ∧ ∃ v d, Both w1 p w2.heap.size v d (moms (l.take k)) wr) (fun i _ => n - (intOf i).toNat)
  case atStart => exact ⟨0, Nat.zero_le _, rfl, Nat.le_refl _, _, _, T0⟩
  case round =>
    clear T0
    obtain ⟨k, hk, rfl, hlen, v, d, hT⟩ := hrel
    by_cases hlt : k < n
    · obtain ⟨g, off, hkl, rfl, hr⟩ := (hl1.below (by decide) hT.bel).row DeedM.len (by decide) (by omega)
      have hsn := moms_take l k hkl
      have hsl := step_len (moms (l.take k)) l[k]
      rw [← hsn] at hsl
      have HS := Lib.hid hsn
      have HL := Lib.hid (show (moms (l.take (k + 1))).length ≤ k + 1 by omega)
      clear hsn hsl
      generalize moms (l.take k) = s at *
      generalize hgs : moms (l.take (k + 1)) = s2 at *
      generalize l[k] = dd at *
      obtain ⟨kind, dn, dm⟩ := dd
      unfold DeedM.cells at hr
      have hi0' : (0 : Int) ≤ (k : Int) := Int.natCast_nonneg _
      have hi1 : (k : Int) < (n : Int) := by omega
      have HT := Lib.hid hT
      have HG := Lib.hid hgs
      clear hT hgs
      go_wp2_with (first | (refine wpList_load_at rfl _ _ rfl _ rfl _ _ hr Try.underlying35 rfl (by kernel_rfl) ?_))
      refine (do_any w1 p w2.heap.size v d s ⟨kind, dn, dm⟩ _ HT.out (by omega)).mono ?_
      rintro e w3 ⟨rfl, v', d', hB'⟩
      have HB := Lib.hid hB'
      clear hB'
      go_wp2
      go_roundw
      case rel => exact ⟨k + 1, by omega, by go_num, by rw [HG.out]; exact ⟨HL.out, v', d', by rw [HS.out]; exact HB.out⟩⟩
      case measure => simp [intOf]; omega
    · have HT := Lib.hid hT
      have hs60 : (moms (l.take k)).length ≤ 40 := by omega
      generalize moms (l.take k) = s at *
      clear hT hlen
      have hw1 : (1 : Int) ≤ 1 + win0 := by omega
      have hw2 : 1 + win0 ≤ 256 := by omega
      clear hw0 hw255
      generalize 1 + win0 = W at *
      have hW0 : ¬ (W = 0) := by omega
      have HWF := Lib.hid (win_facts (win := W) HT.out.ok hw1)
      have HOK := Lib.hid HT.out.ok
      obtain ⟨n0, n1, n2⟩ := HT.out.D.cells
      clear n1 n2
      go_wp2
      clear n0
      go_loopw [9] (fun i wr => ∃ k : Nat, k ≤ s.length ∧ i = .int .i64 k ∧ Both w1 p w2.heap.size v d s wr) (fun i _ => s.length - (intOf i).toNat)
      case atStart => exact ⟨0, Nat.zero_le _, rfl, HT.out⟩
      case round =>
        obtain ⟨i, hi, rfl, hTo⟩ := hrel
        clear HT
        obtain ⟨n0, n1, n2⟩ := hTo.D.cells
        by_cases hlt : i < s.length
        · have HTo := Lib.hid hTo
          clear hTo n1 n2
          go_wp2
          clear n0
          obtain ⟨wo, rfl⟩ : ∃ wo : World, wo = wr := ⟨_, rfl⟩
          go_loopw [10, 11] (fun c k wr => ∃ q : Nat, q ≤ s.length ∧ k = .int .i64 q ∧ c = .int .i64 (cntW W s i q : Nat) ∧ Both w1 p w2.heap.size v d s wr) (fun _ k _ => s.length - (intOf k).toNat)
          case atStart => exact ⟨0, Nat.zero_le _, rfl, rfl, HTo.out⟩
          case round =>
            obtain ⟨q, hq, rfl, rfl, hT⟩ := hrel
            clear HTo
            obtain ⟨n0, n1, n2⟩ := hT.D.cells
            clear n2
            have HT := Lib.hid hT
            clear hT
            by_cases hlt2 : q < s.length
            · obtain ⟨g, off, hA, hg, hcq⟩ := HT.out.D.sM.one hlt2
              obtain ⟨g2, off2, hA2, hg2, hci⟩ := HT.out.D.sM.one hlt
              obtain ⟨g3, off3, hA3, hg3, hnq⟩ := HT.out.D.sN.one hlt2
              rw [hA] at hA2
              cases hA2
              rw [hA] at n1
              rw [hA3] at n0
              have hr1 := gt_rng HOK.out hlt2
              have hr2 := gt_rng HOK.out hlt
              rw [gt_get hlt2] at hr1
              rw [gt_get hlt] at hr2
              have hsw : sameW W s i q = (s[q].min / W == s[i].min / W) := by unfold sameW; rw [gt_get hlt, gt_get hlt2]
              have hcl : clB W s i q = (sameW W s i q && closesB s[q].num W s) := by unfold clB; rw [gt_get hlt2]
              have hcs : cntW W s i (q + 1) = cntW W s i q + (if clB W s i q then 1 else 0) := rfl
              have hge := HWF.out.ge i q hlt hlt2
              have hcle := cnt_le W s i q
              have HSW := Lib.hid hsw
              have HCL := Lib.hid hcl
              have HCS := Lib.hid hcs
              have HGE := Lib.hid hge
              clear hsw hcl hcs hge hA hA3 hg hg2 hg3
              generalize cntW W s i q = c at *
              generalize s[q].min = y at *
              generalize s[i].min = z at *
              generalize s[q].num = m at *
              obtain ⟨hy1, hy2, hy3, hy4⟩ := hr1
              obtain ⟨_, _, hz3, hz4⟩ := hr2
              have ht1 : y.tdiv W = y / W := Int.tdiv_eq_ediv_of_nonneg hy3
              have ht2 : z.tdiv W = z / W := Int.tdiv_eq_ediv_of_nonneg hz3
              have ht3 : IntKind.i64.wrap (y / W) = y / W := wrapdiv hy3 hy4 hw1
              have ht4 : IntKind.i64.wrap (z / W) = z / W := wrapdiv hz3 hz4 hw1
              have hi0 : (0 : Int) ≤ (i : Int) := Int.natCast_nonneg _
              have hi1 : (i : Int) < (s.length : Int) := by omega
              have hq0 : (0 : Int) ≤ (q : Int) := Int.natCast_nonneg _
              have hq1 : (q : Int) < (s.length : Int) := by omega
              cases heq : (y / W == z / W)
              · have HE := Lib.hid heq
                go_wp2
                go_quiet (fail)
                go_wp2
                go_roundw
                case rel => exact ⟨q + 1, by omega, by go_num, by rw [HCS.out, HCL.out, HSW.out, HE.out]; rfl, HT.out.ex0 ((Ex.refl _ _).drewN' _)⟩
                case measure => simp [intOf]; omega
              · have HE := Lib.hid heq
                go_wp2
                cases hcb : closesB m W s
                all_goals
                  have HCB := Lib.hid hcb
                  clear hcb
                  go_region_held3 (fun w' => w'.cell? ⟨w2.heap.size, 0, none⟩ = some (.slice (some ⟨g3, off3, none⟩) s.length d.cN) ∧ w'.cell? ⟨w2.heap.size, 1, none⟩ = some (.slice (some ⟨g, off, none⟩) s.length d.cM) ∧ w'.cell? ⟨g, off + q, none⟩ = some (.int .i64 y) ∧ w'.cell? ⟨g, off + i, none⟩ = some (.int .i64 z) ∧ w'.cell? ⟨g3, off3 + q, none⟩ = some (.int .u64 m))
                    (first | go_keep | exact ⟨hx'.out.cellS n0 not_false, hx'.out.cellS n1 not_false, hx'.out.cellS hcq not_false, hx'.out.cellS hci not_false, hx'.out.cellS hnq not_false⟩)
                    (first | (go_at_call 16; refine (closes_any p v s m W _ (HT.out.T.ex0 (Ex.drew _)) HOK.out (by omega)).mono ?_; rintro e w4 ⟨rfl, hx4⟩; rw [HCB.out]; have hx' := Lib.hid hx4; clear hx4))
                · go_wp2
                  go_roundw
                  case rel => exact ⟨q + 1, by omega, by go_num, by rw [HCS.out, HCL.out, HSW.out, HE.out, HCB.out]; rfl, (HT.out.ex0 (Ex.drew _)).ex0 hx'.out⟩
                  case measure => simp [intOf]; omega
                · have hiq : i ≤ q := HGE.out (by rw [HCL.out, HSW.out, HE.out, HCB.out]; rfl)
                  go_wp2
                  go_roundw
                  case rel => exact ⟨q + 1, by omega, by go_num, by rw [HCS.out, HCL.out, HSW.out, HE.out, HCB.out]; rfl, (HT.out.ex0 (Ex.drew _)).ex0 hx'.out⟩
                  case measure => simp [intOf]; omega
            · have hqn : q = s.length := by omega
              subst hqn
              rw [HWF.out.one i hlt]
              obtain ⟨g3, off3, hA3, hg3, hni⟩ := HT.out.D.sN.one hlt
              rw [hA3] at n0
              have h2w := HWF.out.twice i hlt
              rw [gt_get hlt] at h2w
              have H2W := Lib.hid h2w
              clear h2w hA3 n1
              generalize s[i].num = m at *
              have hi0 : (0 : Int) ≤ (i : Int) := Int.natCast_nonneg _
              have hi1 : (i : Int) < (s.length : Int) := by omega
              go_wp2_with fail
              refine (closes_any p v s m (2 * W) _ HT.out.T HOK.out (by omega)).mono ?_
              rintro e w4 ⟨rfl, hx4⟩
              have n0' := hx4.cellS n0 not_false
              have hni' := hx4.cellS hni not_false
              have HT4 := Lib.hid (HT.out.ex0 hx4)
              clear hx4 HT n0 hni
              cases hc2 : closesB m (2 * W) s
              · have HC2 := Lib.hid hc2
                clear hc2
                go_wp2
                go_roundw
                case rel => exact ⟨i + 1, by omega, by go_num, HT4.out⟩
                case measure => simp [intOf]; omega
              · have HC2 := Lib.hid hc2
                have HC1 := Lib.hid (H2W.out hc2)
                clear hc2
                go_wp2_with fail
                refine (closes_any p v s m W _ HT4.out.T HOK.out (by omega)).mono ?_
                rintro e w5 ⟨rfl, hx5⟩
                rw [HC1.out]
                have HT5 := Lib.hid (HT4.out.ex0 hx5)
                clear hx5
                go_wp2
                go_roundw
                case rel => exact ⟨i + 1, by omega, by go_num, HT5.out⟩
                case measure => simp [intOf]; omega
        · have HTo := Lib.hid hTo
          clear hTo n1 n2
          go_wp2
          go_ret
          exact ⟨rfl, (HX1.out.trans (exOfBelow HTo.out.bel) (U := fun b => w1.heap.size ≤ b) (fun _ _ h => h.elim) (fun _ _ h => h)).below (Nat.le_refl _) (fun i e => by have := HX1.out.size; omega)⟩
end Go.Proofs.Ythlmcoeikelheaa
