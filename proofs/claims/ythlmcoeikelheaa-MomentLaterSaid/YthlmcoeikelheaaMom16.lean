/- Layer 28: the law MomentLater, the walk. -/
import Derived.Test.YthlmcoeikelheaaMom14
import Derived.Test.YthlmcoeikelheaaMom15
namespace Go.Proofs.Ythlmcoeikelheaa
open Go.RowKit Go.Proofs.YthlmcoeikelheaaB Go.Shelf

set_option maxRecDepth 100000 in
set_option maxHeartbeats 8000000 in
theorem later_walk (A : Option Addr) (n cap : Nat) (l : List DeedM) (num next min win gap : Int) (hwin : win ≤ 9223372036854775807) (w : World) (hl : Sl w 3 A n (l.flatMap DeedM.cells)) :
    Calls Try.prog 5 #[.slice A n cap, .int .u64 num, .int .u64 next, .int .i64 min, .int .i64 win, .int .i64 gap] w fun e w' => e = .returned (.bool true) ∧ Below w.heap.size w w' := by
  have hm := hl.small
  have hln : l.length = n := by have := hl.len; rw [flat_len DeedM.cells 3 DeedM.len] at this; omega
  go_enter Try.func5, Try.ntmps5
  go_wp2_with fail
  refine (awake_any _).mono ?_
  rintro e w1 ⟨rfl, hx1⟩
  have hl1 := hl.ex0 hx1
  have HX1 := Lib.hid hx1
  clear hx1 hl
  by_cases h60 : 40 < n
  · go_wp2
    go_ret
    exact ⟨rfl, HX1.out.below (Nat.le_refl _) (fun _ h => h.elim)⟩
  have h60' : (n : Int) ≤ 40 := by omega
  go_wp2_with fail
  refine (new_any w1).mono ?_
  rintro e w2 ⟨rfl, hT2, hx2⟩
  have T0 := Both.start hT2 hx2
  generalize hp : w1.heap.size = p at T0 ⊢
  clear hx2 hT2 hp
  go_wp2
  go_loopw [15] (fun i wr => ∃ k : Nat, k ≤ n ∧ i = .int .i64 k ∧ (moms (l.take k)).length ≤ k ∧ ∃ v d, Both w1 p w2.heap.size v d (moms (l.take k)) wr) (fun i _ => n - (intOf i).toNat)
  case atStart => exact ⟨0, Nat.zero_le _, rfl, Nat.le_refl _, _, _, T0⟩
  case round =>
    clear T0
    obtain ⟨k, hk, rfl, hlen, v, d, hT⟩ := hrel
    by_cases hlt : k < n
    · obtain ⟨g, off, hkl, rfl, hr⟩ := (hl1.below (by decide) hT.bel).row DeedM.len (by decide) (by omega)
      have hsn := moms_take l k hkl
      have hsl := step_len (moms (l.take k)) l[k]
      rw [← hsn] at hsl
      have HS := Lib.hid hsn
      have HL := Lib.hid (show (moms (l.take (k + 1))).length ≤ k + 1 by omega)
      clear hsn hsl
      generalize moms (l.take k) = s at *
      generalize hgs : moms (l.take (k + 1)) = s2 at *
      generalize l[k] = dd at *
      obtain ⟨kind, dn, dm⟩ := dd
      unfold DeedM.cells at hr
      have hi0' : (0 : Int) ≤ (k : Int) := Int.natCast_nonneg _
      have hi1 : (k : Int) < (n : Int) := by omega
      have HT := Lib.hid hT
      have HG := Lib.hid hgs
      clear hT hgs
      go_wp2_with (first | (refine wpList_load_at rfl _ _ rfl _ rfl _ _ hr Try.underlying35 rfl (by kernel_rfl) ?_))
      refine (do_any w1 p w2.heap.size v d s ⟨kind, dn, dm⟩ _ HT.out (by omega)).mono ?_
      rintro e w3 ⟨rfl, v', d', hB'⟩
      have HB := Lib.hid hB'
      clear hB'
      go_wp2
      go_roundw
      case rel => exact ⟨k + 1, by omega, by go_num, by rw [HG.out]; exact ⟨HL.out, v', d', by rw [HS.out]; exact HB.out⟩⟩
      case measure => simp [intOf]; omega
    · have HT := Lib.hid hT
      have hs60 : (moms (l.take k)).length ≤ 40 := by omega
      generalize moms (l.take k) = s at *
      clear hT hlen
      go_wp2_with fail
      refine (closes_any p v s num win _ HT.out.T HT.out.ok hwin).mono ?_
      rintro e w3 ⟨rfl, hx3⟩
      have HT3 := Lib.hid (HT.out.ex0 hx3)
      clear hx3
      go_wp2_with fail
      refine (quiet_any p v s num gap _ HT3.out.T HT3.out.ok).mono ?_
      rintro e w4 ⟨rfl, hx4⟩
      have HT4 := Lib.hid (HT3.out.ex0 hx4)
      clear hx4
      by_cases hnn : next = num
      · subst hnn
        have hq : (next == next) = true := by simp
        go_wp2
        go_ret
        exact ⟨rfl, (HX1.out.trans (exOfBelow HT4.out.bel) (U := fun b => w1.heap.size ≤ b) (fun _ _ h => h.elim) (fun _ _ h => h)).below (Nat.le_refl _) (fun i e => by have := HX1.out.size; omega)⟩
      have hq : (next == num) = false := by rw [beq_eq_false_iff_ne]; exact hnn
      have HNN := Lib.hid hnn
      clear hnn
      go_wp2_with fail
      refine (add_any p v s next min _ HT4.out.T HT4.out.ok (by omega)).mono ?_
      rintro e w5 hp5
      obtain ⟨v6, rfl, hM6⟩ := (show Mine w1 p v s w4 from ⟨HT4.out.T, ⟨HT4.out.ge.1, HT4.out.ge.2.2⟩, HT4.out.bel⟩).post hp5
      have HM6 := Lib.hid (show Mine w1 p v6 (addL next min s) w5 from hM6)
      have hok2 := ok_add (num := next) (min := min) HT4.out.ok (show s.length ≤ 900 by omega)
      have HOK2 := Lib.hid hok2
      clear hM6 hok2 hp5
      by_cases h0 : addE next min s = 0
      · have hne : (addE next min s != 0) = false := by rw [h0]; rfl
        have eL : addL next min s = s ++ [⟨next, min, false⟩] := by unfold addL; rw [h0]; rfl
        rw [eL] at HOK2
        have hc := Lib.hid (closesB_later (num := num) (win := win) HT4.out.ok HOK2.out HNN.out)
        have hqt := Lib.hid (quietB_later (num := num) (gap := gap) HT4.out.ok HOK2.out HNN.out)
        rw [eL] at HM6
        clear h0 eL
        have hcb : closesB num win s = false → closesB num win (s ++ [⟨next, min, false⟩]) = false := fun h => by
          cases h2 : closesB num win (s ++ [⟨next, min, false⟩])
          · rfl
          · rw [hc.out h2] at h; cases h
        have hqb : quietB num gap s = false → quietB num gap (s ++ [⟨next, min, false⟩]) = false := fun h => by
          cases h2 : quietB num gap (s ++ [⟨next, min, false⟩])
          · rfl
          · rw [hqt.out h2] at h; cases h
        have HCB := Lib.hid hcb
        have HQB := Lib.hid hqb
        clear hcb hqb
        cases ha : closesB num win s
        all_goals
          cases hb : quietB num gap s
        all_goals
          have HA := Lib.hid ha
          have HBq := Lib.hid hb
          clear ha hb
          go_wp2_with fail
        · refine (closes_any p v6 _ num win _ HM6.out.T HOK2.out hwin).mono ?_
          rintro e w6 ⟨rfl, hx6⟩
          rw [HCB.out HA.out]
          have HM7 := Lib.hid (HM6.out.ex0 hx6)
          clear hx6
          go_wp2_with fail
          refine (quiet_any p v6 _ num gap _ HM7.out.T HOK2.out).mono ?_
          rintro e w7 ⟨rfl, hx7⟩
          rw [HQB.out HBq.out]
          have HM8 := Lib.hid (HM7.out.ex0 hx7)
          clear hx7
          go_wp2
          go_ret
          exact ⟨rfl, (HX1.out.trans (exOfBelow HM8.out.bel) (U := fun b => w1.heap.size ≤ b) (fun _ _ h => h.elim) (fun _ _ h => h)).below (Nat.le_refl _) (fun i e => by have := HX1.out.size; omega)⟩
        · refine (closes_any p v6 _ num win _ HM6.out.T HOK2.out hwin).mono ?_
          rintro e w6 ⟨rfl, hx6⟩
          rw [HCB.out HA.out]
          have HM7 := Lib.hid (HM6.out.ex0 hx6)
          clear hx6
          go_wp2
          go_ret
          exact ⟨rfl, (HX1.out.trans (exOfBelow HM7.out.bel) (U := fun b => w1.heap.size ≤ b) (fun _ _ h => h.elim) (fun _ _ h => h)).below (Nat.le_refl _) (fun i e => by have := HX1.out.size; omega)⟩
        · refine (quiet_any p v6 _ num gap _ HM6.out.T HOK2.out).mono ?_
          rintro e w7 ⟨rfl, hx7⟩
          rw [HQB.out HBq.out]
          have HM8 := Lib.hid (HM6.out.ex0 hx7)
          clear hx7
          go_wp2
          go_ret
          exact ⟨rfl, (HX1.out.trans (exOfBelow HM8.out.bel) (U := fun b => w1.heap.size ≤ b) (fun _ _ h => h.elim) (fun _ _ h => h)).below (Nat.le_refl _) (fun i e => by have := HX1.out.size; omega)⟩
        · go_ret
          exact ⟨rfl, (HX1.out.trans (exOfBelow HM6.out.bel) (U := fun b => w1.heap.size ≤ b) (fun _ _ h => h.elim) (fun _ _ h => h)).below (Nat.le_refl _) (fun i e => by have := HX1.out.size; omega)⟩
      · have hne : (addE next min s != 0) = true := by rw [bne_iff_ne]; exact h0
        clear h0
        go_wp2
        go_ret
        exact ⟨rfl, (HX1.out.trans (exOfBelow HM6.out.bel) (U := fun b => w1.heap.size ≤ b) (fun _ _ h => h.elim) (fun _ _ h => h)).below (Nat.le_refl _) (fun i e => by have := HX1.out.size; omega)⟩
end Go.Proofs.Ythlmcoeikelheaa
