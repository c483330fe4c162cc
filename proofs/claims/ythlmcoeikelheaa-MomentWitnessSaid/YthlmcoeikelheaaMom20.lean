/- Layer 28: the law MomentWitness, the walk. -/
import Derived.Test.YthlmcoeikelheaaMom14
import Derived.Test.YthlmcoeikelheaaMom19
namespace Go.Proofs.Ythlmcoeikelheaa
open Go.RowKit Go.Proofs.YthlmcoeikelheaaB Go.Shelf

set_option maxRecDepth 100000 in
set_option maxHeartbeats 8000000 in
theorem witness_walk (A : Option Addr) (n cap : Nat) (l : List DeedM) (num gone win gap : Int) (hwin : win ≤ 9223372036854775807) (w : World) (hl : Sl w 3 A n (l.flatMap DeedM.cells)) :
    Calls Try.prog 6 #[.slice A n cap, .int .u64 num, .int .u64 gone, .int .i64 win, .int .i64 gap] w fun e w' => e = .returned (.bool true) ∧ Below w.heap.size w w' := by
  have hm := hl.small
  have hln : l.length = n := by have := hl.len; rw [flat_len DeedM.cells 3 DeedM.len] at this; omega
  go_enter Try.func6, Try.ntmps6
  go_wp2_with fail
  refine (awake_any _).mono ?_
  rintro e w1 ⟨rfl, hx1⟩
  have hl1 := hl.ex0 hx1
  have HX1 := Lib.hid hx1
  clear hx1 hl
  by_cases h60 : 40 < n
  · go_wp2
    go_ret
    exact ⟨rfl, HX1.out.below (Nat.le_refl _) (fun _ h => h.elim)⟩
  have h60' : (n : Int) ≤ 40 := by omega
  go_wp2_with fail
  refine (new_any w1).mono ?_
  rintro e w2 ⟨rfl, hT2, hx2⟩
  have T0 := Both.start hT2 hx2
  generalize hp : w1.heap.size = p at T0 ⊢
  clear hx2 hT2 hp
  go_wp2
  go_loopw [13] (fun i wr => ∃ k : Nat, k ≤ n ∧ i = .int .i64 k ∧ (moms (l.take k)).length ≤ k ∧ ∃ v d, Both w1 p w2.heap.size v d (moms (l.take k)) wr) (fun i _ => n - (intOf i).toNat)
  case atStart => exact ⟨0, Nat.zero_le _, rfl, Nat.le_refl _, _, _, T0⟩
  case round =>
    clear T0
    obtain ⟨k, hk, rfl, hlen, v, d, hT⟩ := hrel
    by_cases hlt : k < n
    · obtain ⟨g, off, hkl, rfl, hr⟩ := (hl1.below (by decide) hT.bel).row DeedM.len (by decide) (by omega)
      have hsn := moms_take l k hkl
      have hsl := step_len (moms (l.take k)) l[k]
      rw [← hsn] at hsl
      have HS := Lib.hid hsn
      have HL := Lib.hid (show (moms (l.take (k + 1))).length ≤ k + 1 by omega)
      clear hsn hsl
      generalize moms (l.take k) = s at *
      generalize hgs : moms (l.take (k + 1)) = s2 at *
      generalize l[k] = dd at *
      obtain ⟨kind, dn, dm⟩ := dd
      unfold DeedM.cells at hr
      have hi0' : (0 : Int) ≤ (k : Int) := Int.natCast_nonneg _
      have hi1 : (k : Int) < (n : Int) := by omega
      have HT := Lib.hid hT
      have HG := Lib.hid hgs
      clear hT hgs
      go_wp2_with (first | (refine wpList_load_at rfl _ _ rfl _ rfl _ _ hr Try.underlying35 rfl (by kernel_rfl) ?_))
      refine (do_any w1 p w2.heap.size v d s ⟨kind, dn, dm⟩ _ HT.out (by omega)).mono ?_
      rintro e w3 ⟨rfl, v', d', hB'⟩
      have HB := Lib.hid hB'
      clear hB'
      go_wp2
      go_roundw
      case rel => exact ⟨k + 1, by omega, by go_num, by rw [HG.out]; exact ⟨HL.out, v', d', by rw [HS.out]; exact HB.out⟩⟩
      case measure => simp [intOf]; omega
    · have HT := Lib.hid hT
      have hs60 : (moms (l.take k)).length ≤ 40 := by omega
      generalize moms (l.take k) = s at *
      clear hT hlen
      go_wp2_with fail
      refine (closes_any p v s num win _ HT.out.T HT.out.ok hwin).mono ?_
      rintro e w3 ⟨rfl, hx⟩
      have HT3 := Lib.hid (HT.out.ex0 hx)
      clear hx HT
      go_wp2_with fail
      refine (quiet_any p v s num gap _ HT3.out.T HT3.out.ok).mono ?_
      rintro e w4 ⟨rfl, hx⟩
      have HT4 := Lib.hid (HT3.out.ex0 hx)
      clear hx HT3
      go_wp2_with fail
      refine (next_any p v s num _ HT4.out.T HT4.out.ok).mono ?_
      rintro e w5 ⟨rfl, hx⟩
      have HT5 := Lib.hid (HT4.out.ex0 hx)
      clear hx HT4
      by_cases hgn : gone = num
      · have hq : (gone == num) = true := by rw [beq_iff_eq]; exact hgn
        clear hgn
        go_wp2
        go_ret
        exact ⟨rfl, (HX1.out.trans (exOfBelow HT5.out.bel) (U := fun b => w1.heap.size ≤ b) (fun _ _ h => h.elim) (fun _ _ h => h)).below (Nat.le_refl _) (fun i e => by have := HX1.out.size; omega)⟩
      have hq : (gone == num) = false := by rw [beq_eq_false_iff_ne]; exact hgn
      have HGN := Lib.hid hgn
      clear hgn
      by_cases hnx : nextB num s = true ∧ gone = nextN num s
      · obtain ⟨hb, hg⟩ := hnx
        have hq2 : (gone == nextN num s) = true := by rw [beq_iff_eq]; exact hg
        clear hg
        go_wp2
        go_ret
        exact ⟨rfl, (HX1.out.trans (exOfBelow HT5.out.bel) (U := fun b => w1.heap.size ≤ b) (fun _ _ h => h.elim) (fun _ _ h => h)).below (Nat.le_refl _) (fun i e => by have := HX1.out.size; omega)⟩
      have HW := Lib.hid (fun h0 => witness_tells HT5.out.ok (num := num) (gone := gone) HGN.out hnx h0 win gap)
      have hq2 : nextB num s = true → (gone == nextN num s) = false := fun h => by rw [beq_eq_false_iff_ne]; exact fun e => hnx ⟨h, e⟩
      have HQ2 := Lib.hid hq2
      clear hnx hq2
      cases hb : nextB num s
      all_goals
        have hq3 : nextB num s = true → (gone == nextN num s) = false := HQ2.out
        simp only [hb, forall_const, Bool.false_eq_true, false_imp_iff] at hq3
        have HB := Lib.hid hb
        clear hb
        go_wp2_with fail
        clear hq3
        refine (release_any p v s gone _ HT5.out.T HT5.out.ok).mono ?_
        rintro e w6 hp6
        obtain ⟨v6, rfl, hM6⟩ := (show Mine w1 p v s w5 from ⟨HT5.out.T, ⟨HT5.out.ge.1, HT5.out.ge.2.2⟩, HT5.out.bel⟩).post hp6
        have HM6 := Lib.hid hM6
        have HOK6 := Lib.hid (ok_rel (num := gone) HT5.out.ok)
        clear hM6 hp6
        go_wp2_with fail
        refine (drop_any p v6 _ gone _ HM6.out.T HOK6.out).mono ?_
        rintro e w7 hp7
        obtain ⟨v7, rfl, hM7⟩ := HM6.out.post hp7
        have HM7 := Lib.hid hM7
        have HOK7 := Lib.hid (ok_drop (num := gone) HOK6.out)
        clear hM7 hp7
        by_cases h0 : dropE gone (relL gone s) = 0
        · have hw := Lib.hid (HW.out h0)
          have hne : (dropE gone (relL gone s) != 0) = false := by rw [h0]; rfl
          clear h0
          go_wp2_with fail
          refine (closes_any p v7 _ num win _ HM7.out.T HOK7.out hwin).mono ?_
          rintro e w8 ⟨rfl, hx⟩
          rw [hw.out.1]
          have HM8 := Lib.hid (HM7.out.ex0 hx)
          clear hx
          have hee : (closesB num win s == closesB num win s) = true := by simp
          have hee2 : (quietB num gap s == quietB num gap s) = true := by simp
          go_wp2_with fail
          refine (quiet_any p v7 _ num gap _ HM8.out.T HOK7.out).mono ?_
          rintro e w9 ⟨rfl, hx⟩
          rw [hw.out.2]
          have HM9 := Lib.hid (HM8.out.ex0 hx)
          clear hx
          go_wp2
          go_ret
          exact ⟨rfl, (HX1.out.trans (exOfBelow HM9.out.bel) (U := fun b => w1.heap.size ≤ b) (fun _ _ h => h.elim) (fun _ _ h => h)).below (Nat.le_refl _) (fun i e => by have := HX1.out.size; omega)⟩
        · have hne : (dropE gone (relL gone s) != 0) = true := by rw [bne_iff_ne]; exact h0
          clear h0
          go_wp2
          go_ret
          exact ⟨rfl, (HX1.out.trans (exOfBelow HM7.out.bel) (U := fun b => w1.heap.size ≤ b) (fun _ _ h => h.elim) (fun _ _ h => h)).below (Nat.le_refl _) (fun i e => by have := HX1.out.size; omega)⟩
end Go.Proofs.Ythlmcoeikelheaa
