/- Layer 28: the law MomentTells, the walk. -/
import Derived.Test.YthlmcoeikelheaaMom14
import Derived.Test.YthlmcoeikelheaaMom27
namespace Go.Proofs.Ythlmcoeikelheaa
open Go.RowKit Go.Proofs.YthlmcoeikelheaaB Go.Shelf

set_option maxRecDepth 100000 in
set_option maxHeartbeats 8000000 in
theorem tells_walk (A : Option Addr) (n cap : Nat) (l : List DeedM) (num mn : Int) (w : World) (hl : Sl w 3 A n (l.flatMap DeedM.cells)) :
    Calls Try.prog 10 #[.slice A n cap, .int .u64 num, .int .i64 mn] w fun e w' => e = .returned (.bool true) ∧ Below w.heap.size w w' := by
  have hm := hl.small
  have hln : l.length = n := by have := hl.len; rw [flat_len DeedM.cells 3 DeedM.len] at this; omega
  go_enter Try.func10, Try.ntmps10
  go_wp2_with fail
  refine (awake_any _).mono ?_
  rintro e w1 ⟨rfl, hx1⟩
  have hl1 := hl.ex0 hx1
  have HX1 := Lib.hid hx1
  clear hx1 hl
  by_cases h60 : 60 < n
  · go_wp2
    go_ret
    exact ⟨rfl, HX1.out.below (Nat.le_refl _) (fun _ h => h.elim)⟩
  have h60' : (n : Int) ≤ 60 := by omega
  go_wp2_with fail
  refine (new_any w1).mono ?_
  rintro e w2 ⟨rfl, hT2, hx2⟩
  have T0 := Both.start hT2 hx2
  generalize hp : w1.heap.size = p at T0 ⊢
  clear hx2 hT2 hp
  go_wp2
  go_loopw [9] (fun i wr => ∃ k : Nat, k ≤ n ∧ i = .int .i64 k ∧ (moms (l.take k)).length ≤ k ∧ ∃ v d, Both w1 p w2.heap.size v d (moms (l.take k)) wr) (fun i _ => n - (intOf i).toNat)
  case atStart => exact ⟨0, Nat.zero_le _, rfl, Nat.le_refl _, _, _, T0⟩
  case round =>
    clear T0
    obtain ⟨k, hk, rfl, hlen, v, d, hT⟩ := hrel
    by_cases hlt : k < n
    · obtain ⟨g, off, hkl, rfl, hr⟩ := (hl1.below (by decide) hT.bel).row DeedM.len (by decide) (by omega)
      have hsn := moms_take l k hkl
      have hsl := step_len (moms (l.take k)) l[k]
      rw [← hsn] at hsl
      have HS := Lib.hid hsn
      have HL := Lib.hid (show (moms (l.take (k + 1))).length ≤ k + 1 by omega)
      clear hsn hsl
      generalize moms (l.take k) = s at *
      generalize hgs : moms (l.take (k + 1)) = s2 at *
      generalize l[k] = dd at *
      obtain ⟨kind, dn, dm⟩ := dd
      unfold DeedM.cells at hr
      have hi0' : (0 : Int) ≤ (k : Int) := Int.natCast_nonneg _
      have hi1 : (k : Int) < (n : Int) := by omega
      have HT := Lib.hid hT
      have HG := Lib.hid hgs
      clear hT hgs
      go_wp2_with (first | (refine wpList_load_at rfl _ _ rfl _ rfl _ _ hr Try.underlying35 rfl (by kernel_rfl) ?_))
      refine (do_any w1 p w2.heap.size v d s ⟨kind, dn, dm⟩ _ HT.out (by omega)).mono ?_
      rintro e w3 ⟨rfl, v', d', hB'⟩
      have HB := Lib.hid hB'
      clear hB'
      go_wp2
      go_roundw
      case rel => exact ⟨k + 1, by omega, by go_num, by rw [HG.out]; exact ⟨HL.out, v', d', by rw [HS.out]; exact HB.out⟩⟩
      case measure => simp [intOf]; omega
    · have HT := Lib.hid hT
      have hs60 : (moms (l.take k)).length ≤ 60 := by omega
      generalize moms (l.take k) = s at *
      clear hT hlen
      go_wp2_with fail
      refine (min_any p v s num _ HT.out.T HT.out.ok).mono ?_
      rintro e w3 ⟨rfl, hx⟩
      have HT3 := Lib.hid (HT.out.ex0 hx)
      clear hx HT
      go_wp2_with fail
      refine (rfind_any w2.heap.size d s num _ HT3.out.D HT3.out.ok).mono ?_
      rintro e w4 ⟨rfl, hx⟩
      have HT4 := Lib.hid (HT3.out.ex0 hx)
      clear hx HT3
      rcases idxI_cases num s with ⟨hh, hi⟩ | ⟨hh, hi⟩
      · have hm0 := minV_no hh
        rw [hh, hi, hm0]
        clear hh hi hm0
        go_wp2_with fail
        refine (last_any p v s _ HT4.out.T HT4.out.ok).mono ?_
        rintro e w5 ⟨rfl, hx⟩
        rw [last_flag HT4.out.ok]
        have HT5 := Lib.hid (HT4.out.ex0 hx)
        clear hx HT4
        go_wp2_with fail
        refine (at_any p v s mn _ HT5.out.T HT5.out.ok).mono ?_
        rintro e w6 ⟨rfl, hx⟩
        have HT6 := Lib.hid (HT5.out.ex0 hx)
        clear hx HT5
        go_wp2_with fail
        refine (next_any p v s num _ HT6.out.T HT6.out.ok).mono ?_
        rintro e w7 ⟨rfl, hx⟩
        rw [next_flag HT6.out.ok]
        have HT7 := Lib.hid (HT6.out.ex0 hx)
        clear hx HT6
        go_wp2_with fail
        refine (rlast_any w2.heap.size d s _ HT7.out.D HT7.out.ok).mono ?_
        rintro e w8 ⟨rfl, hx⟩
        have HT8 := Lib.hid (HT7.out.ex0 hx)
        clear hx HT7
        go_wp2_with fail
        refine (told_any (lastN s) _).mono ?_
        rintro e _ ⟨rfl, rfl⟩
        go_wp2_with fail
        refine (rat_any w2.heap.size d s mn _ HT8.out.D HT8.out.ok).mono ?_
        rintro e w9 ⟨rfl, hx⟩
        have HT9 := Lib.hid (HT8.out.ex0 hx)
        clear hx HT8
        go_wp2_with fail
        refine (told_any (atN mn s) _).mono ?_
        rintro e _ ⟨rfl, rfl⟩
        go_wp2_with fail
        refine (rnext_any w2.heap.size d s num _ HT9.out.D HT9.out.ok).mono ?_
        rintro e w10 ⟨rfl, hx⟩
        have HTa := Lib.hid (HT9.out.ex0 hx)
        clear hx HT9
        go_wp2_with fail
        refine (told_any (nextN num s) _).mono ?_
        rintro e _ ⟨rfl, rfl⟩
        go_wp2
        go_ret
        exact ⟨rfl, (HX1.out.trans (exOfBelow HTa.out.bel) (U := fun b => w1.heap.size ≤ b) (fun _ _ h => h.elim) (fun _ _ h => h)).below (Nat.le_refl _) (fun i e => by have := HX1.out.size; omega)⟩
      · obtain ⟨hlo, _⟩ := has_get HT4.out.ok.srt hh
        have hme := minV_get hh
        rw [gt_get hlo] at hme
        rw [hh, hi, hme]
        obtain ⟨n0, n1, n2⟩ := HT4.out.D.cells
        obtain ⟨g, off, hA, hg, hcm⟩ := HT4.out.D.sM.one hlo
        rw [hA] at n1
        have hi0 : (0 : Int) ≤ (lo num s : Int) := Int.natCast_nonneg _
        have hi1 : (lo num s : Int) < (s.length : Int) := by omega
        have hi2 : ¬ ((lo num s : Int) < 0) := by omega
        have hmm : (s[lo num s].min != s[lo num s].min) = false := by simp
        clear hh hi hme hA n0 n2
        generalize s[lo num s].min = y at *
        generalize lo num s = q at *
        go_wp2_with fail
        clear n1 hcm hmm
        refine (last_any p v s _ HT4.out.T HT4.out.ok).mono ?_
        rintro e w5 ⟨rfl, hx⟩
        rw [last_flag HT4.out.ok]
        have HT5 := Lib.hid (HT4.out.ex0 hx)
        clear hx HT4
        go_wp2_with fail
        refine (at_any p v s mn _ HT5.out.T HT5.out.ok).mono ?_
        rintro e w6 ⟨rfl, hx⟩
        have HT6 := Lib.hid (HT5.out.ex0 hx)
        clear hx HT5
        go_wp2_with fail
        refine (next_any p v s num _ HT6.out.T HT6.out.ok).mono ?_
        rintro e w7 ⟨rfl, hx⟩
        rw [next_flag HT6.out.ok]
        have HT7 := Lib.hid (HT6.out.ex0 hx)
        clear hx HT6
        go_wp2_with fail
        refine (rlast_any w2.heap.size d s _ HT7.out.D HT7.out.ok).mono ?_
        rintro e w8 ⟨rfl, hx⟩
        have HT8 := Lib.hid (HT7.out.ex0 hx)
        clear hx HT7
        go_wp2_with fail
        refine (told_any (lastN s) _).mono ?_
        rintro e _ ⟨rfl, rfl⟩
        go_wp2_with fail
        refine (rat_any w2.heap.size d s mn _ HT8.out.D HT8.out.ok).mono ?_
        rintro e w9 ⟨rfl, hx⟩
        have HT9 := Lib.hid (HT8.out.ex0 hx)
        clear hx HT8
        go_wp2_with fail
        refine (told_any (atN mn s) _).mono ?_
        rintro e _ ⟨rfl, rfl⟩
        go_wp2_with fail
        refine (rnext_any w2.heap.size d s num _ HT9.out.D HT9.out.ok).mono ?_
        rintro e w10 ⟨rfl, hx⟩
        have HTa := Lib.hid (HT9.out.ex0 hx)
        clear hx HT9
        go_wp2_with fail
        refine (told_any (nextN num s) _).mono ?_
        rintro e _ ⟨rfl, rfl⟩
        go_wp2
        go_ret
        exact ⟨rfl, (HX1.out.trans (exOfBelow HTa.out.bel) (U := fun b => w1.heap.size ≤ b) (fun _ _ h => h.elim) (fun _ _ h => h)).below (Nat.le_refl _) (fun i e => by have := HX1.out.size; omega)⟩
end Go.Proofs.Ythlmcoeikelheaa
