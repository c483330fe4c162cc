/- Layer 28: the law MomentParts, the walk. -/
import Derived.Test.YthlmcoeikelheaaMom32
import Derived.Test.YthlmcoeikelheaaMom14
namespace Go.Proofs.Ythlmcoeikelheaa
open Go.RowKit Go.Proofs.YthlmcoeikelheaaB Go.Shelf

theorem moms_more (l : List It) (l2 : List DeedM) (k : Nat) (hk : k < l2.length) : (l2.take (k + 1)).foldl momStep l = momStep ((l2.take k).foldl momStep l) l2[k] := by
  rw [List.take_succ_eq_append_getElem hk, List.foldl_append]; rfl

set_option maxRecDepth 100000 in
set_option maxHeartbeats 8000000 in
theorem parts_walk (A : Option Addr) (n cap : Nat) (l : List DeedM) (A2 : Option Addr) (m cap2 : Nat) (l2 : List DeedM) (num mn : Int) (w : World) (hl : Sl w 3 A n (l.flatMap DeedM.cells)) (hl2 : Sl w 3 A2 m (l2.flatMap DeedM.cells)) :
    Calls Try.prog 11 #[.slice A n cap, .slice A2 m cap2, .int .u64 num, .int .i64 mn] w fun e w' => e = .returned (.bool true) ∧ Below w.heap.size w w' := by
  have hm := hl.small
  have hm2 := hl2.small
  have hln : l.length = n := by have := hl.len; rw [flat_len DeedM.cells 3 DeedM.len] at this; omega
  have hln2 : l2.length = m := by have := hl2.len; rw [flat_len DeedM.cells 3 DeedM.len] at this; omega
  go_enter Try.func11, Try.ntmps11
  go_wp2_with fail
  refine (awake_any _).mono ?_
  rintro e w1 ⟨rfl, hx1⟩
  have hl1 := hl.ex0 hx1
  have hl21 := hl2.ex0 hx1
  have HX1 := Lib.hid hx1
  clear hx1 hl hl2
  by_cases h30 : 30 < n
  · go_wp2
    go_ret
    exact ⟨rfl, HX1.out.below (Nat.le_refl _) (fun _ h => h.elim)⟩
  by_cases h302 : 30 < m
  · go_wp2
    go_ret
    exact ⟨rfl, HX1.out.below (Nat.le_refl _) (fun _ h => h.elim)⟩
  have h30' : (n : Int) ≤ 30 := by omega
  have h302' : (m : Int) ≤ 30 := by omega
  go_wp2_with fail
  refine (new_any w1).mono ?_
  rintro e w2 ⟨rfl, hT2, hx2⟩
  have T0 := Both.start hT2 hx2
  generalize hp : w1.heap.size = p at T0 ⊢
  obtain ⟨w3, hw3⟩ : ∃ w3, w3 = w2.alloc (.cells #[.slice none 0 0, .slice none 0 0, .slice none 0 0] 32) := ⟨_, rfl⟩
  have HW3 := Lib.hid hw3
  rw [← hw3] at T0
  clear hx2 hT2 hp hw3
  go_wp2_with fail
  rw [← HW3.out]
  refine (new_any w3).mono ?_
  rintro e w4 ⟨rfl, hT4, hx4⟩
  have U0 := (Both.start hT4 hx4).base T0.bel
  have T4 := (T0.ex0 hx4).ex0 (Ex.alloc w4 (.cells #[.slice none 0 0, .slice none 0 0, .slice none 0 0] 32))
  have hs24 : w2.heap.size < w3.heap.size := by rw [HW3.out]; simp
  have hs34 := hx4.size
  have F0 : Four w1 p w2.heap.size (.slice none 0 0) ⟨none, none, none, 0, 0, 0⟩ [] w3.heap.size w4.heap.size (.slice none 0 0) ⟨none, none, none, 0, 0, 0⟩ [] (w4.alloc (.cells #[.slice none 0 0, .slice none 0 0, .slice none 0 0] 32)) := ⟨T4, U0, fun b hb hb2 => by
    have h1 := T0.T.lt
    have h2 := T0.D.lt
    rcases hb with e | e | e | e
    · rcases hb2 with f | f | f | f
      · omega
      · simp [Value.ownBlock] at f
      · omega
      · simp [Bld, Bl] at f
    · simp [Value.ownBlock] at e
    · rcases hb2 with f | f | f | f
      · omega
      · simp [Value.ownBlock] at f
      · omega
      · simp [Bld, Bl] at f
    · simp [Bld, Bl] at e⟩
  have FF := Lib.hid F0
  clear F0 U0 T4 T0 hT4 hx4 hs24 hs34 HW3
  generalize w3.heap.size = u at FF ⊢
  go_wp2
  generalize w4.heap.size = ux at FF ⊢
  go_loopw [13] (fun i wr => ∃ k : Nat, k ≤ n ∧ i = .int .i64 k ∧ (moms (l.take k)).length ≤ k ∧ ∃ v d v2 d2, Four w1 p w2.heap.size v d (moms (l.take k)) u ux v2 d2 (moms (l.take k)) wr) (fun i _ => n - (intOf i).toNat)
  case atStart => exact ⟨0, Nat.zero_le _, rfl, Nat.le_refl _, _, _, _, _, FF.out⟩
  case round =>
    clear FF
    obtain ⟨k, hk, rfl, hlen, v, d, v2, d2, hT⟩ := hrel
    by_cases hlt : k < n
    · obtain ⟨g, off, hkl, rfl, hr⟩ := (hl1.below (by decide) hT.A.bel).row DeedM.len (by decide) (by omega)
      have hgl := hl1.lt (by omega) (by decide) g rfl
      have hr1 : RowAt w1 ⟨g, off + k * 3, none⟩ l[k].cells := by
        obtain ⟨g', off', hkl', hA, hr'⟩ := hl1.row DeedM.len (by decide) (show k < n by omega)
        cases hA; exact hr'
      have hsn := moms_take l k hkl
      have hsl := step_len (moms (l.take k)) l[k]
      rw [← hsn] at hsl
      have HS := Lib.hid hsn
      have HL := Lib.hid (show (moms (l.take (k + 1))).length ≤ k + 1 by omega)
      clear hsn hsl
      generalize moms (l.take k) = s at *
      generalize hgs : moms (l.take (k + 1)) = s2 at *
      generalize l[k] = dd at *
      obtain ⟨kind, dn, dm⟩ := dd
      unfold DeedM.cells at hr hr1
      have hi0' : (0 : Int) ≤ (k : Int) := Int.natCast_nonneg _
      have hi1 : (k : Int) < (n : Int) := by omega
      have HT := Lib.hid hT
      have HG := Lib.hid hgs
      clear hT hgs
      go_wp2_with (first | (refine wpList_load_at rfl _ _ rfl _ rfl _ _ hr Try.underlying35 rfl (by kernel_rfl) ?_))
      refine (do2_any w1 p w2.heap.size v d s ⟨kind, dn, dm⟩ _ HT.out.A (by omega)).mono ?_
      rintro e w5 hp5
      obtain ⟨rfl, v', d', hF5⟩ := HT.out.deed hp5
      have hr5 : RowAt w5 ⟨g, off + k * 3, none⟩ [.int .i64 kind, .int .u64 dn, .int .i64 dm] := hr1.ex (exOfBelow hF5.A.bel) (by show ¬ w1.heap.size ≤ g; omega)
      have HF5 := Lib.hid hF5.swap
      clear hF5 hp5 hr
      go_wp2_with (first | (refine wpList_load_at rfl _ _ rfl _ rfl _ _ hr5 Try.underlying35 rfl (by kernel_rfl) ?_))
      refine (do2_any w1 u ux v2 d2 s ⟨kind, dn, dm⟩ _ HF5.out.A (by omega)).mono ?_
      rintro e w6 hp6
      obtain ⟨rfl, v2', d2', hF6⟩ := HF5.out.deed hp6
      have HF6 := Lib.hid hF6.swap
      clear hF6 hp6 hr5
      go_wp2
      go_roundw
      case rel => exact ⟨k + 1, by omega, by go_num, by rw [HG.out]; exact ⟨HL.out, v', d', v2', d2', by rw [HS.out]; exact HF6.out⟩⟩
      case measure => simp [intOf]; omega
    · have HT := Lib.hid hT
      have hs60 : (moms (l.take k)).length ≤ 30 := by omega
      generalize moms (l.take k) = s at *
      clear hT hlen
      go_wp2_with fail
      refine (clone_any p v s _ HT.out.A.T (by omega)).mono ?_
      rintro e w5 ⟨pc, vc, rfl, hpc, hvc, hTc, hx5⟩
      have hC : Both w1 pc w2.heap.size vc d s w5 := by
        have hA := HT.out.A.ex0 hx5
        have hsz := HT.out.A.bel.size
        refine ⟨hTc, hA.D, hA.ok, fun b hb hc => ?_, ⟨by omega, hA.ge.2.1, fun b hb => by have := hvc b hb; omega⟩, hA.bel⟩
        have hlt := HT.out.A.lt (b := b) (by rcases hb with h | h; exact .inr (.inr (.inl h)); exact .inr (.inr (.inr h)))
        rcases hc with h | h
        · omega
        · have := hvc b h; omega
      have hF : Four w1 pc w2.heap.size vc d s u ux v2 d2 s w5 := ⟨hC, HT.out.B.ex0 hx5, fun b hb hb2 => by
        have hlt := HT.out.B.lt hb2
        rcases hb with e | e | e | e
        · omega
        · have := hvc b e; omega
        · exact HT.out.dj b (.inr (.inr (.inl e))) hb2
        · exact HT.out.dj b (.inr (.inr (.inr e))) hb2⟩
      have FF := Lib.hid hF
      clear hF hC hTc hx5 hpc hvc HT
      go_wp2
      go_loopw [15] (fun i wr => ∃ k : Nat, k ≤ m ∧ i = .int .i64 k ∧ ((l2.take k).foldl momStep s).length ≤ 30 + k ∧ ∃ v d v2 d2, Four w1 pc w2.heap.size v d ((l2.take k).foldl momStep s) u ux v2 d2 ((l2.take k).foldl momStep s) wr) (fun i _ => m - (intOf i).toNat)
      case atStart => exact ⟨0, Nat.zero_le _, rfl, hs60, _, _, _, _, FF.out⟩
      case round =>
        clear FF
        obtain ⟨q, hq, rfl, hlen, v, d, v2, d2, hT⟩ := hrel
        by_cases hlt2 : q < m
        · obtain ⟨g, off, hkl, rfl, hr⟩ := (hl21.below (by decide) hT.A.bel).row DeedM.len (by decide) (show q < m by omega)
          have hgl := hl21.lt (by omega) (by decide) g rfl
          have hr1 : RowAt w1 ⟨g, off + q * 3, none⟩ l2[q].cells := by
            obtain ⟨g', off', hkl', hA, hr'⟩ := hl21.row DeedM.len (by decide) (show q < m by omega)
            cases hA; exact hr'
          have hsn := moms_more s l2 q hkl
          have hsl := step_len ((l2.take q).foldl momStep s) l2[q]
          rw [← hsn] at hsl
          have HS := Lib.hid hsn
          have HL := Lib.hid (show ((l2.take (q + 1)).foldl momStep s).length ≤ 30 + (q + 1) by omega)
          clear hsn hsl
          generalize (l2.take q).foldl momStep s = s1 at *
          generalize hgs : (l2.take (q + 1)).foldl momStep s = s2 at *
          generalize l2[q] = dd at *
          obtain ⟨kind, dn, dm⟩ := dd
          unfold DeedM.cells at hr hr1
          have hi0' : (0 : Int) ≤ (q : Int) := Int.natCast_nonneg _
          have hi1 : (q : Int) < (m : Int) := by omega
          have HT := Lib.hid hT.swap
          have HG := Lib.hid hgs
          clear hT hgs
          go_wp2_with (first | (refine wpList_load_at rfl _ _ rfl _ rfl _ _ hr Try.underlying35 rfl (by kernel_rfl) ?_))
          refine (do2_any w1 u ux v2 d2 s1 ⟨kind, dn, dm⟩ _ HT.out.A (by omega)).mono ?_
          rintro e w6 hp6
          obtain ⟨rfl, v2', d2', hF6⟩ := HT.out.deed hp6
          have hr6 : RowAt w6 ⟨g, off + q * 3, none⟩ [.int .i64 kind, .int .u64 dn, .int .i64 dm] := hr1.ex (exOfBelow hF6.A.bel) (by show ¬ w1.heap.size ≤ g; omega)
          have HF6 := Lib.hid hF6.swap
          clear hF6 hp6 hr
          go_wp2_with (first | (refine wpList_load_at rfl _ _ rfl _ rfl _ _ hr6 Try.underlying35 rfl (by kernel_rfl) ?_))
          refine (do2_any w1 pc w2.heap.size v d s1 ⟨kind, dn, dm⟩ _ HF6.out.A (by omega)).mono ?_
          rintro e w7 hp7
          obtain ⟨rfl, v', d', hF7⟩ := HF6.out.deed hp7
          have HF7 := Lib.hid hF7
          clear hF7 hp7 hr6
          go_wp2
          go_roundw
          case rel => exact ⟨q + 1, by omega, by go_num, by rw [HG.out]; exact ⟨HL.out, v', d', v2', d2', by rw [HS.out]; exact HF7.out⟩⟩
          case measure => simp [intOf]; omega
        · generalize (l2.take q).foldl momStep s = s1 at *
          have HT := Lib.hid hT
          clear hT
          go_wp2_with fail
          refine (same_any pc ux v d2 s1 _ HT.out.A.T HT.out.B.D HT.out.A.ok).mono ?_
          rintro e w6 ⟨rfl, hx⟩
          have HT6 := Lib.hid (HT.out.ex0 hx)
          clear hx HT
          go_wp2_with fail
          refine (same_any u ux v2 d2 s1 _ HT6.out.B.T HT6.out.B.D HT6.out.B.ok).mono ?_
          rintro e w7 ⟨rfl, hx⟩
          have HT7 := Lib.hid (HT6.out.ex0 hx)
          clear hx HT6
          go_wp2_with fail
          refine (at_any pc v s1 mn _ HT7.out.A.T HT7.out.A.ok).mono ?_
          rintro e w8 ⟨rfl, hx⟩
          have HT8 := Lib.hid (HT7.out.ex0 hx)
          clear hx HT7
          go_wp2_with fail
          refine (at_any u v2 s1 mn _ HT8.out.B.T HT8.out.B.ok).mono ?_
          rintro e w9 ⟨rfl, hx⟩
          have HT9 := Lib.hid (HT8.out.ex0 hx)
          clear hx HT8
          have hq1 : (atN mn s1 == atN mn s1) = true := by simp
          have hq2 : ((atN mn s1 != 0) == (atN mn s1 != 0)) = true := by simp
          go_wp2_with fail
          refine (closes_any pc v s1 num 7 _ HT9.out.A.T HT9.out.A.ok (by omega)).mono ?_
          rintro e w10 ⟨rfl, hx⟩
          have HT10 := Lib.hid (HT9.out.ex0 hx)
          clear hx HT9
          go_wp2_with fail
          refine (closes_any u v2 s1 num 7 _ HT10.out.B.T HT10.out.B.ok (by omega)).mono ?_
          rintro e w11 ⟨rfl, hx⟩
          have HT11 := Lib.hid (HT10.out.ex0 hx)
          clear hx HT10
          have hq3 : (closesB num 7 s1 == closesB num 7 s1) = true := by simp
          go_wp2_with fail
          refine (quiet_any pc v s1 num 3 _ HT11.out.A.T HT11.out.A.ok).mono ?_
          rintro e w12 ⟨rfl, hx⟩
          have HT12 := Lib.hid (HT11.out.ex0 hx)
          clear hx HT11
          go_wp2_with fail
          refine (quiet_any u v2 s1 num 3 _ HT12.out.B.T HT12.out.B.ok).mono ?_
          rintro e w13 ⟨rfl, hx⟩
          have HT13 := Lib.hid (HT12.out.ex0 hx)
          clear hx HT12
          have hq4 : (quietB num 3 s1 == quietB num 3 s1) = true := by simp
          go_wp2
          go_ret
          exact ⟨rfl, (HX1.out.trans (exOfBelow HT13.out.A.bel) (U := fun b => w1.heap.size ≤ b) (fun _ _ h => h.elim) (fun _ _ h => h)).below (Nat.le_refl _) (fun i e => by have := HX1.out.size; omega)⟩
end Go.Proofs.Ythlmcoeikelheaa
