/- Layer 28: the law MomentLast, the walk. -/
import Derived.Test.YthlmcoeikelheaaMom14
import Derived.Test.YthlmcoeikelheaaMom21
namespace Go.Proofs.Ythlmcoeikelheaa
open Go.RowKit Go.Proofs.YthlmcoeikelheaaB Go.Shelf

set_option maxRecDepth 100000 in
set_option maxHeartbeats 8000000 in
theorem last_walk (A : Option Addr) (n cap : Nat) (l : List DeedM) (num : Int) (w : World) (hl : Sl w 3 A n (l.flatMap DeedM.cells)) :
    Calls Try.prog 8 #[.slice A n cap, .int .u64 num] w fun e w' => e = .returned (.bool true) ∧ Below w.heap.size w w' := by
  have hm := hl.small
  have hln : l.length = n := by have := hl.len; rw [flat_len DeedM.cells 3 DeedM.len] at this; omega
  go_enter Try.func8, Try.ntmps8
  go_wp2_with fail
  refine (awake_any _).mono ?_
  rintro e w1 ⟨rfl, hx1⟩
  have hl1 := hl.ex0 hx1
  have HX1 := Lib.hid hx1
  clear hx1 hl
  by_cases h60 : 40 < n
  · go_wp2
    go_ret
    exact ⟨rfl, HX1.out.below (Nat.le_refl _) (fun _ h => h.elim)⟩
  have h60' : (n : Int) ≤ 40 := by omega
  go_wp2_with fail
  refine (new_any w1).mono ?_
  rintro e w2 ⟨rfl, hT2, hx2⟩
  have T0 := Both.start hT2 hx2
  generalize hp : w1.heap.size = p at T0 ⊢
  clear hx2 hT2 hp
  go_wp2
  go_loopw [7] (fun i wr => ∃ k : Nat, k ≤ n ∧ i = .int .i64 k ∧ (moms (l.take k)).length ≤ k ∧ ∃ v d, Both w1 p w2.heap.size v d (moms (l.take k)) wr) (fun i _ => n - (intOf i).toNat)
  case atStart => exact ⟨0, Nat.zero_le _, rfl, Nat.le_refl _, _, _, T0⟩
  case round =>
    clear T0
    obtain ⟨k, hk, rfl, hlen, v, d, hT⟩ := hrel
    by_cases hlt : k < n
    · obtain ⟨g, off, hkl, rfl, hr⟩ := (hl1.below (by decide) hT.bel).row DeedM.len (by decide) (by omega)
      have hsn := moms_take l k hkl
      have hsl := step_len (moms (l.take k)) l[k]
      rw [← hsn] at hsl
      have HS := Lib.hid hsn
      have HL := Lib.hid (show (moms (l.take (k + 1))).length ≤ k + 1 by omega)
      clear hsn hsl
      generalize moms (l.take k) = s at *
      generalize hgs : moms (l.take (k + 1)) = s2 at *
      generalize l[k] = dd at *
      obtain ⟨kind, dn, dm⟩ := dd
      unfold DeedM.cells at hr
      have hi0' : (0 : Int) ≤ (k : Int) := Int.natCast_nonneg _
      have hi1 : (k : Int) < (n : Int) := by omega
      have HT := Lib.hid hT
      have HG := Lib.hid hgs
      clear hT hgs
      go_wp2_with (first | (refine wpList_load_at rfl _ _ rfl _ rfl _ _ hr Try.underlying35 rfl (by kernel_rfl) ?_))
      refine (do_any w1 p w2.heap.size v d s ⟨kind, dn, dm⟩ _ HT.out (by omega)).mono ?_
      rintro e w3 ⟨rfl, v', d', hB'⟩
      have HB := Lib.hid hB'
      clear hB'
      go_wp2
      go_roundw
      case rel => exact ⟨k + 1, by omega, by go_num, by rw [HG.out]; exact ⟨HL.out, v', d', by rw [HS.out]; exact HB.out⟩⟩
      case measure => simp [intOf]; omega
    · have HT := Lib.hid hT
      have hs60 : (moms (l.take k)).length ≤ 40 := by omega
      have hli := lastIn_moms (l.take k)
      generalize moms (l.take k) = s at *
      clear hT hlen
      have HOK := Lib.hid HT.out.ok
      have HLF := Lib.hid (fun h0 => last_facts HT.out.ok hli h0)
      have HNF := Lib.hid (fun h1 h2 h3 => num_facts (num := num) HT.out.ok h1 h2 h3)
      have HM := Lib.hid HT.out.mine
      clear hli HT
      go_wp2_with fail
      refine (last_any p v s _ HM.out.T HOK.out).mono ?_
      rintro e w3 ⟨rfl, hx⟩
      have HM3 := Lib.hid (HM.out.ex0 hx)
      clear hx HM
      by_cases h0 : 0 < s.length
      · have hd : decide (0 < s.length) = true := by simpa using h0
        have HF := Lib.hid (HLF.out h0)
        have hne1 : ((12 : Int) != 12) = false := rfl
        have hne2 : ((7 : Int) != 7) = false := rfl
        clear h0 HLF
        go_wp2_with fail
        refine (out_any p v s (lastN s) _ HM3.out.T HOK.out).mono ?_
        rintro e w4 ⟨rfl, hx⟩
        rw [HF.out.1]
        have HM4 := Lib.hid (HM3.out.ex0 hx)
        clear hx HM3
        go_wp2_with fail
        refine (mrel (p := p) HM4.out HOK.out HF.out.2.1 HF.out.2.2.1).mono ?_
        rintro e w5 ⟨rfl, v5, hM⟩
        have HM5 := Lib.hid hM
        clear hM HM4
        go_wp2_with fail
        refine (mdrop (p := p) HM5.out HOK.out HF.out.2.2.2.1 HF.out.2.2.2.2).mono ?_
        rintro e w6 ⟨rfl, vx, hM⟩
        have HMx := Lib.hid hM
        clear hM HM5
        clear HF
        go_wp2_with fail
        clear hd
        refine (min_any p vx s num _ HMx.out.T HOK.out).mono ?_
        rintro e w7 ⟨rfl, hx⟩
        have HM7 := Lib.hid (HMx.out.ex0 hx)
        clear hx HMx
        cases hh : has num s
        · have HH := Lib.hid hh
          clear hh
          go_wp2
          go_ret
          exact ⟨rfl, (HX1.out.trans (exOfBelow HM7.out.bel) (U := fun b => w1.heap.size ≤ b) (fun _ _ h => h.elim) (fun _ _ h => h)).below (Nat.le_refl _) (fun i e => by have := HX1.out.size; omega)⟩
        have HH := Lib.hid hh
        clear hh
        go_wp2_with fail
        refine (out_any p vx s num _ HM7.out.T HOK.out).mono ?_
        rintro e w8 ⟨rfl, hx⟩
        have HM8 := Lib.hid (HM7.out.ex0 hx)
        clear hx HM7
        cases ho : outB num s
        rotate_left
        · have HO := Lib.hid ho
          clear ho
          go_wp2
          go_ret
          exact ⟨rfl, (HX1.out.trans (exOfBelow HM8.out.bel) (U := fun b => w1.heap.size ≤ b) (fun _ _ h => h.elim) (fun _ _ h => h)).below (Nat.le_refl _) (fun i e => by have := HX1.out.size; omega)⟩
        by_cases hnl : num = lastN s
        · have hq : (num == lastN s) = true := by rw [beq_iff_eq]; exact hnl
          clear hnl ho
          go_wp2
          go_ret
          exact ⟨rfl, (HX1.out.trans (exOfBelow HM8.out.bel) (U := fun b => w1.heap.size ≤ b) (fun _ _ h => h.elim) (fun _ _ h => h)).below (Nat.le_refl _) (fun i e => by have := HX1.out.size; omega)⟩
        have hq : (num == lastN s) = false := by rw [beq_eq_false_iff_ne]; exact hnl
        obtain ⟨s1, s2, hF⟩ := HNF.out HH.out ho hnl
        have F := Lib.hid hF
        have HO := Lib.hid ho
        clear hF ho hnl
        go_wp2_with fail
        refine (len_any p vx s _ HM8.out.T).mono ?_
        rintro e _ ⟨rfl, rfl⟩
        clear hq
        have hne1 : ((7 : Int) != 7) = false := rfl
        have hne2 : ((0 : Int) != 0) = false := rfl
        have hne3 : ((4 : Int) == 4) = true := rfl
        have hne4 : ((s1.length : Int) != (s.length : Int)) = false := by rw [F.out.l1]; simp
        have hne5 : ((s2.length : Int) != (s.length : Int) - 1) = false := by have := F.out.l2; simp; omega
        have hne6 : (minV num s != minV num s) = false := by simp
        go_wp2_with fail
        refine (mdrop (p := p) HM8.out HOK.out F.out.d1 F.out.d2).mono ?_
        rintro e w10 ⟨rfl, v10, hM⟩
        have HM10 := Lib.hid hM
        clear hM HM8
        go_wp2_with fail
        refine (mrel (p := p) HM10.out HOK.out F.out.r1 F.out.r2).mono ?_
        rintro e w11 ⟨rfl, v11, hM⟩
        have HM11 := Lib.hid hM
        clear hM HM10
        go_wp2_with fail
        refine (out_any p v11 s1 num _ HM11.out.T F.out.k1).mono ?_
        rintro e w12 ⟨rfl, hx⟩
        rw [F.out.o1]
        have HM12 := Lib.hid (HM11.out.ex0 hx)
        clear hx HM11
        go_wp2_with fail
        refine (mrel (p := p) HM12.out F.out.k1 F.out.r3 F.out.r4).mono ?_
        rintro e w13 ⟨rfl, v13, hM⟩
        have HM13 := Lib.hid hM
        clear hM HM12
        go_wp2_with fail
        refine (len_any p v13 s1 _ HM13.out.T).mono ?_
        rintro e _ ⟨rfl, rfl⟩
        go_wp2_with fail
        refine (min_any p v13 s1 num _ HM13.out.T F.out.k1).mono ?_
        rintro e w14 ⟨rfl, hx⟩
        rw [F.out.h1, F.out.m1]
        have HM14 := Lib.hid (HM13.out.ex0 hx)
        clear hx HM13
        go_wp2_with fail
        refine (mdrop (p := p) HM14.out F.out.k1 F.out.d3 F.out.d4).mono ?_
        rintro e w15 ⟨rfl, v15, hM⟩
        have HM15 := Lib.hid hM
        clear hM HM14
        go_wp2_with fail
        refine (len_any p v15 s2 _ HM15.out.T).mono ?_
        rintro e _ ⟨rfl, rfl⟩
        go_wp2_with fail
        refine (out_any p v15 s2 num _ HM15.out.T F.out.k2).mono ?_
        rintro e w16 ⟨rfl, hx⟩
        rw [F.out.o2]
        have HM16 := Lib.hid (HM15.out.ex0 hx)
        clear hx HM15
        go_wp2_with fail
        refine (min_any p v15 s2 num _ HM16.out.T F.out.k2).mono ?_
        rintro e w17 ⟨rfl, hx⟩
        rw [F.out.h2]
        have HM17 := Lib.hid (HM16.out.ex0 hx)
        clear hx HM16
        go_wp2_with fail
        refine (mdrop (p := p) HM17.out F.out.k2 F.out.d5 F.out.d6).mono ?_
        rintro e w18 ⟨rfl, v18, hM⟩
        have HM18 := Lib.hid hM
        clear hM HM17
        go_wp2_with fail
        refine (mrel (p := p) HM18.out F.out.k2 F.out.r5 F.out.r6).mono ?_
        rintro e w19 ⟨rfl, v19, hM⟩
        have HM19 := Lib.hid hM
        clear hM HM18
        go_wp2
        go_ret
        exact ⟨rfl, (HX1.out.trans (exOfBelow HM19.out.bel) (U := fun b => w1.heap.size ≤ b) (fun _ _ h => h.elim) (fun _ _ h => h)).below (Nat.le_refl _) (fun i e => by have := HX1.out.size; omega)⟩
      · have hd : decide (0 < s.length) = false := by simpa using h0
        obtain ⟨vx, hvx⟩ : ∃ vx, vx = v := ⟨_, rfl⟩
        have HMx := Lib.hid (show Mine w1 p vx s w3 from by rw [hvx]; exact HM3.out)
        clear h0 HLF HM3 hvx
        go_wp2_with fail
        clear hd
        refine (min_any p vx s num _ HMx.out.T HOK.out).mono ?_
        rintro e w7 ⟨rfl, hx⟩
        have HM7 := Lib.hid (HMx.out.ex0 hx)
        clear hx HMx
        cases hh : has num s
        · have HH := Lib.hid hh
          clear hh
          go_wp2
          go_ret
          exact ⟨rfl, (HX1.out.trans (exOfBelow HM7.out.bel) (U := fun b => w1.heap.size ≤ b) (fun _ _ h => h.elim) (fun _ _ h => h)).below (Nat.le_refl _) (fun i e => by have := HX1.out.size; omega)⟩
        have HH := Lib.hid hh
        clear hh
        go_wp2_with fail
        refine (out_any p vx s num _ HM7.out.T HOK.out).mono ?_
        rintro e w8 ⟨rfl, hx⟩
        have HM8 := Lib.hid (HM7.out.ex0 hx)
        clear hx HM7
        cases ho : outB num s
        rotate_left
        · have HO := Lib.hid ho
          clear ho
          go_wp2
          go_ret
          exact ⟨rfl, (HX1.out.trans (exOfBelow HM8.out.bel) (U := fun b => w1.heap.size ≤ b) (fun _ _ h => h.elim) (fun _ _ h => h)).below (Nat.le_refl _) (fun i e => by have := HX1.out.size; omega)⟩
        by_cases hnl : num = lastN s
        · have hq : (num == lastN s) = true := by rw [beq_iff_eq]; exact hnl
          clear hnl ho
          go_wp2
          go_ret
          exact ⟨rfl, (HX1.out.trans (exOfBelow HM8.out.bel) (U := fun b => w1.heap.size ≤ b) (fun _ _ h => h.elim) (fun _ _ h => h)).below (Nat.le_refl _) (fun i e => by have := HX1.out.size; omega)⟩
        have hq : (num == lastN s) = false := by rw [beq_eq_false_iff_ne]; exact hnl
        obtain ⟨s1, s2, hF⟩ := HNF.out HH.out ho hnl
        have F := Lib.hid hF
        have HO := Lib.hid ho
        clear hF ho hnl
        go_wp2_with fail
        refine (len_any p vx s _ HM8.out.T).mono ?_
        rintro e _ ⟨rfl, rfl⟩
        clear hq
        have hne1 : ((7 : Int) != 7) = false := rfl
        have hne2 : ((0 : Int) != 0) = false := rfl
        have hne3 : ((4 : Int) == 4) = true := rfl
        have hne4 : ((s1.length : Int) != (s.length : Int)) = false := by rw [F.out.l1]; simp
        have hne5 : ((s2.length : Int) != (s.length : Int) - 1) = false := by have := F.out.l2; simp; omega
        have hne6 : (minV num s != minV num s) = false := by simp
        go_wp2_with fail
        refine (mdrop (p := p) HM8.out HOK.out F.out.d1 F.out.d2).mono ?_
        rintro e w10 ⟨rfl, v10, hM⟩
        have HM10 := Lib.hid hM
        clear hM HM8
        go_wp2_with fail
        refine (mrel (p := p) HM10.out HOK.out F.out.r1 F.out.r2).mono ?_
        rintro e w11 ⟨rfl, v11, hM⟩
        have HM11 := Lib.hid hM
        clear hM HM10
        go_wp2_with fail
        refine (out_any p v11 s1 num _ HM11.out.T F.out.k1).mono ?_
        rintro e w12 ⟨rfl, hx⟩
        rw [F.out.o1]
        have HM12 := Lib.hid (HM11.out.ex0 hx)
        clear hx HM11
        go_wp2_with fail
        refine (mrel (p := p) HM12.out F.out.k1 F.out.r3 F.out.r4).mono ?_
        rintro e w13 ⟨rfl, v13, hM⟩
        have HM13 := Lib.hid hM
        clear hM HM12
        go_wp2_with fail
        refine (len_any p v13 s1 _ HM13.out.T).mono ?_
        rintro e _ ⟨rfl, rfl⟩
        go_wp2_with fail
        refine (min_any p v13 s1 num _ HM13.out.T F.out.k1).mono ?_
        rintro e w14 ⟨rfl, hx⟩
        rw [F.out.h1, F.out.m1]
        have HM14 := Lib.hid (HM13.out.ex0 hx)
        clear hx HM13
        go_wp2_with fail
        refine (mdrop (p := p) HM14.out F.out.k1 F.out.d3 F.out.d4).mono ?_
        rintro e w15 ⟨rfl, v15, hM⟩
        have HM15 := Lib.hid hM
        clear hM HM14
        go_wp2_with fail
        refine (len_any p v15 s2 _ HM15.out.T).mono ?_
        rintro e _ ⟨rfl, rfl⟩
        go_wp2_with fail
        refine (out_any p v15 s2 num _ HM15.out.T F.out.k2).mono ?_
        rintro e w16 ⟨rfl, hx⟩
        rw [F.out.o2]
        have HM16 := Lib.hid (HM15.out.ex0 hx)
        clear hx HM15
        go_wp2_with fail
        refine (min_any p v15 s2 num _ HM16.out.T F.out.k2).mono ?_
        rintro e w17 ⟨rfl, hx⟩
        rw [F.out.h2]
        have HM17 := Lib.hid (HM16.out.ex0 hx)
        clear hx HM16
        go_wp2_with fail
        refine (mdrop (p := p) HM17.out F.out.k2 F.out.d5 F.out.d6).mono ?_
        rintro e w18 ⟨rfl, v18, hM⟩
        have HM18 := Lib.hid hM
        clear hM HM17
        go_wp2_with fail
        refine (mrel (p := p) HM18.out F.out.k2 F.out.r5 F.out.r6).mono ?_
        rintro e w19 ⟨rfl, v19, hM⟩
        have HM19 := Lib.hid hM
        clear hM HM18
        go_wp2
        go_ret
        exact ⟨rfl, (HX1.out.trans (exOfBelow HM19.out.bel) (U := fun b => w1.heap.size ≤ b) (fun _ _ h => h.elim) (fun _ _ h => h)).below (Nat.le_refl _) (fun i e => by have := HX1.out.size; omega)⟩
end Go.Proofs.Ythlmcoeikelheaa
