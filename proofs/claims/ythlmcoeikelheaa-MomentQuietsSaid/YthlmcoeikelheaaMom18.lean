/- Layer 28: the law MomentQuiets, the walk. -/
import Derived.Test.YthlmcoeikelheaaMom14
import Derived.Test.YthlmcoeikelheaaMom17
namespace Go.Proofs.Ythlmcoeikelheaa
open Go.RowKit Go.Proofs.YthlmcoeikelheaaB Go.Shelf

set_option maxRecDepth 100000 in
set_option maxHeartbeats 8000000 in
theorem quiets_walk (A : Option Addr) (n cap : Nat) (l : List DeedM) (num gap less : Int) (hg0 : 0 ≤ gap) (hg1 : gap ≤ 65535) (hl0 : 0 ≤ less) (hl1 : less ≤ 65535) (w : World) (hl : Sl w 3 A n (l.flatMap DeedM.cells)) :
    Calls Try.prog 7 #[.slice A n cap, .int .u64 num, .int .u16 gap, .int .u16 less] w fun e w' => e = .returned (.bool true) ∧ Below w.heap.size w w' := by
  have hm := hl.small
  have hln : l.length = n := by have := hl.len; rw [flat_len DeedM.cells 3 DeedM.len] at this; omega
  go_enter Try.func7, Try.ntmps7
  go_wp2_with fail
  refine (awake_any _).mono ?_
  rintro e w1 ⟨rfl, hx1⟩
  have hl1 := hl.ex0 hx1
  have HX1 := Lib.hid hx1
  clear hx1 hl
  by_cases h60 : 40 < n
  · go_wp2
    go_ret
    exact ⟨rfl, HX1.out.below (Nat.le_refl _) (fun _ h => h.elim)⟩
  have h60' : (n : Int) ≤ 40 := by omega
  go_wp2_with fail
  refine (new_any w1).mono ?_
  rintro e w2 ⟨rfl, hT2, hx2⟩
  have T0 := Both.start hT2 hx2
  generalize hp : w1.heap.size = p at T0 ⊢
  clear hx2 hT2 hp
  go_wp2
  go_loopw [11] (fun i wr => ∃ k : Nat, k ≤ n ∧ i = .int .i64 k ∧ (moms (l.take k)).length ≤ k ∧ ∃ v d, Both w1 p w2.heap.size v d (moms (l.take k)) wr) (fun i _ => n - (intOf i).toNat)
  case atStart => exact ⟨0, Nat.zero_le _, rfl, Nat.le_refl _, _, _, T0⟩
  case round =>
    clear T0
    obtain ⟨k, hk, rfl, hlen, v, d, hT⟩ := hrel
    by_cases hlt : k < n
    · obtain ⟨g, off, hkl, rfl, hr⟩ := (hl1.below (by decide) hT.bel).row DeedM.len (by decide) (by omega)
      have hsn := moms_take l k hkl
      have hsl := step_len (moms (l.take k)) l[k]
      rw [← hsn] at hsl
      have HS := Lib.hid hsn
      have HL := Lib.hid (show (moms (l.take (k + 1))).length ≤ k + 1 by omega)
      clear hsn hsl
      generalize moms (l.take k) = s at *
      generalize hgs : moms (l.take (k + 1)) = s2 at *
      generalize l[k] = dd at *
      obtain ⟨kind, dn, dm⟩ := dd
      unfold DeedM.cells at hr
      have hi0' : (0 : Int) ≤ (k : Int) := Int.natCast_nonneg _
      have hi1 : (k : Int) < (n : Int) := by omega
      have HT := Lib.hid hT
      have HG := Lib.hid hgs
      clear hT hgs
      go_wp2_with (first | (refine wpList_load_at rfl _ _ rfl _ rfl _ _ hr Try.underlying35 rfl (by kernel_rfl) ?_))
      refine (do_any w1 p w2.heap.size v d s ⟨kind, dn, dm⟩ _ HT.out (by omega)).mono ?_
      rintro e w3 ⟨rfl, v', d', hB'⟩
      have HB := Lib.hid hB'
      clear hB'
      go_wp2
      go_roundw
      case rel => exact ⟨k + 1, by omega, by go_num, by rw [HG.out]; exact ⟨HL.out, v', d', by rw [HS.out]; exact HB.out⟩⟩
      case measure => simp [intOf]; omega
    · have HT := Lib.hid hT
      have hs60 : (moms (l.take k)).length ≤ 40 := by omega
      generalize moms (l.take k) = s at *
      clear hT hlen
      have hlq : 0 < s.length → quietB (lastN s) gap s = true := fun h => last_quiet HT.out.ok h hg0
      have hlc : 0 < s.length → closesB (lastN s) (1 + less) s = true := fun h => last_closes HT.out.ok h (by omega)
      have hql : quietB num gap s = true → ∀ g, 0 ≤ g → g ≤ gap → quietB num g s = true := fun h g h1 h2 => quiet_less HT.out.ok h1 h2 h
      have hqm : has num s = true → quietB num gap s = false → nextB num s = true := fun h => quiet_more HT.out.ok hg0 h
      have HLQ := Lib.hid hlq
      have HLC := Lib.hid hlc
      have HQL := Lib.hid hql
      have HQM := Lib.hid hqm
      clear hlq hlc hql hqm
      go_wp2_with fail
      refine (last_any p v s _ HT.out.T HT.out.ok).mono ?_
      rintro e w3 ⟨rfl, hx⟩
      have HT3 := Lib.hid (HT.out.ex0 hx)
      clear hx HT
      by_cases h0 : 0 < s.length
      · have hd : decide (0 < s.length) = true := by simpa using h0
        have HL1 := Lib.hid (HLQ.out h0)
        have HL2 := Lib.hid (HLC.out h0)
        clear h0
        go_wp2_with fail
        refine (quiet_any p v s (lastN s) gap _ HT3.out.T HT3.out.ok).mono ?_
        rintro e w4 ⟨rfl, hx⟩
        rw [HL1.out]
        have HT4 := Lib.hid (HT3.out.ex0 hx)
        clear hx HT3
        go_wp2_with fail
        refine (closes_any p v s (lastN s) (1 + less) _ HT4.out.T HT4.out.ok (by omega)).mono ?_
        rintro e w5 ⟨rfl, hx⟩
        rw [HL2.out]
        have HTx := Lib.hid (HT4.out.ex0 hx)
        clear hx HT4 hd HL1 HL2
        go_wp2_with fail
        clear HLQ HLC
        refine (quiet_any p v s num gap _ HTx.out.T HTx.out.ok).mono ?_
        rintro e w6 ⟨rfl, hx⟩
        have HT6 := Lib.hid (HTx.out.ex0 hx)
        clear hx HTx
        cases hq : quietB num gap s
        · have HQ := Lib.hid hq
          clear hq
          go_wp2_with fail
          refine (min_any p v s num _ HT6.out.T HT6.out.ok).mono ?_
          rintro e w7 ⟨rfl, hx⟩
          have HT7 := Lib.hid (HT6.out.ex0 hx)
          clear hx HT6
          go_wp2_with fail
          refine (next_any p v s num _ HT7.out.T HT7.out.ok).mono ?_
          rintro e w8 ⟨rfl, hx⟩
          have HT8 := Lib.hid (HT7.out.ex0 hx)
          clear hx HT7
          cases hh : has num s
          · have HH := Lib.hid hh
            clear hh
            go_wp2
            go_ret
            exact ⟨rfl, (HX1.out.trans (exOfBelow HT8.out.bel) (U := fun b => w1.heap.size ≤ b) (fun _ _ h => h.elim) (fun _ _ h => h)).below (Nat.le_refl _) (fun i e => by have := HX1.out.size; omega)⟩
          · have HN := Lib.hid (HQM.out hh HQ.out)
            clear hh
            go_wp2_with fail
            refine (quiet_any p v s num gap _ HT8.out.T HT8.out.ok).mono ?_
            rintro e w9 ⟨rfl, hx⟩
            rw [HQ.out]
            have HT9 := Lib.hid (HT8.out.ex0 hx)
            clear hx HT8
            go_wp2
            go_ret
            exact ⟨by rw [HN.out]; rfl, (HX1.out.trans (exOfBelow HT9.out.bel) (U := fun b => w1.heap.size ≤ b) (fun _ _ h => h.elim) (fun _ _ h => h)).below (Nat.le_refl _) (fun i e => by have := HX1.out.size; omega)⟩
        · have HQ := Lib.hid hq
          have HQ2 := Lib.hid (HQL.out hq)
          clear hq
          go_wp2_with fail
          all_goals
            refine (quiet_any p v s num _ _ HT6.out.T HT6.out.ok).mono ?_
            rintro e w7 ⟨rfl, hx⟩
            rw [HQ2.out _ (by omega) (by omega)]
            have HT7 := Lib.hid (HT6.out.ex0 hx)
            clear hx HT6 HQ2
            go_wp2_with fail
            refine (min_any p v s num _ HT7.out.T HT7.out.ok).mono ?_
            rintro e w8 ⟨rfl, hx⟩
            have HT8 := Lib.hid (HT7.out.ex0 hx)
            clear hx HT7
            go_wp2_with fail
            refine (next_any p v s num _ HT8.out.T HT8.out.ok).mono ?_
            rintro e w9 ⟨rfl, hx⟩
            have HT9 := Lib.hid (HT8.out.ex0 hx)
            clear hx HT8
            cases hh : has num s
            · have HH := Lib.hid hh
              clear hh
              go_wp2
              go_ret
              exact ⟨rfl, (HX1.out.trans (exOfBelow HT9.out.bel) (U := fun b => w1.heap.size ≤ b) (fun _ _ h => h.elim) (fun _ _ h => h)).below (Nat.le_refl _) (fun i e => by have := HX1.out.size; omega)⟩
            · clear hh
              go_wp2_with fail
              refine (quiet_any p v s num gap _ HT9.out.T HT9.out.ok).mono ?_
              rintro e w10 ⟨rfl, hx⟩
              rw [HQ.out]
              have HTa := Lib.hid (HT9.out.ex0 hx)
              clear hx HT9
              go_wp2
              go_ret
              exact ⟨rfl, (HX1.out.trans (exOfBelow HTa.out.bel) (U := fun b => w1.heap.size ≤ b) (fun _ _ h => h.elim) (fun _ _ h => h)).below (Nat.le_refl _) (fun i e => by have := HX1.out.size; omega)⟩
      · have hd : decide (0 < s.length) = false := by simpa using h0
        have HTx := Lib.hid HT3.out
        clear h0 HT3
        go_wp2_with fail
        clear hd
        clear HLQ HLC
        refine (quiet_any p v s num gap _ HTx.out.T HTx.out.ok).mono ?_
        rintro e w6 ⟨rfl, hx⟩
        have HT6 := Lib.hid (HTx.out.ex0 hx)
        clear hx HTx
        cases hq : quietB num gap s
        · have HQ := Lib.hid hq
          clear hq
          go_wp2_with fail
          refine (min_any p v s num _ HT6.out.T HT6.out.ok).mono ?_
          rintro e w7 ⟨rfl, hx⟩
          have HT7 := Lib.hid (HT6.out.ex0 hx)
          clear hx HT6
          go_wp2_with fail
          refine (next_any p v s num _ HT7.out.T HT7.out.ok).mono ?_
          rintro e w8 ⟨rfl, hx⟩
          have HT8 := Lib.hid (HT7.out.ex0 hx)
          clear hx HT7
          cases hh : has num s
          · have HH := Lib.hid hh
            clear hh
            go_wp2
            go_ret
            exact ⟨rfl, (HX1.out.trans (exOfBelow HT8.out.bel) (U := fun b => w1.heap.size ≤ b) (fun _ _ h => h.elim) (fun _ _ h => h)).below (Nat.le_refl _) (fun i e => by have := HX1.out.size; omega)⟩
          · have HN := Lib.hid (HQM.out hh HQ.out)
            clear hh
            go_wp2_with fail
            refine (quiet_any p v s num gap _ HT8.out.T HT8.out.ok).mono ?_
            rintro e w9 ⟨rfl, hx⟩
            rw [HQ.out]
            have HT9 := Lib.hid (HT8.out.ex0 hx)
            clear hx HT8
            go_wp2
            go_ret
            exact ⟨by rw [HN.out]; rfl, (HX1.out.trans (exOfBelow HT9.out.bel) (U := fun b => w1.heap.size ≤ b) (fun _ _ h => h.elim) (fun _ _ h => h)).below (Nat.le_refl _) (fun i e => by have := HX1.out.size; omega)⟩
        · have HQ := Lib.hid hq
          have HQ2 := Lib.hid (HQL.out hq)
          clear hq
          go_wp2_with fail
          all_goals
            refine (quiet_any p v s num _ _ HT6.out.T HT6.out.ok).mono ?_
            rintro e w7 ⟨rfl, hx⟩
            rw [HQ2.out _ (by omega) (by omega)]
            have HT7 := Lib.hid (HT6.out.ex0 hx)
            clear hx HT6 HQ2
            go_wp2_with fail
            refine (min_any p v s num _ HT7.out.T HT7.out.ok).mono ?_
            rintro e w8 ⟨rfl, hx⟩
            have HT8 := Lib.hid (HT7.out.ex0 hx)
            clear hx HT7
            go_wp2_with fail
            refine (next_any p v s num _ HT8.out.T HT8.out.ok).mono ?_
            rintro e w9 ⟨rfl, hx⟩
            have HT9 := Lib.hid (HT8.out.ex0 hx)
            clear hx HT8
            cases hh : has num s
            · have HH := Lib.hid hh
              clear hh
              go_wp2
              go_ret
              exact ⟨rfl, (HX1.out.trans (exOfBelow HT9.out.bel) (U := fun b => w1.heap.size ≤ b) (fun _ _ h => h.elim) (fun _ _ h => h)).below (Nat.le_refl _) (fun i e => by have := HX1.out.size; omega)⟩
            · clear hh
              go_wp2_with fail
              refine (quiet_any p v s num gap _ HT9.out.T HT9.out.ok).mono ?_
              rintro e w10 ⟨rfl, hx⟩
              rw [HQ.out]
              have HTa := Lib.hid (HT9.out.ex0 hx)
              clear hx HT9
              go_wp2
              go_ret
              exact ⟨rfl, (HX1.out.trans (exOfBelow HTa.out.bel) (U := fun b => w1.heap.size ≤ b) (fun _ _ h => h.elim) (fun _ _ h => h)).below (Nat.le_refl _) (fun i e => by have := HX1.out.size; omega)⟩
end Go.Proofs.Ythlmcoeikelheaa
