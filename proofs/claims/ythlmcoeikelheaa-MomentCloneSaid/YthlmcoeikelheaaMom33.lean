/- Layer 28: the law MomentClone, the walk. -/
import Derived.Test.YthlmcoeikelheaaMom14
import Derived.Test.YthlmcoeikelheaaMom32
namespace Go.Proofs.Ythlmcoeikelheaa
open Go.RowKit Go.Proofs.YthlmcoeikelheaaB Go.Shelf

set_option maxRecDepth 100000 in
set_option maxHeartbeats 8000000 in
theorem clone_walk (A : Option Addr) (n cap : Nat) (l : List DeedM) (num mn : Int) (w : World) (hl : Sl w 3 A n (l.flatMap DeedM.cells)) :
    Calls Try.prog 12 #[.slice A n cap, .int .u64 num, .int .i64 mn] w fun e w' => e = .returned (.bool true) ∧ Below w.heap.size w w' := by
  have hm := hl.small
  have hln : l.length = n := by have := hl.len; rw [flat_len DeedM.cells 3 DeedM.len] at this; omega
  go_enter Try.func12, Try.ntmps12
  go_wp2_with fail
  refine (awake_any _).mono ?_
  rintro e w1 ⟨rfl, hx1⟩
  have hl1 := hl.ex0 hx1
  have HX1 := Lib.hid hx1
  clear hx1 hl
  by_cases h60 : 40 < n
  · go_wp2
    go_ret
    exact ⟨rfl, HX1.out.below (Nat.le_refl _) (fun _ h => h.elim)⟩
  have h60' : (n : Int) ≤ 40 := by omega
  go_wp2_with fail
  refine (new_any w1).mono ?_
  rintro e w2 ⟨rfl, hT2, hx2⟩
  have T0 := Both.start hT2 hx2
  generalize hp : w1.heap.size = p at T0 ⊢
  clear hx2 hT2 hp
  go_wp2
  go_loopw [9] (fun i wr => ∃ k : Nat, k ≤ n ∧ i = .int .i64 k ∧ (moms (l.take k)).length ≤ k ∧ ∃ v d, Both w1 p w2.heap.size v d (moms (l.take k)) wr) (fun i _ => n - (intOf i).toNat)
  case atStart => exact ⟨0, Nat.zero_le _, rfl, Nat.le_refl _, _, _, T0⟩
  case round =>
    clear T0
    obtain ⟨k, hk, rfl, hlen, v, d, hT⟩ := hrel
    by_cases hlt : k < n
    · obtain ⟨g, off, hkl, rfl, hr⟩ := (hl1.below (by decide) hT.bel).row DeedM.len (by decide) (by omega)
      have hsn := moms_take l k hkl
      have hsl := step_len (moms (l.take k)) l[k]
      rw [← hsn] at hsl
      have HS := Lib.hid hsn
      have HL := Lib.hid (show (moms (l.take (k + 1))).length ≤ k + 1 by omega)
      clear hsn hsl
      generalize moms (l.take k) = s at *
      generalize hgs : moms (l.take (k + 1)) = s2 at *
      generalize l[k] = dd at *
      obtain ⟨kind, dn, dm⟩ := dd
      unfold DeedM.cells at hr
      have hi0' : (0 : Int) ≤ (k : Int) := Int.natCast_nonneg _
      have hi1 : (k : Int) < (n : Int) := by omega
      have HT := Lib.hid hT
      have HG := Lib.hid hgs
      clear hT hgs
      go_wp2_with (first | (refine wpList_load_at rfl _ _ rfl _ rfl _ _ hr Try.underlying35 rfl (by kernel_rfl) ?_))
      refine (do_any w1 p w2.heap.size v d s ⟨kind, dn, dm⟩ _ HT.out (by omega)).mono ?_
      rintro e w3 ⟨rfl, v', d', hB'⟩
      have HB := Lib.hid hB'
      clear hB'
      go_wp2
      go_roundw
      case rel => exact ⟨k + 1, by omega, by go_num, by rw [HG.out]; exact ⟨HL.out, v', d', by rw [HS.out]; exact HB.out⟩⟩
      case measure => simp [intOf]; omega
    · have HT := Lib.hid hT
      have hs60 : (moms (l.take k)).length ≤ 40 := by omega
      generalize moms (l.take k) = s at *
      clear hT hlen
      go_wp2_with fail
      refine (clone_any p v s _ HT.out.T (by omega)).mono ?_
      rintro e w3 ⟨pc, vc, rfl, hpc, hvc, hTc, hx3⟩
      have hMc : Mine wr pc vc s w3 := ⟨hTc, ⟨hpc, hvc⟩, hx3.below (Nat.le_refl _) (fun _ h => h.elim)⟩
      have HMC := Lib.hid hMc
      have HOK := Lib.hid HT.out.ok
      clear hMc hTc hx3 hpc hvc
      go_wp2
      obtain ⟨wB, rfl⟩ : ∃ wB : World, wB = wr := ⟨_, rfl⟩
      go_loopw [11] (fun i wz => ∃ k : Nat, k ≤ n ∧ i = .int .i64 k ∧ ∃ vc sc, TabOk sc ∧ sc.length ≤ 40 ∧ Mine wB pc vc sc wz) (fun i _ => n - (intOf i).toNat)
      case atStart => exact ⟨0, Nat.zero_le _, rfl, _, _, HOK.out, hs60, HMC.out⟩
      case round =>
        clear HMC
        obtain ⟨k2, hk2, rfl, vc, sc, hok, hlc, hM⟩ := hrel
        have HM := Lib.hid hM
        have HOC := Lib.hid hok
        clear hM hok
        by_cases hlt2 : k2 < n
        · obtain ⟨g, off, hkl, rfl, hr⟩ := ((hl1.below (by decide) HT.out.bel).ex0 (Ex.ofBelow HM.out.bel)).row DeedM.len (by decide) (show k2 < n by omega)
          have hi0' : (0 : Int) ≤ (k2 : Int) := Int.natCast_nonneg _
          have hi1 : (k2 : Int) < (n : Int) := by omega
          generalize l[k2] = dd at *
          obtain ⟨kind, dn, dm⟩ := dd
          unfold DeedM.cells at hr
          have c1 : wr.cell? ⟨g, off + k2 * 3 + 1, none⟩ = some (.int .u64 dn) := by simpa [Addr.add] using hr 1 _ rfl
          have hgB : g < wB.heap.size := Nat.lt_of_lt_of_le (hl1.lt (by omega) (by decide) g rfl) HT.out.bel.size
          clear hr
          go_wp2_with fail
          refine (HM.out.rel (num := dn) HOC.out).mono ?_
          rintro e w5 ⟨rfl, v5, hM5⟩
          have c1' : w5.cell? ⟨g, off + k2 * 3 + 1, none⟩ = some (.int .u64 dn) := by
            have h1 : wB.cell? ⟨g, off + k2 * 3 + 1, none⟩ = some (.int .u64 dn) := by rw [← HM.out.bel.cell (p := ⟨g, off + k2 * 3 + 1, none⟩) hgB]; exact c1
            rw [hM5.bel.cell (p := ⟨g, off + k2 * 3 + 1, none⟩) hgB]; exact h1
          have HM5 := Lib.hid hM5
          have HO5 := Lib.hid (ok_rel (num := dn) HOC.out)
          have HL5 := Lib.hid (relL_len dn sc)
          clear hM5 c1 HM
          go_wp2_with fail
          refine (HM5.out.drop (num := dn) HO5.out).mono ?_
          rintro e w6 ⟨rfl, v6, hM6⟩
          have HM6 := Lib.hid hM6
          have HO6 := Lib.hid (ok_drop (num := dn) HO5.out)
          have HL6 := Lib.hid (dropL_len dn (relL dn sc))
          clear hM6 c1' HM5
          go_wp2
          go_roundw
          case rel => exact ⟨k2 + 1, by omega, by go_num, v6, _, HO6.out, by have := HL5.out; have := HL6.out; omega, HM6.out⟩
          case measure => simp [intOf]; omega
        · go_wp2_with fail
          refine (HM.out.add (num := 65535) (min := 1073741824) HOC.out (by omega)).mono ?_
          rintro e w5 ⟨rfl, v5, hM5⟩
          have HB5 := Lib.hid (HT.out.below hM5.bel)
          clear hM5 HM HT
          go_wp2_with fail
          refine (clone_any p v s _ HB5.out.T (by omega)).mono ?_
          rintro e w6 ⟨pd, vd, rfl, hpd, hvd, hTd, hx6⟩
          have HB6 := Lib.hid (HB5.out.ex0 hx6)
          have hlp5 := HB5.out.T.lt
          have hlo5 : ∀ b, v.ownBlock = some b → b < w5.heap.size := fun b hb => (HB5.out.T.own.lt b hb).2
          have HTD := Lib.hid hTd
          have HLO := Lib.hid hlo5
          have HVD := Lib.hid hvd
          clear hTd hx6 hlo5 hvd HB5
          go_wp2_with fail
          refine (HB6.out.addT (num := 65535) (min := 1073741824) (by omega)).mono ?_
          rintro e w7 ⟨rfl, hD7, hx7⟩
          have hTd7 := HTD.out.ex hx7 (fun e => by
            rcases e with e | e
            · omega
            · have := HLO.out _ e; omega) (fun b hb e => by
            have h1 := HVD.out b hb
            rcases e with e | e
            · omega
            · have := HLO.out _ e; omega)
          have hge : ∀ b, (b = p ∨ v.ownBlock = some b) → w1.heap.size ≤ b := fun b hb => by
            rcases hb with rfl | hb
            · exact HB6.out.ge.1
            · exact HB6.out.ge.2.2 b hb
          have hbel7 : Below w1.heap.size w1 w7 := HB6.out.bel.trans (hx7.below HB6.out.bel.size hge)
          have HTD7 := Lib.hid hTd7
          have HD7 := Lib.hid hD7
          have HBL := Lib.hid hbel7
          clear hTd7 hD7 hbel7 hge hx7 HTD HLO HVD HB6 hpd
          have hS : CloneSt w1 pd vd w2.heap.size d w7.heap.size s (w7.alloc (.cells #[.slice none 0 0] 66)) := ⟨HTD7.out.ex0 (Ex.alloc _ _), HD7.out.ex0 (Ex.alloc _ _), tabNew w7, HBL.out.alloc HBL.out.size _⟩
          have HS := Lib.hid hS
          clear hS HTD7 HD7 HBL
          go_wp2_with fail
          refine (min_nil num _).mono ?_
          rintro e _ ⟨rfl, rfl⟩
          go_wp2_with fail
          refine (last_nil _).mono ?_
          rintro e _ ⟨rfl, rfl⟩
          go_wp2_with fail
          refine (at_nil mn _).mono ?_
          rintro e w9 ⟨rfl, hx⟩
          have HS9 := Lib.hid (HS.out.ex0 hx)
          clear hx HS
          go_wp2_with fail
          refine (next_nil num _).mono ?_
          rintro e _ ⟨rfl, rfl⟩
          go_wp2_with fail
          refine (add_nil num mn _).mono ?_
          rintro e _ ⟨rfl, rfl⟩
          go_wp2_with fail
          refine (release_nil num _).mono ?_
          rintro e _ ⟨rfl, rfl⟩
          go_wp2_with fail
          refine (drop_nil num _).mono ?_
          rintro e _ ⟨rfl, rfl⟩
          go_wp2_with fail
          refine (closes_nil num _).mono ?_
          rintro e w10 ⟨rfl, hx⟩
          have HS10 := Lib.hid (HS9.out.ex0 hx)
          clear hx HS9
          go_wp2_with fail
          refine (quiet_nil num _).mono ?_
          rintro e w11 ⟨rfl, hx⟩
          have HS11 := Lib.hid (HS10.out.ex0 hx)
          clear hx HS10
          go_wp2_with fail
          refine (out_nil num _).mono ?_
          rintro e _ ⟨rfl, rfl⟩
          go_wp2_with fail
          refine (same_any pd w2.heap.size vd d s _ HS11.out.T HS11.out.D HOK.out).mono ?_
          rintro e w12 ⟨rfl, hx⟩
          have HS12 := Lib.hid (HS11.out.ex0 hx)
          clear hx HS11
          go_wp2_with fail
          refine (same_nil _ _ _ (docNew w12)).mono ?_
          rintro e w13 ⟨rfl, hx⟩
          have HS13 := Lib.hid ((HS12.out.ex0 (Ex.alloc _ _)).ex0 hx)
          clear hx HS12
          go_wp2_with fail
          refine (clone_nil _).mono ?_
          rintro e w14 ⟨rfl, hTn, hx⟩
          have HS14 := Lib.hid (HS13.out.ex0 hx)
          have HTN := Lib.hid (hTn.ex0 (Ex.alloc w14 (.cells #[.slice none 0 0, .slice none 0 0, .slice none 0 0] 32)))
          clear hx hTn HS13
          go_wp2_with fail
          refine (same_any _ _ _ _ [] _ HTN.out (docNew w14) ok_nil).mono ?_
          rintro e w15 ⟨rfl, hx⟩
          have HS15 := Lib.hid ((HS14.out.ex0 (Ex.alloc _ _)).ex0 hx)
          clear hx HS14 HTN
          go_wp2_with fail
          refine (same_any _ _ _ _ [] _ (HS15.out.Z.ex0 (Ex.alloc _ _)) (docNew w15) ok_nil).mono ?_
          rintro e w16 ⟨rfl, hx⟩
          have HS16 := Lib.hid ((HS15.out.ex0 (Ex.alloc _ _)).ex0 hx)
          clear hx HS15
          go_wp2
          go_ret
          exact ⟨rfl, (HX1.out.trans (exOfBelow HS16.out.B) (U := fun b => w1.heap.size ≤ b) (fun _ _ h => h.elim) (fun _ _ h => h)).below (Nat.le_refl _) (fun i e => by have := HX1.out.size; omega)⟩
end Go.Proofs.Ythlmcoeikelheaa
