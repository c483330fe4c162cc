/- Layer 28: the law MomentCloses, the walk. -/
import Derived.Test.YthlmcoeikelheaaMom13
namespace Go.Proofs.Ythlmcoeikelheaa
open Go.RowKit Go.Proofs.YthlmcoeikelheaaB Go.Shelf

/-- both tables as they begin -/
theorem Both.start {w1 w2 : World} (hT : TabAt w2 w1.heap.size (.slice none 0 0) []) (hx : Ex0 w1 w2) :
    Both w1 w1.heap.size w2.heap.size (.slice none 0 0) ⟨none, none, none, 0, 0, 0⟩ [] (w2.alloc (.cells #[.slice none 0 0, .slice none 0 0, .slice none 0 0] 32)) := by
  have hs := hx.size
  have hlt := hT.lt
  refine ⟨hT.ex0 (Ex.alloc _ _), ⟨heap_alloc_new _ _, ⟨rfl, Nat.zero_le _, fun h => absurd h (Nat.lt_irrefl 0)⟩, ⟨rfl, Nat.zero_le _, fun h => absurd h (Nat.lt_irrefl 0)⟩, ⟨rfl, Nat.zero_le _, fun h => absurd h (Nat.lt_irrefl 0)⟩, fun _ => rfl, fun _ => rfl, fun _ => rfl, ?_, Nat.zero_le _, Nat.zero_le _, Nat.zero_le _⟩, ok_nil, ?_, ⟨Nat.le_refl _, hs, ?_⟩, (hx.alloc' _).below (Nat.le_refl _) (fun _ h => h.elim)⟩
  · intro b hb; simp [Bld, Bl] at hb
  · rintro b (rfl | hb) (e | e)
    · omega
    · simp [Value.ownBlock] at e
    · simp [Bld, Bl] at hb
    · simp [Value.ownBlock] at e
  · intro b hb; simp [Value.ownBlock] at hb

set_option maxRecDepth 100000 in
set_option maxHeartbeats 4000000 in
theorem closes_walk (A : Option Addr) (n cap : Nat) (l : List DeedM) (num win gap : Int) (w : World) (hl : Sl w 3 A n (l.flatMap DeedM.cells)) (hwin : win ≤ 9223372036854775807) :
    Calls Try.prog 3 #[.slice A n cap, .int .u64 num, .int .i64 win, .int .i64 gap] w fun e w' => e = .returned (.bool true) ∧ Below w.heap.size w w' := by
  have hm := hl.small
  have hln : l.length = n := by have := hl.len; rw [flat_len DeedM.cells 3 DeedM.len] at this; omega
  go_enter Try.func3, Try.ntmps3
  go_wp2_with fail
  refine (awake_any _).mono ?_
  rintro e w1 ⟨rfl, hx1⟩
  have hl1 := hl.ex0 hx1
  have HX1 := Lib.hid hx1
  clear hx1 hl
  by_cases h60 : 60 < n
  · go_wp2
    go_ret
    exact ⟨rfl, HX1.out.below (Nat.le_refl _) (fun _ h => h.elim)⟩
  have h60' : (n : Int) ≤ 60 := by omega
  go_wp2_with fail
  refine (new_any w1).mono ?_
  rintro e w2 ⟨rfl, hT2, hx2⟩
  have T0 := Both.start hT2 hx2
  generalize hp : w1.heap.size = p at T0 ⊢
  clear hx2 hT2 hp
  go_wp2
  go_loopw [11] (fun i wr => ∃ k : Nat, k ≤ n ∧ i = .int .i64 k ∧ (moms (l.take k)).length ≤ k ∧ ∃ v d, Both w1 p w2.heap.size v d (moms (l.take k)) wr) (fun i _ => n - (intOf i).toNat)
  case atStart => exact ⟨0, Nat.zero_le _, rfl, Nat.le_refl _, _, _, T0⟩
  case round =>
    clear T0
    obtain ⟨k, hk, rfl, hlen, v, d, hT⟩ := hrel
    by_cases hlt : k < n
    · obtain ⟨g, off, hkl, rfl, hr⟩ := (hl1.below (by decide) hT.bel).row DeedM.len (by decide) (by omega)
      have hsn := moms_take l k hkl
      have hsl := step_len (moms (l.take k)) l[k]
      rw [← hsn] at hsl
      have HS := Lib.hid hsn
      have HL := Lib.hid (show (moms (l.take (k + 1))).length ≤ k + 1 by omega)
      clear hsn hsl
      generalize moms (l.take k) = s at *
      generalize hgs : moms (l.take (k + 1)) = s2 at *
      generalize l[k] = dd at *
      obtain ⟨kind, dn, dm⟩ := dd
      unfold DeedM.cells at hr
      have hi0' : (0 : Int) ≤ (k : Int) := Int.natCast_nonneg _
      have hi1 : (k : Int) < (n : Int) := by omega
      have HT := Lib.hid hT
      have HG := Lib.hid hgs
      clear hT hgs
      go_wp2_with (first | (refine wpList_load_at rfl _ _ rfl _ rfl _ _ hr Try.underlying35 rfl (by kernel_rfl) ?_))
      refine (do_any w1 p w2.heap.size v d s ⟨kind, dn, dm⟩ _ HT.out (by omega)).mono ?_
      rintro e w3 ⟨rfl, v', d', hB'⟩
      have HB := Lib.hid hB'
      clear hB'
      go_wp2
      go_roundw
      case rel => exact ⟨k + 1, by omega, by go_num, by rw [HG.out]; exact ⟨HL.out, v', d', by rw [HS.out]; exact HB.out⟩⟩
      case measure => simp [intOf]; omega
    · have HT := Lib.hid hT
      generalize moms (l.take k) = s at *
      clear hT hlen
      go_wp2_with fail
      refine (closes_any p v s num win _ HT.out.T HT.out.ok hwin).mono ?_
      rintro e w3 ⟨rfl, hx3⟩
      have HT3 := Lib.hid (HT.out.ex0 hx3)
      clear hx3
      go_wp2_with fail
      refine (rcloses_any w2.heap.size d s num win _ HT3.out.D HT3.out.ok hwin).mono ?_
      rintro e w4 ⟨rfl, hx4⟩
      have HT4 := Lib.hid (HT3.out.ex0 hx4)
      have hee : (closesB num win s == closesB num win s) = true := by simp
      clear hx4
      go_wp2_with fail
      refine (quiet_any p v s num gap _ HT4.out.T HT4.out.ok).mono ?_
      rintro e w5 ⟨rfl, hx5⟩
      have HT5 := Lib.hid (HT4.out.ex0 hx5)
      clear hx5
      go_wp2_with fail
      refine (rquiet_any w2.heap.size d s num gap _ HT5.out.D HT5.out.ok).mono ?_
      rintro e w6 ⟨rfl, hx6⟩
      have HT6 := Lib.hid (HT5.out.ex0 hx6)
      have hee2 : (quietB num gap s == quietB num gap s) = true := by simp
      clear hx6
      go_wp2
      go_ret
      exact ⟨rfl, (HX1.out.trans (exOfBelow HT6.out.bel) (U := fun b => w1.heap.size ≤ b) (fun _ _ h => h.elim) (fun _ _ h => h)).below (Nat.le_refl _) (fun i e => by have := HX1.out.size; omega)⟩
end Go.Proofs.Ythlmcoeikelheaa
