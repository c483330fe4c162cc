/- Contracts of layer 37: the law's example. -/
import Derived.Test.YtbolioeopcmfcaaHold11
namespace Go.Proofs.Ytbolioeopcmfcaa
open Go.RowKit Go.Proofs.YtbolioeopcmfcaaB Go.Shelf

set_option maxHeartbeats 4000000 in
theorem awake_any (w : World) : Calls Try.prog 9 #[] w fun e w' => e = .returned (.bool true) ∧ Ex0 w w' := by
  have he : addE ⟨1, 10, 20, 100⟩ 3 30 [] = 0 := by decide
  have hL : addL ⟨1, 10, 20, 100⟩ 3 30 [] = [⟨⟨1, 10, 20, 100⟩, 3, 30⟩] := by decide
  have HE := Lib.hid he
  have HL := Lib.hid hL
  clear he hL
  go_enter Try.func9, Try.ntmps9
  go_wp2_with fail
  refine (new_any w).mono ?_
  rintro e w1 ⟨rfl, hB1, hx1⟩
  go_wp2_with fail
  refine (add_any w.heap.size _ [] ⟨1, 10, 20, 100⟩ 3 30 w1 hB1 (by decide)).mono ?_
  rintro e w2 ⟨v2, rfl, hv2, hB2, hx2⟩
  rw [HE.out]
  rw [HL.out] at hB2
  have hv2' : ∀ b, v2.ownBlock = some b → w.heap.size ≤ b := fun b hb => by
    rcases hv2 with h | ⟨c, hc, hle⟩
    · rw [hb] at h; cases h
    · rw [hb] at hc; cases hc; exact Nat.le_trans hx1.size hle
  have hX2 : Ex0 w w2 := hx1.trans hx2 (U := fun _ => False) (fun _ _ h => h) (fun i hi h => by
    rcases h with h | h
    · omega
    · cases h)
  have HX2 := Lib.hid hX2
  clear hv2 hx2 hx1 hB1 hX2 hv2'
  go_wp2_with fail
  refine (over_any w.heap.size v2 _ 15 30 w2 hB2 (by decide)).mono ?_
  rintro e w3 ⟨r3, rfl, ho3, hx3⟩
  obtain ⟨A3, c3, rfl, _, _⟩ := own_sl ho3
  have hB3 := hB2.ex0 hx3
  have HX3 := Lib.hid (HX2.out.trans0 hx3)
  clear ho3 hx3 hB2
  go_wp2_with fail
  refine (over_any w.heap.size v2 _ 15 99 w3 hB3 (by decide)).mono ?_
  rintro e w4 ⟨r4, rfl, ho4, hx4⟩
  obtain ⟨A4, c4, rfl, _, _⟩ := own_sl ho4
  have hB4 := hB3.ex0 hx4
  have HX4 := Lib.hid (HX3.out.trans0 hx4)
  clear ho4 hx4 hB3
  go_wp2_with fail
  refine (over_any w.heap.size v2 _ 15 29 w4 hB4 (by decide)).mono ?_
  rintro e w5 ⟨r5, rfl, ho5, hx5⟩
  obtain ⟨A5, c5, rfl, _, _⟩ := own_sl ho5
  have hB5 := hB4.ex0 hx5
  have HX5 := Lib.hid (HX4.out.trans0 hx5)
  clear ho5 hx5 hB4
  go_wp2_with fail
  refine (over_any w.heap.size v2 _ 15 100 w5 hB5 (by decide)).mono ?_
  rintro e w6 ⟨r6, rfl, ho6, hx6⟩
  obtain ⟨A6, c6, rfl, _, _⟩ := own_sl ho6
  have hB6 := hB5.ex0 hx6
  have HX6 := Lib.hid (HX5.out.trans0 hx6)
  clear ho6 hx6 hB5
  go_wp2_with fail
  refine (over_any w.heap.size v2 _ 21 50 w6 hB6 (by decide)).mono ?_
  rintro e w7 ⟨r7, rfl, ho7, hx7⟩
  obtain ⟨A7, c7, rfl, _, _⟩ := own_sl ho7
  have HX7 := Lib.hid (HX6.out.trans0 hx7)
  clear ho7 hx7 hB6
  go_wp2
  go_ret
  exact ⟨ret_bool (by decide), HX7.out⟩
end Go.Proofs.Ytbolioeopcmfcaa
