/- Layer 54: whatever is done: the law's walk. -/
import Derived.Test.YtoglddndicmelaaGreatLwT
namespace Go.Proofs.YtoglddndicmelaaGreat.Tr
open Go.RowKit Go.Proofs.YtoglddndicmelaaGreatB Go.Proofs.YtoglddndicmelaaGreat
set_option maxRecDepth 100000

set_option maxHeartbeats 4000000 in
theorem plays_walk (A : Option Addr) (n cap : Nat) (rs : List Rul) (B : Option Addr) (m capb : Nat) (xs : List ActT) (W : World) (hs : Sl W 3 A n (rs.flatMap Rul.cells)) (hA : ∀ b, Bl A b → b < W.heap.size) (ha : Sl W 8 B m (xs.flatMap ActT.cells)) (hx : ∀ x ∈ xs, x.Ok) :
    Calls Tryz.prog 4 #[.slice A n cap, .slice B m capb] W fun e W' => e = .returned (.bool true) ∧ Below W.heap.size W W' := by
  have hln : rs.length = n := by have := hs.len; rw [flat_len Rul.cells 3 Rul.length] at this; omega
  have HP : Hid (∀ w, Ex0 W w → Calls Tryz.prog 18 #[.slice A n cap, .slice B m capb] w (PlayP n rs xs w)) := fun w hw => played_any A n cap rs B m capb xs w (hs.ex0 hw) (fun b hb => Nat.lt_of_lt_of_le (hA b hb) hw.size) (ha.ex0 hw) hx
  have HOK := Lib.hid hx
  clear hs hA ha hx
  go_enter Tryz.func4, Tryz.ntmps4
  go_wp2_with fail
  refine (awake_any W).mono ?_
  rintro e w1 ⟨rfl, hx1⟩
  have HX1 := Lib.hid hx1
  clear hx1
  go_wp2_with fail
  refine (HP.out w1 HX1.out).mono ?_
  rintro e w2 ⟨hno, hyes⟩
  cases hlk : lookB n xs.length rs with
  | false =>
    obtain ⟨rfl, hx2⟩ := hno hlk
    have HX2 := Lib.hid (HX1.out.trans0 hx2)
    clear hno hyes hlk hx2
    go_wp2
    go_ret
    exact ⟨rfl, HX2.out.below (Nat.le_refl _) (fun _ h => h.elim)⟩
  | true =>
    obtain ⟨L, D, rfl, hat⟩ := hyes hlk
    have hf := play_facts hln HOK.out hlk
    obtain ⟨s, hs⟩ : ∃ s, playA (s22 rs) xs = s := ⟨_, rfl⟩
    rw [hs] at hat hf
    have HAT := Lib.hid hat
    have HF := Lib.hid hf
    have HX2 := Lib.hid (HX1.out.trans0 hat.x)
    clear hno hyes hlk hat hf hs
    go_wp2_with fail
    refine (promised_any L s w2 HAT.out.l HF.out.inv).mono ?_
    rintro e w3 ⟨v3, rfl, ho3, hx3⟩
    obtain ⟨A3, c3, rfl, hsl3, _⟩ := own_sl ho3
    have HS3 := Lib.hid hsl3
    have HX3 := Lib.hid hx3
    clear ho3 hsl3 hx3
    go_wp2_with fail
    refine (rpromised_any D s w3 (HAT.out.d.ex0 HX3.out) HF.out.inv).mono ?_
    rintro e w4 ⟨v4, rfl, ho4, hx4⟩
    obtain ⟨A4, c4, rfl, hsl4, _⟩ := own_sl ho4
    have HS4 := Lib.hid hsl4
    have HX4 := Lib.hid hx4
    clear ho4 hsl4 hx4
    go_wp2_with fail
    refine (same_any A3 A4 c3 c4 s.all s.all w4 (HS3.out.ex0 HX4.out) HS4.out).mono ?_
    rintro e w5 ⟨rfl, hx5⟩
    have HX5 := Lib.hid (HX2.out.trans0 (HX3.out.trans0 (HX4.out.trans0 hx5)))
    clear hx5
    rw [decide_eq_true rfl]
    go_wp2
    go_ret
    exact ⟨rfl, HX5.out.below (Nat.le_refl _) (fun _ h => h.elim)⟩
end Go.Proofs.YtoglddndicmelaaGreat.Tr
