/- Layer 37: the law HoldNone, the walk. -/
import Derived.Test.YtbolioeopcmfcaaHold17
namespace Go.Proofs.Ytbolioeopcmfcaa
open Go.RowKit Go.Proofs.YtbolioeopcmfcaaB Go.Shelf

set_option maxRecDepth 100000 in
set_option maxHeartbeats 8000000 in
theorem none_walk (h : Held) (num min : Int) (w : World) :
    Calls Try.prog 8 #[h.val, .int .u64 num, .int .i64 min] w fun e w' => e = .returned (.bool true) ∧ Below w.heap.size w w' := by
  obtain ⟨hid, hfr, hto, htil⟩ := h
  unfold Held.val
  go_enter Try.func8, Try.ntmps8
  go_wp2_with fail
  refine (awake_any _).mono ?_
  rintro e w1 ⟨rfl, hx1⟩
  have hx01 := Ex.trans0 (Ex.alloc _ _) hx1
  have hr1 : RowAt w1 ⟨w.heap.size, 0, none⟩ (Held.cells ⟨hid, hfr, hto, htil⟩) := by
    intro j u hj
    refine hx1.cellS ?_ not_false
    unfold Held.cells at hj
    match j, hj with
    | 0, hj => simp at hj; subst hj; go_simp
    | 1, hj => simp at hj; subst hj; go_simp
    | 2, hj => simp at hj; subst hj; go_simp
    | 3, hj => simp at hj; subst hj; go_simp
  unfold Held.cells at hr1
  have c0 : w1.cell? ⟨w.heap.size, 0, none⟩ = some (.int .u64 hid) := by simpa [Addr.add] using hr1 0 _ rfl
  have HX1 := Lib.hid hx01
  clear hx1 hx01
  go_wp2_with (first | (refine wpList_load_at rfl _ _ rfl _ rfl _ _ hr1 Try.underlying30 rfl (by kernel_rfl) ?_))
  refine (add_nil ⟨hid, hfr, hto, htil⟩ num min _).mono ?_
  rintro e w2 ⟨rfl, hx2⟩
  have hr2 := hr1.ex hx2 not_false
  have c2 := hx2.cellS c0 not_false
  have HX2 := Lib.hid (HX1.out.trans0 hx2)
  clear hr1 c0 hx2
  go_wp2_with fail
  refine (lift_nil hid _).mono ?_
  rintro e w3 ⟨rfl, rfl⟩
  go_wp2_with fail
  refine (over_nil min min _).mono ?_
  rintro e w4 ⟨rfl, hx4⟩
  have hr4 := hr2.ex hx4 not_false
  have c4 := hx4.cellS c2 not_false
  have HX4 := Lib.hid (HX2.out.trans0 hx4)
  clear hr2 c2 hx4
  go_wp2_with fail
  refine (lall_nil _).mono ?_
  rintro e w5 ⟨rfl, hx5⟩
  have hr5 := hr4.ex hx5 not_false
  have c5 := hx5.cellS c4 not_false
  have HX5 := Lib.hid (HX4.out.trans0 hx5)
  clear hr4 c4 hx5
  go_wp2_with fail
  refine (len_nil _).mono ?_
  rintro e w6 ⟨rfl, rfl⟩
  go_wp2_with fail
  refine (clone_nil _).mono ?_
  rintro e w7 ⟨rfl, rfl⟩
  have hc5 := Lib.hid c5
  go_wp2_with (first | (refine wpList_load_at rfl _ _ rfl _ rfl _ _ (hr5.ex (Ex.alloc _ _) not_false) Try.underlying30 rfl (by kernel_rfl) ?_))
  have hB0 : BookAt (w7.alloc (.cells #[.slice none 0 0] 56)) w7.heap.size (.slice none 0 0) [] := ⟨heap_alloc_new _ _, World.ownsRow_nil _ _ _ _, by simp [Value.ownBlock]⟩
  refine (radd_any none 0 [] ⟨hid, hfr, hto, htil⟩ num min _ ⟨rfl, Nat.zero_le _, fun h => absurd h (Nat.lt_irrefl 0)⟩ (Nat.zero_le _) (fun b hb => by simp [Bl] at hb) (fun _ => rfl)).mono ?_
  rintro e w8 ⟨D, capD, rfl, hsD, hbD, _, hx8⟩
  have hx78 := Ex.trans0 (Ex.alloc w7 _) hx8
  have c8 := hx78.cellS c5 not_false
  have hr8 := hr5.ex hx78 not_false
  have HX8 := Lib.hid (HX5.out.trans0 hx78)
  have HB8 := Lib.hid (hB0.ex0 hx8)
  have HSD := Lib.hid hsD
  have hbD' : ∀ b, Bl D b → ¬ (b = w7.heap.size ∨ (Value.slice none 0 0).ownBlock = some b) ∧ b < w8.heap.size := fun b hb => by
    rcases hbD b hb with h | ⟨h1, h2⟩
    · simp [Bl] at h
    · simp at h1
      refine ⟨?_, h2⟩
      rintro (e | e)
      · omega
      · simp [Value.ownBlock] at e
  have HBD := Lib.hid hbD'
  have hge : w.heap.size < w7.heap.size := World.block_lt_of_cell? _ _ c5
  have HGE := Lib.hid hge
  clear c5 hr5 hx8 hx78 hB0 hsD hbD hbD' hc5 hge
  generalize w7.heap.size = p at *
  go_wp2_with fail
  refine (lift_any p (.slice none 0 0) [] hid _ HB8.out).mono ?_
  rintro e w9 ⟨v9, rfl, hv9, hB9, hx9⟩
  have hpw : ¬ (w.heap.size = p ∨ (Value.slice none 0 0).ownBlock = some w.heap.size) := by
    rintro (e | e)
    · have := HGE.out; omega
    · simp [Value.ownBlock] at e
  have hr9 := hr8.ex hx9 hpw
  have c9 := hx9.cellS c8 hpw
  have d1 : w9.cell? ⟨w.heap.size, 1, none⟩ = some (.int .i64 hfr) := by simpa [Addr.add] using hr9 1 _ rfl
  have d2 : w9.cell? ⟨w.heap.size, 2, none⟩ = some (.int .i64 hto) := by simpa [Addr.add] using hr9 2 _ rfl
  have d3 : w9.cell? ⟨w.heap.size, 3, none⟩ = some (.int .i64 htil) := by simpa [Addr.add] using hr9 3 _ rfl
  have HB9 := Lib.hid hB9
  have HX9 := Lib.hid hx9
  have HV9 := Lib.hid hv9
  have hle : liftE hid [] = 4 := rfl
  rw [hle]
  clear hr8 c8 hB9 hx9 hv9 hle hpw
  go_wp2_with fail
  refine (add_any p v9 [] ⟨hid, hfr, hto, htil⟩ num min _ HB9.out (Nat.zero_le _)).mono ?_
  rintro e w10 ⟨v10, rfl, hv10, hB10, hx10⟩
  have hS9 := HSD.out.ex HX9.out (fun b hb => (HBD.out b hb).1)
  have hap : ∀ b, Bl D b → ¬ (b = p ∨ v9.ownBlock = some b) := fun b hb e => (HBD.out b hb).1 (by rw [← HV9.out]; exact e)
  have hS10 := Lib.hid (hS9.ex hx10 hap)
  have HB10 := Lib.hid hB10
  have HX10 := Lib.hid hx10
  have hlen : (addL ⟨hid, hfr, hto, htil⟩ num min []).length ≤ 1 := by unfold addL; split <;> simp
  have hee : (addE ⟨hid, hfr, hto, htil⟩ num min [] == addE ⟨hid, hfr, hto, htil⟩ num min []) = true := by simp
  clear hr9 c9 d1 d2 d3 hv10 hB10 hx10 hS9 hap
  generalize addL ⟨hid, hfr, hto, htil⟩ num min [] = s at *
  go_wp2_with fail
  refine (lall_any p v10 s _ HB10.out (by omega)).mono ?_
  rintro e w11 ⟨v11, rfl, ho11, hx11⟩
  obtain ⟨A11, cap11, rfl, hsl11, _, _⟩ := own_sl' ho11
  have HX11 := Lib.hid hx11
  have HS11 := Lib.hid (hS10.out.ex0 hx11)
  have HSL := Lib.hid hsl11
  clear ho11 hx11 hsl11
  go_wp2_with fail
  refine (same_any A11 D cap11 capD s s _ HSL.out HS11.out).mono ?_
  rw [show decide (s = s) = true by simp]
  rintro e w12 ⟨rfl, hx12⟩
  have HX12 := Lib.hid hx12
  clear hx12
  go_wp2
  go_ret
  refine ⟨rfl, ?_⟩
  have h1 := HX9.out.below (B := w.heap.size) HX8.out.size (fun i e => by
    have := HGE.out
    rcases e with e | e
    · omega
    · simp [Value.ownBlock] at e)
  have h2 := HX10.out.below (B := w.heap.size) (Nat.le_trans HX8.out.size HX9.out.size) (fun i e => by
    have := HGE.out
    rcases e with e | e
    · omega
    · rw [HV9.out] at e; simp [Value.ownBlock] at e)
  have h3 := (HX11.out.trans0 HX12.out).below (B := w.heap.size) (Nat.le_trans (Nat.le_trans HX8.out.size HX9.out.size) HX10.out.size) (fun _ h => h.elim)
  exact (((HX8.out.below (Nat.le_refl _) (fun _ h => h.elim)).trans h1).trans h2).trans h3
end Go.Proofs.Ytbolioeopcmfcaa
