/- Layer 37: the law HoldPlays, the walk. -/
import Derived.Test.YtbolioeopcmfcaaHold16
namespace Go.Proofs.Ytbolioeopcmfcaa
open Go.RowKit Go.Proofs.YtbolioeopcmfcaaB Go.Shelf

/-- the document's list, beside the book -/
structure Doc (p : Nat) (v : Value) (l : List Put) (A : Option Addr) (cap : Nat) (w : World) : Prop where
  sl : Sl w 6 A l.length (l.flatMap Put.cells)
  ap : ∀ b, Bl A b → b < w.heap.size ∧ ¬ (b = p ∨ v.ownBlock = some b)
  cp : A = none → cap = 0
theorem Doc.ex0 {p : Nat} {v : Value} {l : List Put} {A : Option Addr} {cap : Nat} {w w' : World} (h : Doc p v l A cap w) (hx : Ex0 w w') : Doc p v l A cap w' :=
  ⟨h.sl.ex0 hx, fun b hb => ⟨Nat.lt_of_lt_of_le (h.ap b hb).1 hx.size, (h.ap b hb).2⟩, h.cp⟩

set_option maxRecDepth 100000 in
set_option maxHeartbeats 8000000 in
theorem plays_walk (A : Option Addr) (n cap : Nat) (l : List DeedA) (min now : Int) (w : World) (hl : Sl w 7 A n (l.flatMap DeedA.cells)) :
    Calls Try.prog 7 #[.slice A n cap, .int .i64 min, .int .i64 now] w fun e w' => e = .returned (.bool true) ∧ Below w.heap.size w w' := by
  have hm := hl.small
  have hln : l.length = n := by have := hl.len; rw [flat_len DeedA.cells 7 DeedA.len] at this; omega
  go_enter Try.func7, Try.ntmps7
  go_wp2_with fail
  refine (awake_any _).mono ?_
  rintro e w1 ⟨rfl, hx1⟩
  have hl1 := hl.ex0 hx1
  have HX1 := Lib.hid hx1
  clear hx1 hl
  by_cases h90 : 90 < n
  · go_wp2
    go_ret
    exact ⟨rfl, HX1.out.below (Nat.le_refl _) (fun _ h => h.elim)⟩
  have h90' : (n : Int) ≤ 90 := by omega
  go_wp2_with fail
  refine (new_any w1).mono ?_
  rintro e w2 ⟨rfl, hA2, hx2⟩
  have T0 : One w1 w1.heap.size (.slice none 0 0) [] w2 := ⟨hA2, fun b hb => by simp [Value.ownBlock] at hb, Nat.le_refl _, hx2.below (Nat.le_refl _) (fun _ h => h.elim)⟩
  generalize hp : w1.heap.size = p at T0 ⊢
  clear hx2 hA2 hp
  go_wp2
  go_loopw [8, 9] (fun x i wr => ∃ k : Nat, k ≤ n ∧ i = .int .i64 k ∧ ∃ v D capD, x = .slice D (play (l.take k)).length capD ∧ One w1 p v (play (l.take k)) wr ∧ Doc p v (play (l.take k)) D capD wr) (fun _ i _ => n - (intOf i).toNat)
  case atStart => exact ⟨0, Nat.zero_le _, rfl, _, none, 0, rfl, T0, ⟨⟨rfl, Nat.zero_le _, fun h => absurd h (Nat.lt_irrefl 0)⟩, (fun b hb => by simp [Bl] at hb), fun _ => rfl⟩⟩
  case round =>
    clear T0
    obtain ⟨k, hk, rfl, v, D, capD, rfl, hT, hD⟩ := hrel
    have hok := playOk (l.take k)
    have hsD := hD.sl.small
    by_cases hlt : k < n
    · obtain ⟨g, off, hkl, rfl, hr⟩ := (hl1.below (by decide) hT.bel).row DeedA.len (by omega) hlt
      have hgl := hl1.lt (by omega) (by decide) g rfl
      have hsn := play_take l k hkl
      have hok2 := playOk (l.take (k + 1))
      generalize hg2 : play (l.take (k + 1)) = s2 at hsn hok2
      have HG := Lib.hid hg2
      clear hg2
      generalize play (l.take k) = s at hT hD hok hsn hsD ⊢
      have HS := Lib.hid hsn
      clear hsn
      generalize l[k] = d at hr HS
      obtain ⟨lift, h, num, mi⟩ := d
      have hi0' : (0 : Int) ≤ (k : Int) := Int.natCast_nonneg _
      have hi1 : (k : Int) < (n : Int) := by omega
      have hs64 := hok.len
      have HT := Lib.hid hT
      have HD := Lib.hid hD
      have HOK := Lib.hid hok
      have HOK2 := Lib.hid hok2
      clear hT hok hD hok2
      go_wp2_with fail
      refine (clone_any p v s wr HT.out.A (by omega)).mono ?_
      rintro e w4 ⟨p', v', rfl, hp', hv', hB4, hx4⟩
      have hr4 := hr.ex hx4 not_false
      unfold DeedA.cells at hr4
      have hT4 := Lib.hid (HT.out.ex0 hx4)
      have hD4 := Lib.hid (HD.out.ex0 hx4)
      have hbn : ∀ b, (b = p' ∨ v'.ownBlock = some b) → ¬ (b = p ∨ v.ownBlock = some b) := by
        have h1 := HT.out.A.lt
        have h2 := fun b hb => (HT.out.A.own.lt b hb).2
        rintro b (rfl | e) (rfl | e2)
        · omega
        · have := h2 _ e2; omega
        · have := hv' _ e; omega
        · have := hv' _ e; have := h2 _ e2; omega
      have HBN := Lib.hid hbn
      have HB4 := Lib.hid hB4
      clear hr hx4 hp' hv' hB4 hbn
      go_wp2_with (first | (refine wpList_load_at rfl _ _ rfl _ rfl _ _ hr4 Try.underlying32 rfl (by kernel_rfl) ?_))
      refine (do_any p v s D capD ⟨lift, h, num, mi⟩ _ hT4.out.A hD4.out.sl HOK.out hD4.out.ap hD4.out.cp).mono ?_
      rintro e w5 ⟨v5, D5, cap5, rfl, hv5, hB5, hs5, hap5, hcp5, hx5⟩
      have hT5 := Lib.hid (hT4.out.add hv5 hB5 hx5)
      have hD5 : Doc p v5 (playStep s ⟨lift, h, num, mi⟩) D5 cap5 w5 := ⟨hs5, hap5, hcp5⟩
      rw [← HS.out] at hT5 hD5 ⊢
      have HD5 := Lib.hid hD5
      have hBk := Lib.hid (HB4.out.ex hx5 (fun e => HBN.out _ (.inl rfl) e) (fun b hb e => HBN.out b (.inr hb) e))
      have hSD5 := Lib.hid (hD4.out.sl.ex hx5 (fun b hb => (hD4.out.ap b hb).2))
      have hee : (doE s ⟨lift, h, num, mi⟩ != doE s ⟨lift, h, num, mi⟩) = false := by simp
      clear hv5 hB5 hs5 hap5 hcp5 hx5 hD5 hr4
      go_wp2_with fail
      refine (lall_any p' v' s _ hBk.out (by omega)).mono ?_
      rintro e w6 ⟨v6, rfl, ho6, hx6⟩
      obtain ⟨A6, cap6, rfl, hsl6, _, _⟩ := own_sl' ho6
      have hT6 := Lib.hid (hT5.out.ex0 hx6)
      have HD6 := Lib.hid (HD5.out.ex0 hx6)
      have hSD6 := Lib.hid (hSD5.out.ex0 hx6)
      have HSL6 := Lib.hid hsl6
      clear ho6 hx6 hsl6
      go_wp2_with fail
      refine (same_any A6 D cap6 capD s s _ HSL6.out hSD6.out).mono ?_
      rw [show decide (s = s) = true by simp]
      rintro e w7 ⟨rfl, hx7⟩
      have hT7 := Lib.hid (hT6.out.ex0 hx7)
      have HD7 := Lib.hid (HD6.out.ex0 hx7)
      have hs264 := HOK2.out.len
      clear hx7
      go_wp2_with fail
      refine (lall_any p v5 s2 _ hT7.out.A (by omega)).mono ?_
      rintro e w8 ⟨v8, rfl, ho8, hx8⟩
      obtain ⟨A8, cap8, rfl, hsl8, _, _⟩ := own_sl' ho8
      have hT8 := Lib.hid (hT7.out.ex0 hx8)
      have HD8 := Lib.hid (HD7.out.ex0 hx8)
      have HSL8 := Lib.hid hsl8
      clear ho8 hx8 hsl8
      go_wp2_with fail
      refine (same_any A8 D5 cap8 cap5 s2 s2 _ HSL8.out HD8.out.sl).mono ?_
      rw [show decide (s2 = s2) = true by simp]
      rintro e w9 ⟨rfl, hx9⟩
      have hT9 := Lib.hid (hT8.out.ex0 hx9)
      have HD9 := Lib.hid (HD8.out.ex0 hx9)
      have hnn : ((s2.length : Int) != (s2.length : Int)) = false := by simp
      clear hx9
      go_wp2_with fail
      refine (len_any p v5 s2 _ hT9.out.A).mono ?_
      rintro e w10 ⟨rfl, rfl⟩
      go_wp2_with fail
      refine (over_any p v5 s2 min now _ hT9.out.A (by omega)).mono ?_
      rintro e w11 ⟨v11, rfl, ho11, hx11⟩
      obtain ⟨A11, cap11, rfl, hsl11, _, _⟩ := own_sl' ho11
      have hT11 := Lib.hid (hT9.out.ex0 hx11)
      have HD11 := Lib.hid (HD9.out.ex0 hx11)
      have HSL11 := Lib.hid hsl11
      clear ho11 hx11 hsl11
      go_wp2_with fail
      refine (rover_any D5 cap5 s2 min now _ HD11.out.sl (by omega)).mono ?_
      rintro e w12 ⟨v12, rfl, ho12, hx12⟩
      obtain ⟨A12, cap12, rfl, hsl12, _, _⟩ := own_sl' ho12
      have hT12 := Lib.hid (hT11.out.ex0 hx12)
      have HD12 := Lib.hid (HD11.out.ex0 hx12)
      have HSL12 := Lib.hid (HSL11.out.ex0 hx12)
      have HSLR := Lib.hid hsl12
      clear ho12 hx12 hsl12
      go_wp2_with fail
      refine (same_any A11 A12 cap11 cap12 (overL min now s2) (overL min now s2) _ HSL12.out HSLR.out).mono ?_
      rw [show decide (overL min now s2 = overL min now s2) = true by simp]
      rintro e w13 ⟨rfl, hx13⟩
      have hT13 := Lib.hid (hT12.out.ex0 hx13)
      have HD13 := Lib.hid (HD12.out.ex0 hx13)
      clear hx13
      go_wp2
      go_roundw
      case rel => exact ⟨k + 1, by omega, by go_num, v5, D5, cap5, by rw [HG.out]; exact ⟨rfl, hT13.out, HD13.out⟩⟩
      case measure => simp [intOf]; omega
    · have HT := Lib.hid hT
      clear hT hD hok
      go_wp2
      go_ret
      exact ⟨rfl, (HX1.out.trans (exOfBelow HT.out.bel) (U := fun b => w1.heap.size ≤ b) (fun _ _ h => h.elim) (fun _ _ h => h)).below (Nat.le_refl _) (fun i e => by have := HX1.out.size; omega)⟩
end Go.Proofs.Ytbolioeopcmfcaa
