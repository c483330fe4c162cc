/- Contracts of layer 37: Add. -/
import Derived.Test.YtbolioeopcmfcaaHold4
import Derived.Test.YtbolioeopcmfcaaB2
namespace Go.Proofs.Ytbolioeopcmfcaa
open Go.RowKit Go.Proofs.YtbolioeopcmfcaaB Go.Shelf

def addE (h : Held) (num min : Int) (l : List Put) : Int :=
  if mayB h && minuteB min then
    if h.til ≤ min then 7 else if l.any (fun x => x.h.id == h.id) then 5 else if l.any (pastB num min) then 15 else if 64 ≤ l.length then 6 else 0
  else 2
def addL (h : Held) (num min : Int) (l : List Put) : List Put := if addE h num min l = 0 then l ++ [⟨h, num, min⟩] else l

/-- what Add reads -/
structure AddC (p bh bn bm : Nat) (v : Value) (h : Held) (num min : Int) (w : World) : Prop where
  cp : w.cell? ⟨p, 0, none⟩ = some v
  c0 : w.cell? ⟨bh, 0, none⟩ = some (.int .u64 h.id)
  c1 : w.cell? ⟨bh, 1, none⟩ = some (.int .i64 h.fr)
  c2 : w.cell? ⟨bh, 2, none⟩ = some (.int .i64 h.to)
  c3 : w.cell? ⟨bh, 3, none⟩ = some (.int .i64 h.til)
  c4 : w.cell? ⟨bn, 0, none⟩ = some (.int .u64 num)
  c5 : w.cell? ⟨bm, 0, none⟩ = some (.int .i64 min)
  l0 : bh < w.heap.size
  l4 : bn < w.heap.size
  l5 : bm < w.heap.size
  lp : p < w.heap.size
theorem AddC.ex0 {p bh bn bm : Nat} {v : Value} {h : Held} {num min : Int} {w w' : World} (a : AddC p bh bn bm v h num min w) (hx : Ex0 w w') : AddC p bh bn bm v h num min w' :=
  ⟨hx.cellS a.cp not_false, hx.cellS a.c0 not_false, hx.cellS a.c1 not_false, hx.cellS a.c2 not_false, hx.cellS a.c3 not_false, hx.cellS a.c4 not_false, hx.cellS a.c5 not_false,
    Nat.lt_of_lt_of_le a.l0 hx.size, Nat.lt_of_lt_of_le a.l4 hx.size, Nat.lt_of_lt_of_le a.l5 hx.size, Nat.lt_of_lt_of_le a.lp hx.size⟩

def addW (w : World) (h : Held) (num min : Int) : World :=
  ((w.alloc (.cells #[.int .u64 h.id, .int .i64 h.fr, .int .i64 h.to, .int .i64 h.til] 30)).alloc (.cells #[.int .u64 num] 28)).alloc (.cells #[.int .i64 min] 3)
theorem addW_ex (w : World) (h : Held) (num min : Int) : Ex0 w (addW w h num min) := ((Ex.alloc _ _).alloc' _).alloc' _
theorem addW_c {p : Nat} {v : Value} (w : World) (h : Held) (num min : Int) (hc : w.cell? ⟨p, 0, none⟩ = some v) : AddC p w.heap.size (w.heap.size + 1) (w.heap.size + 1 + 1) v h num min (addW w h num min) := by
  have hl : p < w.heap.size := World.block_lt_of_cell? _ _ hc
  unfold addW
  refine ⟨(Ex.alloc' (Ex.alloc' (Ex.alloc _ _) _) _).cellS hc not_false, ?_, ?_, ?_, ?_, ?_, ?_, ?_, ?_, ?_, ?_⟩ <;> first | (go_simp; done) | (simp; omega)

section
variable {h : Held} {num min : Int} {l : List Put}
theorem addE_m (hm : mayB h = false) : addE h num min l = 2 := by simp [addE, hm]
theorem addE_n (hm : minuteB min = false) : addE h num min l = 2 := by simp [addE, hm]
theorem addE_7 (h1 : mayB h = true) (h2 : minuteB min = true) (h3 : h.til ≤ min) : addE h num min l = 7 := by simp [addE, h1, h2, h3]
theorem addE_5 (h1 : mayB h = true) (h2 : minuteB min = true) (h3 : min < h.til) (h4 : l.any (fun x => x.h.id == h.id) = true) : addE h num min l = 5 := by rw [addE, h1, h2, h4, if_neg (by omega : ¬ h.til ≤ min)]; rfl
theorem addE_15 (h1 : mayB h = true) (h2 : minuteB min = true) (h3 : min < h.til) (h4 : l.any (fun x => x.h.id == h.id) = false) (h5 : l.any (pastB num min) = true) : addE h num min l = 15 := by rw [addE, h1, h2, h4, h5, if_neg (by omega : ¬ h.til ≤ min)]; rfl
theorem addE_6 (h1 : mayB h = true) (h2 : minuteB min = true) (h3 : min < h.til) (h4 : l.any (fun x => x.h.id == h.id) = false) (h5 : l.any (pastB num min) = false) (h6 : 64 ≤ l.length) : addE h num min l = 6 := by rw [addE, h1, h2, h4, h5, if_neg (by omega : ¬ h.til ≤ min), if_pos h6]; rfl
theorem addE_0 (h1 : mayB h = true) (h2 : minuteB min = true) (h3 : min < h.til) (h4 : l.any (fun x => x.h.id == h.id) = false) (h5 : l.any (pastB num min) = false) (h6 : ¬ 64 ≤ l.length) : addE h num min l = 0 := by rw [addE, h1, h2, h4, h5, if_neg (by omega : ¬ h.til ≤ min), if_neg h6]; rfl
end
def AddPost (p : Nat) (v : Value) (l : List Put) (h : Held) (num min : Int) (w : World) (e : Ending) (w' : World) : Prop :=
  ∃ v', e = .returned (.int .i64 (addE h num min l)) ∧ (v'.ownBlock = v.ownBlock ∨ ∃ b, v'.ownBlock = some b ∧ w.heap.size ≤ b) ∧
      BookAt w' p v' (addL h num min l) ∧ Ex (fun b => b = p ∨ v.ownBlock = some b) w w'
theorem addPost_same {p : Nat} {v : Value} {l : List Put} {h : Held} {num min : Int} {w w' : World} {k : Int} (hB : BookAt w p v l) (hx : Ex0 w w') (hk : addE h num min l = k) (h0 : k ≠ 0) : AddPost p v l h num min w (.returned (.int .i64 k)) w' :=
  ⟨v, by rw [hk], .inl rfl, by unfold addL; rw [hk, if_neg h0]; exact hB.ex0 hx, hx.to (fun _ _ hh => hh.elim)⟩

theorem addS {S : Nat → Prop} {p bh bn bm : Nat} {v v0 v1 v2 v3 v4 v5 : Value} {w w' : World} (hx : Ex S w w')
    (h : w.drew.cell? ⟨p, 0, none⟩ = some v ∧ w.drew.cell? ⟨bh, 0, none⟩ = some v0 ∧ w.drew.cell? ⟨bh, 1, none⟩ = some v1 ∧ w.drew.cell? ⟨bh, 2, none⟩ = some v2 ∧ w.drew.cell? ⟨bh, 3, none⟩ = some v3 ∧ w.drew.cell? ⟨bn, 0, none⟩ = some v4 ∧ w.drew.cell? ⟨bm, 0, none⟩ = some v5)
    (hp : ¬ S p) (hh : ¬ S bh) (hn : ¬ S bn) (hm : ¬ S bm) :
    w'.cell? ⟨p, 0, none⟩ = some v ∧ w'.cell? ⟨bh, 0, none⟩ = some v0 ∧ w'.cell? ⟨bh, 1, none⟩ = some v1 ∧ w'.cell? ⟨bh, 2, none⟩ = some v2 ∧ w'.cell? ⟨bh, 3, none⟩ = some v3 ∧ w'.cell? ⟨bn, 0, none⟩ = some v4 ∧ w'.cell? ⟨bm, 0, none⟩ = some v5 :=
  ⟨hx.cellS h.1 hp, hx.cellS h.2.1 hh, hx.cellS h.2.2.1 hh, hx.cellS h.2.2.2.1 hh, hx.cellS h.2.2.2.2.1 hh, hx.cellS h.2.2.2.2.2.1 hn, hx.cellS h.2.2.2.2.2.2 hm⟩

theorem addPost_put {p : Nat} {v : Value} {l : List Put} {h : Held} {num min : Int} {w w3 w4 : World} {A : Option Addr} {cap gg cap1 : Nat} (hB : BookAt w p v l) (hv : v = .slice A l.length cap) (hX3 : Ex0 w w3)
    (hx4 : Ex (fun b => (Value.slice A l.length cap).ownBlock = some b) w3 w4) (hob : ∀ b, (Value.slice A l.length cap).ownBlock = some b → b ≠ p ∧ b < w.heap.size)
    (ho : w4.ownsRow 0 38 6 (.slice (some ⟨gg, 0, none⟩) (l.length + 1) cap1) (l.length + 1) (l.flatMap Put.cells ++ [.int .u64 h.id, .int .i64 h.fr, .int .i64 h.to, .int .i64 h.til, .int .u64 num, .int .i64 min]))
    (hb4 : w4.heap[p]? = some (.cells #[v] 56 (0, 0))) (hat : (Value.slice A l.length cap).ownBlock = some gg ∨ gg = w3.heap.size + 1) (e0 : addE h num min l = 0) :
    AddPost p v l h num min w (.returned (.int .i64 0)) (w4.setCell ⟨p, 0, none⟩ (.slice (some ⟨gg, 0, none⟩) (l.length + 1) cap1)) := by
  subst hv
  have hgp : gg ≠ p := by
    rcases hat with h | h
    · exact (hob _ h).1
    · have := hX3.size; have := hB.lt; omega
  have hL : addL h num min l = l ++ [⟨h, num, min⟩] := by unfold addL; rw [if_pos e0]
  refine ⟨.slice (some ⟨gg, 0, none⟩) (l.length + 1) cap1, by rw [e0], ?_, ?_, ?_⟩
  · rcases hat with h | h
    · exact .inl h.symm
    · exact .inr ⟨gg, rfl, by have := hX3.size; omega⟩
  · rw [hL]
    refine ⟨heap_setCell_same w4 p 0 #[_] _ _ hb4, ?_, by simpa [Value.ownBlock] using hgp⟩
    have := own_ex ho (Ex.setCell w4 ⟨p, 0, none⟩ (.slice (some ⟨gg, 0, none⟩) (l.length + 1) cap1)) (fun b hb he => hgp (by simp [Value.ownBlock] at hb; rw [hb]; exact he))
    simpa [Put.cells] using this
  · exact ((hX3.trans hx4 (fun _ _ h => h.elim) (fun _ _ h => h)).trans (Ex.setCell w4 _ _) (U := fun b => b = p ∨ (Value.slice A l.length cap).ownBlock = some b) (fun _ _ h => .inr h) (fun _ _ h => .inl h))

set_option maxHeartbeats 4000000 in
theorem add_any (p : Nat) (v : Value) (l : List Put) (h : Held) (num min : Int) (w : World) (hB : BookAt w p v l) (hw : l.length ≤ 1000) :
    Calls Try.prog 11 #[.pointer (some ⟨p, 0, none⟩), h.val, .int .u64 num, .int .i64 min] w (AddPost p v l h num min w) := by
  have hC := addW_c w h num min hB.cell
  have hX := addW_ex w h num min
  have hlp := hB.lt
  have HW : Hid (addW w h num min = ((w.alloc (.cells #[.int .u64 h.id, .int .i64 h.fr, .int .i64 h.to, .int .i64 h.til] 30)).alloc (.cells #[.int .u64 num] 28)).alloc (.cells #[.int .i64 min] 3)) := rfl
  generalize addW w h num min = wa at *
  obtain ⟨cp, c0, c1, c2, c3, c4, c5, l0, l4, l5, lp⟩ := id hC
  go_enter Try.func11, Try.ntmps11
  unfold Held.val
  go_wp2_with fail
  rw [← HW.out]
  refine (may_any h _).mono ?_
  rintro e w1 ⟨rfl, hx⟩
  have hC1 := hC.ex0 hx
  have hX1 := hX.trans0 hx
  clear hC hx hX HW c0 c1 c2 c3 c4 c5 l0 l4 l5 cp lp
  obtain ⟨cp, c0, c1, c2, c3, c4, c5, l0, l4, l5, lp⟩ := id hC1
  cases hm : mayB h
  · have HM := Lib.hid hm
    clear hm
    go_wp2
    go_ret
    exact addPost_same hB hX1 (addE_m HM.out) (by decide)
  have HM := Lib.hid hm
  clear hm
  go_wp2_with fail
  refine (minute_any min _).mono ?_
  rintro e w1' ⟨rfl, rfl⟩
  cases hm : minuteB min
  · have HN := Lib.hid hm
    clear hm
    go_wp2
    go_ret
    exact addPost_same hB hX1 (addE_n HN.out) (by decide)
  have HN := Lib.hid hm
  clear hm
  by_cases ht : h.til ≤ min
  · have HT := Lib.hid ht
    go_wp2
    go_ret
    exact addPost_same hB hX1 (addE_7 HM.out HN.out HT.out) (by decide)
  have HT := Lib.hid ht
  go_wp2_with fail
  refine (find_any p v l h.id _ (hB.ex0 hX1)).mono ?_
  rintro e w2 ⟨rfl, hx⟩
  have hC2 := hC1.ex0 hx
  have hX2 := hX1.trans0 hx
  clear hC1 hx hX1 c0 c1 c2 c3 c4 c5 l0 l4 l5 cp lp
  obtain ⟨cp, c0, c1, c2, c3, c4, c5, l0, l4, l5, lp⟩ := id hC2
  have hid := idxOf_any (fun x => x.h.id == h.id) l
  generalize hii : idxOf (fun x => x.h.id == h.id) l = ii at hid ⊢
  cases ha : l.any (fun x => x.h.id == h.id)
  case true =>
    rw [ha] at hid
    have h0i : 0 ≤ ii := by simpa using hid
    have HA := Lib.hid ha
    clear ha hid hii
    go_wp2
    go_ret
    exact addPost_same hB hX2 (addE_5 HM.out HN.out HT.out HA.out) (by decide)
  rw [ha] at hid
  have h0i : ¬ 0 ≤ ii := by simpa using hid
  have HA := Lib.hid ha
  clear ha hid hii
  go_wp2_with fail
  obtain ⟨A, cap, hv, hsl, hbl⟩ := own_sl (hB.ex0 hX2).own
  have HV := Lib.hid hv
  have HBL := Lib.hid hbl
  clear hv hbl
  rw [HV.out]
  refine (containsFunc_any A l.length cap l 27 _ (pastB num min) _ hsl (enters_of Try.func27 (by kernel_rfl) rfl) ?_).mono ?_
  · intro x _ w' hw'
    exact isPast_any x num min _ _ w' (hw'.cellS c4 not_false) (hw'.cellS c5 not_false)
  rintro e w3 ⟨rfl, hx⟩
  have hC3 := hC2.ex0 hx
  have hX3 := hX2.trans0 hx
  have hsl3 := hsl.ex0 hx
  clear hC2 hx hX2 hsl c0 c1 c2 c3 c4 c5 l0 l4 l5 cp lp
  obtain ⟨cp, c0, c1, c2, c3, c4, c5, l0, l4, l5, lp⟩ := id hC3
  cases hm : l.any (pastB num min)
  case true =>
    have HP := Lib.hid hm
    clear hm
    go_wp2
    go_ret
    exact addPost_same hB hX3 (addE_15 HM.out HN.out HT.out HA.out HP.out) (by decide)
  have HP := Lib.hid hm
  clear hm
  rw [HV.out] at cp
  by_cases h64 : 64 ≤ l.length
  · go_wp2
    go_ret
    exact addPost_same hB hX3 (addE_6 HM.out HN.out HT.out HA.out HP.out h64) (by decide)
  have hsm := hsl3.small
  go_wp2_with fail
  have ho3 := (hB.ex0 hX3).own
  rw [HV.out] at ho3
  have HO := Lib.hid ho3
  have HB3 := Lib.hid (hB.ex0 hX3).blk
  clear ho3
  have Hne := Lib.hid hB.ne
  obtain ⟨i0, hi0, hz0, hz1, hz2⟩ := info_parts infoPut
  have hf : w3.frozen? ⟨p, 0, none⟩ = false := frozen_of_row w3 p 0 _ _ HB3.out
  have hS0 : w3.drew.cell? ⟨p, 0, none⟩ = some (.slice A l.length cap) ∧ w3.drew.cell? ⟨w.heap.size, 0, none⟩ = some (.int .u64 h.id) ∧ w3.drew.cell? ⟨w.heap.size, 1, none⟩ = some (.int .i64 h.fr) ∧ w3.drew.cell? ⟨w.heap.size, 2, none⟩ = some (.int .i64 h.to) ∧ w3.drew.cell? ⟨w.heap.size, 3, none⟩ = some (.int .i64 h.til) ∧ w3.drew.cell? ⟨w.heap.size + 1, 0, none⟩ = some (.int .u64 num) ∧ w3.drew.cell? ⟨w.heap.size + 1 + 1, 0, none⟩ = some (.int .i64 min) := ⟨cp, c0, c1, c2, c3, c4, c5⟩
  refine wp_region_head (fun w' => w'.cell? ⟨p, 0, none⟩ = some (.slice A l.length cap) ∧ w'.cell? ⟨w.heap.size, 0, none⟩ = some (.int .u64 h.id) ∧ w'.cell? ⟨w.heap.size, 1, none⟩ = some (.int .i64 h.fr) ∧ w'.cell? ⟨w.heap.size, 2, none⟩ = some (.int .i64 h.to) ∧ w'.cell? ⟨w.heap.size, 3, none⟩ = some (.int .i64 h.til) ∧ w'.cell? ⟨w.heap.size + 1, 0, none⟩ = some (.int .u64 num) ∧ w'.cell? ⟨w.heap.size + 1 + 1, 0, none⟩ = some (.int .i64 min)) 11 (by kernel_rfl) (by decide) ?_
  simp only [List.length_cons, List.length_nil, List.drop_succ_cons, List.drop_zero]
  refine' wpHead_do 0 rfl (by kernel_rfl) (fun _ _ _ _ h => h) (by rfl) (by assumption) ⟨_, fun w' hS => ?_, ?_⟩
  rotate_left
  · ((try dsimp only at hS); go_split_ands; go_simp; try (with_reducible rfl))
  simp only [Act.put, List.setIfInBounds_toArray, List.set_cons_zero, List.set_cons_succ]
  refine' wpHead_do 1 rfl (by kernel_rfl) (fun _ _ _ _ h => h) (by rfl) (by assumption) ⟨_, fun w' hS => ?_, ?_⟩
  rotate_left
  · ((try dsimp only at hS); go_split_ands; go_simp; try (with_reducible rfl))
  simp only [Act.put, List.setIfInBounds_toArray, List.set_cons_zero, List.set_cons_succ]
  refine' wpHead_do 2 rfl (by kernel_rfl) (fun _ _ _ _ h => h) (by rfl) (by assumption) ⟨_, fun w' hS => ?_, ?_⟩
  rotate_left
  · ((try dsimp only at hS); go_split_ands; go_simp; try (with_reducible rfl))
  simp only [Act.put, List.setIfInBounds_toArray, List.set_cons_zero, List.set_cons_succ]
  refine' wpHead_do 3 rfl (by kernel_rfl) (fun _ _ _ _ h => h) (by rfl) (by assumption) ⟨_, fun w' hS => ?_, ?_⟩
  rotate_left
  · ((try dsimp only at hS); go_split_ands; go_simp; try (with_reducible rfl))
  simp only [Act.put, List.setIfInBounds_toArray, List.set_cons_zero, List.set_cons_succ]
  refine' wpHead_do 4 rfl (by kernel_rfl) (fun _ _ _ _ h => h) (by rfl) (by assumption) ⟨_, fun w' hS => ?_, ?_⟩
  rotate_left
  · ((try dsimp only at hS); go_split_ands; go_simp; try (with_reducible rfl))
  simp only [Act.put, List.setIfInBounds_toArray, List.set_cons_zero, List.set_cons_succ]
  refine' wpHead_do 5 rfl (by kernel_rfl) (fun _ _ _ _ h => h) (by rfl) (by assumption) ⟨_, fun w' hS => ?_, ?_⟩
  rotate_left
  · ((try dsimp only at hS); go_split_ands; go_simp; try (with_reducible rfl))
  simp only [Act.put, List.setIfInBounds_toArray, List.set_cons_zero, List.set_cons_succ]
  refine' wpHead_do 6 rfl (by kernel_rfl) (fun _ _ _ _ h => h) (by rfl) (by assumption) ⟨_, fun w' hS => ?_, ?_⟩
  rotate_left
  · ((try dsimp only at hS); go_split_ands; go_simp; try (with_reducible rfl))
  simp only [Act.put, List.setIfInBounds_toArray, List.set_cons_zero, List.set_cons_succ]
  refine' wpHead_do 7 rfl (by kernel_rfl) (fun _ _ _ _ h => h) (by rfl) (by assumption) ⟨_, fun w' hS => ?_, ?_⟩
  rotate_left
  · ((try dsimp only at hS); go_split_ands; go_simp; try (with_reducible rfl))
  simp only [Act.put, List.setIfInBounds_toArray, List.set_cons_zero, List.set_cons_succ]
  refine' wpHead_do 8 rfl (by kernel_rfl) (fun _ _ _ _ h => h) (by rfl) (by assumption) ⟨_, fun w' hS => ?_, ?_⟩
  rotate_left
  · ((try dsimp only at hS); go_split_ands; go_simp; try (with_reducible rfl))
  simp only [Act.put, List.setIfInBounds_toArray, List.set_cons_zero, List.set_cons_succ]
  refine wpHead_eff 9 rfl (by kernel_rfl) (by rfl) (fun K hK => ?_)
  go_simp
  refine hK _ _ (addS ((Ex.alloc w3 _).drew') hS0 not_false not_false not_false not_false) ?_
  clear hK K
  refine wpHead_eff 10 rfl (by kernel_rfl) (by rfl) (fun K hK => ?_)
  refine wp_append_lies _ _ _ _ rfl 0 38 i0 _ 6 48 Try.underlying35 hi0 hz0 hz1 hz2 rfl (by omega) (.slice A l.length cap) l.length (l.flatMap Put.cells) rfl (own_ex HO.out ((Ex.alloc w3 _).drew') (fun _ _ => id)) ⟨w3.heap.size, 0, none⟩ 1 1 [.int .u64 h.id, .int .i64 h.fr, .int .i64 h.to, .int .i64 h.til, .int .u64 num, .int .i64 min] rfl rfl (World.news_of_block (cs := #[.int .u64 h.id, .int .i64 h.fr, .int .i64 h.to, .int .i64 h.til, .int .u64 num, .int .i64 min]) (t := 38) (fr := (0, 0)) (heap_alloc_new w3 _)) (by simp [Value.oneCell']) (by omega) (by unfold maxLen; omega) (by omega) (by simp) (w3.heap.size + 1) (by simp) ?_
  intro gg cap1 w4 hown1 hgrow hat hlt
  have hx4 : Ex (fun b => (Value.slice A l.length cap).ownBlock = some b) w3 w4 := ((Ex.alloc w3 _).drew').trans (Ex.ofGrown hgrow) (fun _ _ h => h.elim) (fun _ _ h => h)
  have hob : ∀ b, (Value.slice A l.length cap).ownBlock = some b → b ≠ p ∧ b < w.heap.size := fun b hb => ⟨fun e => Hne.out (by rw [HV.out, hb, e]), (hB.own.lt b (by rw [HV.out]; exact hb)).2⟩
  refine hK _ _ (addS hx4 hS0 (fun hb => (hob _ hb).1 rfl) (fun hb => Nat.lt_irrefl _ (hob _ hb).2) (fun hb => by have := (hob _ hb).2; omega) (fun hb => by have := (hob _ hb).2; omega)) ?_
  clear hK K
  have hc4 : w4.cell? ⟨p, 0, none⟩ = some (.slice A l.length cap) := hx4.cellS cp (fun hb => (hob _ hb).1 rfl)
  have hf4 : w4.frozen? ⟨p, 0, none⟩ = false := (hx4.frozen lp (fun hb => (hob _ hb).1 rfl)).trans hf
  have hb4 : w4.heap[p]? = some (.cells #[v] 56 (0, 0)) := (hx4.block p lp (fun hb => (hob _ hb).1 rfl)).trans HB3.out
  have HB4 := Lib.hid hb4
  have HX4 := Lib.hid hx4
  have HOB := Lib.hid hob
  have HO1 := Lib.hid hown1
  have HAT := Lib.hid hat
  clear hx4 hob hown1 hat hgrow hb4
  refine wpHead_tail (by kernel_rfl) ?_
  go_wp2
  go_ret
  exact addPost_put hB HV.out hX3 HX4.out HOB.out HO1.out HB4.out HAT.out (addE_0 HM.out HN.out HT.out HA.out HP.out h64)

theorem add_nil (h : Held) (num min : Int) (w : World) :
    Calls Try.prog 11 #[.pointer none, h.val, .int .u64 num, .int .i64 min] w fun e w' => e = .returned (.int .i64 1) ∧ Ex0 w w' := by
  unfold Held.val
  go_enter Try.func11, Try.ntmps11
  go_wp2
  go_ret
  exact ⟨rfl, ((Ex.alloc _ _).alloc' _).alloc' _⟩
end Go.Proofs.Ytbolioeopcmfcaa
