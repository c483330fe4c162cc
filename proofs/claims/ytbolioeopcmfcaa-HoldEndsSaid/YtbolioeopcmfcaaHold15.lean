/- Layer 37: a book that is played on; the law HoldLifts, the walk. -/
import Derived.Test.YtbolioeopcmfcaaHold14
namespace Go.Proofs.Ytbolioeopcmfcaa
open Go.RowKit Go.Proofs.YtbolioeopcmfcaaB Go.Shelf

/-- one act, by the book -/
def playStep (l : List Put) (d : DeedA) : List Put := if d.lift then liftL d.h.id l else addL d.h d.num d.min l
def play (l : List DeedA) : List Put := l.foldl playStep []

def Rise (x y : Put) : Prop := x.num < y.num ∧ x.min ≤ y.min ∧ x.h.id ≠ y.h.id
structure PlayOk (l : List Put) : Prop where
  rise : l.Pairwise Rise
  len : l.length ≤ 64

theorem liftL_sub (id : Int) (l : List Put) : (liftL id l).Sublist l := by
  unfold liftL
  split
  · exact List.eraseIdx_sublist _ _
  · exact List.Sublist.refl _

theorem rise_add {h : Held} {num min : Int} {l : List Put} (hl : PlayOk l) (h0 : addE h num min l = 0) : PlayOk (l ++ [⟨h, num, min⟩]) := by
  obtain ⟨_, _, _, h4, h5, h6⟩ := addE_cases h0
  refine ⟨List.pairwise_append.2 ⟨hl.rise, List.pairwise_singleton _ _, ?_⟩, by simp; omega⟩
  intro x hx y hy
  simp only [List.mem_singleton] at hy; subst hy
  rw [List.any_eq_false] at h4 h5
  have e4 := h4 x hx
  have e5 := h5 x hx
  unfold pastB at e5
  simp at e4 e5
  exact ⟨by simp; omega, by simp; omega, e4⟩

theorem playOk_add {h : Held} {num min : Int} {l : List Put} (hl : PlayOk l) : PlayOk (addL h num min l) := by
  unfold addL
  split
  · rename_i h0; exact rise_add hl h0
  · exact hl

theorem playOk_step {l : List Put} {d : DeedA} (h : PlayOk l) : PlayOk (playStep l d) := by
  unfold playStep
  split
  · exact ⟨h.rise.sublist (liftL_sub _ _), Nat.le_trans (liftL_sub _ _).length_le h.len⟩
  · exact playOk_add h
theorem playOk_nil : PlayOk [] := ⟨List.Pairwise.nil, by simp⟩
theorem playOk_fold : ∀ (l : List DeedA) (s : List Put), PlayOk s → PlayOk (l.foldl playStep s)
  | [], _, h => h
  | _ :: l, _, h => playOk_fold l _ (playOk_step h)
theorem playOk (l : List DeedA) : PlayOk (play l) := playOk_fold l [] playOk_nil
theorem play_take (l : List DeedA) (k : Nat) (hk : k < l.length) : play (l.take (k + 1)) = playStep (play (l.take k)) l[k] := by
  unfold play
  rw [List.take_succ_eq_append_getElem hk, List.foldl_append]; rfl

/-- a lift that takes back what was put last -/
theorem lift_last {l : List Put} {x : Put} (h : l.any (fun y => y.h.id == x.h.id) = false) : liftE x.h.id (l ++ [x]) = 0 ∧ liftL x.h.id (l ++ [x]) = l := by
  have hf : (l ++ [x]).findIdx? (fun y => y.h.id == x.h.id) = some l.length := by
    rw [List.findIdx?_append]
    have : l.findIdx? (fun y => y.h.id == x.h.id) = none := by
      rw [List.findIdx?_eq_none_iff]
      rw [List.any_eq_false] at h
      intro y hy
      simpa using h y hy
    rw [this]
    simp
  unfold liftE liftL
  rw [hf]
  exact ⟨rfl, by simp [List.eraseIdx_append_of_length_le]⟩

/-- one book, new since a world -/
structure One (w0 : World) (p : Nat) (v : Value) (l : List Put) (w : World) : Prop where
  A : BookAt w p v l
  ha : ∀ b, v.ownBlock = some b → w0.heap.size ≤ b
  ge : w0.heap.size ≤ p
  bel : Below w0.heap.size w0 w

theorem One.ex0 {w0 : World} {p : Nat} {v : Value} {l : List Put} {w w' : World} (h : One w0 p v l w) (hx : Ex0 w w') : One w0 p v l w' :=
  ⟨h.A.ex0 hx, h.ha, h.ge, h.bel.trans (hx.below h.bel.size (fun _ h => h.elim))⟩

theorem One.add {w0 : World} {p : Nat} {v v' : Value} {l l' : List Put} {w w' : World} (h : One w0 p v l w) (hv : v'.ownBlock = v.ownBlock ∨ ∃ b, v'.ownBlock = some b ∧ w.heap.size ≤ b)
    (hA : BookAt w' p v' l') (hx : Ex (fun b => b = p ∨ v.ownBlock = some b) w w') : One w0 p v' l' w' := by
  refine ⟨hA, ?_, h.ge, h.bel.trans (hx.below h.bel.size ?_)⟩
  · intro b hb
    rcases hv with e | ⟨c, hc, hle⟩
    · exact h.ha b (by rw [← e]; exact hb)
    · rw [hb] at hc; cases hc
      exact Nat.le_trans h.bel.size hle
  · rintro i (e | e)
    · rw [e]; exact h.ge
    · exact h.ha i e

/-- two equal rows of holds, seen once -/
structure PutC (g o : Nat) (x : Put) (w : World) : Prop where
  c0 : w.cell? ⟨g, o, none⟩ = some (.int .u64 x.h.id)
  c1 : w.cell? ⟨g, o + 1, none⟩ = some (.int .i64 x.h.fr)
  c2 : w.cell? ⟨g, o + 2, none⟩ = some (.int .i64 x.h.to)
  c3 : w.cell? ⟨g, o + 3, none⟩ = some (.int .i64 x.h.til)
  c4 : w.cell? ⟨g, o + 4, none⟩ = some (.int .u64 x.num)
  c5 : w.cell? ⟨g, o + 5, none⟩ = some (.int .i64 x.min)
theorem PutC.of {g o : Nat} {x : Put} {w : World} (h : RowAt w ⟨g, o, none⟩ x.cells) : PutC g o x w :=
  ⟨by simpa [Addr.add] using h 0 _ rfl, by simpa [Addr.add] using h 1 _ rfl, by simpa [Addr.add] using h 2 _ rfl, by simpa [Addr.add] using h 3 _ rfl, by simpa [Addr.add] using h 4 _ rfl, by simpa [Addr.add] using h 5 _ rfl⟩

theorem over_snoc (min now : Int) (l : List Put) (x : Put) : (overL min now (l ++ [x])).length = (overL min now l).length + (if isOver min now x then 1 else 0) := by
  unfold overL
  rw [List.filter_append, List.length_append]
  by_cases h : isOver min now x <;> simp [h]

def DeedA.val (x : DeedA) : Value := .agg #[.bool x.lift, .int .u64 x.h.id, .int .i64 x.h.fr, .int .i64 x.h.to, .int .i64 x.h.til, .int .u64 x.num, .int .i64 x.min]

set_option maxRecDepth 100000 in
set_option maxHeartbeats 8000000 in
theorem lifts_walk (A : Option Addr) (n cap : Nat) (l : List DeedA) (a : DeedA) (min now : Int) (w : World) (hl : Sl w 7 A n (l.flatMap DeedA.cells)) :
    Calls Try.prog 5 #[.slice A n cap, a.val, .int .i64 min, .int .i64 now] w fun e w' => e = .returned (.bool true) ∧ Below w.heap.size w w' := by
  have hm := hl.small
  have hln : l.length = n := by have := hl.len; rw [flat_len DeedA.cells 7 DeedA.len] at this; omega
  obtain ⟨al, ah, anum, amin⟩ := a
  unfold DeedA.val
  go_enter Try.func5, Try.ntmps5
  go_wp2_with fail
  refine (awake_any _).mono ?_
  rintro e w1 ⟨rfl, hx1⟩
  have hc1 : ActC w.heap.size 0 ⟨al, ah, anum, amin⟩ w1 := ActC.ex ⟨by go_simp, by go_simp, by go_simp, by go_simp, by go_simp, by go_simp, by go_simp⟩ hx1 not_false
  have hb1 : w.heap.size < w1.heap.size := by have := hx1.size; simp at this; omega
  have hx01 := Ex.trans0 (Ex.alloc _ _) hx1
  have hl1 := hl.ex0 hx01
  have HX1 := Lib.hid hx01
  have HC1 := Lib.hid hc1
  clear hx1 hx01 hl hc1
  by_cases h90 : 90 < n
  · go_wp2
    go_ret
    exact ⟨rfl, HX1.out.below (Nat.le_refl _) (fun _ h => h.elim)⟩
  have h90' : (n : Int) ≤ 90 := by omega
  go_wp2_with fail
  refine (new_any w1).mono ?_
  rintro e w2 ⟨rfl, hA2, hx2⟩
  have T0 : One w1 w1.heap.size (.slice none 0 0) [] w2 := ⟨hA2, fun b hb => by simp [Value.ownBlock] at hb, Nat.le_refl _, hx2.below (Nat.le_refl _) (fun _ h => h.elim)⟩
  generalize hp : w1.heap.size = p at T0 ⊢
  have HB1 := Lib.hid hb1
  clear hx2 hA2 hp hb1
  go_wp2
  go_loopw [10] (fun i wr => ∃ k : Nat, k ≤ n ∧ i = .int .i64 k ∧ ∃ v, One w1 p v (play (l.take k)) wr) (fun i _ => n - (intOf i).toNat)
  case atStart => exact ⟨0, Nat.zero_le _, rfl, _, T0⟩
  case round =>
    clear T0
    obtain ⟨k, hk, rfl, v, hT⟩ := hrel
    have hok := playOk (l.take k)
    by_cases hlt : k < n
    · obtain ⟨g, off, hkl, rfl, hr⟩ := (hl1.below (by decide) hT.bel).row DeedA.len (by omega) hlt
      have hgl := hl1.lt (by omega) (by decide) g rfl
      have hsn := play_take l k hkl
      generalize play (l.take k) = s at hT hok hsn
      have hC := ActC.of hr
      have HS := Lib.hid hsn
      clear hr hsn
      generalize l[k] = d at hC HS
      obtain ⟨lift, h, num, mi⟩ := d
      obtain ⟨c0, c1, c2, c3, c4, c5, c6⟩ := id hC
      dsimp only at c0 c1 c2 c3 c4 c5 c6
      have hgsz : g < wr.heap.size := Nat.lt_of_lt_of_le hgl hT.bel.size
      have hi0' : (0 : Int) ≤ (k : Int) := Int.natCast_nonneg _
      have hi1 : (k : Int) < (n : Int) := by omega
      have HT := Lib.hid hT
      have HC := Lib.hid hC
      have HOK := Lib.hid hok
      have hgna : ¬ (g = p ∨ v.ownBlock = some g) := by
        rintro (e | e)
        · have := hT.ge; omega
        · have := hT.ha g e; omega
      have HGA := Lib.hid hgna
      clear hT hC hok hgna
      cases lift with
      | true =>
        go_wp2_with fail
        refine (lift_any p v s h.id _ HT.out.A).mono ?_
        rintro e w4 ⟨v', rfl, hv', hA', hx4⟩
        have hT4 := HT.out.add (.inl hv') hA' hx4
        have HT4 := Lib.hid hT4
        clear hv' hA' hx4 hT4
        go_wp2
        go_roundw
        case rel => exact ⟨k + 1, by omega, by go_num, v', by rw [HS.out]; exact HT4.out⟩
        case measure => simp [intOf]; omega
      | false =>
        go_wp2_with fail
        go_region_held3 (fun w' => w'.cell? ⟨g, off + k * 7, none⟩ = some (.bool false) ∧ w'.cell? ⟨g, off + k * 7 + 1, none⟩ = some (.int .u64 h.id) ∧ w'.cell? ⟨g, off + k * 7 + 2, none⟩ = some (.int .i64 h.fr) ∧ w'.cell? ⟨g, off + k * 7 + 3, none⟩ = some (.int .i64 h.to) ∧ w'.cell? ⟨g, off + k * 7 + 4, none⟩ = some (.int .i64 h.til) ∧ w'.cell? ⟨g, off + k * 7 + 5, none⟩ = some (.int .u64 num) ∧ w'.cell? ⟨g, off + k * 7 + 6, none⟩ = some (.int .i64 mi))
          (first | go_keep | exact ⟨hx'.out.cellS c0 HGA.out, hx'.out.cellS c1 HGA.out, hx'.out.cellS c2 HGA.out, hx'.out.cellS c3 HGA.out, hx'.out.cellS c4 HGA.out, hx'.out.cellS c5 HGA.out, hx'.out.cellS c6 HGA.out⟩)
          (first | (go_at_call 11; refine (add_any p v s h num mi _ (HT.out.A.ex0 (Ex.drew _)) (by have := HOK.out.len; omega)).mono ?_; rintro e w4 ⟨v', rfl, hva', hA', hx4⟩; have hx' := Lib.hid hx4; have HA' := Lib.hid hA'; have HVA := Lib.hid hva'; clear hx4 hA' hva'))
        have hT4 := (HT.out.ex0 (Ex.drew wr)).add HVA.out HA'.out hx'.out
        have HT4 := Lib.hid hT4
        clear hT4
        go_wp2
        go_roundw
        case rel => exact ⟨k + 1, by omega, by go_num, v', by rw [HS.out]; exact HT4.out⟩
        case measure => simp [intOf]; omega
    · have hkn : k = n := by omega
      subst hkn
      have htl : l.take k = l := List.take_of_length_le (by omega)
      rw [htl] at hT hok
      generalize play l = s at hT hok
      have hT3 := Lib.hid hT
      have HOK := Lib.hid hok
      have hs64 := hok.len
      clear hT hok htl hl1 hln hm h90 h90' hlt hk
      go_wp2_with fail
      refine (lall_any p v s _ hT3.out.A (by omega)).mono ?_
      rintro e w4 ⟨v4, rfl, ho4, hx4⟩
      obtain ⟨A4, cap4, rfl, hsl4, hbl4, _⟩ := own_sl' ho4
      have hT4 := Lib.hid (hT3.out.ex0 hx4)
      have hap : ∀ b, Bl A4 b → ¬ (b = p ∨ v.ownBlock = some b) ∧ b < w4.heap.size := fun b hb => by
        have h1 := ho4.lt b (by rw [hbl4]; exact hb)
        refine ⟨?_, h1.2⟩
        rintro (e | e)
        · have := hT3.out.A.lt; omega
        · have := (hT3.out.A.own.lt b e).2; omega
      have HAP := Lib.hid hap
      clear hap
      clear hT3 ho4 hx4
      go_wp2_with fail
      refine (over_any p v s min now _ hT4.out.A (by omega)).mono ?_
      rintro e w5 ⟨v5, rfl, ho5, hx5⟩
      obtain ⟨A5, cap5, rfl, hsl5, _, _⟩ := own_sl' ho5
      have hT5 := Lib.hid (hT4.out.ex0 hx5)
      have hsl4' := Lib.hid (hsl4.ex0 hx5)
      have hsz5 := Lib.hid hx5.size
      have hov : (overL min now s).length ≤ 64 := Nat.le_trans (List.length_filter_le _ _) hs64
      clear hT4 ho5 hx5 hsl4 hsl5
      obtain ⟨d0, d1, d2, d3, d4, d5, d6⟩ := HC1.out.ex (exOfBelow hT5.out.bel) (by have := HB1.out; omega)
      dsimp only at d0 d1 d2 d3 d4 d5 d6
      simp only [Nat.zero_add] at d0 d1 d2 d3 d4 d5 d6
      go_wp2_with fail
      refine (add_any p v s ah anum amin _ hT5.out.A (by omega)).mono ?_
      rintro e w6 ⟨v6, rfl, hv6, hA6, hx6⟩
      have hT6 := Lib.hid (hT5.out.add hv6 hA6 hx6)
      have hsl6 := Lib.hid (hsl4'.out.ex hx6 (fun b hb => (HAP.out b hb).1))
      have hap6 : ∀ b, Bl A4 b → ¬ (b = p ∨ v6.ownBlock = some b) := by
        rintro b hb (e | e)
        · exact (HAP.out b hb).1 (.inl e)
        · rcases hv6 with e' | ⟨c, hc, hle⟩
          · exact (HAP.out b hb).1 (.inr (by rw [← e']; exact e))
          · rw [e] at hc; cases hc
            have h1 := (HAP.out b hb).2; have h2 := hsz5.out; omega
      have HAP6 := Lib.hid hap6
      clear hap6 hv6 hA6 hx6 hT5 d0 d1 d2 d3 d4 d5 d6 hsl4' hsz5
      by_cases h0 : addE ah anum amin s = 0
      case neg =>
        have hL : addL ah anum amin s = s := by unfold addL; rw [if_neg h0]
        have hne : (addE ah anum amin s != 0) = true := by rw [bne_iff_ne]; exact h0
        rw [hL] at hT6
        clear h0 hL hsl6
        go_wp2_with fail
        refine (lall_any p v6 s _ hT6.out.A (by omega)).mono ?_
        rintro e w7 ⟨v7, rfl, ho7, hx7⟩
        obtain ⟨A7, cap7, rfl, hsl7, _, _⟩ := own_sl' ho7
        have hT7 := Lib.hid (hT6.out.ex0 hx7)
        have hnn : ((s.length : Int) == (s.length : Int)) = true := by simp
        clear hT6 ho7 hx7 hsl7
        go_wp2_with fail
        refine (over_any p v6 s min now _ hT7.out.A (by omega)).mono ?_
        rintro e w8 ⟨v8, rfl, ho8, hx8⟩
        obtain ⟨A8, cap8, rfl, hsl8, _, _⟩ := own_sl' ho8
        have hT8 := Lib.hid (hT7.out.ex0 hx8)
        have hnn2 : (((overL min now s).length : Int) == ((overL min now s).length : Int)) = true := by simp
        clear hT7 ho8 hx8 hsl8
        go_wp2
        go_ret
        exact ⟨rfl, (HX1.out.trans (exOfBelow hT8.out.bel) (U := fun b => w1.heap.size ≤ b) (fun _ _ h => h.elim) (fun _ _ h => h)).below (Nat.le_refl _) (fun i e => by have := HB1.out; omega)⟩
      case pos =>
        have hL : addL ah anum amin s = s ++ [⟨ah, anum, amin⟩] := by unfold addL; rw [if_pos h0]
        have hne : (addE ah anum amin s != 0) = false := by rw [h0]; rfl
        rw [hL] at hT6
        have hlen1 : (s ++ [(⟨ah, anum, amin⟩ : Put)]).length = s.length + 1 := by simp
        have hid4 := (addE_cases h0).2.2.2.1
        have hlast := lift_last (l := s) (x := ⟨ah, anum, amin⟩) hid4
        have hos := over_snoc min now s ⟨ah, anum, amin⟩
        have HLAST := Lib.hid hlast
        have HOS := Lib.hid hos
        clear h0 hL hid4 hlast hos
        go_wp2_with fail
        refine (over_any p v6 _ min now _ hT6.out.A (by omega)).mono ?_
        rintro e w7 ⟨v7, rfl, ho7, hx7⟩
        rw [HOS.out] at ho7
        obtain ⟨A7, cap7, rfl, hsl7, _, _⟩ := own_sl' ho7
        have hT7 := Lib.hid (hT6.out.ex0 hx7)
        have hsl7' := Lib.hid (hsl6.out.ex0 hx7)
        clear hT6 ho7 hx7 hsl7 hsl6
        obtain ⟨d0, d1, d2, d3, d4, d5, d6⟩ := HC1.out.ex (exOfBelow hT7.out.bel) (by have := HB1.out; omega)
        dsimp only at d0 d1 d2 d3 d4 d5 d6
        simp only [Nat.zero_add] at d0 d1 d2 d3 d4 d5 d6
        have hio : isOver min now ⟨ah, anum, amin⟩ = (decide (ah.fr ≤ min) && decide (min ≤ ah.to) && decide (amin ≤ now) && decide (now < ah.til)) := rfl
        rw [hio]
        generalize (overL min now s).length = N at *
        clear hio HOS
        have hcases : (¬ ah.fr ≤ min) ∨ (ah.fr ≤ min ∧ ¬ min ≤ ah.to) ∨ (ah.fr ≤ min ∧ min ≤ ah.to ∧ ¬ amin ≤ now) ∨ (ah.fr ≤ min ∧ min ≤ ah.to ∧ amin ≤ now ∧ ¬ now < ah.til) ∨ (ah.fr ≤ min ∧ min ≤ ah.to ∧ amin ≤ now ∧ now < ah.til) := by omega
        rcases hcases with h1 | ⟨h1, h2⟩ | ⟨h1, h2, h3⟩ | ⟨h1, h2, h3, h4⟩ | ⟨h1, h2, h3, h4⟩
        all_goals
          simp only [*, decide_true, decide_false, Bool.and_true, Bool.true_and, Bool.and_false, Bool.false_and, if_true, if_false, Bool.false_eq_true, Nat.add_zero]
          go_wp2_with fail
          refine (len_any p v6 _ _ hT7.out.A).mono ?_
          rintro e w8 ⟨rfl, rfl⟩
          rw [hlen1]
          go_wp2_with fail
          refine (lift_any p v6 _ ah.id _ hT7.out.A).mono ?_
          rintro e w9 ⟨v9, rfl, hv9, hA9, hx9⟩
          have h9a := HLAST.out.1
          rw [h9a]
          have h9b := HLAST.out.2
          rw [h9b] at hA9
          have hT9 := Lib.hid (hT7.out.add (.inl hv9) hA9 hx9)
          have hsl9 := Lib.hid (hsl7'.out.ex hx9 HAP6.out)
          clear hv9 hA9 hx9 h9a h9b d0 d1 d2 d3 d4 d5 d6
          go_wp2_with fail
          refine (lall_any p v9 s _ hT9.out.A (by omega)).mono ?_
          rintro e w10 ⟨v10, rfl, ho10, hx10⟩
          obtain ⟨A10, cap10, rfl, hsl10, _, _⟩ := own_sl' ho10
          have hT10 := Lib.hid (hT9.out.ex0 hx10)
          have hsl11 := hsl9.out.ex0 hx10
          have hnn : ((s.length : Int) != (s.length : Int)) = false := by simp
          clear ho10 hx10
          go_wp2
          go_loopw [16] (fun i wr => ∃ k : Nat, k ≤ s.length ∧ i = .int .i64 k ∧ Ex0 w10 wr) (fun i _ => s.length - (intOf i).toNat)
          case atStart => exact ⟨0, Nat.zero_le _, rfl, Ex.refl _ _⟩
          case round =>
            obtain ⟨q, hq, rfl, hx⟩ := hrel
            by_cases hlt2 : q < s.length
            · obtain ⟨g, off, hl1, rfl, hr⟩ := (hsl11.ex0 hx).row Put.len (by omega) hlt2
              obtain ⟨g2, off2, hl2, rfl, hr2⟩ := (hsl10.ex0 hx).row Put.len (by omega) hlt2
              have hi0' : (0 : Int) ≤ (q : Int) := Int.natCast_nonneg _
              have hi1 : (q : Int) < (s.length : Int) := by omega
              generalize s[q] = x at hr hr2
              obtain ⟨⟨a1, a2, a3, a4⟩, a5, a6⟩ := x
              obtain ⟨c0, c1, c2, c3, c4, c5⟩ := PutC.of hr
              obtain ⟨d0, d1, d2, d3, d4, d5⟩ := PutC.of hr2
              dsimp only at c0 c1 c2 c3 c4 c5 d0 d1 d2 d3 d4 d5
              clear hr hr2
              go_wp2
              go_quiet (fail)
              go_wp2
              go_roundw
              case rel => exact ⟨q + 1, by omega, by go_num, hx.drewN' _⟩
              case measure => simp [intOf]; omega
            · have HT11 := Lib.hid (hT10.out.ex0 hx)
              clear hx
              go_wp2
              go_ret
              exact ⟨rfl, (HX1.out.trans (exOfBelow HT11.out.bel) (U := fun b => w1.heap.size ≤ b) (fun _ _ h => h.elim) (fun _ _ h => h)).below (Nat.le_refl _) (fun i e => by have := HB1.out; omega)⟩
end Go.Proofs.Ytbolioeopcmfcaa
