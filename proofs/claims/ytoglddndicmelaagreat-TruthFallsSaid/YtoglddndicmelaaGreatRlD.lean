/- Layer 54: the document's Tick, New. -/
import Derived.Test.YtoglddndicmelaaGreatRlC
namespace Go.Proofs.YtoglddndicmelaaGreat.Tr
open Go.RowKit Go.Proofs.YtoglddndicmelaaGreatB Go.Proofs.YtoglddndicmelaaGreat
set_option maxRecDepth 100000

def stayL (m : Int) (l : List Ho.Put) : List Ho.Put := l.filter fun p => decide (m < p.h.til)
theorem stayL_snoc (m : Int) (l : List Ho.Put) (j : Nat) (hj : j < l.length) : stayL m (l.take (j + 1)) = stayL m (l.take j) ++ (if decide (m < l[j].h.til) then [l[j]] else []) := by
  unfold stayL
  rw [List.take_succ_eq_append_getElem hj, List.filter_append]
  cases h : decide (m < l[j].h.til) <;> simp [h]
theorem stayL_len (m : Int) (l : List Ho.Put) : (stayL m l).length ≤ l.length := List.length_filter_le _ _
set_option maxHeartbeats 4000000 in
theorem rtick54_any (D : RLstP) (s : TS) (m : Int) (w : World) (h : RLstAt w D s) (hI : Inv s) :
    Calls Tryz.prog 84 #[.pointer (some ⟨D.p, 0, none⟩), .int .i64 m] w fun e w' => e = .returned (.int .i64 (s.tickE m)) ∧ ROpP D (s.tick m) w w' := by
  have HL := Lib.hid h
  have hl := h.lt
  have hf := h.frozen 2
  have hc : w.cell? ⟨D.p, 2, none⟩ = some (.int .i64 s.now) := h.cell rfl
  have hhl := hI.hlen
  by_cases h1 : 1073741824 < m
  · have he : s.tickE m = 2 := by unfold TS.tickE; rw [if_pos h1]
    have ht : s.tick m = s := by unfold TS.tick; rw [he]; rfl
    rw [he, ht]
    clear he ht h hI
    go_enter Tryz.func84, Tryz.ntmps84
    go_wp2
    go_ret
    exact ⟨rfl, .same HL.out (Ex.refl _ _)⟩
  have h1' : decide (1073741824 < m) = false := decide_eq_false h1
  by_cases h2 : m < s.now
  · have he : s.tickE m = 15 := by unfold TS.tickE; rw [if_neg h1, if_pos h2]
    have ht : s.tick m = s := by unfold TS.tick; rw [he]; rfl
    rw [he, ht]
    clear he ht h hI
    go_enter Tryz.func84, Tryz.ntmps84
    go_wp2
    go_ret
    exact ⟨rfl, .same HL.out (Ex.refl _ _)⟩
  have h2' : decide (m < s.now) = false := decide_eq_false h2
  have he : s.tickE m = 0 := by unfold TS.tickE; rw [if_neg h1, if_neg h2]
  have ht : s.tick m = { s with now := m, holds := stayL m s.holds } := by unfold TS.tick; rw [he]; rfl
  rw [he, ht]
  obtain ⟨i0, hi0, hz0, hz1, hz2⟩ := info_parts Ho.infoRef
  obtain ⟨w1, hw1⟩ : ∃ w1, w.setCell ⟨D.p, 2, none⟩ (.int .i64 m) = w1 := ⟨_, rfl⟩
  have HL1 : Hid (RLstAt w1 D { s with now := m }) := by show RLstAt _ _ _; rw [← hw1]; exact h.setC rfl rfl rfl rfl rfl rfl
  have HX1 : Hid (Ex (· = D.p) w w1) := by show Ex _ _ _; rw [← hw1]; exact Ex.setCell w ⟨D.p, 2, none⟩ _
  have HW1 := Lib.hid hw1
  clear he ht h hI h1 h2 hw1
  go_enter Tryz.func84, Tryz.ntmps84
  go_wp2_with fail
  rw [HW1.out]
  clear hc hf hl
  go_loopw [5, 6] (fun v i wr => ∃ j : Nat, j ≤ s.holds.length ∧ i = .int .i64 j ∧ wr.ownsRow w1.heap.size 192 6 v (stayL m (s.holds.take j)).length ((stayL m (s.holds.take j)).flatMap Ho.Put.cells) ∧ Ex0 w1 wr) (fun _ i _ => s.holds.length - (intOf i).toNat)
  case atStart => exact ⟨0, Nat.zero_le _, rfl, World.ownsRow_nil _ _ _ _, Ex.refl _ _⟩
  case round =>
    obtain ⟨j, hj, rfl, ho, hx⟩ := hrel
    have HO := Lib.hid ho
    have HX := Lib.hid hx
    have hLr := HL1.out.ex0 hx
    have c7 : wr.cell? ⟨D.p, 7, none⟩ = some (.slice D.P.H s.holds.length D.P.cH) := hLr.cell rfl
    have hlp := hLr.lt
    have hj0 : (0 : Int) ≤ (j : Int) := by omega
    by_cases hjl : j < s.holds.length
    · obtain ⟨g, off, _, hHA, hrow⟩ := hLr.law.hol.row Ho.Put.len (by omega) hjl
      have hj1 : (j : Int) < (s.holds.length : Int) := by omega
      have HSN := Lib.hid (stayL_snoc m s.holds j hjl)
      have hsl := stayL_len m (s.holds.take j)
      rw [List.length_take] at hsl
      obtain ⟨L, hLL⟩ : ∃ L, stayL m (s.holds.take j) = L := ⟨_, rfl⟩
      have HLL := Lib.hid hLL
      rw [hLL] at HO HSN hsl
      have hL64 : L.length ≤ 64 := by omega
      obtain ⟨pp, hpp⟩ : ∃ pp, s.holds[j] = pp := ⟨_, rfl⟩
      rw [hpp] at hrow HSN
      have hr3 : wr.cell? ⟨g, off + j * 6 + 3, none⟩ = some (.int .i64 pp.h.til) := by have := hrow 3 _ rfl; rwa [add_row] at this
      have hlg : g < wr.heap.size := World.block_lt_of_cell? _ _ hr3
      have HROW := Lib.hid hrow
      rw [hHA] at c7
      clear ho hx hLr hHA hpp hrow hsl hLL
      cases hlt : decide (m < pp.h.til) with
      | false =>
        have HSN' : Hid (stayL m (s.holds.take (j + 1)) = L) := by show _ = _; rw [HSN.out, hlt]; simp
        go_wp2_with fail
        go_roundw
        case rel => exact ⟨j + 1, by omega, by go_num, by rw [HSN'.out]; exact HO.out, HX.out⟩
        case measure => simp [intOf]; omega
      | true =>
        have HSN' : Hid (stayL m (s.holds.take (j + 1)) = L ++ [pp]) := by show _ = _; rw [HSN.out, hlt]; simp
        have hbase : w1.heap.size ≤ wr.heap.size := HX.out.size
        obtain ⟨⟨a1, a2, a3, a4⟩, a5, a6⟩ := pp
        go_wp2_with (first | (refine wpList_load_at rfl 192 (.tmp 48) rfl _ rfl _ _ HROW.out Tryz.underlying192 rfl (by kernel_rfl) ?_; simp only [Ho.Put.cells]) | (refine wpList_append_own_at _ rfl (.tmp 41) (.tmp 50) 43 rfl w1.heap.size 192 i0 _ 6 48 Tryz.underlying43 hi0 hz0 hz1 hz2 rfl (by decide) u5 _ _ rfl (HO.out.alloc _) ⟨wr.heap.size, 0, none⟩ 1 1 [.int .u64 a1, .int .i64 a2, .int .i64 a3, .int .i64 a4, .int .u64 a5, .int .i64 a6] rfl rfl (World.news_of_block (cs := #[.int .u64 a1, .int .i64 a2, .int .i64 a3, .int .i64 a4, .int .u64 a5, .int .i64 a6]) (t := 192) (fr := (0, 0)) (heap_alloc_new wr _)) (by simp [Value.oneCell']) (by unfold maxLen; omega) (by omega) (by simp; omega) ?_; intro v2 w5 hown5 hgrow _ _; have HO5 := Lib.hid hown5; have HX5 : Hid (Ex0 w1 w5) := ex_of_new (HX.out.alloc' _) hgrow (fun b hb => (HO.out.lt b hb).1); clear hown5 hgrow))
        go_roundw
        case rel => exact ⟨j + 1, by omega, by go_num, by rw [HSN'.out, List.length_append, List.flatMap_append]; exact HO5.out, HX5.out⟩
        case measure => simp [intOf]; omega
    · have hjn : j = s.holds.length := by omega
      subst hjn
      rw [List.take_length] at HO
      have hj1 : ¬ (s.holds.length : Int) < (s.holds.length : Int) := by omega
      have HLr := Lib.hid hLr
      obtain ⟨A', c', rfl, hsl, hob, hc0⟩ := own_sl' HO.out
      have HSL := Lib.hid hsl
      have HAP : Hid (∀ b, Bl A' b → w1.heap.size ≤ b ∧ b < wr.heap.size) := fun b hb => HO.out.lt b (hob.trans hb)
      have HC0 := Lib.hid hc0
      have f7 := hLr.frozen 7
      clear ho hx hLr hsl hob hc0
      go_wp2
      go_ret
      refine ⟨rfl, { D with P := { D.P with H := A', cH := c' } }, rfl, HLr.out.setHolds HSL.out (fun b hb => ⟨fun hm => by have := HL1.out.mlt b hm; have := (HAP.out b hb).1; omega, (HAP.out b hb).2⟩) HC0.out, ?_, nw_holds (fun b hb => .inr (by have := (HAP.out b hb).1; have := HX1.out.size; omega)), rfl, rfl⟩
      exact ((HX1.out.to (fun _ _ h => .inl h)).trans HX.out (fun _ _ h => h) (fun _ _ h => h.elim)).trans (Ex.setCell wr ⟨D.p, 7, none⟩ _) (fun _ _ h => h) (fun _ _ h => .inl h)
end Go.Proofs.YtoglddndicmelaaGreat.Tr
