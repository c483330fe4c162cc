/- Contracts of layer 28: the last moment at a minute. -/
import Derived.Test.YthlmcoeikelheaaMom25
import Derived.Test.YthlmcoeikelheaaMom6
namespace Go.Proofs.Ythlmcoeikelheaa
open Go.RowKit Go.Proofs.YthlmcoeikelheaaB Go.Shelf

attribute [local go_sem] Oper.semAt_some

theorem back_any (A : Option Addr) (n c : Nat) (w : World) :
    Calls Try.prog 43 #[.slice A n c] w fun e w' => e = .returned (.func (.func 48) #[] #[.pointer (some ⟨w.heap.size, 0, none⟩)]) ∧ w' = w.alloc (.cells #[.slice A n c] 64) := by
  go_enter Try.func43, Try.ntmps43
  go_wp2
  go_ret
  exact ⟨rfl, rfl⟩

/-- what the walk back tells -/
def bkL (xs : List It) : List (Int × It) := (List.range xs.length).map fun (k : Nat) => ((xs.length : Int) - 1 - (k : Int), gt xs (xs.length - 1 - k))
theorem bkL_take (xs : List It) (k : Nat) (hk : k < xs.length) : (bkL xs).take (k + 1) = (bkL xs).take k ++ [((xs.length : Int) - 1 - k, gt xs (xs.length - 1 - k))] := by
  have hl : k < (bkL xs).length := by unfold bkL; simpa using hk
  rw [List.take_succ_eq_append_getElem hl]
  simp [bkL]
theorem bkL_len (xs : List It) : (bkL xs).length = xs.length := by simp [bkL]
theorem bkL_rev (xs : List It) : (bkL xs).map (·.2) = xs.reverse := by
  apply List.ext_getElem
  · simp [bkL]
  · intro i h1 h2
    simp only [bkL, List.length_map, List.length_range] at h1
    simp only [bkL, List.getElem_map, List.getElem_range, List.getElem_reverse]
    rw [gt_get (by omega)]
theorem atN_rev (min : Int) : ∀ r : List It, atN min r.reverse = ((r.find? (fun x => decide (x.min ≤ min))).map (·.num)).getD 0
  | [] => rfl
  | x :: r => by
    have ih := atN_rev min r
    unfold atN at ih ⊢
    rw [List.reverse_cons, List.foldl_append]
    simp only [List.foldl_cons, List.foldl_nil]
    rw [ih, List.find?_cons]
    by_cases h : x.min ≤ min <;> simp [h]
theorem atN_none {min : Int} {xs : List It} (h : ∀ y ∈ bkL xs, ¬ y.2.min ≤ min) : atN min xs = 0 := by
  rw [← List.reverse_reverse xs, atN_rev, ← bkL_rev]
  have : ((bkL xs).map (·.2)).find? (fun x => decide (x.min ≤ min)) = none := by
    rw [List.find?_eq_none]
    intro x hx
    obtain ⟨y, hy, rfl⟩ := List.mem_map.1 hx
    simpa using h y hy
  rw [this]; rfl
theorem atN_some {min : Int} {xs : List It} {pre : List (Int × It)} {x : Int × It} (hp : pre ++ [x] <+: bkL xs) (h : ∀ y ∈ pre, ¬ y.2.min ≤ min) (hx : x.2.min ≤ min) : atN min xs = x.2.num ∧ x.2 ∈ xs := by
  obtain ⟨t, ht⟩ := hp
  have e : xs.reverse = pre.map (·.2) ++ x.2 :: t.map (·.2) := by rw [← bkL_rev, ← ht]; simp
  refine ⟨?_, ?_⟩
  · rw [← List.reverse_reverse xs, atN_rev, e, List.find?_append]
    have : (pre.map (·.2)).find? (fun x => decide (x.min ≤ min)) = none := by
      rw [List.find?_eq_none]
      intro x hx
      obtain ⟨y, hy, rfl⟩ := List.mem_map.1 hx
      simpa using h y hy
    rw [this]; simp [hx]
  · rw [← List.mem_reverse, e]; simp

set_option maxRecDepth 100000 in
set_option maxHeartbeats 1000000 in
theorem back1_in (l Bn : Nat) (A : Option Addr) (cap : Nat) (xs : List It) (S0 : Nat → Prop) (J Jx : List (Int × It) → World → Prop)
    (hY : ∀ pre x W, J pre W → pre.length < xs.length → YieldAt Fence.wide 8 Try.prog l #[.int .i64 x.1, x.2.val] W fun e W' =>
      (e = .returned (.bool true) ∧ J (pre ++ [x]) W' ∧ Kc S0 W W') ∨ (e = .returned (.bool false) ∧ Jx (pre ++ [x]) W'))
    (W : World) (hBn : W.cell? ⟨Bn, 0, none⟩ = some (.slice A xs.length cap)) (hBn0 : ¬ S0 Bn) (hs : Sl W 3 A xs.length (xs.flatMap It.cells)) (hA : ∀ b, Bl A b → ¬ S0 b) (h0 : J [] W) :
    CallsIn Fence.wide 9 Try.prog 48 #[.func (.yield l) #[] #[], .pointer (some ⟨Bn, 0, none⟩)] W fun e W' => (∃ v, e = .returned v) ∧
      ((∃ ys, ys = bkL xs ∧ J ys W') ∨ (∃ pre, pre <+: bkL xs ∧ Jx pre W')) := by
  have hm := hs.small
  refine callsIn_of_wp Try.func48 rfl trivial ?_ rfl
  simp only [Try.ntmps48, List.size_toArray, List.length_cons, List.length_nil, Nat.reduceAdd, Nat.reduceSub, Array.replicate_succ, Array.replicate_zero, List.push_toArray, List.append_toArray, List.nil_append, List.cons_append]
  gi_wp2
  gi_loopw [3] (fun i wr => ∃ k : Nat, k ≤ xs.length ∧ i = .int .i64 ((xs.length : Int) - 1 - k) ∧ Kc S0 W wr ∧ J ((bkL xs).take k) wr)
    (fun i _ => (intOf i + 1).toNat)
  case atStart =>
    exact ⟨0, Nat.zero_le _, by simp, Kc.refl _ _, by simpa using h0⟩
  case round =>
    obtain ⟨k, hk, rfl, hb, hJs⟩ := hrel
    have hc := hb.cellS hBn hBn0
    by_cases hlt : k < xs.length
    · obtain ⟨j, hj⟩ : ∃ j : Nat, xs.length - 1 - k = j := ⟨_, rfl⟩
      have hji : (xs.length : Int) - 1 - k = (j : Int) := by omega
      have hjn : j < xs.length := by omega
      obtain ⟨g, off, hl, rfl, hr⟩ := (hs.kc hb hA).row It.len (by omega) hjn
      have ht := bkL_take xs k hlt
      rw [hj, hji, gt_get hl] at ht
      have hlen : ((bkL xs).take k).length < xs.length := by rw [List.length_take]; omega
      obtain ⟨fn, tmps, assign, body, hy, hR⟩ := hY ((bkL xs).take k) ((j : Int), xs[j]) wr hJs hlen
      have HTK := Lib.hid ht
      have HR := Lib.hid hR
      have HJ := Lib.hid hji
      rw [hji]
      clear hR ht hJs hY hj hji
      have hjl : (j : Int) < (xs.length : Int) := by omega
      have hj0 : (0 : Int) ≤ (j : Int) := Int.natCast_nonneg _
      generalize xs[j] = x at *
      obtain ⟨a1, a2, a3⟩ := x
      unfold It.cells at hr
      unfold It.val at hy
      dsimp only at hy
      gi_wp2_with (first | (refine wpListIn_load_at rfl _ _ rfl _ rfl _ _ hr Try.underlying71 rfl (by kernel_rfl) ?_))
      refine HR.out.mono ?_
      rintro e W3 (⟨rfl, hJ3, hk3⟩ | ⟨rfl, hJx3⟩)
      · have HJ3 := Lib.hid hJ3
        clear hJ3
        gi_wp2
        go_roundw
        case rel => exact ⟨k + 1, by omega, by have := HJ.out; congr 1; omega, hb.trans hk3, by rw [HTK.out]; exact HJ3.out⟩
        case measure => have := HJ.out; simp [intOf] <;> omega
      · have HJ3 := Lib.hid hJx3
        clear hJx3
        gi_wp2
        refine bodyPost_ret (results_none rfl _ _ _) rfl ?_
        exact ⟨⟨_, rfl⟩, .inr ⟨(bkL xs).take (k + 1), List.take_prefix _ _, by rw [HTK.out]; exact HJ3.out⟩⟩
    · have hkn : k = xs.length := by omega
      subst hkn
      have hlt0 : ¬ (0 : Int) ≤ (xs.length : Int) - 1 - xs.length := by omega
      gi_wp2
      go_end0
      exact ⟨⟨_, rfl⟩, .inl (by rw [List.take_of_length_le (by rw [bkL_len]; omega)] at hJs; exact hJs)⟩

theorem back_seq (Bn : Nat) (S0 : Nat → Prop) (A : Option Addr) (cap : Nat) (xs : List It) (w : World) (hBn : w.cell? ⟨Bn, 0, none⟩ = some (.slice A xs.length cap)) (hBn0 : ¬ S0 Bn) (hs : Sl w 3 A xs.length (xs.flatMap It.cells)) (hA : ∀ b, Bl A b → ¬ S0 b) :
    SeqStopsK Fence.wide 9 Try.prog 48 #[.pointer (some ⟨Bn, 0, none⟩)] (fun x : Int × It => #[.int .i64 x.1, x.2.val]) (Kc S0) (fun ys => ys = bkL xs) (fun pre => pre <+: bkL xs) xs.length w := fun l J Jx W hW _ _ hY h0 =>
  back1_in l Bn A cap xs S0 J Jx hY W ((Ex.ofBelow hW).cellS hBn not_false) hBn0 (hs.ex0 (Ex.ofBelow hW)) hA h0

def atI (b3 b4 b5 n0 : Nat) (min : Int) (w0 : World) (pre : List (Int × It)) (W : World) : Prop :=
  ((Boxed W b3 3 (.int .i64 min) ∧ Boxed W b4 23 (.int .u64 0)) ∧ (Boxed W b5 4 (.bool false) ∧ ∀ y ∈ pre, ¬ y.2.min ≤ min)) ∧ Below n0 w0 W
def atX (b4 b5 n0 : Nat) (min : Int) (w0 : World) (c : Code) (pre : List (Int × It)) (W : World) : Prop :=
  c = .ret ∧ (∃ pre' x, pre = pre' ++ [x] ∧ (∀ y ∈ pre', ¬ y.2.min ≤ min) ∧ x.2.min ≤ min ∧ Boxed W b4 23 (.int .u64 x.2.num) ∧ Boxed W b5 4 (.bool true)) ∧ Below n0 w0 W
theorem atI_kc {b3 b4 b5 n0 : Nat} {min : Int} {w0 : World} {pre : List (Int × It)} {W W' : World} (h : atI b3 b4 b5 n0 min w0 pre W) (hx : Kc0 W W') (hb : Below n0 w0 W') : atI b3 b4 b5 n0 min w0 pre W' :=
  ⟨⟨⟨boxed_kc h.1.1.1 hx id, boxed_kc h.1.1.2 hx id⟩, boxed_kc h.1.2.1 hx id, h.1.2.2⟩, hb⟩
theorem atX_kc {b4 b5 n0 : Nat} {min : Int} {w0 : World} {c : Code} {pre : List (Int × It)} {W W' : World} (h : atX b4 b5 n0 min w0 c pre W) (hx : Kc0 W W') (hb : Below n0 w0 W') : atX b4 b5 n0 min w0 c pre W' := by
  obtain ⟨hc, ⟨p', x, e, h1, h2, h3, h4⟩, _⟩ := h
  exact ⟨hc, ⟨p', x, e, h1, h2, boxed_kc h3 hx id, boxed_kc h4 hx id⟩, hb⟩

set_option maxRecDepth 100000 in
set_option maxHeartbeats 2000000 in
theorem at_any (p : Nat) (v : Value) (l : List It) (min : Int) (w : World) (hB : TabAt w p v l) (hk : TabOk l) :
    Calls Try.prog 30 #[.pointer (some ⟨p, 0, none⟩), .int .i64 min] w fun e w' => e = .returned (.tuple #[.int .u64 (atN min l), .bool (atN min l != 0)]) ∧ Ex0 w w' := by
  have hlp := hB.lt
  have hc := hB.cell
  obtain ⟨A, cap, rfl, hsl, hbl⟩ := own_sl hB.own
  have hA : ∀ b, Bl A b → b < w.heap.size := fun b hb => (hB.own.lt b (by rw [hbl]; exact hb)).2
  have HAA := Lib.hid hA
  have HRNG := Lib.hid hk.rng
  clear hbl hA hB hk
  refine (callsIn_wide (n := 10)).1 (callsIn_of_wp_marks Try.func30 rfl trivial ?_ rfl)
  simp only [Try.ntmps30, List.size_toArray, List.length_cons, List.length_nil, Nat.reduceAdd, Nat.reduceSub, Array.replicate_succ, Array.replicate_zero, List.push_toArray, List.append_toArray, List.nil_append, List.cons_append]
  have hx3 : Ex0 w (((w.alloc (.cells #[.int .i64 min] 3)).alloc (.cells #[.int .u64 0] 23)).alloc (.cells #[.bool false] 4)) := ((Ex.alloc _ _).alloc' _).alloc' _
  have hc3 := hx3.cellS hc not_false
  have b3 := ((Boxed.new w 3 (.int .i64 min)).alloc (.cells #[.int .u64 0] 23)).alloc (.cells #[.bool false] 4)
  have b4 := (Boxed.new (w.alloc (.cells #[.int .i64 min] 3)) 23 (.int .u64 0)).alloc (.cells #[.bool false] 4)
  have b5 := Boxed.new ((w.alloc (.cells #[.int .i64 min] 3)).alloc (.cells #[.int .u64 0] 23)) 4 (.bool false)
  simp only [World.size_alloc] at b4 b5
  have hW3 : w.heap.size + 1 + 1 + 1 = (((w.alloc (.cells #[.int .i64 min] 3)).alloc (.cells #[.int .u64 0] 23)).alloc (.cells #[.bool false] 4)).heap.size := by simp
  generalize hgw : (((w.alloc (.cells #[.int .i64 min] 3)).alloc (.cells #[.int .u64 0] 23)).alloc (.cells #[.bool false] 4)) = w3 at *
  gi_wp2_with fail
  refine ⟨trivial, (callsIn_wide.2 (back_any _ _ _ _)).mono ?_⟩
  rintro e w' ⟨rfl, rfl⟩
  gi_wp2_with fail
  have bB := Boxed.new w3 64 (.slice A l.length cap)
  have hB : Below w.heap.size w w3 := hx3.below (Nat.le_refl _) (fun _ h => h.elim)
  have hsl3 := hsl.ex0 (hx3.alloc' (.cells #[.slice A l.length cap] 64))
  have b3' := b3.alloc (.cells #[.slice A l.length cap] 64)
  have b4' := b4.alloc (.cells #[.slice A l.length cap] 64)
  have b5' := b5.alloc (.cells #[.slice A l.length cap] 64)
  have hB' := hB.alloc hB.size (.cells #[.slice A l.length cap] 64)
  have hs3 := hx3.size
  have hsz : (w3.alloc (.cells #[.slice A l.length cap] 64)).heap.size = w3.heap.size + 1 := by simp
  clear hgw hx3 hc3 b3 b4 b5 hB hc hsl hlp
  generalize w3.alloc (.cells #[.slice A l.length cap] 64) = w4 at *
  refine wpIn_rangeFunc_ownH rfl (by omega) (gf := 48) (lb := #[.pointer (some ⟨w3.heap.size, 0, none⟩)]) rfl trivial (enters_of Try.func48 (by kernel_rfl) rfl)
    (back_seq w3.heap.size (fun b => b = w.heap.size + 1 ∨ b = w.heap.size + 1 + 1) A cap l _ bB.cell (by omega) hsl3 (fun b hb => by have := HAA.out b hb; omega)) kc_t kc_b (Below.refl _ _) (fun _ => rfl)
    (atI w.heap.size (w.heap.size + 1) (w.heap.size + 1 + 1) w.heap.size min w) (atX (w.heap.size + 1) (w.heap.size + 1 + 1) w.heap.size min w)
    (ownFrom_kc (Nat.le_refl _) (by omega) (fun _ _ _ h hx hb => atI_kc h hx hb) (fun _ _ h => h.2)) (fun c => ownFrom_kc (Nat.le_refl _) (by omega) (fun _ _ _ h hx hb => atX_kc h hx hb) (fun _ _ h => h.2.2))
    ⟨⟨⟨b3', b4'⟩, b5', fun y hy => by cases hy⟩, hB'⟩
    (fun x a' W => ∃ b, w.heap.size + 1 + 1 < b ∧ a' = { tmps := #[.pointer (some ⟨p, 0, none⟩), .int .i64 min, undef, .pointer (some ⟨w.heap.size, 0, none⟩), .pointer (some ⟨w.heap.size + 1, 0, none⟩), .pointer (some ⟨w.heap.size + 1 + 1, 0, none⟩), undef, .pointer (some ⟨b, 0, none⟩), .pointer (some ⟨p, 0, none⟩), .bool false, .pointer (some ⟨p, 0, none⟩), .pointer (some ⟨p, 0, none⟩), .pointer (some ⟨p, 0, none⟩), .slice A l.length cap, .func (.func 48) #[] #[.pointer (some ⟨w3.heap.size, 0, none⟩)], .int .i64 x.1, x.2.val, undef, undef, undef, undef, undef, undef], defers := [] } ∧ W.heap[b]? = some (.cells #[.int .u64 x.2.num, .int .i64 x.2.min, .bool x.2.out] 71 (0, 0)))
    (fun x a' s X Y row h hg hrow => by obtain ⟨b, hlt, e, hb⟩ := h; exact ⟨b, hlt, e, (Kc.ofGrown hg (fun r e => (hrow r e).2) (fun _ => False)).cells hb id⟩) ?assign ?body ?done ?stop
  case assign =>
    intro l' pre x W K hI hK
    obtain ⟨a0, a1, a2, a3⟩ := x
    unfold It.val at hK ⊢
    have hWs := hI.1.2.1.lt
    gi_wp2
    refine hK _ _ ((KeepsOthers.alloc W _).from _) ((Kc.ofEx (Ex.alloc _ _)).to (fun _ h => h.elim)) (atI_kc hI (Kc.ofEx (Ex.alloc _ _)) (hI.2.alloc hI.2.size _)) ⟨_, hWs, rfl, heap_alloc_new _ _⟩
  case body =>
    rintro l' pre x a' W hl' hr ⟨⟨⟨hb3, hb4⟩, hb5, hpre⟩, hB'⟩ ⟨b, hbl, rfl, hb⟩ hlt
    obtain ⟨a0, a1, a2, a3⟩ := x
    dsimp only at hb
    have k0 : W.cell? ⟨b, 0, none⟩ = some (.int .u64 a1) := by rw [cell_of_row W b 0 _ _ _ hb]; rfl
    have k1 : W.cell? ⟨b, 1, none⟩ = some (.int .i64 a2) := by rw [cell_of_row W b 1 _ _ _ hb]; rfl
    have c3 := hb3.cell
    unfold It.val
    by_cases hle : a2 ≤ min
    · have f4 := hb4.frozen
      have f5 := hb5.frozen
      have l4 := hb4.lt
      have l5 := hb5.lt
      have d4 := hb4.cell
      have d5 := hb5.cell
      have H4 := Lib.hid hb4
      have H5 := Lib.hid hb5
      have HP := Lib.hid hpre
      have HB := Lib.hid hB'
      clear hb4 hb5 hpre hB' hb3 hb hr
      gi_wp2
      exact ⟨((KeepsOthers.setCell _ _ _).trans (KeepsOthers.setCell _ _ _)).from _, rfl, ⟨pre, _, rfl, fun y hy => by have := HP.out y hy; omega, by dsimp only; omega, (H4.out.set _).other (by omega) _, (H5.out.other (by omega) _).set _⟩, (HB.out.setCell (p := ⟨w.heap.size + 1, 0, none⟩) (by simp) _).setCell (p := ⟨w.heap.size + 1 + 1, 0, none⟩) (by simp; omega) _⟩
    · have HI : atI w.heap.size (w.heap.size + 1) (w.heap.size + 1 + 1) w.heap.size min w (pre ++ [(a0, ⟨a1, a2, a3⟩)]) W := ⟨⟨⟨hb3, hb4⟩, hb5, fun y hy => by
        rcases List.mem_append.1 hy with h | h
        · exact hpre y h
        · simp only [List.mem_singleton] at h; subst h; exact hle⟩, hB'⟩
      have HI2 := Lib.hid HI
      clear HI hb3 hb4 hb5 hpre hB' hb hr
      gi_wp2
      exact ⟨KeepsFrom.refl _ _, Kc.refl _ _, HI2.out⟩
  case done =>
    rintro D xs W hD rfl ⟨⟨⟨hb3, hb4⟩, hb5, hpre⟩, hB'⟩ hK
    have e0 := atN_none hpre
    have f4 := hb4.frozen
    have f5 := hb5.frozen
    have l4 := hb4.lt
    have l5 := hb5.lt
    have d4 := hb4.cell
    have d5 := hb5.cell
    have H4 := Lib.hid hb4
    have H5 := Lib.hid hb5
    have HB := Lib.hid hB'
    have E0 := Lib.hid e0
    clear hb3 hb4 hb5 hpre hB' e0
    gi_wp2
    have hD' : w.heap.size + 1 + 1 < D := by omega
    have hK2 : ((W.setCell ⟨w.heap.size + 1, 0, none⟩ (.int .u64 0)).setCell ⟨w.heap.size + 1 + 1, 0, none⟩ (.bool false)).heap[D]? = some (.deferred (some [])) := (Below.heap_setCell _ _ _ _ (by simp; omega)).trans ((Below.heap_setCell _ _ _ _ (by simp; omega)).trans hK)
    have q4 := (((H4.out.set (.int .u64 0)).other (B' := w.heap.size + 1 + 1) (by omega) (.bool false)).kept (grownBy_putObj' _ D (.deferred none)) (by simp; omega)).cell
    have q5 := (((H5.out.other (B' := w.heap.size + 1) (by omega) (.int .u64 0)).set (.bool false)).kept (grownBy_putObj' _ D (.deferred none)) (by simp; omega)).cell
    refine ⟨by simp, .inl ⟨_, _, rfl, run_takeDeferred hK2, ?_⟩⟩
    refine ⟨.tuple #[.int .u64 0, .bool false], by simp [results, Try.results30, go_sem, q4, q5], by rw [E0.out]; rfl, ?_⟩
    exact Ex.ofBelow (((HB.out.setCell (p := ⟨w.heap.size + 1, 0, none⟩) (by simp) _).setCell (p := ⟨w.heap.size + 1 + 1, 0, none⟩) (by simp; omega) _).trans (belowK_b (w := w) (Nat.le_refl _) _ D _ _ (by omega) hK2 rfl rfl))
  case stop =>
    rintro D c pre W hD hp ⟨rfl, ⟨pre', x, rfl, h1, h2, hb4, hb5⟩, hB'⟩ hK
    obtain ⟨e0, hmem⟩ := atN_some hp h1 h2
    have hr := (HRNG.out _ hmem).1
    have E0 := Lib.hid e0
    clear e0 h1 h2 hmem hp
    gi_wp2
    have q4 := (hb4.kept (grownBy_putObj' _ D (.deferred none)) (by simp; omega)).cell
    have q5 := (hb5.kept (grownBy_putObj' _ D (.deferred none)) (by simp; omega)).cell
    have hb0 : (x.2.num != 0) = true := by rw [bne_iff_ne]; omega
    refine ⟨by simp, .inl ⟨_, _, rfl, run_takeDeferred hK, ?_⟩⟩
    refine ⟨.tuple #[.int .u64 x.2.num, .bool true], by simp [results, Try.results30, go_sem, q4, q5], by rw [E0.out, hb0], ?_⟩
    exact Ex.ofBelow (hB'.trans (belowK_b (w := w) (Nat.le_refl _) _ D _ _ (by omega) hK rfl rfl))
end Go.Proofs.Ythlmcoeikelheaa
