/- Contracts of layer 37: the walk over a book. Contracts of layer 37: Over. -/
import Derived.Test.YtoglddndicmelaaGreatHoA
import Derived.Test.YtoglddndicmelaaGreatB3
import Derived.Shelf.Abstract
namespace Go.Proofs.YtoglddndicmelaaGreat.Ho
open Go.RowKit Go.Proofs.YtoglddndicmelaaGreatB Go.Shelf
set_option maxRecDepth 100000

theorem all_any (p : Option Addr) (w : World) :
    CallsIn Fence.wide 9 Tryz.prog 104 #[.pointer p] w fun e w' => e = .returned (.func (.func 146) #[] #[.pointer (some ⟨w.heap.size, 0, none⟩)]) ∧ w' = w.alloc (.cells #[.pointer p] 120) := by
  refine callsIn_of_wp Tryz.func104 rfl trivial ?_ rfl
  simp only [Tryz.ntmps104, List.size_toArray, List.length_cons, List.length_nil, Nat.reduceAdd, Nat.reduceSub, Array.replicate_succ, Array.replicate_zero, List.push_toArray, List.append_toArray, List.nil_append, List.cons_append]
  gi_wp2
  go_ret
  exact ⟨rfl, rfl⟩
set_option maxRecDepth 100000 in
set_option maxHeartbeats 1000000 in
theorem all1_in (l Bn n0 p : Nat) (A : Option Addr) (cap : Nat) (xs : List Put) (J Jx : List Put → World → Prop)
    (hY : ∀ pre x W, J pre W → pre.length < xs.length → YieldAt Fence.wide 8 Tryz.prog l #[x.val] W fun e W' =>
      (e = .returned (.bool true) ∧ J (pre ++ [x]) W' ∧ Below n0 W W') ∨ (e = .returned (.bool false) ∧ Jx (pre ++ [x]) W'))
    (W : World) (hJ : AbidesFrom W.heap.size J) (hBn : W.cell? ⟨Bn, 0, none⟩ = some (.pointer (some ⟨p, 0, none⟩))) (hp : W.cell? ⟨p, 0, none⟩ = some (.slice A xs.length cap)) (hs : Sl W 6 A xs.length (xs.flatMap Put.cells)) (hA : ∀ b, Bl A b → b < n0) (hn0 : n0 ≤ W.heap.size) (h0 : J [] W) :
    CallsIn Fence.wide 9 Tryz.prog 146 #[.func (.yield l) #[] #[], .pointer (some ⟨Bn, 0, none⟩)] W fun e W' => (∃ v, e = .returned v) ∧
      ((∃ ys, ys = xs ∧ J ys W') ∨ (∃ pre, pre <+: xs ∧ Jx pre W')) := by
  have hm := hs.small
  refine callsIn_of_wp Tryz.func146 rfl trivial ?_ rfl
  simp only [Tryz.ntmps146, List.size_toArray, List.length_cons, List.length_nil, Nat.reduceAdd, Nat.reduceSub, Array.replicate_succ, Array.replicate_zero, List.push_toArray, List.append_toArray, List.nil_append, List.cons_append]
  gi_wp2
  gi_loopw [4, 12] (fun _ i wr => ∃ k : Nat, k ≤ xs.length ∧ i = .int .i64 k ∧ Below n0 W wr ∧ W.heap.size ≤ wr.heap.size ∧ J (xs.take k) wr)
    (fun _ i _ => xs.length - (intOf i).toNat)
  case atStart =>
    exact ⟨0, Nat.zero_le _, rfl, Below.refl _ _, Nat.le_refl _, by simpa using h0⟩
  case round =>
    obtain ⟨k, hk, rfl, hb, hsz, hJs⟩ := hrel
    by_cases hlt : k < xs.length
    · obtain ⟨g, off, hl, rfl, hr⟩ := (hs.ex (exOfBelow hb) (fun b hbl => by have := hA b hbl; omega)).row Put.len (by omega) hlt
      have hJ2 : ∀ W2, Ex0 wr W2 → J (xs.take k) W2 := fun W2 hx => hJ _ _ W2 none hJs (grownOfEx hx) (fun r e => by cases e)
      have ht : xs.take (k + 1) = xs.take k ++ [xs[k]] := by rw [List.take_succ_eq_append_getElem hl]
      have hlen : (xs.take k).length < xs.length := by rw [List.length_take]; omega
      have HY := Lib.hid (hY (xs.take k) xs[k])
      have HT := Lib.hid ht
      generalize xs[k] = x at hr HY HT
      obtain ⟨⟨a1, a2, a3, a4⟩, a5, a6⟩ := x
      unfold Put.cells at hr
      obtain ⟨fn, tmps, assign, body, hy, hR⟩ := HY.out (wr.alloc (.cells #[.int .u64 a1, .int .i64 a2, .int .i64 a3, .int .i64 a4, .int .u64 a5, .int .i64 a6] 203)) (hJ2 _ (Ex.alloc _ _)) hlen
      have HR := Lib.hid hR
      unfold Put.val at hy
      clear hJ2 ht hJs hY hR
      gi_wp2_with (first | (refine wpListIn_load_at rfl _ _ rfl _ rfl _ _ hr Tryz.underlying203 rfl (by kernel_rfl) ?_))
      refine HR.out.mono ?_
      rintro e W3 (⟨rfl, hJ3, hk3⟩ | ⟨rfl, hJx3⟩)
      · have HJ3 := Lib.hid hJ3
        clear hJ3
        gi_wp2
        go_roundw
        case rel => exact ⟨k + 1, by omega, by go_num, (hb.trans (((Ex.alloc wr _).below (Nat.le_refl _) (fun _ h => h.elim)).mono (by omega))).trans hk3, by have := hk3.size; simp at this; omega, by rw [HT.out]; exact HJ3.out⟩
        case measure => simp [intOf]; omega
      · have HJ3 := Lib.hid hJx3
        clear hJx3
        gi_wp2
        refine bodyPost_ret (results_none rfl _ _ _) rfl ?_
        exact ⟨⟨_, rfl⟩, .inr ⟨xs.take (k + 1), List.take_prefix _ _, by rw [HT.out]; exact HJ3.out⟩⟩
    · gi_wp2
      go_end0
      have : k = xs.length := by omega
      exact ⟨⟨_, rfl⟩, .inl ⟨_, rfl, by rw [this, List.take_length] at hJs; exact hJs⟩⟩
theorem all_seq (Bn n0 p : Nat) (A : Option Addr) (cap : Nat) (xs : List Put) (w : World) (hBn : w.cell? ⟨Bn, 0, none⟩ = some (.pointer (some ⟨p, 0, none⟩))) (hp : w.cell? ⟨p, 0, none⟩ = some (.slice A xs.length cap)) (hs : Sl w 6 A xs.length (xs.flatMap Put.cells)) (hA : ∀ b, Bl A b → b < n0) (hn0 : n0 ≤ w.heap.size) :
    SeqStopsK Fence.wide 9 Tryz.prog 146 #[.pointer (some ⟨Bn, 0, none⟩)] (fun x : Put => #[x.val]) (Below n0) (fun ys => ys = xs) (fun pre => pre <+: xs) xs.length w := fun l J Jx W hW hJ _ hY h0 =>
  all1_in l Bn n0 p A cap xs J Jx hY W hJ ((exOfBelow hW).cellS hBn (by have := World.block_lt_of_cell? _ _ hBn; simp at this ⊢; omega)) ((exOfBelow hW).cellS hp (by have := World.block_lt_of_cell? _ _ hp; simp at this ⊢; omega))
    (hs.ex (exOfBelow hW) (fun b hb => by have := hA b hb; omega)) hA (Nat.le_trans hn0 hW.size) h0

attribute [local go_sem] Oper.semAt_some
def isOver (min now : Int) (p : Put) : Bool := decide (p.h.fr ≤ min) && decide (min ≤ p.h.to) && decide (p.min ≤ now) && decide (now < p.h.til)
def overL (min now : Int) (l : List Put) : List Put := l.filter (isOver min now)
def overI (n0 bm bn bl : Nat) (min now : Int) (w0 : World) (pre : List Put) (W : World) : Prop :=
  (Boxed W bm 3 (.int .i64 min) ∧ Boxed W bn 3 (.int .i64 now)) ∧ (∃ v, Boxed W bl 172 v ∧ W.ownsRow n0 203 6 v (overL min now pre).length ((overL min now pre).flatMap Put.cells) ∧ True) ∧ Below n0 w0 W
theorem putBox_own (B b : Nat) (x : Put) : OwnFrom B (fun (_ : Unit) W => W.heap[b]? = some (.cells #[.int .u64 x.h.id, .int .i64 x.h.fr, .int .i64 x.h.to, .int .i64 x.h.til, .int .u64 x.num, .int .i64 x.min] 203 (0, 0))) := by
  intro s X Y row h hg hrow
  refine (hg.block b (Array.getElem?_eq_some_iff.1 h).1 (fun e => ?_)).trans h
  obtain ⟨_, o, ho, hc⟩ := hrow b e.symm
  rw [h] at ho; cases ho; cases hc
theorem overI_own (n0 bm bn bl B : Nat) (min now : Int) (w0 : World) (h1 : n0 ≤ w0.heap.size) (h2 : n0 ≤ B) : OwnFrom B (overI n0 bm bn bl min now w0) :=
  ((((boxed_own bm _ (fun _ => Value.int .i64 min)).from B).and ((boxed_own bn _ (fun _ => Value.int .i64 now)).from B)).and (((holdsRow_own n0 bl _ _ _ (fun s => (overL min now s).length) (fun s => (overL min now s).flatMap Put.cells) (fun _ _ => True)).from B).and (ownFrom_below h1 h2)))
set_option maxRecDepth 100000 in
set_option maxHeartbeats 2000000 in
theorem over_any (p : Nat) (v : Value) (l : List Put) (min now : Int) (w : World) (hB : BookAt w p v l) (hl : l.length ≤ 1000) :
    Calls Tryz.prog 138 #[.pointer (some ⟨p, 0, none⟩), .int .i64 min, .int .i64 now] w fun e w' => ∃ v', e = .returned v' ∧ w'.ownsRow w.heap.size 203 6 v' (overL min now l).length ((overL min now l).flatMap Put.cells) ∧ Ex0 w w' := by
  obtain ⟨i0, hi0, hz0, hz1, hz2⟩ := info_parts infoPut
  have hlp := hB.lt
  have hc := hB.cell
  obtain ⟨A, cap, rfl, hsl, hbl⟩ := own_sl hB.own
  have hA : ∀ b, Bl A b → b < w.heap.size := fun b hb => (hB.own.lt b (by rw [hbl]; exact hb)).2
  have HBL := Lib.hid hbl
  have HAA := Lib.hid hA
  clear hbl hA
  refine (callsIn_wide (n := 10)).1 (callsIn_of_wp_marks Tryz.func138 rfl trivial ?_ rfl)
  simp only [Tryz.ntmps138, List.size_toArray, List.length_cons, List.length_nil, Nat.reduceAdd, Nat.reduceSub, Array.replicate_succ, Array.replicate_zero, List.push_toArray, List.append_toArray, List.nil_append, List.cons_append]
  gi_wp2_with fail
  refine ⟨trivial, (all_any _ _).mono ?_⟩
  rintro e w' ⟨rfl, rfl⟩
  gi_wp2_with fail
  have hx3 : Ex0 w ((((w.alloc (.cells #[.int .i64 min] 3)).alloc (.cells #[.int .i64 now] 3)).alloc (.cells #[.slice none 0 0] 172)).alloc (.cells #[.pointer (some ⟨p, 0, none⟩)] 120)) := (((Ex.alloc _ _).alloc' _).alloc' _).alloc' _
  have b0 := (((Boxed.new w 3 (.int .i64 min)).alloc (.cells #[.int .i64 now] 3)).alloc (.cells #[.slice none 0 0] 172)).alloc (.cells #[.pointer (some ⟨p, 0, none⟩)] 120)
  have b1 := ((Boxed.new (w.alloc (.cells #[.int .i64 min] 3)) 3 (.int .i64 now)).alloc (.cells #[.slice none 0 0] 172)).alloc (.cells #[.pointer (some ⟨p, 0, none⟩)] 120)
  have b2 := (Boxed.new ((w.alloc (.cells #[.int .i64 min] 3)).alloc (.cells #[.int .i64 now] 3)) 172 (.slice none 0 0)).alloc (.cells #[.pointer (some ⟨p, 0, none⟩)] 120)
  have b3 := Boxed.new (((w.alloc (.cells #[.int .i64 min] 3)).alloc (.cells #[.int .i64 now] 3)).alloc (.cells #[.slice none 0 0] 172)) 120 (.pointer (some ⟨p, 0, none⟩))
  simp only [World.size_alloc] at b1 b2 b3
  have hsz : w.heap.size ≤ ((((w.alloc (.cells #[.int .i64 min] 3)).alloc (.cells #[.int .i64 now] 3)).alloc (.cells #[.slice none 0 0] 172)).alloc (.cells #[.pointer (some ⟨p, 0, none⟩)] 120)).heap.size := hx3.size
  refine wpIn_rangeFunc_ownH rfl (by omega) (gf := 146) (lb := #[.pointer (some ⟨w.heap.size + 1 + 1 + 1, 0, none⟩)]) rfl trivial (enters_of Tryz.func146 (by kernel_rfl) rfl)
    (all_seq (w.heap.size + 1 + 1 + 1) w.heap.size p A cap l _ b3.cell (hx3.cellS hc not_false) (hsl.ex0 hx3) HAA.out hsz) belowK_t (belowK_b hsz) (Below.refl _ _) (fun _ => rfl)
    (overI w.heap.size w.heap.size (w.heap.size + 1) (w.heap.size + 1 + 1) min now w) (fun _ _ _ => False)
    (overI_own _ _ _ _ _ _ _ _ (Nat.le_refl _) hsz) (fun _ _ _ _ _ hs _ _ => hs)
    ⟨⟨b0, b1⟩, ⟨_, b2, World.ownsRow_nil _ _ _ _, trivial⟩, hx3.below (Nat.le_refl _) (fun _ h => h.elim)⟩
    (fun x a' W => ∃ b, a' = { tmps := #[.pointer (some ⟨p, 0, none⟩), .int .i64 min, .int .i64 now, undef, .pointer (some ⟨w.heap.size, 0, none⟩), .pointer (some ⟨w.heap.size + 1, 0, none⟩), .slice none 0 0, .pointer (some ⟨w.heap.size + 1 + 1, 0, none⟩), .pointer (some ⟨b, 0, none⟩), .pointer (some ⟨p, 0, none⟩), .func (.func 146) #[] #[.pointer (some ⟨w.heap.size + 1 + 1 + 1, 0, none⟩)], x.val, undef, undef, undef, undef, undef, undef, undef, undef, undef, undef, undef, undef, undef, undef, undef, undef, undef, undef, undef, undef, undef, undef, undef, undef, undef, undef, undef, undef, undef, undef], defers := [] } ∧ W.heap[b]? = some (.cells #[.int .u64 x.h.id, .int .i64 x.h.fr, .int .i64 x.h.to, .int .i64 x.h.til, .int .u64 x.num, .int .i64 x.min] 203 (0, 0)))
    (fun x a' s X Y row h hg hrow => by obtain ⟨b, e, hb⟩ := h; exact ⟨b, e, putBox_own _ b x () X Y row hb hg hrow⟩) ?assign ?body ?done ?stop
  case assign =>
    intro l' pre x W K hI hK
    obtain ⟨⟨a1, a2, a3, a4⟩, a5, a6⟩ := x
    unfold Put.val at hK ⊢
    gi_wp2
    refine hK _ _ ((KeepsOthers.alloc W _).from _) ((Below.refl _ W).alloc (Nat.le_trans (Nat.le_refl _) hI.2.2.size) _) ((overI_own _ _ _ _ _ _ _ _ (Nat.le_refl _) (Nat.le_refl _)).alloc _ hI) ⟨_, rfl, heap_alloc_new _ _⟩
  case body =>
    rintro l' pre x a' W hl' hr ⟨⟨hbm, hbn⟩, ⟨v', hbl, hown, _⟩, hB'⟩ ⟨b, rfl, hb⟩ hlt
    have hlen : (overL min now pre).length ≤ 1000 := by
      have := List.length_filter_le (isOver min now) pre
      unfold overL; omega
    obtain ⟨⟨a1, a2, a3, a4⟩, a5, a6⟩ := x
    dsimp only at hb
    have hcm := hbm.cell
    have hcn := hbn.cell
    have hcl := hbl.cell
    have hlb : b < W.heap.size := (Array.getElem?_eq_some_iff.1 hb).1
    have k0 : W.cell? ⟨b, 0, none⟩ = some (.int .u64 a1) := by rw [cell_of_row W b 0 _ _ _ hb]; rfl
    have k1 : W.cell? ⟨b, 1, none⟩ = some (.int .i64 a2) := by rw [cell_of_row W b 1 _ _ _ hb]; rfl
    have k2 : W.cell? ⟨b, 2, none⟩ = some (.int .i64 a3) := by rw [cell_of_row W b 2 _ _ _ hb]; rfl
    have k3 : W.cell? ⟨b, 3, none⟩ = some (.int .i64 a4) := by rw [cell_of_row W b 3 _ _ _ hb]; rfl
    have k4 : W.cell? ⟨b, 4, none⟩ = some (.int .u64 a5) := by rw [cell_of_row W b 4 _ _ _ hb]; rfl
    have k5 : W.cell? ⟨b, 5, none⟩ = some (.int .i64 a6) := by rw [cell_of_row W b 5 _ _ _ hb]; rfl
    have HB := Lib.hid hb
    have HBL := Lib.hid hbl
    have HBM := Lib.hid hbm
    have HBN := Lib.hid hbn
    have HO := Lib.hid hown
    have HP := Lib.hid hB'
    clear hb hbl hbm hbn hown hB' hr
    unfold Put.val
    by_cases hc : a2 ≤ min ∧ min ≤ a3 ∧ a6 ≤ now ∧ now < a4
    · obtain ⟨g1, g2, g3, g4⟩ := hc
      have hap : overL min now (pre ++ [⟨⟨a1, a2, a3, a4⟩, a5, a6⟩]) = overL min now pre ++ [⟨⟨a1, a2, a3, a4⟩, a5, a6⟩] := by
        unfold overL; rw [List.filter_append]; congr 1; simp [isOver, g1, g2, g3, g4]
      have HAP := Lib.hid hap
      clear hap
      gi_wp2_with (refine wpListIn_append_own_at _ rfl (.tmp 37) (.tmp 39) 172 rfl w.heap.size 203 i0 _ 6 48 Tryz.underlying172 hi0 hz0 hz1 hz2 rfl (by decide) v' _ _ rfl (HO.out.alloc _) ⟨W.heap.size, 0, none⟩ 1 1 [.int .u64 a1, .int .i64 a2, .int .i64 a3, .int .i64 a4, .int .u64 a5, .int .i64 a6] rfl rfl (World.news_of_block (cs := #[.int .u64 a1, .int .i64 a2, .int .i64 a3, .int .i64 a4, .int .u64 a5, .int .i64 a6]) (t := 203) (fr := (0, 0)) (heap_alloc_new W _)) (by simp [Value.oneCell']) (by unfold maxLen; omega) (by omega) (by have := HP.out.size; simp; omega) ?_)
      intro v2 w1 hown1 hgrow _ _
      obtain ⟨g, cap2, rfl⟩ := ownsRow_succ hown1
      obtain ⟨q1, q2, q3, q4, q5⟩ := HBL.out.appended (by decide) HO.out HP.out.size (by omega) hown1 hgrow
      have e1 := q1.cell
      have e2 := q1.frozen
      have hlt1 := q1.lt
      have Q2 := Lib.hid q2
      have Q3 := Lib.hid q3
      have Q4 := Lib.hid q4
      have Q5 := Lib.hid q5
      have HG := Lib.hid hgrow
      clear q1 q2 q3 q4 q5 hgrow hown1
      gi_wp2
      have e3 : ∀ (u : Value), Boxed (w1.setCell ⟨w.heap.size + 1 + 1, 0, none⟩ u) w.heap.size 3 (.int .i64 min) := fun u => ((HBM.out.alloc _).kept HG.out (HBM.out.not_row (by decide) HO.out)).other (by omega) u
      have e4 : ∀ (u : Value), Boxed (w1.setCell ⟨w.heap.size + 1 + 1, 0, none⟩ u) (w.heap.size + 1) 3 (.int .i64 now) := fun u => ((HBN.out.alloc _).kept HG.out (HBN.out.not_row (by decide) HO.out)).other (by omega) u
      exact ⟨Q4.out.from _, Q5.out, ⟨e3 _, e4 _⟩, ⟨_, Q2.out, by rw [HAP.out, List.length_append, List.flatMap_append]; exact Q3.out, trivial⟩, HP.out.trans Q5.out⟩
    · have hap : overL min now (pre ++ [⟨⟨a1, a2, a3, a4⟩, a5, a6⟩]) = overL min now pre := by
        unfold overL; rw [List.filter_append]
        have : isOver min now ⟨⟨a1, a2, a3, a4⟩, a5, a6⟩ = false := by
          rw [Bool.eq_false_iff]; intro hh; apply hc; simpa [isOver, and_assoc] using hh
        simp [this]
      have HAP := Lib.hid hap
      have HC := Lib.hid hc
      clear hap hc
      have fin : ∀ B a', ownPostG B (Below w.heap.size) (overI w.heap.size w.heap.size (w.heap.size + 1) (w.heap.size + 1 + 1) min now w) (fun _ _ _ => False) (pre ++ [⟨⟨a1, a2, a3, a4⟩, a5, a6⟩]) W .normal a' W := fun B a' =>
        ⟨KeepsFrom.refl _ _, Below.refl _ _, ⟨HBM.out, HBN.out⟩, ⟨v', HBL.out, by rw [HAP.out]; exact HO.out, trivial⟩, HP.out⟩
      have FIN := Lib.hid fin
      clear fin
      gi_wp2_with fail
      all_goals first
        | exact FIN.out _ _
        | (exfalso; apply HC.out; refine ⟨?_, ?_, ?_, ?_⟩ <;> first | assumption | omega)
  case done =>
    rintro D xs W hD rfl ⟨⟨hbm, hbn⟩, ⟨v', hbl, hown, _⟩, hB'⟩ hK
    have hcl := hbl.cell
    have HO := Lib.hid hown
    have HP := Lib.hid hB'
    clear hown hB' hbm hbn
    gi_wp2
    refine ⟨by simp, .inl ⟨_, _, rfl, run_takeDeferred hK, ?_⟩⟩
    refine ⟨_, results_tmp rfl _ _ _, v', rfl, ownsRow_putObj HO.out _ hK rfl, Ex.ofBelow (HP.out.trans (belowK_b (w := w) (Nat.le_refl _) W D _ _ (Nat.le_trans hsz hD) hK rfl rfl))⟩
  case stop =>
    rintro D c pre W _ _ h _
    exact h.elim
end Go.Proofs.YtoglddndicmelaaGreat.Ho
