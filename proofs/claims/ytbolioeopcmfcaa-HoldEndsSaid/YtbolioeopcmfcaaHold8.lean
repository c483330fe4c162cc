/- Contracts of layer 37: the law's all; books that there aren't. -/
import Derived.Test.YtbolioeopcmfcaaHold7
namespace Go.Proofs.Ytbolioeopcmfcaa
open Go.RowKit Go.Proofs.YtbolioeopcmfcaaB Go.Shelf

attribute [local go_sem] Oper.semAt_some

def lallI (n0 bl : Nat) (w0 : World) (pre : List Put) (W : World) : Prop :=
  (∃ v, Boxed W bl 35 v ∧ W.ownsRow n0 38 6 v pre.length (pre.flatMap Put.cells) ∧ True) ∧ Boxed W n0 35 (.slice none 0 0) ∧ Below n0 w0 W

theorem lallI_own (n0 bl B : Nat) (w0 : World) (h1 : n0 ≤ w0.heap.size) (h2 : n0 ≤ B) : OwnFrom B (lallI n0 bl w0) :=
  ((holdsRow_own n0 bl _ _ _ (fun s : List Put => s.length) (fun s => s.flatMap Put.cells) (fun _ _ => True)).from B).and (((boxed_own n0 _ (fun _ => Value.slice none 0 0)).from B).and (ownFrom_below h1 h2))

set_option maxRecDepth 100000 in
set_option maxHeartbeats 2000000 in
theorem lall_any (p : Nat) (v : Value) (l : List Put) (w : World) (hB : BookAt w p v l) (hl : l.length ≤ 100) :
    Calls Try.prog 15 #[.pointer (some ⟨p, 0, none⟩)] w fun e w' => ∃ v', e = .returned v' ∧ w'.ownsRow w.heap.size 38 6 v' l.length (l.flatMap Put.cells) ∧ Ex0 w w' := by
  obtain ⟨i0, hi0, hz0, hz1, hz2⟩ := info_parts infoPut
  have hlp := hB.lt
  have hc := hB.cell
  obtain ⟨A, cap, rfl, hsl, hbl⟩ := own_sl hB.own
  have hA : ∀ b, Bl A b → b < w.heap.size := fun b hb => (hB.own.lt b (by rw [hbl]; exact hb)).2
  have HBL := Lib.hid hbl
  have HAA := Lib.hid hA
  clear hbl hA
  refine (callsIn_wide (n := 10)).1 (callsIn_of_wp_marks Try.func15 rfl trivial ?_ rfl)
  simp only [Try.ntmps15, List.size_toArray, List.length_cons, List.length_nil, Nat.reduceAdd, Nat.reduceSub, Array.replicate_succ, Array.replicate_zero, List.push_toArray, List.append_toArray, List.nil_append, List.cons_append]
  gi_wp2_with fail
  refine ⟨trivial, (all_any _ _).mono ?_⟩
  rintro e w' ⟨rfl, rfl⟩
  gi_wp2_with fail
  have hx3 : Ex0 w (((w.alloc (.cells #[.slice none 0 0] 35)).alloc (.cells #[.slice none 0 0] 35)).alloc (.cells #[.pointer (some ⟨p, 0, none⟩)] 25)) := ((Ex.alloc _ _).alloc' _).alloc' _
  have b0 := ((Boxed.new w 35 (.slice none 0 0)).alloc (.cells #[.slice none 0 0] 35)).alloc (.cells #[.pointer (some ⟨p, 0, none⟩)] 25)
  have b2 := (Boxed.new (w.alloc (.cells #[.slice none 0 0] 35)) 35 (.slice none 0 0)).alloc (.cells #[.pointer (some ⟨p, 0, none⟩)] 25)
  have b3 := Boxed.new ((w.alloc (.cells #[.slice none 0 0] 35)).alloc (.cells #[.slice none 0 0] 35)) 25 (.pointer (some ⟨p, 0, none⟩))
  simp only [World.size_alloc] at b2 b3
  have hsz : w.heap.size ≤ (((w.alloc (.cells #[.slice none 0 0] 35)).alloc (.cells #[.slice none 0 0] 35)).alloc (.cells #[.pointer (some ⟨p, 0, none⟩)] 25)).heap.size := hx3.size
  refine wpIn_rangeFunc_ownH rfl (by omega) (gf := 29) (lb := #[.pointer (some ⟨w.heap.size + 1 + 1, 0, none⟩)]) rfl trivial (enters_of Try.func29 (by kernel_rfl) rfl)
    (all_seq (w.heap.size + 1 + 1) w.heap.size p A cap l _ b3.cell (hx3.cellS hc not_false) (hsl.ex0 hx3) HAA.out hsz) belowK_t (belowK_b hsz) (Below.refl _ _) (fun _ => rfl)
    (lallI w.heap.size (w.heap.size + 1) w) (fun _ _ _ => False)
    (lallI_own _ _ _ _ (Nat.le_refl _) hsz) (fun _ _ _ _ _ hs _ _ => hs)
    ⟨⟨_, b2, World.ownsRow_nil _ _ _ _, trivial⟩, b0, hx3.below (Nat.le_refl _) (fun _ h => h.elim)⟩
    (fun x a' W => ∃ b, a' = { tmps := #[.pointer (some ⟨p, 0, none⟩), undef, .pointer (some ⟨w.heap.size, 0, none⟩), .pointer (some ⟨w.heap.size + 1, 0, none⟩), .pointer (some ⟨b, 0, none⟩), .pointer (some ⟨p, 0, none⟩), .func (.func 29) #[] #[.pointer (some ⟨w.heap.size + 1 + 1, 0, none⟩)], x.val, undef, undef, undef, undef, undef, undef, undef, undef, undef], defers := [] } ∧ W.heap[b]? = some (.cells #[.int .u64 x.h.id, .int .i64 x.h.fr, .int .i64 x.h.to, .int .i64 x.h.til, .int .u64 x.num, .int .i64 x.min] 38 (0, 0)))
    (fun x a' s X Y row h hg hrow => by obtain ⟨b, e, hb⟩ := h; exact ⟨b, e, putBox_own _ b x () X Y row hb hg hrow⟩) ?assign ?body ?done ?stop
  case assign =>
    intro l' pre x W K hI hK
    obtain ⟨⟨a1, a2, a3, a4⟩, a5, a6⟩ := x
    unfold Put.val at hK ⊢
    gi_wp2
    refine hK _ _ ((KeepsOthers.alloc W _).from _) ((Below.refl _ W).alloc (Nat.le_trans (Nat.le_refl _) hI.2.2.size) _) ((lallI_own _ _ _ _ (Nat.le_refl _) (Nat.le_refl _)).alloc _ hI) ⟨_, rfl, heap_alloc_new _ _⟩
  case body =>
    rintro l' pre x a' W hl' hr ⟨⟨v', hbl, hown, _⟩, hbr, hB'⟩ ⟨b, rfl, hb⟩ hlt
    obtain ⟨⟨a1, a2, a3, a4⟩, a5, a6⟩ := x
    dsimp only at hb
    have hcl := hbl.cell
    have hlb : b < W.heap.size := (Array.getElem?_eq_some_iff.1 hb).1
    have k0 : W.cell? ⟨b, 0, none⟩ = some (.int .u64 a1) := by rw [cell_of_row W b 0 _ _ _ hb]; rfl
    have k1 : W.cell? ⟨b, 1, none⟩ = some (.int .i64 a2) := by rw [cell_of_row W b 1 _ _ _ hb]; rfl
    have k2 : W.cell? ⟨b, 2, none⟩ = some (.int .i64 a3) := by rw [cell_of_row W b 2 _ _ _ hb]; rfl
    have k3 : W.cell? ⟨b, 3, none⟩ = some (.int .i64 a4) := by rw [cell_of_row W b 3 _ _ _ hb]; rfl
    have k4 : W.cell? ⟨b, 4, none⟩ = some (.int .u64 a5) := by rw [cell_of_row W b 4 _ _ _ hb]; rfl
    have k5 : W.cell? ⟨b, 5, none⟩ = some (.int .i64 a6) := by rw [cell_of_row W b 5 _ _ _ hb]; rfl
    have HBL := Lib.hid hbl
    have HBR := Lib.hid hbr
    have HO := Lib.hid hown
    have HP := Lib.hid hB'
    clear hb hbl hown hB' hr hbr
    unfold Put.val
    gi_wp2_with (refine wpListIn_append_own_at _ rfl (.tmp 8) (.tmp 10) 35 rfl w.heap.size 38 i0 _ 6 48 Try.underlying35 hi0 hz0 hz1 hz2 rfl (by decide) v' _ _ rfl (HO.out.alloc _) ⟨W.heap.size, 0, none⟩ 1 1 [.int .u64 a1, .int .i64 a2, .int .i64 a3, .int .i64 a4, .int .u64 a5, .int .i64 a6] rfl rfl (World.news_of_block (cs := #[.int .u64 a1, .int .i64 a2, .int .i64 a3, .int .i64 a4, .int .u64 a5, .int .i64 a6]) (t := 38) (fr := (0, 0)) (heap_alloc_new W _)) (by simp [Value.oneCell']) (by unfold maxLen; omega) (by omega) (by have := HP.out.size; simp; omega) ?_)
    intro v2 w1 hown1 hgrow _ _
    obtain ⟨g, cap2, rfl⟩ := ownsRow_succ hown1
    obtain ⟨q1, q2, q3, q4, q5⟩ := HBL.out.appended (by decide) HO.out HP.out.size (by omega) hown1 hgrow
    have e1 := q1.cell
    have e2 := q1.frozen
    have hlt1 := q1.lt
    have Q2 := Lib.hid q2
    have Q3 := Lib.hid q3
    have Q4 := Lib.hid q4
    have Q5 := Lib.hid q5
    have HG := Lib.hid hgrow
    clear q1 q2 q3 q4 q5 hgrow hown1
    gi_wp2
    have e3 : ∀ (u : Value), Boxed (w1.setCell ⟨w.heap.size + 1, 0, none⟩ u) w.heap.size 35 (.slice none 0 0) := fun u => ((HBR.out.alloc _).kept HG.out (HBR.out.not_row (by decide) HO.out)).other (by omega) u
    exact ⟨Q4.out.from _, Q5.out, ⟨_, Q2.out, by rw [List.length_append, List.flatMap_append]; exact Q3.out, trivial⟩, e3 _, HP.out.trans Q5.out⟩
  case done =>
    rintro D xs W hD rfl ⟨⟨v', hbl, hown, _⟩, hbr, hB'⟩ hK
    have hcl := hbl.cell
    have hcr := hbr.cell
    have hfr := hbr.frozen
    have hlr := hbr.lt
    have HO := Lib.hid hown
    have HP := Lib.hid hB'
    have HBR := Lib.hid hbr
    have HBL := Lib.hid hbl
    clear hown hB' hbr hbl
    obtain ⟨A', cap', hv', _, _⟩ := own_sl HO.out
    subst hv'
    gi_wp2
    have hD' : w.heap.size < D := by simp at hD; omega
    have hK2 : (W.setCell ⟨w.heap.size, 0, none⟩ (.slice A' xs.length cap')).heap[D]? = some (.deferred (some [])) := (Below.heap_setCell _ _ _ _ (by simp; omega)).trans hK
    have q1 := HBR.out.set (.slice A' xs.length cap')
    refine ⟨by simp, .inl ⟨_, _, rfl, run_takeDeferred hK2, ?_⟩⟩
    have q2 := (q1.kept (grownBy_putObj' _ D (.deferred none)) (by simp; omega)).cell
    refine ⟨.slice A' xs.length cap', by simp [results, Try.results15, go_sem, q2], _, rfl, ownsRow_putObj (HO.out.kept (grownBy_setCell' W w.heap.size _) (.inr (HBR.out.not_row (by decide) HO.out).symm)) _ hK2 rfl, ?_⟩
    exact Ex.ofBelow ((HP.out.setCell (p := ⟨w.heap.size, 0, none⟩) (Nat.le_refl _) _).trans (belowK_b (w := w) (Nat.le_refl _) _ D _ _ (by omega) hK2 rfl rfl))
  case stop =>
    rintro D c pre W _ _ h _
    exact h.elim

/-! ### a book that there isn't -/
set_option maxRecDepth 100000 in
theorem all_seq_nil (Bn n0 : Nat) (w : World) (hBn : w.cell? ⟨Bn, 0, none⟩ = some (.pointer none)) :
    SeqStopsK Fence.wide 9 Try.prog 29 #[.pointer (some ⟨Bn, 0, none⟩)] (fun x : Put => #[x.val]) (Below n0) (fun ys => ys = []) (fun _ => False) 0 w := fun l J Jx W hW hJ _ hY h0 => by
  have hb : W.cell? ⟨Bn, 0, none⟩ = some (.pointer none) := (exOfBelow hW).cellS hBn (by have := World.block_lt_of_cell? _ _ hBn; simp at this ⊢; omega)
  refine callsIn_of_wp Try.func29 rfl trivial ?_ rfl
  simp only [Try.ntmps29, List.size_toArray, List.length_cons, List.length_nil, Nat.reduceAdd, Nat.reduceSub, Array.replicate_succ, Array.replicate_zero, List.push_toArray, List.append_toArray, List.nil_append, List.cons_append]
  gi_wp2
  refine bodyPost_ret (results_none rfl _ _ _) rfl ?_
  simpa using h0

set_option maxRecDepth 100000 in
set_option maxHeartbeats 2000000 in
theorem lall_nil (w : World) :
    Calls Try.prog 15 #[.pointer none] w fun e w' => e = .returned (.slice none 0 0) ∧ Ex0 w w' := by
  refine (callsIn_wide (n := 10)).1 (callsIn_of_wp_marks Try.func15 rfl trivial ?_ rfl)
  simp only [Try.ntmps15, List.size_toArray, List.length_cons, List.length_nil, Nat.reduceAdd, Nat.reduceSub, Array.replicate_succ, Array.replicate_zero, List.push_toArray, List.append_toArray, List.nil_append, List.cons_append]
  gi_wp2_with fail
  refine ⟨trivial, (all_any _ _).mono ?_⟩
  rintro e w' ⟨rfl, rfl⟩
  gi_wp2_with fail
  have hx3 : Ex0 w (((w.alloc (.cells #[.slice none 0 0] 35)).alloc (.cells #[.slice none 0 0] 35)).alloc (.cells #[.pointer none] 25)) := ((Ex.alloc _ _).alloc' _).alloc' _
  have b0 := ((Boxed.new w 35 (.slice none 0 0)).alloc (.cells #[.slice none 0 0] 35)).alloc (.cells #[.pointer none] 25)
  have b2 := (Boxed.new (w.alloc (.cells #[.slice none 0 0] 35)) 35 (.slice none 0 0)).alloc (.cells #[.pointer none] 25)
  have b3 := Boxed.new ((w.alloc (.cells #[.slice none 0 0] 35)).alloc (.cells #[.slice none 0 0] 35)) 25 (.pointer none)
  simp only [World.size_alloc] at b2 b3
  have hsz : w.heap.size ≤ (((w.alloc (.cells #[.slice none 0 0] 35)).alloc (.cells #[.slice none 0 0] 35)).alloc (.cells #[.pointer none] 25)).heap.size := hx3.size
  refine wpIn_rangeFunc_ownH rfl (by omega) (gf := 29) (lb := #[.pointer (some ⟨w.heap.size + 1 + 1, 0, none⟩)]) rfl trivial (enters_of Try.func29 (by kernel_rfl) rfl)
    (all_seq_nil (w.heap.size + 1 + 1) w.heap.size _ b3.cell) belowK_t (belowK_b hsz) (Below.refl _ _) (fun _ => rfl)
    (fun _ W => (Boxed W w.heap.size 35 (.slice none 0 0) ∧ Boxed W (w.heap.size + 1) 35 (.slice none 0 0)) ∧ Below w.heap.size w W) (fun _ _ _ => False)
    ((((boxed_own w.heap.size _ (fun _ => Value.slice none 0 0)).from _).and ((boxed_own (w.heap.size + 1) _ (fun _ => Value.slice none 0 0)).from _)).and (ownFrom_below (Nat.le_refl _) hsz)) (fun _ _ _ _ _ hs _ _ => hs)
    ⟨⟨b0, b2⟩, hx3.below (Nat.le_refl _) (fun _ h => h.elim)⟩
    (fun _ _ _ => True) (fun _ _ _ _ _ _ _ _ _ => trivial) ?assign ?body ?done ?stop
  case assign =>
    intro l' pre x W K hI hK
    obtain ⟨⟨a1, a2, a3, a4⟩, a5, a6⟩ := x
    unfold Put.val
    gi_wp2
    refine hK _ _ ((KeepsOthers.alloc W _).from _) ((Below.refl _ W).alloc hI.2.size _) ⟨⟨hI.1.1.alloc _, hI.1.2.alloc _⟩, hI.2.alloc hI.2.size _⟩ trivial
  case body =>
    rintro l' pre x a' W hl' hr hI hA hlt
    omega
  case done =>
    rintro D xs W hD rfl ⟨⟨hbr, hbl⟩, hB'⟩ hK
    have hcl := hbl.cell
    have hcr := hbr.cell
    have hfr := hbr.frozen
    have hlr := hbr.lt
    have HP := Lib.hid hB'
    have HBR := Lib.hid hbr
    clear hB' hbr hbl
    gi_wp2
    have hD' : w.heap.size < D := by simp at hD; omega
    have hK2 : (W.setCell ⟨w.heap.size, 0, none⟩ (.slice none 0 0)).heap[D]? = some (.deferred (some [])) := (Below.heap_setCell _ _ _ _ (by simp; omega)).trans hK
    have q1 := HBR.out.set (.slice none 0 0)
    refine ⟨by simp, .inl ⟨_, _, rfl, run_takeDeferred hK2, ?_⟩⟩
    have q2 := (q1.kept (grownBy_putObj' _ D (.deferred none)) (by simp; omega)).cell
    refine ⟨.slice none 0 0, by simp [results, Try.results15, go_sem, q2], rfl, ?_⟩
    exact Ex.ofBelow ((HP.out.setCell (p := ⟨w.heap.size, 0, none⟩) (Nat.le_refl _) _).trans (belowK_b (w := w) (Nat.le_refl _) _ D _ _ (by omega) hK2 rfl rfl))
  case stop =>
    rintro D c pre W _ _ h _
    exact h.elim

set_option maxRecDepth 100000 in
set_option maxHeartbeats 2000000 in
theorem over_nil (min now : Int) (w : World) :
    Calls Try.prog 12 #[.pointer none, .int .i64 min, .int .i64 now] w fun e w' => e = .returned (.slice none 0 0) ∧ Ex0 w w' := by
  refine (callsIn_wide (n := 10)).1 (callsIn_of_wp_marks Try.func12 rfl trivial ?_ rfl)
  simp only [Try.ntmps12, List.size_toArray, List.length_cons, List.length_nil, Nat.reduceAdd, Nat.reduceSub, Array.replicate_succ, Array.replicate_zero, List.push_toArray, List.append_toArray, List.nil_append, List.cons_append]
  gi_wp2_with fail
  refine ⟨trivial, (all_any _ _).mono ?_⟩
  rintro e w' ⟨rfl, rfl⟩
  gi_wp2_with fail
  have hx3 : Ex0 w ((((w.alloc (.cells #[.int .i64 min] 3)).alloc (.cells #[.int .i64 now] 3)).alloc (.cells #[.slice none 0 0] 35)).alloc (.cells #[.pointer none] 25)) := (((Ex.alloc _ _).alloc' _).alloc' _).alloc' _
  have b2 := (Boxed.new ((w.alloc (.cells #[.int .i64 min] 3)).alloc (.cells #[.int .i64 now] 3)) 35 (.slice none 0 0)).alloc (.cells #[.pointer none] 25)
  have b3 := Boxed.new (((w.alloc (.cells #[.int .i64 min] 3)).alloc (.cells #[.int .i64 now] 3)).alloc (.cells #[.slice none 0 0] 35)) 25 (.pointer none)
  simp only [World.size_alloc] at b2 b3
  have hsz : w.heap.size ≤ ((((w.alloc (.cells #[.int .i64 min] 3)).alloc (.cells #[.int .i64 now] 3)).alloc (.cells #[.slice none 0 0] 35)).alloc (.cells #[.pointer none] 25)).heap.size := hx3.size
  refine wpIn_rangeFunc_ownH rfl (by omega) (gf := 29) (lb := #[.pointer (some ⟨w.heap.size + 1 + 1 + 1, 0, none⟩)]) rfl trivial (enters_of Try.func29 (by kernel_rfl) rfl)
    (all_seq_nil (w.heap.size + 1 + 1 + 1) w.heap.size _ b3.cell) belowK_t (belowK_b hsz) (Below.refl _ _) (fun _ => rfl)
    (fun _ W => Boxed W (w.heap.size + 1 + 1) 35 (.slice none 0 0) ∧ Below w.heap.size w W) (fun _ _ _ => False)
    (((boxed_own (w.heap.size + 1 + 1) _ (fun _ => Value.slice none 0 0)).from _).and (ownFrom_below (Nat.le_refl _) hsz)) (fun _ _ _ _ _ hs _ _ => hs)
    ⟨b2, hx3.below (Nat.le_refl _) (fun _ h => h.elim)⟩
    (fun _ _ _ => True) (fun _ _ _ _ _ _ _ _ _ => trivial) ?assign ?body ?done ?stop
  case assign =>
    intro l' pre x W K hI hK
    obtain ⟨⟨a1, a2, a3, a4⟩, a5, a6⟩ := x
    unfold Put.val
    gi_wp2
    refine hK _ _ ((KeepsOthers.alloc W _).from _) ((Below.refl _ W).alloc hI.2.size _) ⟨hI.1.alloc _, hI.2.alloc hI.2.size _⟩ trivial
  case body =>
    rintro l' pre x a' W hl' hr hI hA hlt
    omega
  case done =>
    rintro D xs W hD rfl ⟨hbl, hB'⟩ hK
    have hcl := hbl.cell
    have HP := Lib.hid hB'
    clear hB'
    gi_wp2
    refine ⟨by simp, .inl ⟨_, _, rfl, run_takeDeferred hK, ?_⟩⟩
    exact ⟨_, results_tmp rfl _ _ _, rfl, Ex.ofBelow (HP.out.trans (belowK_b (w := w) (Nat.le_refl _) W D _ _ (Nat.le_trans hsz hD) hK rfl rfl))⟩
  case stop =>
    rintro D c pre W _ _ h _
    exact h.elim
end Go.Proofs.Ytbolioeopcmfcaa
