/- The walk of AuditAsks. -/
import Derived.Test.YthbdmfbjkkmplaaAud38
namespace Go.Proofs.Ythbdmfbjkkmplaa
open Go.RowKit Go.Proofs.YthbdmfbjkkmplaaB Go.Proofs.Ythbdmfbjkkmplaa.Sha

abbrev asksFn : Nat := 21
/-- what stands in a block that is asked for -/
def askB (i : Nat) : List Nat := (i + 1) % 256 :: List.replicate 31 0
theorem askB_ok (i : Nat) : (askB i).length = 32 ∧ ∀ y ∈ askB i, y < 256 := by
  refine ⟨by simp [askB], fun y hy => ?_⟩
  simp only [askB, List.mem_cons] at hy
  rcases hy with rfl | hy
  · exact Nat.mod_lt _ (by decide)
  · have := List.eq_of_mem_replicate hy; subst this; decide
def asksF (i : Nat) : List Nat := if (i + 1) % 3 = 0 then z32 else askB i
theorem asksF_ok (i : Nat) : (asksF i).length = 32 ∧ ∀ y ∈ asksF i, y < 256 := by
  unfold asksF; split
  · exact z32_ok
  · exact askB_ok i
def AsksI (cr ca cn n : Nat) (i : Nat) (w : World) : Prop :=
  w.heap[cr]? = some (.cells #[.bool true] 4 (0, 0)) ∧ w.heap[ca]? = some (.cells #[.int .i64 i] 3 (0, 0)) ∧ w.heap[cn]? = some (.cells #[.int .i64 n] 3 (0, 0))

set_option maxRecDepth 100000 in
set_option maxHeartbeats 1000000 in
theorem asks1_any (a b n : Nat) (ha : a < 8) (hb : b < n) (hn : n ≤ 256) (cr ca cn : Nat) (h1 : cr ≠ ca) (h2 : cr ≠ cn) (h3 : ca ≠ cn) (w : World) (h : AsksI cr ca cn n (a * n + b) w) :
    Calls Try.prog asksFn #[.int .i64 a, .int .i64 b, .pointer (some ⟨cr, 0, none⟩), .pointer (some ⟨ca, 0, none⟩), .pointer (some ⟨cn, 0, none⟩)] w fun e w' => e = .returned (.tuple #[.agg (u8s (askB (a * n + b))).toArray, .bool (decide (¬ (a * n + b + 1) % 3 = 0))]) ∧ AsksI cr ca cn n (a * n + b + 1) w' ∧ Ex (fun k => k = cr ∨ k = ca) w w' := by
  have hmb := mul_bound ha (Nat.le_refl 8) hn
  have HDM := divmod (a := a) hb
  obtain ⟨i, hi⟩ : ∃ i, i = a * n + b := ⟨_, rfl⟩
  rw [← hi] at h HDM ⊢
  have hib : i ≤ 2304 := by omega
  have edi : (i : Int) / (n : Int) = (a : Int) := by rw [← HDM.1]; simp
  have emo : (i : Int) % (n : Int) = (b : Int) := by rw [← HDM.2]; simp
  have hn0 : (n : Int) ≠ 0 := by omega
  have hnp : (0 : Int) < n := by omega
  obtain ⟨w1, hw1⟩ : ∃ w1, w1 = w.alloc (.cells (u8s z32).toArray 24) := ⟨_, rfl⟩
  have hx1 : Ex0 w w1 := by rw [hw1]; exact Ex.alloc _ _
  have h7 : w1.heap[w.heap.size]? = some (.cells (u8s z32).toArray 24 (0, 0)) := by rw [hw1]; exact heap_alloc_new w _
  have lr := (Array.getElem?_eq_some_iff.1 h.1).1
  have la := (Array.getElem?_eq_some_iff.1 h.2.1).1
  have g1 := (hx1.block _ lr not_false).trans h.1
  have g2 := (hx1.block _ la not_false).trans h.2.1
  have g3 := (hx1.block _ (Array.getElem?_eq_some_iff.1 h.2.2).1 not_false).trans h.2.2
  have d1 : w1.cell? ⟨cr, 0, none⟩ = some (.bool true) := by rw [cell_of_row _ _ _ _ _ _ g1]; rfl
  have d2 : w1.cell? ⟨ca, 0, none⟩ = some (.int .i64 i) := by rw [cell_of_row _ _ _ _ _ _ g2]; rfl
  have d3 : w1.cell? ⟨cn, 0, none⟩ = some (.int .i64 n) := by rw [cell_of_row _ _ _ _ _ _ g3]; rfl
  have f1 : w1.frozen? ⟨cr, 0, none⟩ = false := frozen_of_row _ _ _ _ _ g1
  have f2 : w1.frozen? ⟨ca, 0, none⟩ = false := frozen_of_row _ _ _ _ _ g2
  have HG := Lib.hid (And.intro g1 (And.intro g2 g3))
  have HL := Lib.hid (And.intro lr la)
  have HLN : Hid (cn < w.heap.size) := (Array.getElem?_eq_some_iff.1 h.2.2).1
  have HX := Lib.hid hx1
  have HW1 := Lib.hid hw1
  have H7 := Lib.hid h7
  clear h hi hmb HDM hw1 hx1 h7 lr la g1 g2 g3
  go_enter Try.func21, Try.ntmps21
  iterate 6 go_step
  generalize hW : World.alloc w _ = W'
  obtain rfl : W' = w1 := by rw [HW1.out, ← hW]; rfl
  clear hW
  go_wp2_with fail
  generalize hW2 : (World.setCell (World.setCell _ _ _) _ _) = W2
  obtain ⟨m, hm⟩ : ∃ m, m = i + 1 := ⟨_, rfl⟩
  have ei1 : ((i : Int) + 1) = (m : Int) := by omega
  rw [ei1] at hW2
  have HM := Lib.hid hm
  have k1 : W2.heap[cr]? = some (.cells #[.bool true] 4 (0, 0)) := by
    rw [← hW2, (Ex.setCell _ _ _).block _ (by have := HL.out.1; have := HX.out.size; simp [World.setCell]; omega) h1, heap_setCell_same W' cr 0 _ _ _ HG.out.1]; rfl
  have k2 : W2.heap[ca]? = some (.cells #[.int .i64 m] 3 (0, 0)) := by
    rw [← hW2, heap_setCell_same _ ca 0 _ _ _ (((Ex.setCell W' ⟨cr, 0, none⟩ _).block _ (Array.getElem?_eq_some_iff.1 HG.out.2.1).1 (Ne.symm h1)).trans HG.out.2.1)]; rfl
  have hxs : Ex (fun k => k = cr ∨ k = ca) W' W2 := by
    rw [← hW2]; exact (Ex.setCell _ _ _).trans (Ex.setCell _ _ _) (fun _ _ h => .inl h) (fun _ _ h => .inr h)
  have HXS := Lib.hid hxs
  have HK := Lib.hid (And.intro k1 k2)
  have d4 : W2.cell? ⟨ca, 0, none⟩ = some (.int .i64 m) := by rw [cell_of_row _ _ _ _ _ _ k2]; rfl
  have h72 : W2.heap[w.heap.size]? = some (.cells (u8s z32).toArray 24 (0, 0)) := (hxs.block _ (Array.getElem?_eq_some_iff.1 H7.out).1 (by have := HL.out.1; have := HL.out.2; omega)).trans H7.out
  have H72 := Lib.hid h72
  have HN : Hid (W2.heap[cn]? = some (.cells #[.int .i64 n] 3 (0, 0))) := (hxs.block _ (Array.getElem?_eq_some_iff.1 HG.out.2.2).1 (fun h => h.elim (fun h => h2 h.symm) (fun h => h3 h.symm))).trans HG.out.2.2
  rw [ei1]
  clear ei1 hm hW2 d1 d2 d3 f1 f2 k1 k2 hxs h72
  refine wp_region_takes (fun w1 => w1.cell? ⟨ca, 0, none⟩ = some (.int .i64 m)) (by kernel_rfl) ?_
  simp only [List.length_cons, List.length_nil]
  refine' wpAnyH_do 0 rfl (by kernel_rfl) (fun _ _ _ _ h => h) (by rfl) (by assumption) ⟨_, fun w' hS => ?_, ?_⟩
  rotate_left
  · ((try dsimp only at hS); go_split_ands; go_simp; try (with_reducible rfl))
  simp only [Act.put, List.setIfInBounds_toArray, List.set_cons_zero, List.set_cons_succ]
  refine' wpAnyH_do 1 rfl (by kernel_rfl) (fun _ _ _ _ h => h) (by rfl) (by assumption) ⟨_, fun w' hS => ?_, ?_⟩
  rotate_left
  · ((try dsimp only at hS); go_split_ands; go_simp; try (with_reducible rfl))
  simp only [Act.put, List.setIfInBounds_toArray, List.set_cons_zero, List.set_cons_succ]
  refine' wpAnyH_do 2 rfl (by kernel_rfl) (fun _ _ _ _ h => h) (by rfl) (by assumption) ⟨_, fun w' hS => ?_, ?_⟩
  rotate_left
  · ((try dsimp only at hS); go_split_ands; go_simp; try (with_reducible rfl))
  simp only [Act.put, List.setIfInBounds_toArray, List.set_cons_zero, List.set_cons_succ]
  refine' wpAnyH_do 3 rfl (by kernel_rfl) (fun _ _ _ _ h => h) (by rfl) (by assumption) ⟨_, fun w' hS => ?_, ?_⟩
  rotate_left
  · ((try dsimp only at hS); go_split_ands; go_simp; try (with_reducible rfl))
  simp only [Act.put, List.setIfInBounds_toArray, List.set_cons_zero, List.set_cons_succ]
  refine' wpAnyH_do 4 rfl (by kernel_rfl) (fun _ _ _ _ h => h) (by rfl) (by assumption) ⟨_, fun w' hS => ?_, ?_⟩
  rotate_left
  · ((try dsimp only at hS); go_split_ands; go_simp; try (with_reducible rfl))
  simp only [Act.put, List.setIfInBounds_toArray, List.set_cons_zero, List.set_cons_succ]
  refine' wpAnyH_do 5 rfl (by kernel_rfl) (fun _ _ _ _ h => h) (by rfl) (by assumption) ⟨_, fun w' hS => ?_, ?_⟩
  rotate_left
  · ((try dsimp only at hS); go_split_ands; go_simp; try (with_reducible rfl))
  simp only [Act.put, List.setIfInBounds_toArray, List.set_cons_zero, List.set_cons_succ]
  generalize hV : (Value.agg #[Value.int .u8 _, _, _, _, _, _, _, _, _, _, _, _, _, _, _, _, _, _, _, _, _, _, _, _, _, _, _, _, _, _, _, _]) = VV
  obtain ⟨CA, hCA⟩ : ∃ CA, CA = (u8s (askB i)).toArray := ⟨_, rfl⟩
  have hsz : CA.size = 32 := by rw [hCA]; simp [u8s_len, (askB_ok i).1]
  have H1C : Hid (∀ v ∈ CA, v.oneCell' = true) := by show ∀ v ∈ CA, _; rw [hCA]; simpa using u8s_one (askB i)
  have hvv : VV = .agg CA := by
    rw [← hV, hCA, HM.out.symm.symm]
    have hu : IntKind.u8.wrap ((i + 1 : Nat) : Int) = (((i + 1) % 256 : Nat) : Int) := by simp [IntKind.wrap, IntKind.signed, IntKind.bits]
    rw [hu]; rfl
  rw [hvv]
  refine wpAnyH_eff 6 rfl (by kernel_rfl) (by rfl) (fun K hK => ?_)
  have HKK := Lib.hid hK
  clear hK
  refine wp_store_all 24 (.tmp 7) (.tmp 28) rfl w.heap.size rfl CA _ rfl 24 H72.out (by rw [hsz]; rfl) H1C.out (by rw [hsz]; kernel_rfl) ?_
  dsimp only
  have hS2 : (W2.drew.setRow w.heap.size CA).cell? ⟨ca, 0, none⟩ = some (.int .i64 m) := (ex_setRow W2.drew w.heap.size CA).cellS d4 (show ¬ ca = w.heap.size by have := HL.out.2; omega)
  refine HKK.out _ _ hS2 ?_
  clear HKK K
  refine' wpAnyH_do 7 rfl (by kernel_rfl) (fun _ _ _ _ h => h) (by rfl) (by assumption) ⟨_, fun w' hS => ?_, ?_⟩
  rotate_left
  · ((try dsimp only at hS); go_split_ands; go_simp; try (with_reducible rfl))
  simp only [Act.put, List.setIfInBounds_toArray, List.set_cons_zero, List.set_cons_succ]
  refine wpAnyH_done (by kernel_rfl) ?_ _
  go_wp2_with fail
  have et : ((m : Int).tmod 3 != 0) = decide ¬(i + 1) % 3 = 0 := by
    rw [HM.out, show ((i + 1 : Nat) : Int).tmod 3 = (((i + 1) % 3 : Nat) : Int) by rw [Int.tmod_eq_emod_of_nonneg (by omega)]; omega]
    by_cases h : (i + 1) % 3 = 0
    · simp [h]
    · simp [h]; omega
  refine bodyPost_ret (results_row_tmp rfl _ _ w.heap.size _ _ _ _ rfl (setRow_heap W2.drew _ _ _ _ _ H72.out) Try.underlying24 rfl (by rw [hsz]; kernel_rfl) (.bool _) rfl) rfl ?_
  have hcw : cr ≠ w.heap.size ∧ ca ≠ w.heap.size := by have := HL.out.1; have := HL.out.2; omega
  have hxr : Ex (· = w.heap.size) W2 (W2.drew.setRow w.heap.size CA) := ((Ex.refl _ _ : Ex (· = w.heap.size) W2 W2).drew').trans (ex_setRow W2.drew _ CA) (fun _ _ h => h) (fun _ _ h => h)
  have hxt : Ex (fun k => k = cr ∨ k = ca) w (W2.drew.setRow w.heap.size CA) := ((HX.out.trans HXS.out (fun _ _ h => h.elim) (fun _ _ h => h))).trans hxr (fun _ _ h => h) (fun j hj h => by omega)
  refine ⟨by rw [hCA, et], ⟨?_, ?_, ?_⟩, hxt⟩
  · exact (hxr.block _ (Array.getElem?_eq_some_iff.1 HK.out.1).1 hcw.1).trans HK.out.1
  · rw [← HM.out]; exact (hxr.block _ (Array.getElem?_eq_some_iff.1 HK.out.2).1 hcw.2).trans HK.out.2
  · exact (hxr.block _ (Array.getElem?_eq_some_iff.1 HN.out).1 (show ¬ cn = w.heap.size by have := HLN.out; omega)).trans HN.out

theorem asks_reads (n v : Nat) (hv : v ≤ 8) (hn : n ≤ 256) (cr ca cn : Nat) (h1 : cr ≠ ca) (h2 : cr ≠ cn) (h3 : ca ≠ cn) (w : World) (h : AsksI cr ca cn n 0 w) :
    Reads v n asksFn #[.pointer (some ⟨cr, 0, none⟩), .pointer (some ⟨ca, 0, none⟩), .pointer (some ⟨cn, 0, none⟩)] asksF (fun k => k = cr ∨ k = ca) (AsksI cr ca cn n) w where
  ok := asksF_ok
  low := fun b hb => by rcases hb with rfl | rfl; exact (Array.getElem?_eq_some_iff.1 h.1).1; exact (Array.getElem?_eq_some_iff.1 h.2.1).1
  start := h
  keep := fun i w1 w2 hi hx => by
    have l1 := (Array.getElem?_eq_some_iff.1 h.1).1
    have l2 := (Array.getElem?_eq_some_iff.1 h.2.1).1
    have l3 := (Array.getElem?_eq_some_iff.1 h.2.2).1
    exact ⟨(hx.block _ (Array.getElem?_eq_some_iff.1 hi.1).1 (by omega)).trans hi.1, (hx.block _ (Array.getElem?_eq_some_iff.1 hi.2.1).1 (by omega)).trans hi.2.1, (hx.block _ (Array.getElem?_eq_some_iff.1 hi.2.2).1 (by omega)).trans hi.2.2⟩
  ent := fun _ _ => by first | rfl | kernel_rfl
  call := fun a b ha hb w' hi => (asks1_any a b n (by omega) hb hn cr ca cn h1 h2 h3 w' hi).mono fun e w'' ⟨he, hi', hx⟩ => ⟨_, _, he, askB_ok _, by simp [asksF], hi', hx⟩
end Go.Proofs.Ythbdmfbjkkmplaa
