/- Words: maps that are asked behind a guard, and with a second answer. -/
import Derived.Test.YtoglddndicmelaaGreatB8
import Derived.Test.YtoglddndicmelaaGreatB4
import Derived.Test.YtoglddndicmelaaGreatB10
namespace Go.Proofs.YtoglddndicmelaaGreatB
open Go Go.RowKit Go.Maps

section
variable {P : Program} {kt et : TypeId} {ops : Array Oper} {rest : List Oper} {o : Oper} {a : Act} {w : World} {Q : Exit → Act → World → Prop}
theorem wpList_bset_get_gd (hwd : Region.wanted o (yielded ops a.tmps) = true) (t : TypeId) (x y : Operand) (ho : o.op = .lookup t x y false) (b : Nat) (hx : a.eval x = .map (some b)) (i : Int) (hy : a.eval y = .int .u64 i)
    (hw : (Lit.int .u64 i).wf = true) {n : Nat} {T : Int → Bool} (ht : P.underlying t = some (.map kt et)) (hk : P.underlying kt = some (.int .u64)) (he : P.underlying et = some .bool) (hz : (zeroValue et).run P w = .ok (.bool false) w) (h : BSet P kt et w b n T)
    (hK : wpList P ops Q rest (a.put o.dst (.bool (T i))) w) : wpList P ops Q (o :: rest) a w := by
  obtain ⟨D, h1, hm, h2⟩ := h
  refine wpList_step fun K hK' => ?_
  rw [if_pos hwd]
  obtain ⟨v, ps, hrun, hv⟩ := h1.lookup (int_keyed hk) ht hz (plainElem_bool he false) (keyOf_int_mk hk hw)
  obtain ⟨c, rfl, hc⟩ := plainElem_bool_inv he hv
  rw [(h2 i hw).2] at hc
  simp only [Prod.mk.injEq, DataW.lit.injEq, Lit.bool.injEq] at hc
  obtain ⟨rfl, _⟩ := hc
  unfold Oper.wp execOp
  simp only [ho, hx, hy, Sem.run_bind, hrun, Result.andThen_ok, Sem.run_pure]
  exact hK' _ _ hK
theorem wpList_lookup_int_gd (hwd : Region.wanted o (yielded ops a.tmps) = true) (t : TypeId) (x y : Operand) (ho : o.op = .lookup t x y false)
    (kt e : TypeId) (k kk : IntKind) (b : Nat) (hx : a.eval x = .map (some b)) (i : Int) (hy : a.eval y = .int k i) (m : List (Int × Value)) (z : Value) (ht : P.underlying t = some (.map kt e)) (hk : P.underlying kt = some (.int kk)) (hz : ∀ w, (zeroValue e).run P w = .ok z w) (h : MapI w b k m)
    (hK : wpList P ops Q rest (a.put o.dst ((getM m i).getD z)) w) : wpList P ops Q (o :: rest) a w := by
  refine wpList_step fun K hK' => ?_
  rw [if_pos hwd]
  unfold Oper.wp execOp
  simp only [ho, hx, hy, Sem.run_bind, run_lookup_int w t kt e k kk b m i z ht hk hz h, Result.andThen_ok, Sem.run_pure]
  exact hK' _ _ hK
theorem run_lookup_int_ok (w : World) (t kt e : TypeId) (k kk : IntKind) (b : Nat) (m : List (Int × Value)) (i : Int) (z : Value) (ht : P.underlying t = some (.map kt e)) (hk : P.underlying kt = some (.int kk)) (hz : ∀ w, (zeroValue e).run P w = .ok z w) (h : MapI w b k m) :
    (Instr.lookup t (.map (some b)) (.int k i) true).run P w = .ok (.tuple #[(getM m i).getD z, .bool (getM m i).isSome]) w := by
  obtain ⟨es, c, hb, hm⟩ := h
  have hobj : (getObj b).run P w = .ok (.map es c) w := by simp [getObj, Sem.run, hb]
  have hf := findNow_int k kk i es.toList m 0 hm
  have hfk : (Instr.findKey kt (.int k i) es.toList).run P w = .ok ((m.findIdx? (fun p => p.1 == i)).bind fun q => (m[q]?).map fun p => (0 + q, p.2)) w := by
    unfold Instr.findKey
    rw [Sem.run_bind, run_underlying hk w]
    simp only [Result.andThen_ok, hf, Sem.run_pure]
  have hck : (Instr.checkKey es.isEmpty 10000 kt (.int k i)).run P w = .ok () w := by
    unfold Instr.checkKey
    rw [Sem.run_bind, run_underlying hk w]
    simp only [Result.andThen_ok, Sem.run_pure]
  unfold Instr.lookup
  simp only [Sem.run_bind, run_underlying ht, Result.andThen_ok, hobj, Sem.run_pure, hck, hfk]
  rw [getM_idx]
  cases hq : m.findIdx? (fun p => p.1 == i) with
  | none => simp [hz]
  | some q =>
    rw [List.findIdx?_eq_some_iff_getElem] at hq
    obtain ⟨hl, _⟩ := hq
    simp [List.getElem?_eq_getElem hl]
theorem wpList_lookup_int_ok (hgd : o.guard = none) (t : TypeId) (x y : Operand) (ho : o.op = .lookup t x y true)
    (kt e : TypeId) (k kk : IntKind) (b : Nat) (hx : a.eval x = .map (some b)) (i : Int) (hy : a.eval y = .int k i) (m : List (Int × Value)) (z : Value) (ht : P.underlying t = some (.map kt e)) (hk : P.underlying kt = some (.int kk)) (hz : ∀ w, (zeroValue e).run P w = .ok z w) (h : MapI w b k m)
    (hK : wpList P ops Q rest (a.put o.dst (.tuple #[(getM m i).getD z, .bool (getM m i).isSome])) w) : wpList P ops Q (o :: rest) a w := by
  refine wpList_plain hgd fun K hK' => ?_
  unfold Oper.wp execOp
  simp only [ho, hx, hy, Sem.run_bind, run_lookup_int_ok w t kt e k kk b m i z ht hk hz h, Result.andThen_ok, Sem.run_pure]
  exact hK' _ _ hK
end
/-- a map that is filled key by key -/
theorem putM_new {m : List (Int × Value)} {i : Int} (h : i ∉ m.map (·.1)) (v : Value) : putM m i v = m ++ [(i, v)] := by
  unfold putM
  rw [if_neg]
  rw [List.any_eq_true]
  rintro ⟨p, hp, e⟩
  exact h (List.mem_map.2 ⟨p, hp, by simpa using e⟩)
theorem map_fst_pair (l : List Int) (g : Int → Value) : (l.map fun x => (x, g x)).map (·.1) = l := by
  rw [List.map_map]; exact List.map_id l
theorem getM_map {α : Type} (l : List α) (f : α → Int) (g : α → Value) (x : α) (hx : x ∈ l) (hn : (l.map f).Nodup) : getM (l.map fun y => (f y, g y)) (f x) = some (g x) := by
  unfold getM
  induction l with
  | nil => cases hx
  | cons y l ih =>
    rw [List.map_cons, List.nodup_cons] at hn
    rw [List.map_cons, List.find?_cons]
    by_cases e : f y = f x
    · have hb : (f y == f x) = true := by simpa using e
      simp only [hb]
      rcases List.mem_cons.1 hx with rfl | hx
      · rfl
      · exact absurd (List.mem_map.2 ⟨x, hx, e.symm⟩) hn.1
    · have hb : (f y == f x) = false := by simpa using e
      simp only [hb]
      rcases List.mem_cons.1 hx with rfl | hx
      · exact absurd rfl e
      · exact ih hx hn.2
theorem getM_none {α : Type} (l : List α) (f : α → Int) (g : α → Value) (i : Int) (h : ∀ x ∈ l, f x ≠ i) : getM (l.map fun y => (f y, g y)) i = none := by
  unfold getM
  have : (l.map fun y => (f y, g y)).find? (fun p => p.1 == i) = none := by
    rw [List.find?_eq_none]
    intro p hp
    obtain ⟨x, hx, rfl⟩ := List.mem_map.1 hp
    simpa using h x hx
  rw [this]; rfl
end Go.Proofs.YtoglddndicmelaaGreatB
