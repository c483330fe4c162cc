/- Words: sets of whole numbers that are kept as maps to true; a range over one. -/
import Derived.Maps.RangeWalk
import Derived.Maps.OwnSet
import Derived.Maps.OwnOps
import Derived.Maps.Views
import Derived.Test.YtoglddndicmelaaGreatB7
namespace Go.Proofs.YtoglddndicmelaaGreatB
open Go Go.RowKit Go.Maps

section
variable {P : Program} {kt et : TypeId}

/-- what a map to bools says: its keys are T's, each with true -/
def TrueOn (D : DataW Unit) (T : Int → Bool) : Prop := ∀ i, (Lit.int .u64 i).wf = true → Maps.has D (.int .u64 i) = T i ∧ D.atKey (.int .u64 i) (.lit (.bool false)) = .lit (.bool (T i))
/-- block b is a map of at most n keys, T's -/
def BSet (P : Program) (kt et : TypeId) (w : World) (b n : Nat) (T : Int → Bool) : Prop := ∃ D : DataW Unit, w.ownsMap P kt (plainElem P et) b n D ∧ IsMap D ∧ TrueOn D T

theorem BSet.made (w : World) : BSet P kt et (w.alloc (.map #[] 0)) w.heap.size 0 (fun _ => false) :=
  ⟨.map [], World.ownsMap_made _ _ _ _, isMap_empty, fun _ _ => ⟨rfl, rfl⟩⟩
theorem BSet.lt {w : World} {b n : Nat} {T : Int → Bool} (h : BSet P kt et w b n T) : b < w.heap.size := by
  obtain ⟨D, h1, _⟩ := h; exact h1.lt
theorem BSet.ex {S : Nat → Prop} {w w' : World} {b n : Nat} {T : Int → Bool} (h : BSet P kt et w b n T) (hx : Ex S w w') (hS : ¬ S b) : BSet P kt et w' b n T := by
  obtain ⟨D, h1, h2⟩ := h
  have hlt := h1.lt
  obtain ⟨es, clock, hb, F, hs, hD⟩ := h1
  exact ⟨D, ⟨es, clock, (hx.block b hlt hS).trans hb, F, hs, hD⟩, h2⟩
theorem isKey_int (i : Int) : WideAt.IsKeyLit (.int .u64 i) := trivial
theorem TrueOn.put {D : DataW Unit} {T : Int → Bool} (hm : IsMap D) (h : TrueOn D T) (i : Int) : TrueOn (D.put (.int .u64 i) (.lit (.bool true))) (fun j => j == i || T j) := by
  intro j hj
  by_cases e : j = i
  · subst e
    exact ⟨by simp [has_put_same hm (isKey_int j)], by simp [atKey_put_same hm (isKey_int j)]⟩
  · have hne : (Lit.int IntKind.u64 j) ≠ .int .u64 i := fun h => e (by cases h; rfl)
    have hb : (j == i) = false := by rw [beq_eq_false_iff_ne]; exact e
    simp only [hb, Bool.false_or]
    rw [has_put_other hne, atKey_put_other hne]
    exact h j hj

variable {ops : Array Oper} {rest : List Oper} {o : Oper} {a : Act} {w : World} {Q : Exit → Act → World → Prop}

theorem wpList_bset_put (hgd : o.guard = none) (t : TypeId) (x y z : Operand) (ho : o.op = .mapUpdate t x y z) (b : Nat) (hx : a.eval x = .map (some b)) (i : Int) (hy : a.eval y = .int .u64 i) (hz : a.eval z = .bool true)
    (hw : (Lit.int .u64 i).wf = true) {n : Nat} {T : Int → Bool} (ht : P.underlying t = some (.map kt et)) (hk : P.underlying kt = some (.int .u64)) (he : P.underlying et = some .bool) (h : BSet P kt et w b n T) (hn : n < maxLen)
    (hK : ∀ w', BSet P kt et w' b (n + 1) (fun j => j == i || T j) → Ex (· = b) w w' → wpList P ops Q rest (a.put o.dst undef) w') : wpList P ops Q (o :: rest) a w := by
  obtain ⟨D, h1, hm, h2⟩ := h
  refine wpList_mapUpdate_own w hgd x y z t ho kt et (int_keyed hk) ht (plainElem P et) b n D hx h1 hn (.int .u64 i) (.bool true) (.int .u64 i) hy hz (keyOf_int_mk hk hw) (.lit (.bool true)) [] (plainElem_bool he true) ?_
  intro w' h3 h4
  exact hK w' ⟨_, h3, hm.put _ _, h2.put hm i⟩ ⟨h4.os, h4.tape, h4.output, h4.size, fun k hk hne => h4.block k hk (fun e => hne (by cases e; rfl))⟩

theorem plainElem_bool_inv (he : P.underlying et = some .bool) {v : Value} {z : DataW Unit × List MemPlace} (h : plainElem P et v = some z) : ∃ c, v = .bool c ∧ z = (.lit (.bool c), []) := by
  unfold plainElem at h
  rw [he] at h
  cases v <;> simp at h
  exact ⟨_, rfl, h.symm⟩

theorem wpList_bset_get (hgd : o.guard = none) (t : TypeId) (x y : Operand) (ho : o.op = .lookup t x y false) (b : Nat) (hx : a.eval x = .map (some b)) (i : Int) (hy : a.eval y = .int .u64 i)
    (hw : (Lit.int .u64 i).wf = true) {n : Nat} {T : Int → Bool} (ht : P.underlying t = some (.map kt et)) (hk : P.underlying kt = some (.int .u64)) (he : P.underlying et = some .bool) (hz : (zeroValue et).run P w = .ok (.bool false) w) (h : BSet P kt et w b n T)
    (hK : wpList P ops Q rest (a.put o.dst (.bool (T i))) w) : wpList P ops Q (o :: rest) a w := by
  obtain ⟨D, h1, hm, h2⟩ := h
  refine wpList_plain hgd fun K hK' => ?_
  obtain ⟨v, ps, hrun, hv⟩ := h1.lookup (int_keyed hk) ht hz (plainElem_bool he false) (keyOf_int_mk hk hw)
  obtain ⟨c, rfl, hc⟩ := plainElem_bool_inv he hv
  rw [(h2 i hw).2] at hc
  simp only [Prod.mk.injEq, DataW.lit.injEq, Lit.bool.injEq] at hc
  obtain ⟨rfl, _⟩ := hc
  unfold Oper.wp execOp
  simp only [ho, hx, hy, Sem.run_bind, hrun, Result.andThen_ok, Sem.run_pure]
  exact hK' _ _ hK

/-- r is an iterator over it, with cnt keys to come -/
def BRange (P : Program) (kt et : TypeId) (w : World) (b r n : Nat) (T : Int → Bool) (cnt : Nat) : Prop :=
  ∃ (D : DataW Unit) (left : Lit → Bool), w.ranges P kt (plainElem P et) b r n D left cnt ∧ IsMap D ∧ TrueOn D T
theorem BRange.ex {S : Nat → Prop} {w w' : World} {b r n cnt : Nat} {T : Int → Bool} (h : BRange P kt et w b r n T cnt) (hx : Ex S w w') (hb : ¬ S b) (hr : ¬ S r) : BRange P kt et w' b r n T cnt := by
  obtain ⟨D, left, h1, h2⟩ := h
  have hl1 := h1.owns.lt
  have hl2 := h1.lt
  obtain ⟨es, clock, since, seen, c0, h3, h4, h5, h6, h7, h8⟩ := h1
  exact ⟨D, left, ⟨es, clock, since, seen, c0, (hx.block b hl1 hb).trans h3, h4, h5, h6, (hx.block r hl2 hr).trans h7, h8⟩, h2⟩
theorem BRange.set {w : World} {b r n cnt : Nat} {T : Int → Bool} (h : BRange P kt et w b r n T cnt) : BSet P kt et w b n T := by
  obtain ⟨D, left, h1, h2⟩ := h; exact ⟨D, h1.owns, h2⟩
theorem BRange.left {w : World} {b r n cnt : Nat} {T : Int → Bool} (h : BRange P kt et w b r n T cnt) : w.rangeLeft b r = cnt := by
  obtain ⟨D, left, h1, h2⟩ := h; exact h1.left_eq
theorem BRange.lt {w : World} {b r n cnt : Nat} {T : Int → Bool} (h : BRange P kt et w b r n T cnt) : r < w.heap.size ∧ r ≠ b := by
  obtain ⟨D, left, h1, h2⟩ := h; exact ⟨h1.lt, h1.ne⟩

theorem wpList_bset_range (hgd : o.guard = none) (t : TypeId) (x : Operand) (ho : o.op = .range t x) (b : Nat) (hx : a.eval x = .map (some b)) {n : Nat} {T : Int → Bool} (ht : P.underlying t = some (.map kt et)) (hk : P.underlying kt = some (.int .u64)) (h : BSet P kt et w b n T)
    (hK : ∀ w' cnt, cnt ≤ n → BRange P kt et w' b w.heap.size n T cnt → Ex0 w w' → wpList P ops Q rest (a.put o.dst (.pointer (some ⟨w.heap.size, 0, none⟩))) w') : wpList P ops Q (o :: rest) a w := by
  obtain ⟨D, h1, hm, h2⟩ := h
  refine wpList_range_own w hgd x t ho kt et (int_keyed hk) ht (plainElem P et) b n D hx h1 ?_
  intro w' h3 h4 _
  exact hK w' _ h1.size_le ⟨D, _, h3, hm, h2⟩ ⟨h4.os, h4.tape, h4.output, h4.size, fun k hk _ => h4.block k hk (by simp)⟩

theorem wpList_bset_next (hgd : o.guard = none) (it : Operand) (ho : o.op = .next it false) (b r : Nat) (hit : a.eval it = .pointer (some ⟨r, 0, none⟩)) {n cnt : Nat} {T : Int → Bool} (hk : P.underlying kt = some (.int .u64)) (he : P.underlying et = some .bool) (h : BRange P kt et w b r n T cnt)
    (hDone : wpList P ops Q rest (a.put o.dst (.tuple #[.bool false])) w)
    (hMore : ∀ (x : Int) (w' : World) (cnt' : Nat), (Lit.int .u64 x).wf = true → T x = true → BRange P kt et w' b r n T cnt' → cnt' < cnt → Ex (· = r) w w' → (Instr.entry (.pointer (some ⟨r, 0, none⟩))).run P w' = .ok (.tuple #[.int .u64 x, .bool true]) w' →
      wpList P ops Q rest (a.put o.dst (.tuple #[.bool true, .int .u64 x, .bool true])) w') : wpList P ops Q (o :: rest) a w := by
  obtain ⟨D, left, h1, hm, h2⟩ := h
  refine wpList_next_ranges w hgd it ho kt (int_keyed hk) (plainElem P et) (Value.int .u64) Value.bool (fun key kl hkey => by obtain ⟨x, rfl, _⟩ := keyOf_int_inv hk hkey; exact ⟨x, rfl⟩) (fun v y hv => by obtain ⟨c, rfl, _⟩ := plainElem_bool_inv he hv; exact ⟨c, rfl⟩)
    b r n D left cnt hit h1 (fun _ _ => hDone) ?_
  intro x c kl y w' cnt' hkey hl hv hat hrg hlt hgr hsz hen
  obtain ⟨x', e1, rfl, hw⟩ := keyOf_int_inv hk hkey
  cases e1
  obtain ⟨c', e2, rfl⟩ := plainElem_bool_inv he hv
  cases e2
  have hh : T x = true := by rw [← (h2 x hw).1]; exact has_true_of_atKey hat
  have hc := hat (.lit (.bool false))
  rw [(h2 x hw).2, hh] at hc
  simp only [DataW.lit.injEq, Lit.bool.injEq] at hc
  subst hc
  exact hMore x w' cnt' hw hh ⟨D, _, hrg, hm, h2⟩ hlt ⟨hgr.os, hgr.tape, hgr.output, hgr.size, fun k hk hne => hgr.block k hk (fun e => hne (by cases e; rfl))⟩ hen
end
end Go.Proofs.YtoglddndicmelaaGreatB
