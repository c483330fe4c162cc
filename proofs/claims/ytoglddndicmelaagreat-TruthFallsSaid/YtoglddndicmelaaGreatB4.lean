/- Words: maps with whole numbers as keys. -/
import Derived.Maps.Own
import Derived.OwnWalkIn
import Derived.WalkLawsBesides
import Derived.Test.YtoglddndicmelaaGreatB1
namespace Go.Proofs.YtoglddndicmelaaGreatB
open Go.RowKit

/-- block b is a map whose entries are m's, in order -/
def MapI (w : World) (b : Nat) (k : IntKind) (m : List (Int × Value)) : Prop :=
  ∃ es clock, w.heap[b]? = some (.map es clock) ∧ es.toList.map (fun e => (e.key, e.val)) = m.map (fun p => (Value.int k p.1, p.2))

def getM (m : List (Int × Value)) (i : Int) : Option Value := (m.find? (fun p => p.1 == i)).map (·.2)
def putM (m : List (Int × Value)) (i : Int) (v : Value) : List (Int × Value) := if m.any (fun p => p.1 == i) then m.map (fun p => if p.1 == i then (i, v) else p) else m ++ [(i, v)]

theorem MapI.lt {w : World} {b : Nat} {k : IntKind} {m : List (Int × Value)} (h : MapI w b k m) : b < w.heap.size := by
  obtain ⟨es, c, hb, _⟩ := h
  exact (Array.getElem?_eq_some_iff.1 hb).1
theorem MapI.ex {S : Nat → Prop} {w w' : World} {b : Nat} {k : IntKind} {m : List (Int × Value)} (h : MapI w b k m) (hx : Ex S w w') (hS : ¬ S b) : MapI w' b k m := by
  have hl := h.lt
  obtain ⟨es, c, hb, hm⟩ := h
  exact ⟨es, c, (hx.block b hl hS).trans hb, hm⟩
theorem MapI.made (w : World) (k : IntKind) : MapI (w.alloc (.map #[] 0)) w.heap.size k [] := ⟨#[], 0, heap_alloc_new _ _, rfl⟩

theorem findNow_int (k : IntKind) (kk : IntKind) (i : Int) : ∀ (es : List MapEntry) (m : List (Int × Value)) (j : Nat), es.map (fun e => (e.key, e.val)) = m.map (fun p => (Value.int k p.1, p.2)) →
    Instr.findNow (.int kk) (.int k i) es j = some ((m.findIdx? (fun p => p.1 == i)).bind fun q => (m[q]?).map fun p => (j + q, p.2))
  | [], [], j, _ => rfl
  | [], _ :: _, _, h => by simp at h
  | _ :: _, [], _, h => by simp at h
  | e :: es, p :: m, j, h => by
    simp only [List.map_cons, List.cons.injEq, Prod.mk.injEq] at h
    obtain ⟨⟨h1, h2⟩, h3⟩ := h
    simp only [Instr.findNow, h1, Instr.sameNow, if_true]
    by_cases hi : p.1 = i
    · subst hi
      simp [List.findIdx?_cons, h2]
    · have hb : (i == p.1) = false := by rw [beq_eq_false_iff_ne]; exact fun e => hi e.symm
      have hb' : (p.1 == i) = false := by rw [beq_eq_false_iff_ne]; exact hi
      rw [hb]
      simp only [List.findIdx?_cons, hb', Bool.false_eq_true, if_false]
      rw [findNow_int k kk i es m (j + 1) h3]
      cases hf : m.findIdx? (fun p => p.1 == i) with
      | none => simp
      | some q => simp [Nat.add_assoc, Nat.add_comm 1 q]

theorem getM_idx (m : List (Int × Value)) (i : Int) : getM m i = (m.findIdx? (fun p => p.1 == i)).bind fun q => (m[q]?).map (·.2) := by
  unfold getM
  induction m with
  | nil => rfl
  | cons p m ih =>
    by_cases hi : (p.1 == i) = true
    · simp [List.findIdx?_cons, hi]
    · have hi' : (p.1 == i) = false := by simpa using hi
      simp only [List.find?_cons, List.findIdx?_cons, hi', Bool.false_eq_true, if_false]
      rw [ih]
      cases hf : m.findIdx? (fun p => p.1 == i) <;> simp

/-- m[i], without ok -/
theorem run_lookup_int {P : Program} (w : World) (t kt e : TypeId) (k kk : IntKind) (b : Nat) (m : List (Int × Value)) (i : Int) (z : Value) (ht : P.underlying t = some (.map kt e)) (hk : P.underlying kt = some (.int kk)) (hz : ∀ w, (zeroValue e).run P w = .ok z w) (h : MapI w b k m) :
    (Instr.lookup t (.map (some b)) (.int k i) false).run P w = .ok ((getM m i).getD z) w := by
  obtain ⟨es, c, hb, hm⟩ := h
  have hobj : (getObj b).run P w = .ok (.map es c) w := by simp [getObj, Sem.run, hb]
  have hf := findNow_int k kk i es.toList m 0 hm
  have hfk : (Instr.findKey kt (.int k i) es.toList).run P w = .ok ((m.findIdx? (fun p => p.1 == i)).bind fun q => (m[q]?).map fun p => (0 + q, p.2)) w := by
    unfold Instr.findKey
    rw [Sem.run_bind, run_underlying hk w]
    simp only [Result.andThen_ok, hf, Sem.run_pure]
  have hck : (Instr.checkKey es.isEmpty 10000 kt (.int k i)).run P w = .ok () w := by
    unfold Instr.checkKey
    rw [Sem.run_bind, run_underlying hk w]
    simp only [Result.andThen_ok, Sem.run_pure]
  unfold Instr.lookup
  simp only [Sem.run_bind, run_underlying ht, Result.andThen_ok, hobj, Sem.run_pure, hck, hfk]
  rw [getM_idx]
  cases hq : m.findIdx? (fun p => p.1 == i) with
  | none => simp [hz]
  | some q =>
    rw [List.findIdx?_eq_some_iff_getElem] at hq
    obtain ⟨hl, _⟩ := hq
    simp [List.getElem?_eq_getElem hl]

theorem putM_map (k : IntKind) (es : Array MapEntry) (m : List (Int × Value)) (i : Int) (v : Value) (q : Nat) (hm : es.toList.map (fun e => (e.key, e.val)) = m.map (fun p => (Value.int k p.1, p.2))) (hnd : (m.map (·.1)).Nodup) (hq : m.findIdx? (fun p => p.1 == i) = some q) :
    (es.modify q fun e => { e with key := Value.int k i, val := v }).toList.map (fun e => (e.key, e.val)) = (putM m i v).map (fun p => (Value.int k p.1, p.2)) := by
  rw [List.findIdx?_eq_some_iff_getElem] at hq
  obtain ⟨hl, hp, _⟩ := hq
  have hany : m.any (fun p => p.1 == i) = true := List.any_eq_true.2 ⟨_, List.getElem_mem hl, hp⟩
  have hlen : es.size = m.length := by simpa using congrArg List.length hm
  unfold putM
  rw [if_pos hany]
  apply List.ext_getElem
  · simp [hlen]
  · intro j h1 h2
    have hj : j < m.length := by simpa using h2
    have hj2 : j < es.size := by omega
    have hmj := congrArg (fun l => l[j]?) hm
    simp only [List.getElem?_map, Array.getElem?_toList, Array.getElem?_eq_getElem hj2, List.getElem?_eq_getElem hj, Option.map_some, Option.some.injEq, Prod.mk.injEq] at hmj
    simp only [List.getElem_map, Array.getElem_toList, Array.getElem_modify]
    by_cases hjq : q = j
    · subst hjq
      rw [if_pos rfl, if_pos hp]
    · rw [if_neg hjq]
      have hne : ¬ (m[j].1 == i) = true := by
        intro he
        apply hjq
        have h3 : (m.map (·.1))[q]'(by simpa using hl) = (m.map (·.1))[j]'(by simpa using hj) := by
          simp only [List.getElem_map]
          rw [eq_of_beq hp, eq_of_beq he]
        have hpw := List.pairwise_iff_getElem.1 hnd
        rcases Nat.lt_trichotomy q j with hlt | heq | hgt
        · exact absurd h3 (hpw q j (by simpa using hl) (by simpa using hj) hlt)
        · exact heq
        · exact absurd h3.symm (hpw j q (by simpa using hj) (by simpa using hl) hgt)
      rw [if_neg hne]
      exact Prod.ext hmj.1 hmj.2

/-- m[i] = v -/
theorem run_mapUpdate_int {P : Program} (w : World) (t kt e : TypeId) (k kk : IntKind) (b : Nat) (m : List (Int × Value)) (i : Int) (v : Value) (ht : P.underlying t = some (.map kt e)) (hk : P.underlying kt = some (.int kk)) (h : MapI w b k m) (hnd : (m.map (·.1)).Nodup) :
    ∃ w', (Instr.mapUpdate t (.map (some b)) (.int k i) v).run P w = .ok () w' ∧ MapI w' b k (putM m i v) ∧ Ex (· = b) w w' := by
  obtain ⟨es, c, hb, hm⟩ := h
  have hlt := (Array.getElem?_eq_some_iff.1 hb).1
  have hobj : (getObj b).run P w = .ok (.map es c) w := by simp [getObj, Sem.run, hb]
  have hset : ∀ o, (setObj b o).run P w = .ok () { w with heap := w.heap.setIfInBounds b o } := fun o => by simp [setObj, Sem.run, hb]
  have hf := findNow_int k kk i es.toList m 0 hm
  have hfk : (Instr.findKey kt (.int k i) es.toList).run P w = .ok ((m.findIdx? (fun p => p.1 == i)).bind fun q => (m[q]?).map fun p => (0 + q, p.2)) w := by
    unfold Instr.findKey
    rw [Sem.run_bind, run_underlying hk w]
    simp only [Result.andThen_ok, hf, Sem.run_pure]
  have hck : (Instr.checkKey false 10000 kt (.int k i)).run P w = .ok () w := by
    unfold Instr.checkKey
    rw [Sem.run_bind, run_underlying hk w]
    simp only [Result.andThen_ok, Sem.run_pure]
  have hex : ∀ o, Ex (· = b) w { w with heap := w.heap.setIfInBounds b o } := fun o => ⟨rfl, rfl, rfl, by simp, fun j hj hne => by
    show (w.heap.setIfInBounds b o)[j]? = _
    rw [Array.getElem?_setIfInBounds_ne (fun e => hne e.symm)]⟩
  have hnew : ∀ o, ({ w with heap := w.heap.setIfInBounds b o } : World).heap[b]? = some o := fun o => by
    show (w.heap.setIfInBounds b o)[b]? = _
    rw [Array.getElem?_setIfInBounds_self_of_lt hlt]
  unfold Instr.mapUpdate
  simp only [Sem.run_bind, run_underlying ht, Result.andThen_ok, hobj, hck, hfk]
  cases hq : m.findIdx? (fun p => p.1 == i) with
  | none =>
    simp only [Option.bind_none]
    refine ⟨_, hset _, ⟨_, _, hnew _, ?_⟩, hex _⟩
    have hany : m.any (fun p => p.1 == i) = false := by
      rw [List.any_eq_false]; intro x hx
      rw [List.findIdx?_eq_none_iff] at hq
      rw [hq x hx]; simp
    unfold putM
    rw [hany]
    simp [hm]
  | some q =>
    have hq' := hq
    rw [List.findIdx?_eq_some_iff_getElem] at hq
    obtain ⟨hl, hp, _⟩ := hq
    have hlen : es.size = m.length := by simpa using congrArg List.length hm
    have hmq := congrArg (fun l => l[q]?) hm
    simp only [List.getElem?_map, Array.getElem?_toList, Array.getElem?_eq_getElem (show q < es.size by omega), List.getElem?_eq_getElem hl, Option.map_some, Option.some.injEq, Prod.mk.injEq] at hmq
    have hkey : ((es[q]?).map (·.key)).getD (.int k i) = .int k i := by
      rw [Array.getElem?_eq_getElem (show q < es.size by omega)]
      simp only [Option.map_some, Option.getD_some, hmq.1, eq_of_beq hp]
    simp only [Option.bind_some, List.getElem?_eq_getElem hl, Option.map_some, Nat.zero_add, Sem.run_bind, hkey]
    have hst : (Instr.keyThatStays (.int k i) (.int k i)).run P w = .ok (.int k i) w := by
      simp [Instr.keyThatStays, Instr.sameBits]
    simp only [hst, Result.andThen_ok]
    exact ⟨_, hset _, ⟨_, _, hnew _, putM_map k es m i v q hm hnd hq'⟩, hex _⟩

/-- len(m) -/
theorem run_len_map {P : Program} (w : World) (t : TypeId) (ty : TypeId) (kt e : TypeId) (k : IntKind) (b : Nat) (m : List (Int × Value)) (ht : P.underlying t = some (.map kt e)) (h : MapI w b k m) :
    (Builtin.len_ #[t] ty #[.map (some b)]).run P w = .ok (.int .i64 m.length) w := by
  obtain ⟨es, c, hb, hm⟩ := h
  have hlen : es.size = m.length := by simpa using congrArg List.length hm
  have hobj : (getObj b).run P w = .ok (.map es c) w := by simp [getObj, Sem.run, hb]
  simp [Builtin.len_, run_underlying ht, hobj, goInt, hlen]

theorem wpList_lookup_int {P : Program} {ops : Array Oper} {rest : List Oper} {o : Oper} {a : Act} {w : World} {Q : Exit → Act → World → Prop} (hgd : o.guard = none) (t : TypeId) (x y : Operand) (ho : o.op = .lookup t x y false)
    (kt e : TypeId) (k kk : IntKind) (b : Nat) (hx : a.eval x = .map (some b)) (i : Int) (hy : a.eval y = .int k i) (m : List (Int × Value)) (z : Value) (ht : P.underlying t = some (.map kt e)) (hk : P.underlying kt = some (.int kk)) (hz : ∀ w, (zeroValue e).run P w = .ok z w) (h : MapI w b k m)
    (hK : wpList P ops Q rest (a.put o.dst ((getM m i).getD z)) w) : wpList P ops Q (o :: rest) a w := by
  refine wpList_plain hgd fun K hK' => ?_
  unfold Oper.wp execOp
  simp only [ho, hx, hy, Sem.run_bind, run_lookup_int w t kt e k kk b m i z ht hk hz h, Result.andThen_ok, Sem.run_pure]
  exact hK' _ _ hK

theorem wpList_mapUpdate_int {P : Program} {ops : Array Oper} {rest : List Oper} {o : Oper} {a : Act} {w : World} {Q : Exit → Act → World → Prop} (hgd : o.guard = none) (t : TypeId) (x y z : Operand) (ho : o.op = .mapUpdate t x y z)
    (kt e : TypeId) (k kk : IntKind) (b : Nat) (hx : a.eval x = .map (some b)) (i : Int) (hy : a.eval y = .int k i) (v : Value) (hv : a.eval z = v) (m : List (Int × Value)) (ht : P.underlying t = some (.map kt e)) (hk : P.underlying kt = some (.int kk)) (h : MapI w b k m) (hnd : (m.map (·.1)).Nodup)
    (hK : ∀ w', MapI w' b k (putM m i v) → Ex (· = b) w w' → wpList P ops Q rest (a.put o.dst undef) w') : wpList P ops Q (o :: rest) a w := by
  refine wpList_plain hgd fun K hK' => ?_
  obtain ⟨w', hr, h1, h2⟩ := run_mapUpdate_int (P := P) w t kt e k kk b m i v ht hk h hnd
  unfold Oper.wp execOp
  simp only [ho, hx, hy, hv, Sem.run_bind, hr, Result.andThen_ok, Sem.run_pure]
  exact hK' _ _ (hK w' h1 h2)

theorem putM_nodup {m : List (Int × Value)} {i : Int} {v : Value} (h : (m.map (·.1)).Nodup) : ((putM m i v).map (·.1)).Nodup := by
  unfold putM
  split
  · have : (m.map fun p => if p.1 == i then (i, v) else p).map (·.1) = m.map (·.1) := by
      rw [List.map_map]
      apply List.map_congr_left
      intro p _
      by_cases hp : p.1 = i
      · simp [hp]
      · simp [hp]
    rw [this]; exact h
  · rename_i hany
    rw [List.map_append, List.nodup_append]
    refine ⟨h, by simp, ?_⟩
    intro a ha b hb hab
    simp at hb
    subst hb; subst hab
    apply hany
    obtain ⟨p, hp, rfl⟩ := List.mem_map.1 ha
    exact List.any_eq_true.2 ⟨p, hp, by simp⟩
end Go.Proofs.YtoglddndicmelaaGreatB
