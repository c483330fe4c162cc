/- Words: a slice that is read; worlds of which only some blocks have turned. -/
import Derived.WalkKit
import Derived.ProofKit
import Derived.Lib.Hide
import Derived.Outline
import Derived.Laws.Rows
import Derived.Laws.AppendOwn
import Derived.Below
import Derived.Deep.Draws
namespace Go.Proofs.YtoglddndicmelaaGreatB
open Go.RowKit

/-- Only the blocks of S, and new ones, have turned. -/
structure Ex (S : Nat → Prop) (w w' : World) : Prop where
  os : w'.os = w.os
  tape : w'.tape = w.tape
  output : w'.output = w.output
  size : w.heap.size ≤ w'.heap.size
  block : ∀ k, k < w.heap.size → ¬ S k → w'.heap[k]? = w.heap[k]?

abbrev Ex0 (w w' : World) : Prop := Ex (fun _ => False) w w'

theorem Ex.refl (S : Nat → Prop) (w : World) : Ex S w w := ⟨rfl, rfl, rfl, Nat.le_refl _, fun _ _ _ => rfl⟩
theorem Ex.trans {S T U : Nat → Prop} {a b c : World} (h : Ex S a b) (k : Ex T b c) (hS : ∀ i, i < a.heap.size → S i → U i) (hT : ∀ i, i < a.heap.size → T i → U i) : Ex U a c :=
  ⟨k.os.trans h.os, k.tape.trans h.tape, k.output.trans h.output, Nat.le_trans h.size k.size, fun i hi hu =>
    (k.block i (Nat.lt_of_lt_of_le hi h.size) (fun ht => hu (hT i hi ht))).trans (h.block i hi (fun hs => hu (hS i hi hs)))⟩
theorem Ex.trans0 {S : Nat → Prop} {a b c : World} (h : Ex S a b) (k : Ex0 b c) : Ex S a c := h.trans k (fun _ _ x => x) (fun _ _ x => x.elim)
theorem Ex.to {S T : Nat → Prop} {a b : World} (h : Ex S a b) (hS : ∀ i, i < a.heap.size → S i → T i) : Ex T a b := ⟨h.os, h.tape, h.output, h.size, fun i hi ht => h.block i hi (fun hs => ht (hS i hi hs))⟩
theorem Ex.below {S : Nat → Prop} {a b : World} {B : Nat} (h : Ex S a b) (hB : B ≤ a.heap.size) (hS : ∀ i, S i → B ≤ i) : Below B a b :=
  ⟨h.os, h.tape, h.output, h.size, fun k hk => h.block k (by omega) (fun hs => by have := hS k hs; omega)⟩
theorem Ex.ofBelow {a b : World} (h : Below a.heap.size a b) : Ex0 a b := ⟨h.os, h.tape, h.output, h.size, fun k hk _ => h.block k hk⟩
theorem Ex.alloc (w : World) (o : Obj) : Ex0 w (w.alloc o) := ⟨rfl, rfl, rfl, by simp, fun k hk _ => Below.heap_alloc w o k hk⟩
theorem Ex.drew (w : World) : Ex0 w w.drew := ⟨rfl, rfl, rfl, Nat.le_refl _, fun _ _ _ => rfl⟩
theorem Ex.alloc' {S : Nat → Prop} {w w' : World} (h : Ex S w w') (o : Obj) : Ex S w (w'.alloc o) := h.trans0 (Ex.alloc _ o)
theorem Ex.drew' {S : Nat → Prop} {w w' : World} (h : Ex S w w') : Ex S w w'.drew := h.trans0 (Ex.drew _)
theorem Ex.drewN' {S : Nat → Prop} {w w' : World} (h : Ex S w w') (n : Nat) : Ex S w (w'.drewN n) := h.trans0 ⟨rfl, rfl, rfl, Nat.le_refl _, fun _ _ _ => rfl⟩
theorem Ex.cell {S : Nat → Prop} {a b : World} (h : Ex S a b) {p : Addr} (hp : p.block < a.heap.size) (hS : ¬ S p.block) : b.cell? p = a.cell? p := World.cell?_of_block (w := a) (h.block _ hp hS)
theorem Ex.cellS {S : Nat → Prop} {a b : World} (h : Ex S a b) {p : Addr} {v : Value} (hv : a.cell? p = some v) (hS : ¬ S p.block) : b.cell? p = some v :=
  (h.cell (World.block_lt_of_cell? _ _ hv) hS).trans hv
theorem Ex.frozen {S : Nat → Prop} {a b : World} (h : Ex S a b) {p : Addr} (hp : p.block < a.heap.size) (hS : ¬ S p.block) : b.frozen? p = a.frozen? p := World.frozen?_of_block (w := a) (h.block _ hp hS)
theorem Ex.setCell (w : World) (p : Addr) (v : Value) : Ex (· = p.block) w (w.setCell p v) := ⟨rfl, rfl, rfl, by simp [World.setCell], fun k _ hk => Below.heap_setCell w p v k hk⟩

/-- a row of cells, from an address on -/
def RowAt (w : World) (a : Addr) (cs : List Value) : Prop := ∀ j u, cs[j]? = some u → w.cell? (a.add j) = some u
theorem RowAt.ex {S : Nat → Prop} {w w' : World} {a : Addr} {cs : List Value} (h : RowAt w a cs) (hx : Ex S w w') (hS : ¬ S a.block) : RowAt w' a cs := by
  intro j u hu
  have e : (a.add j).block = a.block := by unfold Addr.add; split <;> rfl
  exact hx.cellS (h j u hu) (by rw [e]; exact hS)
theorem addr_add_add (a : Addr) (ha : a.spot = none) (i j : Nat) : (a.add i).add j = a.add (i + j) := by
  obtain ⟨b, o, s⟩ := a
  simp only at ha; subst ha
  unfold Addr.add
  by_cases h1 : i = 0 <;> by_cases h2 : j = 0 <;> simp [h1, h2] <;> omega

/-- load of a whole value, whatever it is made of -/
theorem run_loadVar_at {P : Program} (w : World) (a : Addr) (ty : TypeId) (cs : List Value) (d : TypeDesc) (hg : RowAt w a cs)
    (hu : P.underlying ty = some d) (hd : (match d with | .struct _ | .array _ _ => true | _ => false) = true) (hi : (P.info? ty).map (·.size) = some cs.length) :
    (loadVar ty a).run P w = .ok (.agg cs.toArray) w := by
  have hl : (loadCells a cs.length).run P w = .ok cs.toArray w := run_loadCells_list (P := P) w a cs hg
  cases hq : P.info? ty with
  | none => simp [hq] at hi
  | some i =>
    have hs : i.size = cs.length := by simpa [hq] using hi
    have hagg : (isAgg ty).run P w = .ok true w := by
      unfold isAgg
      rw [Sem.run_bind, run_underlying hu w]
      cases d <;> simp_all
    simp [loadVar, Sem.run_bind, hagg, sizeOf, typeInfo, hq, hs, hl]

theorem wp_load_at {P : Program} {o : Oper} {a : Act} {w : World} {K : Act → World → Prop} {Q : Exit → Act → World → Prop} (ty : TypeId) (x : Operand) (ho : o.op = .load ty x)
    (ad : Addr) (hx : a.eval x = .pointer (some ad)) (cs : List Value) (d : TypeDesc) (hg : RowAt w ad cs)
    (hu : P.underlying ty = some d) (hd : (match d with | .struct _ | .array _ _ => true | _ => false) = true) (hi : (P.info? ty).map (·.size) = some cs.length)
    (h : K (a.put o.dst (.agg cs.toArray)) w) : o.wp P a w K Q := by
  unfold Oper.wp execOp
  simp only [ho, hx, Instr.loadAt, Instr.sureAddr, Sem.run_bind, Sem.run_pure, Result.andThen_ok, run_loadVar_at w ad ty cs d hg hu hd hi]
  exact h

theorem wpList_load_at {P : Program} {ops : Array Oper} {rest : List Oper} {o : Oper} {a : Act} {w : World} {Q : Exit → Act → World → Prop} (hgd : o.guard = none) (ty : TypeId) (x : Operand) (ho : o.op = .load ty x)
    (ad : Addr) (hx : a.eval x = .pointer (some ad)) (cs : List Value) (d : TypeDesc) (hg : RowAt w ad cs)
    (hu : P.underlying ty = some d) (hd : (match d with | .struct _ | .array _ _ => true | _ => false) = true) (hi : (P.info? ty).map (·.size) = some cs.length)
    (h : wpList P ops Q rest (a.put o.dst (.agg cs.toArray)) w) : wpList P ops Q (o :: rest) a w :=
  wpList_plain hgd fun _ hK => wp_load_at ty x ho ad hx cs d hg hu hd hi (hK _ _ h)


/-- a slice whose elements' cells are cs, sz cells each -/
structure Sl (w : World) (sz : Nat) (A : Option Addr) (n : Nat) (cs : List Value) : Prop where
  len : cs.length = n * sz
  small : n ≤ 9223372036854775807
  at_ : 0 < n → ∃ g off, A = some ⟨g, off, none⟩ ∧ RowAt w ⟨g, off, none⟩ cs

/-- the block of a slice -/
def Bl (A : Option Addr) (b : Nat) : Prop := A.map (·.block) = some b

theorem Sl.ex {S : Nat → Prop} {w w' : World} {sz : Nat} {A : Option Addr} {n : Nat} {cs : List Value} (h : Sl w sz A n cs) (hx : Ex S w w') (hS : ∀ b, Bl A b → ¬ S b) : Sl w' sz A n cs :=
  ⟨h.len, h.small, fun hn => by
    obtain ⟨g, off, rfl, hr⟩ := h.at_ hn
    exact ⟨g, off, rfl, hr.ex hx (hS g rfl)⟩⟩
theorem Sl.ex0 {w w' : World} {sz : Nat} {A : Option Addr} {n : Nat} {cs : List Value} (h : Sl w sz A n cs) (hx : Ex0 w w') : Sl w' sz A n cs := h.ex hx (fun _ _ => id)

theorem flat_at {α : Type} (enc : α → List Value) (sz : Nat) (hsz : ∀ x, (enc x).length = sz) (l : List α) : ∀ (i : Nat) (h : i < l.length) (j : Nat) (u : Value), (enc l[i])[j]? = some u → (l.flatMap enc)[i * sz + j]? = some u := by
  induction l with
  | nil => intro i h; simp at h
  | cons x l ih =>
    intro i h j u hu
    cases i with
    | zero =>
      have hj : j < (enc x).length := by
        have := (List.getElem?_eq_some_iff.1 hu).1
        simpa using this
      simp only [List.flatMap_cons, Nat.zero_mul, Nat.zero_add]
      rw [List.getElem?_append_left hj]
      simpa using hu
    | succ i =>
      simp only [List.flatMap_cons]
      rw [List.getElem?_append_right (by rw [hsz x, Nat.succ_mul]; omega)]
      have := ih i (by simpa using h) j u (by simpa using hu)
      rw [← this]
      congr 1
      rw [hsz x, Nat.succ_mul]; omega
theorem flat_len {α : Type} (enc : α → List Value) (sz : Nat) (hsz : ∀ x, (enc x).length = sz) (l : List α) : (l.flatMap enc).length = l.length * sz := by
  induction l with
  | nil => simp
  | cons x l ih => simp [ih, hsz, Nat.succ_mul]; omega

/-- an element's row -/
theorem Sl.row {α : Type} {w : World} {sz : Nat} {A : Option Addr} {n : Nat} {l : List α} {enc : α → List Value} (h : Sl w sz A n (l.flatMap enc)) (hsz : ∀ x, (enc x).length = sz) (hpos : 0 < sz) {i : Nat} (hi : i < n) :
    ∃ (g off : Nat) (hl : i < l.length), A = some ⟨g, off, none⟩ ∧ RowAt w ⟨g, off + i * sz, none⟩ (enc l[i]) := by
  obtain ⟨g, off, rfl, hr⟩ := h.at_ (by omega)
  have hl : l.length = n := by
    have := h.len; rw [flat_len enc sz hsz] at this
    exact Nat.eq_of_mul_eq_mul_right hpos this
  refine ⟨g, off, by omega, rfl, ?_⟩
  intro j u hu
  have := hr _ _ (flat_at enc sz hsz l i (by omega) j u hu)
  have e : ∀ (a b : Nat), (⟨g, a, none⟩ : Addr).add b = ⟨g, a + b, none⟩ := by
    intro a b; unfold Addr.add; split <;> simp_all
  rw [e] at this ⊢
  rw [← this]; congr 2; omega

theorem own_ex {S : Nat → Prop} {w w' : World} {b : Nat} {e : TypeId} {sz : Nat} {v : Value} {n : Nat} {cs : List Value} (h : w.ownsRow b e sz v n cs) (hx : Ex S w w') (hS : ∀ b, v.ownBlock = some b → ¬ S b) : w'.ownsRow b e sz v n cs := by
  refine ⟨h.1, ?_⟩
  rcases h.2 with hn | ⟨g, cap, cur, rfl, hb, hgg, rest⟩
  · exact .inl hn
  · refine .inr ⟨g, cap, cur, rfl, hb, ?_, rest⟩
    rw [hx.block g (Array.getElem?_eq_some_iff.1 hgg).1 (hS g rfl)]
    exact hgg
theorem own_base {w : World} {b c : Nat} {e : TypeId} {sz : Nat} {v : Value} {n : Nat} {cs : List Value} (h : w.ownsRow b e sz v n cs) (hc : ∀ k, v.ownBlock = some k → c ≤ k) : w.ownsRow c e sz v n cs := by
  refine ⟨h.1, ?_⟩
  rcases h.2 with hn | ⟨g, cap, cur, rfl, hb, hgg, rest⟩
  · exact .inl hn
  · exact .inr ⟨g, cap, cur, rfl, hc g rfl, hgg, rest⟩
theorem own_sl' {w : World} {b : Nat} {e : TypeId} {sz : Nat} {v : Value} {n : Nat} {cs : List Value} (h : w.ownsRow b e sz v n cs) :
    ∃ A cap, v = .slice A n cap ∧ Sl w sz A n cs ∧ v.ownBlock = A.map (·.block) ∧ (A = none → cap = 0) := by
  rcases h.2 with ⟨rfl, rfl⟩ | ⟨g, cap, cur, rfl, hb, hgg, hn, hc, hs, ht⟩
  · exact ⟨none, 0, rfl, ⟨h.1, by omega, fun h => by omega⟩, rfl, fun _ => rfl⟩
  · refine ⟨some ⟨g, 0, none⟩, cap, rfl, ⟨h.1, by unfold maxLen at hc; omega, fun _ => ⟨g, 0, rfl, ?_⟩⟩, rfl, fun h => by cases h⟩
    exact h.cells rfl
theorem own_sl {w : World} {b : Nat} {e : TypeId} {sz : Nat} {v : Value} {n : Nat} {cs : List Value} (h : w.ownsRow b e sz v n cs) :
    ∃ A cap, v = .slice A n cap ∧ Sl w sz A n cs ∧ v.ownBlock = A.map (·.block) := by
  obtain ⟨A, cap, h1, h2, h3, _⟩ := own_sl' h
  exact ⟨A, cap, h1, h2, h3⟩
theorem Ex.ofGrown {w w' : World} {row : Option Nat} (h : w.grownBy w' row) : Ex (fun b => row = some b) w w' := ⟨h.os, h.tape, h.output, h.size, fun k hk hr => h.block k hk (fun e => hr e.symm)⟩

end Go.Proofs.YtoglddndicmelaaGreatB
