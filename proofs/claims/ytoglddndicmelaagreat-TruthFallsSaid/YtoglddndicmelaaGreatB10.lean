/- Slice literals, of none and of structs. Sets of blocks that a thing stands on: new ones, apart ones. Words: a region that draws its order and ends in a forced row: two that may come up. -/
import Derived.Great.BuildSlice
import Derived.Test.YtoglddndicmelaaGreatB9
import Derived.Test.YtoglddndicmelaaGreatB0
import Derived.Test.YtoglddndicmelaaGreatB6
import Derived.Test.YtoglddndicmelaaGreatB2
namespace Go.Proofs.YtoglddndicmelaaGreatB
open Go Go.RowKit

theorem run_buildSlice_none {P : Program} (w : World) (t e : TypeId) (ie : TypeInfo) (z : Value)
    (hu : P.underlying t = some (.slice e)) (hie : P.info? e = some ie) (_ : ie.zero = some z) :
    (Instr.buildSlice t 0 #[]).run P w = .ok (.slice (some ⟨w.heap.size, 0, none⟩) 0 0) (w.alloc (.cells #[] e)) := by
  simp [Instr.buildSlice, run_underlying hu, sizeOf, typeInfo, hie, newRow, Instr.fill]
  rw [show Array.range 0 = #[] from rfl, Array.map_empty]
section
variable {P : Program} {o : Oper} {a : Act} {w : World} {K : Act → World → Prop} {Q : Exit → Act → World → Prop}
theorem wp_buildSlice_none (t e : TypeId) (ho : o.op = .buildSlice t 0 #[]) (ie : TypeInfo) (z : Value)
    (hu : P.underlying t = some (.slice e)) (hie : P.info? e = some ie) (hz : ie.zero = some z)
    (h : K (a.put o.dst (.slice (some ⟨w.heap.size, 0, none⟩) 0 0)) (w.alloc (.cells #[] e))) : o.wp P a w K Q := by
  unfold Oper.wp execOp
  have := run_buildSlice_none w t e ie z hu hie hz
  simp only [ho, Sem.run_bind, List.map_toArray, List.map_nil, this, Result.andThen_ok]
  exact h
theorem wpList_buildSlice_none {ops : Array Oper} {rest : List Oper} (hg : o.guard = none) (t e : TypeId) (ho : o.op = .buildSlice t 0 #[]) (ie : TypeInfo) (z : Value)
    (hu : P.underlying t = some (.slice e)) (hie : P.info? e = some ie) (hz : ie.zero = some z)
    (h : wpList P ops Q rest (a.put o.dst (.slice (some ⟨w.heap.size, 0, none⟩) 0 0)) (w.alloc (.cells #[] e))) : wpList P ops Q (o :: rest) a w :=
  wpList_plain hg fun _ hK => wp_buildSlice_none t e ho ie z hu hie hz (hK _ _ h)

theorem fill_all {s : Nat} (hs : 0 < s) (vs : List Value) (cells : Array Value) (hv : ∀ v ∈ vs, v.cells.size = s) (hl : vs.length * s = cells.size) :
    Instr.fill (fun i => some (i * s, s)) cells ((vs.zipIdx 0).map fun x => (x.2, x.1)) = some (vs.flatMap fun v => v.cells.toList).toArray := by
  obtain ⟨r, h1, h2, h3⟩ := Go.Great.fill_dense hs vs 0 cells hv (by rw [Nat.zero_add]; omega)
  rw [h1]
  congr 1
  have hlen : ∀ (vs : List Value), (∀ v ∈ vs, v.cells.size = s) → (vs.flatMap fun v => v.cells.toList).length = vs.length * s := by
    intro vs
    induction vs with
    | nil => simp
    | cons v vs ih =>
      intro h
      have h0 := h v List.mem_cons_self
      rw [List.flatMap_cons, List.length_append, ih (fun u hu => h u (List.mem_cons_of_mem _ hu)), List.length_cons, Nat.add_mul, Nat.one_mul]
      simp [h0]; omega
  have hget : ∀ (vs : List Value) (k : Nat), (∀ v ∈ vs, v.cells.size = s) → k < vs.length * s → (vs.flatMap fun v => v.cells.toList)[k]? = (vs[k / s]?).bind (fun v => v.cells[k % s]?) := by
    intro vs
    induction vs with
    | nil => intro k _ hk; simp at hk
    | cons v vs ih =>
      intro k h hk
      have h0 := h v List.mem_cons_self
      rw [List.flatMap_cons]
      by_cases hks : k < s
      · rw [List.getElem?_append_left (by simp [h0, hks]), Nat.div_eq_of_lt hks, Nat.mod_eq_of_lt hks]
        simp
      · have hk2 : k - s < vs.length * s := by rw [List.length_cons, Nat.add_mul, Nat.one_mul] at hk; omega
        rw [List.getElem?_append_right (by simp [h0]; omega)]
        have h1 : k - v.cells.toList.length = k - s := by simp [h0]
        rw [h1, ih (k - s) (fun u hu => h u (List.mem_cons_of_mem _ hu)) hk2]
        obtain ⟨m, rfl⟩ : ∃ m, k = m + s := ⟨k - s, by omega⟩
        rw [Nat.add_sub_cancel, Nat.add_div_right _ hs, Nat.add_mod_right, List.getElem?_cons_succ]
  apply Array.ext'
  apply List.ext_getElem?
  intro k
  rw [Array.getElem?_toList, h3 k]
  by_cases hk : k < vs.length * s
  · rw [if_pos ⟨by omega, by rw [Nat.zero_add]; exact hk⟩, hget vs k hv hk]
    simp
  · rw [if_neg (by rw [Nat.zero_add]; omega), Array.getElem?_eq_none (by omega), List.getElem?_eq_none (by rw [hlen vs hv]; omega)]

theorem wp_buildSlice_all (t e : TypeId) (len : Nat) (parts : List (Nat × Operand)) (ho : o.op = .buildSlice t len parts.toArray) (vs : List Value)
    (ie : TypeInfo) (z : Value) (s : Nat) (hu : P.underlying t = some (.slice e)) (hie : P.info? e = some ie) (hz : ie.zero = some z) (hsz : ie.size = s) (hsmall : len * s ≤ 2 ^ 24) (hs : 0 < s) (hlen : len = vs.length) (hl0 : 0 < len)
    (hp : (parts.map fun (i, x) => (i, a.eval x)) = (vs.zipIdx 0).map fun x => (x.2, x.1)) (hv : ∀ v ∈ vs, v.cells.size = s)
    (h : K (a.put o.dst (.slice (some ⟨w.heap.size, 0, none⟩) len len)) (w.alloc (.cells (vs.flatMap fun v => v.cells.toList).toArray e))) : o.wp P a w K Q := by
  subst hsz
  have hne : ¬ len * ie.size = 0 := by
    intro e0
    rcases Nat.mul_eq_zero.1 e0 with h | h <;> omega
  refine wp_buildSlice t e len parts.toArray ho _ ie z hu hie hz (by omega) hne ?_ h
  simp only [List.map_toArray]
  rw [hp]
  refine fill_all hs vs _ hv ?_
  simp [hlen]
theorem wpList_buildSlice_all {ops : Array Oper} {rest : List Oper} (hg : o.guard = none) (t e : TypeId) (len : Nat) (parts : List (Nat × Operand)) (ho : o.op = .buildSlice t len parts.toArray) (vs : List Value)
    (ie : TypeInfo) (z : Value) (s : Nat) (hu : P.underlying t = some (.slice e)) (hie : P.info? e = some ie) (hz : ie.zero = some z) (hsz : ie.size = s) (hsmall : len * s ≤ 2 ^ 24) (hs : 0 < s) (hlen : len = vs.length) (hl0 : 0 < len)
    (hp : (parts.map fun (i, x) => (i, a.eval x)) = (vs.zipIdx 0).map fun x => (x.2, x.1)) (hv : ∀ v ∈ vs, v.cells.size = s)
    (h : wpList P ops Q rest (a.put o.dst (.slice (some ⟨w.heap.size, 0, none⟩) len len)) (w.alloc (.cells (vs.flatMap fun v => v.cells.toList).toArray e))) : wpList P ops Q (o :: rest) a w :=
  wpList_plain hg fun _ hK => wp_buildSlice_all t e len parts ho vs ie z s hu hie hz hsz hsmall hs hlen hl0 hp hv (hK _ _ h)
end
theorem wpList_load_at_gd {P : Program} {ops : Array Oper} {rest : List Oper} {o : Oper} {a : Act} {w : World} {Q : Exit → Act → World → Prop} (hw : Region.wanted o (yielded ops a.tmps) = true) (ty : TypeId) (x : Operand) (ho : o.op = .load ty x)
    (ad : Addr) (hx : a.eval x = .pointer (some ad)) (cs : List Value) (d : TypeDesc) (hg : RowAt w ad cs)
    (hu : P.underlying ty = some d) (hd : (match d with | .struct _ | .array _ _ => true | _ => false) = true) (hi : (P.info? ty).map (·.size) = some cs.length)
    (h : wpList P ops Q rest (a.put o.dst (.agg cs.toArray)) w) : wpList P ops Q (o :: rest) a w :=
  wpList_step fun K hK => by rw [if_pos hw]; exact wp_load_at ty x ho ad hx cs d hg hu hd hi (hK _ _ h)
theorem own_ne {v v' : Value} {b c n : Nat} (h : v'.ownBlock = v.ownBlock ∨ v'.ownBlock = some n) (hv : v.ownBlock = some c) (hc : c ≠ b) (hb : b < n) : v'.ownBlock ≠ some b := by
  intro h'
  rcases h with h | h
  · rw [h, hv] at h'; injection h' with h'; exact hc h'
  · rw [h] at h'; injection h' with h'; omega
end Go.Proofs.YtoglddndicmelaaGreatB

namespace Go.Proofs.YtoglddndicmelaaGreatB
open Go Go.RowKit

/-- what a thing stands on later: what it stood on, or new blocks -/
def Nw (w : World) (F F' : Nat → Prop) : Prop := ∀ b, F' b → F b ∨ w.heap.size ≤ b
/-- all of it is there -/
def In (w : World) (F : Nat → Prop) : Prop := ∀ b, F b → b < w.heap.size
/-- apart -/
def Dj (F G : Nat → Prop) : Prop := ∀ b, F b → ¬ G b
/-- from a block on -/
def Fr (n : Nat) (F : Nat → Prop) : Prop := ∀ b, F b → n ≤ b

theorem Nw.refl (w : World) (F : Nat → Prop) : Nw w F F := fun _ h => .inl h
theorem Nw.trans {w w' : World} {F G H : Nat → Prop} (h : Nw w F G) (k : Nw w' G H) (hs : w.heap.size ≤ w'.heap.size) : Nw w F H := fun b hb => by
  rcases k b hb with k | k
  · exact h b k
  · exact .inr (Nat.le_trans hs k)
theorem Nw.to {w : World} {F F' G : Nat → Prop} (h : Nw w F F') (hG : ∀ b, F b → G b) : Nw w G F' := fun b hb => (h b hb).imp (hG b) id
theorem Nw.from {w w' : World} {F F' : Nat → Prop} (h : Nw w' F F') (hs : w.heap.size ≤ w'.heap.size) : Nw w F F' := fun b hb => (h b hb).imp id (Nat.le_trans hs)
theorem Nw.or {w : World} {F F' G G' : Nat → Prop} (h : Nw w F F') (k : Nw w G G') : Nw w (fun b => F b ∨ G b) (fun b => F' b ∨ G' b) := fun b hb => by
  rcases hb with hb | hb
  · rcases h b hb with h | h
    · exact .inl (.inl h)
    · exact .inr h
  · rcases k b hb with h | h
    · exact .inl (.inr h)
    · exact .inr h
theorem In.mono {w w' : World} {F : Nat → Prop} (h : In w F) (hs : w.heap.size ≤ w'.heap.size) : In w' F := fun b hb => Nat.lt_of_lt_of_le (h b hb) hs
theorem Dj.symm {F G : Nat → Prop} (h : Dj F G) : Dj G F := fun b hg hf => h b hf hg
theorem Dj.step {w : World} {F F' G : Nat → Prop} (h : Dj F G) (hn : Nw w F F') (hl : In w G) : Dj F' G := fun b hf hg => by
  rcases hn b hf with k | k
  · exact h b k hg
  · have := hl b hg; omega
theorem Dj.step' {w : World} {F G G' : Nat → Prop} (h : Dj F G) (hn : Nw w G G') (hl : In w F) : Dj F G' := (h.symm.step hn hl).symm
theorem Fr.step {w : World} {n : Nat} {F F' : Nat → Prop} (h : Fr n F) (hn : Nw w F F') (hs : n ≤ w.heap.size) : Fr n F' := fun b hb => by
  rcases hn b hb with k | k
  · exact h b k
  · exact Nat.le_trans hs k
theorem Fr.dj {n : Nat} {w : World} {F G : Nat → Prop} (h : Fr n F) (hl : In w G) (hw : w.heap.size ≤ n) : Dj F G := fun b hf hg => by have := h b hf; have := hl b hg; omega
theorem Ex.fr {F : Nat → Prop} {w w' : World} {n : Nat} (h : Ex F w w') (hF : Fr n F) (hn : n ≤ w.heap.size) : Below n w w' := h.below hn hF
/-- one more step: of the first set, then of another one that is of it or new -/
theorem Ex.then {F G : Nat → Prop} {w w' w'' : World} (h : Ex F w w') (k : Ex G w' w'') (hn : Nw w F G) : Ex F w w'' :=
  h.trans k (fun _ _ x => x) (fun i hi g => (hn i g).elim id (fun x => by omega))
theorem Ex.wide {F G : Nat → Prop} {w w' : World} (h : Ex F w w') (hG : ∀ b, F b → G b) : Ex G w w' := h.to (fun i _ => hG i)
/-- a thing that is new -/
theorem Nw.new {w : World} {F F' : Nat → Prop} (h : Fr w.heap.size F') : Nw w F F' := fun b hb => .inr (h b hb)
theorem own_in {w : World} {b : Nat} {e : TypeId} {sz : Nat} {v : Value} {n : Nat} {cs : List Value} (h : w.ownsRow b e sz v n cs) : In w (fun k => v.ownBlock = some k) := fun k hk => (h.lt k hk).2
theorem others_ex0 {W W' : World} (h : Ex0 W W') : KeepsOthers W W' := ⟨h.size, fun k _ hk _ => (h.block k (Array.getElem?_eq_some_iff.1 hk).1 id).trans hk⟩
theorem others_own {W W' : World} {b : Nat} {e : TypeId} {sz : Nat} {v : Value} {n : Nat} {cs : List Value} (ho : W.ownsRow b e sz v n cs) (hg : W.grownBy W' v.ownBlock) : KeepsOthers W W' :=
  KeepsOthers.of_grownBy hg fun j o hj hk => by
    rcases ho.2 with ⟨rfl, _⟩ | ⟨g, cap, cur, rfl, _, hgg, _⟩
    · cases hj
    · injection hj with hj
      subst hj
      have := hgg.symm.trans hk
      injection this with this
      subst this; rfl
/-- a slice literal is owned -/
theorem own_lit {w : World} {b B : Nat} {e : TypeId} {sz n : Nat} {cs : Array Value} (h : w.heap[b]? = some (.cells cs e (0, 0))) (hn : cs.size = n * sz) (hB : B ≤ b) (hm : n ≤ maxLen) : w.ownsRow B e sz (.slice (some ⟨b, 0, none⟩) n n) n cs.toList :=
  ⟨by simp [hn], .inr ⟨b, n, cs, rfl, hB, h, Nat.le_refl _, hm, hn, by rw [List.take_of_length_le (by simp [hn])]⟩⟩
/-- an element of an array of structs -/
theorem run_index_agg {P : Program} {t e n sz : Nat} (hu : P.underlying t = some (.array n e)) (hs : (P.info? e).map (·.size) = some sz) (ha : ∀ w, (isAgg e).run P w = .ok true w) (cs : Array Value) (i : Nat) (hi : i < n) (w : World) :
    (Instr.index t (.agg cs) (.int .i64 i)).run P w = .ok (.agg (cs.extract (i * sz) (i * sz + sz))) w := by
  simp [Instr.index, asIntOf, run_underlying hu, run_sizeOf hs, part, ha]
  intro h; omega
theorem flat_lay {α : Type} (enc : α → List Value) (sz : Nat) (hsz : ∀ x, (enc x).length = sz) (l : List α) (i : Nat) (hi : i < l.length) (x : α) : lay (l.flatMap enc) (i * sz) (enc x) = (l.set i x).flatMap enc := by
  have e : i * sz + sz = (i + 1) * sz := by rw [Nat.add_mul, Nat.one_mul]
  unfold lay
  rw [hsz, e, flat_take enc sz hsz, flat_drop enc sz hsz, List.set_eq_take_append_cons_drop, if_pos hi]
  simp
theorem flat_part {α : Type} (enc : α → List Value) (sz : Nat) (hsz : ∀ x, (enc x).length = sz) (l : List α) (i : Nat) (hi : i < l.length) : (l.flatMap enc).toArray.extract (i * sz) (i * sz + sz) = (enc l[i]).toArray := by
  have e : i * sz + sz = (i + 1) * sz := by rw [Nat.add_mul, Nat.one_mul]
  apply Array.ext'
  simp only [Array.toList_extract, List.extract_eq_take_drop]
  rw [flat_drop enc sz hsz, List.drop_eq_getElem_cons hi, List.flatMap_cons, show i * sz + sz - i * sz = sz by omega, List.take_append_of_le_length (by rw [hsz]; exact Nat.le_refl _)]
  rw [List.take_of_length_le (by rw [hsz]; exact Nat.le_refl _)]
end Go.Proofs.YtoglddndicmelaaGreatB

namespace Go.Proofs.YtoglddndicmelaaGreatB
open Go
section
variable {P : Program} {Q : Exit → Act → World → Prop} {md : Region.Mode} {S : World → Prop} {n : Nat} {l : List Oper}
theorem wpHead_two {l0 : List Oper} (i j : Nat) {oi oj : Oper} {fuel : Nat} {listed : Array Bool} {a : Act} {w : World} (hi : l0[i]? = some oi) (hj : l0[j]? = some oj) (hr : Region.ready md l0.toArray listed = [i, j])
    (hwi : Region.wanted oi (yielded l0.toArray a.tmps) = true) (hwj : Region.wanted oj (yielded l0.toArray a.tmps) = true)
    (h1 : ∀ K : Act → World → Prop, (∀ a' w', S w' → wpHead P md l0.toArray Q S n l fuel (listed.setIfInBounds i true) a' w' → K a' w') → Oper.wp P oi a w K Q)
    (h2 : ∀ K : Act → World → Prop, (∀ a' w', S w' → wpHead P md l0.toArray Q S n l fuel (listed.setIfInBounds j true) a' w' → K a' w') → Oper.wp P oj a w K Q) :
    wpHead P md l0.toArray Q S n l (fuel + 1) listed a w := by
  refine ⟨by rw [hr]; simp, fun k hk => ?_⟩
  rw [hr] at hk
  have hk' : k = i ∨ k = j := by simpa using hk
  rcases hk' with rfl | rfl
  · unfold wpOp
    have hi' : l0.toArray[k]? = some oi := by simpa using hi
    simp only [hi', hwi, if_true]
    exact .inl (h1 _ (fun a' w' hs hh => ⟨hs, hh⟩))
  · unfold wpOp
    have hj' : l0.toArray[k]? = some oj := by simpa using hj
    simp only [hj', hwj, if_true]
    exact .inl (h2 _ (fun a' w' hs hh => ⟨hs, hh⟩))
end
end Go.Proofs.YtoglddndicmelaaGreatB
