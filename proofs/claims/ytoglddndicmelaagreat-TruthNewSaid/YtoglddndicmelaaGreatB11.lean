/- Sets of blocks that a thing stands on: new ones, apart ones. -/
import Derived.Test.YtoglddndicmelaaGreatB0
import Derived.Test.YtoglddndicmelaaGreatB6
import Derived.Test.YtoglddndicmelaaGreatB9
namespace Go.Proofs.YtoglddndicmelaaGreatB
open Go Go.RowKit

/-- what a thing stands on later: what it stood on, or new blocks -/
def Nw (w : World) (F F' : Nat → Prop) : Prop := ∀ b, F' b → F b ∨ w.heap.size ≤ b
/-- all of it is there -/
def In (w : World) (F : Nat → Prop) : Prop := ∀ b, F b → b < w.heap.size
/-- apart -/
def Dj (F G : Nat → Prop) : Prop := ∀ b, F b → ¬ G b
/-- from a block on -/
def Fr (n : Nat) (F : Nat → Prop) : Prop := ∀ b, F b → n ≤ b

theorem Nw.refl (w : World) (F : Nat → Prop) : Nw w F F := fun _ h => .inl h
theorem Nw.trans {w w' : World} {F G H : Nat → Prop} (h : Nw w F G) (k : Nw w' G H) (hs : w.heap.size ≤ w'.heap.size) : Nw w F H := fun b hb => by
  rcases k b hb with k | k
  · exact h b k
  · exact .inr (Nat.le_trans hs k)
theorem Nw.to {w : World} {F F' G : Nat → Prop} (h : Nw w F F') (hG : ∀ b, F b → G b) : Nw w G F' := fun b hb => (h b hb).imp (hG b) id
theorem Nw.from {w w' : World} {F F' : Nat → Prop} (h : Nw w' F F') (hs : w.heap.size ≤ w'.heap.size) : Nw w F F' := fun b hb => (h b hb).imp id (Nat.le_trans hs)
theorem Nw.or {w : World} {F F' G G' : Nat → Prop} (h : Nw w F F') (k : Nw w G G') : Nw w (fun b => F b ∨ G b) (fun b => F' b ∨ G' b) := fun b hb => by
  rcases hb with hb | hb
  · rcases h b hb with h | h
    · exact .inl (.inl h)
    · exact .inr h
  · rcases k b hb with h | h
    · exact .inl (.inr h)
    · exact .inr h
theorem In.mono {w w' : World} {F : Nat → Prop} (h : In w F) (hs : w.heap.size ≤ w'.heap.size) : In w' F := fun b hb => Nat.lt_of_lt_of_le (h b hb) hs
theorem Dj.symm {F G : Nat → Prop} (h : Dj F G) : Dj G F := fun b hg hf => h b hf hg
theorem Dj.step {w : World} {F F' G : Nat → Prop} (h : Dj F G) (hn : Nw w F F') (hl : In w G) : Dj F' G := fun b hf hg => by
  rcases hn b hf with k | k
  · exact h b k hg
  · have := hl b hg; omega
theorem Dj.step' {w : World} {F G G' : Nat → Prop} (h : Dj F G) (hn : Nw w G G') (hl : In w F) : Dj F G' := (h.symm.step hn hl).symm
theorem Fr.step {w : World} {n : Nat} {F F' : Nat → Prop} (h : Fr n F) (hn : Nw w F F') (hs : n ≤ w.heap.size) : Fr n F' := fun b hb => by
  rcases hn b hb with k | k
  · exact h b k
  · exact Nat.le_trans hs k
theorem Fr.dj {n : Nat} {w : World} {F G : Nat → Prop} (h : Fr n F) (hl : In w G) (hw : w.heap.size ≤ n) : Dj F G := fun b hf hg => by have := h b hf; have := hl b hg; omega
theorem Ex.fr {F : Nat → Prop} {w w' : World} {n : Nat} (h : Ex F w w') (hF : Fr n F) (hn : n ≤ w.heap.size) : Below n w w' := h.below hn hF
/-- one more step: of the first set, then of another one that is of it or new -/
theorem Ex.then {F G : Nat → Prop} {w w' w'' : World} (h : Ex F w w') (k : Ex G w' w'') (hn : Nw w F G) : Ex F w w'' :=
  h.trans k (fun _ _ x => x) (fun i hi g => (hn i g).elim id (fun x => by omega))
theorem Ex.wide {F G : Nat → Prop} {w w' : World} (h : Ex F w w') (hG : ∀ b, F b → G b) : Ex G w w' := h.to (fun i _ => hG i)
/-- a thing that is new -/
theorem Nw.new {w : World} {F F' : Nat → Prop} (h : Fr w.heap.size F') : Nw w F F' := fun b hb => .inr (h b hb)
theorem own_in {w : World} {b : Nat} {e : TypeId} {sz : Nat} {v : Value} {n : Nat} {cs : List Value} (h : w.ownsRow b e sz v n cs) : In w (fun k => v.ownBlock = some k) := fun k hk => (h.lt k hk).2
theorem others_ex0 {W W' : World} (h : Ex0 W W') : KeepsOthers W W' := ⟨h.size, fun k _ hk _ => (h.block k (Array.getElem?_eq_some_iff.1 hk).1 id).trans hk⟩
theorem others_own {W W' : World} {b : Nat} {e : TypeId} {sz : Nat} {v : Value} {n : Nat} {cs : List Value} (ho : W.ownsRow b e sz v n cs) (hg : W.grownBy W' v.ownBlock) : KeepsOthers W W' :=
  KeepsOthers.of_grownBy hg fun j o hj hk => by
    rcases ho.2 with ⟨rfl, _⟩ | ⟨g, cap, cur, rfl, _, hgg, _⟩
    · cases hj
    · injection hj with hj
      subst hj
      have := hgg.symm.trans hk
      injection this with this
      subst this; rfl
/-- a slice literal is owned -/
theorem own_lit {w : World} {b B : Nat} {e : TypeId} {sz n : Nat} {cs : Array Value} (h : w.heap[b]? = some (.cells cs e (0, 0))) (hn : cs.size = n * sz) (hB : B ≤ b) (hm : n ≤ maxLen) : w.ownsRow B e sz (.slice (some ⟨b, 0, none⟩) n n) n cs.toList :=
  ⟨by simp [hn], .inr ⟨b, n, cs, rfl, hB, h, Nat.le_refl _, hm, hn, by rw [List.take_of_length_le (by simp [hn])]⟩⟩
/-- an element of an array of structs -/
theorem run_index_agg {P : Program} {t e n sz : Nat} (hu : P.underlying t = some (.array n e)) (hs : (P.info? e).map (·.size) = some sz) (ha : ∀ w, (isAgg e).run P w = .ok true w) (cs : Array Value) (i : Nat) (hi : i < n) (w : World) :
    (Instr.index t (.agg cs) (.int .i64 i)).run P w = .ok (.agg (cs.extract (i * sz) (i * sz + sz))) w := by
  simp [Instr.index, asIntOf, run_underlying hu, run_sizeOf hs, part, ha]
  intro h; omega
theorem flat_lay {α : Type} (enc : α → List Value) (sz : Nat) (hsz : ∀ x, (enc x).length = sz) (l : List α) (i : Nat) (hi : i < l.length) (x : α) : lay (l.flatMap enc) (i * sz) (enc x) = (l.set i x).flatMap enc := by
  have e : i * sz + sz = (i + 1) * sz := by rw [Nat.add_mul, Nat.one_mul]
  unfold lay
  rw [hsz, e, flat_take enc sz hsz, flat_drop enc sz hsz, List.set_eq_take_append_cons_drop, if_pos hi]
  simp
theorem flat_part {α : Type} (enc : α → List Value) (sz : Nat) (hsz : ∀ x, (enc x).length = sz) (l : List α) (i : Nat) (hi : i < l.length) : (l.flatMap enc).toArray.extract (i * sz) (i * sz + sz) = (enc l[i]).toArray := by
  have e : i * sz + sz = (i + 1) * sz := by rw [Nat.add_mul, Nat.one_mul]
  apply Array.ext'
  simp only [Array.toList_extract, List.extract_eq_take_drop]
  rw [flat_drop enc sz hsz, List.drop_eq_getElem_cons hi, List.flatMap_cons, show i * sz + sz - i * sz = sz by omega, List.take_append_of_le_length (by rw [hsz]; exact Nat.le_refl _)]
  rw [List.take_of_length_le (by rw [hsz]; exact Nat.le_refl _)]
end Go.Proofs.YtoglddndicmelaaGreatB
