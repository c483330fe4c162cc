/- Rows of cells of small structs: a part of them, one of them changed. -/
import Derived.Laws.OwnMore
import Derived.Test.YtoglddndicmelaaGreatB5
namespace Go.Proofs.YtoglddndicmelaaGreatB
open Go.RowKit

theorem flat_take {α : Type} (enc : α → List Value) (sz : Nat) (hsz : ∀ x, (enc x).length = sz) (l : List α) : ∀ i, (l.flatMap enc).take (i * sz) = (l.take i).flatMap enc := by
  induction l with
  | nil => intro i; simp
  | cons x l ih =>
    intro i
    cases i with
    | zero => simp
    | succ i => simp only [List.flatMap_cons, List.take_succ_cons]; rw [List.take_append, hsz, List.take_of_length_le (by rw [hsz, Nat.succ_mul]; omega), Nat.succ_mul, Nat.add_sub_cancel, ih]
theorem flat_drop {α : Type} (enc : α → List Value) (sz : Nat) (hsz : ∀ x, (enc x).length = sz) (l : List α) : ∀ i, (l.flatMap enc).drop (i * sz) = (l.drop i).flatMap enc := by
  induction l with
  | nil => intro i; simp
  | cons x l ih =>
    intro i
    cases i with
    | zero => simp
    | succ i => simp only [List.flatMap_cons, List.drop_succ_cons]; rw [List.drop_append, hsz, List.drop_eq_nil_of_le (by rw [hsz, Nat.succ_mul]; omega), Nat.succ_mul, Nat.add_sub_cancel, ih, List.nil_append]
theorem flat_set {α : Type} (enc : α → List Value) (sz : Nat) (hsz : ∀ x, (enc x).length = sz) (j : Nat) (u : Value) (hj : j < sz) : ∀ (l : List α) (i : Nat) (x' : α) (h : i < l.length), enc x' = (enc l[i]).set j u → (l.flatMap enc).set (i * sz + j) u = (l.set i x').flatMap enc
  | [], i, _, h, _ => by simp at h
  | x :: l, 0, x', _, he => by
    simp only [Nat.zero_mul, Nat.zero_add, List.flatMap_cons, List.set_cons_zero]
    rw [List.set_append_left _ _ (by rw [hsz]; exact hj)]
    simp only [List.getElem_cons_zero] at he
    rw [he]
  | x :: l, i + 1, x', h, he => by
    simp only [List.flatMap_cons, List.set_cons_succ]
    rw [List.set_append_right _ _ (by rw [hsz, Nat.succ_mul]; omega), hsz, show (i + 1) * sz + j - sz = i * sz + j by rw [Nat.succ_mul]; omega]
    rw [flat_set enc sz hsz j u hj l i x' (by simpa using h) (by simpa using he)]
theorem Sl.one {α : Type} {w : World} {A : Option Addr} {n : Nat} {f : α → Value} {l : List α} (h : Sl w 1 A n (l.map f)) {i : Nat} (hi : i < l.length) : ∃ g off, A = some ⟨g, off, none⟩ ∧ g < w.heap.size ∧ w.cell? ⟨g, off + i, none⟩ = some (f l[i]) := by
  have hn : l.length = n := by have := h.len; simp at this; omega
  obtain ⟨g, off, rfl, hr⟩ := h.at_ (by omega)
  refine ⟨g, off, rfl, h.lt (by omega) (by decide) g rfl, ?_⟩
  have := hr i (f l[i]) (by rw [List.getElem?_map, List.getElem?_eq_getElem hi]; rfl)
  simpa [Addr.add_lit] using this

theorem own_cap {w : World} {b : Nat} {e : TypeId} {sz : Nat} {A : Option Addr} {n c : Nat} {xs : List Value} (h : w.ownsRow b e sz (.slice A n c) n xs) : n ≤ c := by
  rcases h.2 with ⟨_, h0⟩ | ⟨g, cap, cur, hv, _, _, hn, _, _, _⟩
  · omega
  · simp only [Value.slice.injEq] at hv
    omega
end Go.Proofs.YtoglddndicmelaaGreatB
