/- How a slice of small structs reads: a whole row of cells. -/
import Derived.OpenShut
import Derived.ShutString
import Derived.ChangeOld
import Derived.Below
import Derived.Deep.Slices
import Derived.Lib.SmallJoins
import Derived.Carry
import Derived.Test.YtoglddndicmelaaGreatB3
namespace Go.Proofs.YtoglddndicmelaaGreatB
open Go.ChangeShapes Go.WideShapes Go.ChangeAt Go.RowKit Go.Deep Go.Joins

theorem cells_row {w : World} {base n : Nat} {a : Addr} {cs : List Value} (h : w.cells? base a n = some cs) (hn : 0 < n) : a.spot = none ∧ cs.length = n ∧ RowAt w a cs := by
  obtain ⟨h1, h2, h3⟩ := World.cells?_some h
  have hrow : RowAt w a cs := fun j u hj => by
    have hjl : j < cs.length := by
      rcases Nat.lt_or_ge j cs.length with hh | hh
      · exact hh
      · rw [List.getElem?_eq_none hh] at hj; cases hj
    rw [h3 j (by omega)]; exact hj
  refine ⟨?_, h2, hrow⟩
  have h0 := h3 0 hn
  rw [List.getElem?_eq_getElem (by omega)] at h0
  have h0' : w.cell? a = some cs[0] := by simpa [Addr.add] using h0
  obtain ⟨b, o, s⟩ := a
  cases s with
  | none => rfl
  | some s =>
    exfalso
    unfold World.cell? at h0'
    split at h0'
    · simp at h0'
    · cases h0'

theorem rowAt_flat {α : Type} (enc' : α → List Value) (sz : Nat) (hsz : ∀ x, (enc' x).length = sz) (w : World) : ∀ (l : List α) (a : Addr), a.spot = none →
    (∀ i (h : i < l.length), RowAt w (a.add (i * sz)) (enc' l[i])) → RowAt w a (l.flatMap enc')
  | [], _, _, _ => by intro j u hj; simp at hj
  | x :: l, a, ha, h => by
    intro j u hj
    rw [List.flatMap_cons] at hj
    rcases Nat.lt_or_ge j sz with hlt | hge
    · rw [List.getElem?_append_left (by rw [hsz]; exact hlt)] at hj
      have := h 0 (by simp) j u hj
      rwa [Nat.zero_mul, addr_add_add a ha, Nat.zero_add] at this
    · rw [List.getElem?_append_right (by rw [hsz]; exact hge), hsz] at hj
      have ha' : (a.add sz).spot = none := by unfold Addr.add; split <;> simp_all
      have := rowAt_flat enc' sz hsz w l (a.add sz) ha' (fun i hi => by
        have := h (i + 1) (by simpa using hi)
        rw [addr_add_add a ha]
        have e : sz + i * sz = (i + 1) * sz := by rw [Nat.add_mul]; omega
        rw [e]; simpa using this) (j - sz) u hj
      rw [addr_add_add a ha] at this
      rwa [show sz + (j - sz) = j by omega] at this

section
variable {H : Type} {P : Program} {enc : TypeId × Value → H} {w : World} {base : Nat} {spare : Nat → Bool} {held : Bool}

theorem open_rows {t e : TypeId} {fuel : Nat} {α : Type} (enc' : α → List Value) (sz : Nat) (hsz : ∀ x, (enc' x).length = sz) (hpos : 0 < sz) (Q : α → Prop)
    (ht : P.underlying t = some (.slice e)) (hc : P.cellsOf e = sz)
    (hel : ∀ n cs x, DataW.trod enc P w base spare held n e cs = some x → ∃ a, Q a ∧ cs = enc' a)
    {cs : List Value} {x : DataW H × List MemPlace} (h : DataW.trod enc P w base spare held fuel t cs = some x) :
    ∃ (A : Option Addr) (n cap : Nat) (l : List α), cs = [.slice A n cap] ∧ (∀ y ∈ l, Q y) ∧ l.length = n ∧ Sl w sz A n (l.flatMap enc') := by
  rcases open_slice ht h with ⟨rfl, _⟩ | ⟨a, len, cap, m, n, D, Pl, rfl, hb, hl, hm, hmm, _, hx⟩
  · exact ⟨none, 0, 0, [], rfl, by simp, rfl, ⟨by simp, by omega, fun h => absurd h (by omega)⟩⟩
  have hlm : len ≤ m := by rw [hmm]; split <;> omega
  rw [hc] at hx
  by_cases h0 : len = 0
  · subst h0
    exact ⟨some a, 0, cap, [], rfl, by simp, rfl, ⟨by simp, by omega, fun h => absurd h (by omega)⟩⟩
  obtain ⟨y0, _⟩ : ∃ y : α, Q y := by
    obtain ⟨c, h1, h2⟩ := hx 0 (by omega)
    obtain ⟨y, hq, _⟩ := hel _ _ _ h2
    exact ⟨y, hq⟩
  have : Inhabited α := ⟨y0⟩
  obtain ⟨V, hV⟩ := choose_lt (α := α) (n := len) (p := fun i y => Q y ∧ w.cells? base (a.add (i * sz)) sz = some (enc' y)) (fun i hi => by
    obtain ⟨c, h1, h2⟩ := hx i (by omega)
    obtain ⟨y, hq, rfl⟩ := hel _ _ _ h2
    exact ⟨y, hq, h1⟩)
  have hspot : a.spot = none := by
    have := (cells_row (hV 0 (by omega)).2 hpos).1
    rw [Nat.zero_mul] at this
    have e : a.add 0 = a := by unfold Addr.add; simp
    rwa [e] at this
  refine ⟨some a, len, cap, (List.range len).map V, rfl, ?_, by simp, ⟨?_, ?_, fun _ => ⟨a.block, a.off, ?_, ?_⟩⟩⟩
  · intro y hy
    obtain ⟨i, hi, rfl⟩ := List.mem_map.1 hy
    exact (hV i (by simpa using hi)).1
  · rw [flat_len enc' sz hsz]; simp
  · have : maxLen ≤ 9223372036854775807 := by decide
    omega
  · obtain ⟨b, o, s⟩ := a; simp only at hspot; subst hspot; rfl
  · have ea : (⟨a.block, a.off, none⟩ : Addr) = a := by obtain ⟨b, o, s⟩ := a; simp only at hspot; subst hspot; rfl
    rw [ea]
    refine rowAt_flat enc' sz hsz w _ a hspot fun i hi => ?_
    have := (cells_row (hV i (by simpa using hi)).2 hpos).2.2
    simpa using this
end

/-- a struct that is an argument: its cells -/
theorem open_agg {P : Program} {w : World} {r : Reach} {b0 : Nat} {t : TypeId} {v : Value} {fs : Array Field} (ht : P.underlying t = some (.struct fs)) (hval : Value.okWide P w r b0 t v) : ∃ cs, v = .agg cs := by
  unfold Value.okWide at hval
  rw [ht] at hval
  obtain ⟨cs, rfl, _, _⟩ := hval
  exact ⟨cs, rfl⟩

/-- a slice's block is old -/
theorem Sl.lt {w : World} {sz : Nat} {A : Option Addr} {n : Nat} {cs : List Value} (h : Sl w sz A n cs) (hn : 0 < n) (hs : 0 < sz) : ∀ b, Bl A b → b < w.heap.size := by
  obtain ⟨g, off, rfl, hr⟩ := h.at_ hn
  rintro b hb
  have hb' : g = b := by simpa [Bl] using hb
  subst hb'
  have hl := h.len
  have h1 : 1 ≤ n * sz := Nat.mul_pos hn hs
  have hlen : 0 < cs.length := by omega
  have hc := hr 0 cs[0] (by rw [List.getElem?_eq_getElem hlen])
  have hc' : w.cell? ⟨g, off, none⟩ = some cs[0] := by simpa [Addr.add] using hc
  exact World.block_lt_of_cell? _ _ hc'

/-- a read slice stays, where all that is older stays -/
theorem Sl.below {w w' : World} {sz : Nat} {A : Option Addr} {n : Nat} {cs : List Value} (h : Sl w sz A n cs) (hs : 0 < sz) (hb : Below w.heap.size w w') : Sl w' sz A n cs := by
  by_cases hn : 0 < n
  · exact h.ex (exOfBelow hb) (fun b hb' => by have := h.lt hn hs b hb'; omega)
  · exact ⟨h.len, h.small, fun h' => absurd h' hn⟩
end Go.Proofs.YtoglddndicmelaaGreatB
