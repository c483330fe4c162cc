/- Layer 37: how the laws' arguments read, with the bounds of the holds' numbers. -/
import Derived.Test.YtbolioeopcmfcaaHoldOpen
import Derived.Test.YtbolioeopcmfcaaHold15
namespace Go.Proofs.Ytbolioeopcmfcaa
open Go.ChangeShapes Go.WideShapes Go.ChangeAt Go.RowKit Go.Deep Go.Proofs.YtbolioeopcmfcaaB
open Go.Joins

section
variable {H : Type} {enc : TypeId × Value → H} {w : World} {base : Nat} {spare : Nat → Bool} {held : Bool}

theorem open_heldW (n : Nat) (cs : List Value) (x : DataW H × List MemPlace) (h : DataW.trod enc Try.prog w base spare held n 30 cs = some x) : ∃ a : Held, (Lit.int .u64 a.id).wf = true ∧ cs = a.cells := by
  obtain ⟨y0, y1, y2, y3, m, rfl, hl, h0, h1, h2, h3⟩ := trod_struct4 Try.underlying30 h
  have hl4 : cs.length = 4 := by rw [hl]; kernel_rfl
  match cs, hl4 with
  | [c0, c1, c2, c3], _ =>
    obtain ⟨a0, e0, _, w0⟩ := DataW.trod_int Try.underlying28 h0
    obtain ⟨a1, e1, _, _⟩ := DataW.trod_int Try.underlying3 h1
    obtain ⟨a2, e2, _, _⟩ := DataW.trod_int Try.underlying3 h2
    obtain ⟨a3, e3, _, _⟩ := DataW.trod_int Try.underlying3 h3
    have k0 : Try.prog.cellsOf 28 = 1 := by kernel_rfl
    have k1 : Try.prog.cellsOf 3 = 1 := by kernel_rfl
    simp [k0] at e0
    simp [k1] at e1
    simp [k1] at e2
    simp [k1] at e3
    subst e0; subst e1; subst e2; subst e3
    exact ⟨⟨a0, a1, a2, a3⟩, w0, rfl⟩

theorem open_actW (n : Nat) (cs : List Value) (x : DataW H × List MemPlace) (h : DataW.trod enc Try.prog w base spare held n 32 cs = some x) : ∃ a : DeedA, (Lit.int .u64 a.h.id).wf = true ∧ cs = a.cells := by
  obtain ⟨y0, y1, y2, y3, m, rfl, hl, h0, h1, h2, h3⟩ := trod_struct4 Try.underlying32 h
  have hl4 : cs.length = 7 := by rw [hl]; kernel_rfl
  match cs, hl4 with
  | [c0, c1, c2, c3, c4, c5, c6], _ =>
    have k0 : Try.prog.cellsOf 4 = 1 := by kernel_rfl
    have k1 : Try.prog.cellsOf 30 = 4 := by kernel_rfl
    have k2 : Try.prog.cellsOf 28 = 1 := by kernel_rfl
    have k3 : Try.prog.cellsOf 3 = 1 := by kernel_rfl
    obtain ⟨a0, e0, _, _⟩ := DataW.trod_bool Try.underlying4 h0
    obtain ⟨a1, w1, e1⟩ := open_heldW _ _ _ h1
    obtain ⟨a2, e2, _, _⟩ := DataW.trod_int Try.underlying28 h2
    obtain ⟨a3, e3, _, _⟩ := DataW.trod_int Try.underlying3 h3
    simp [k0] at e0
    simp [k0, k1, Held.cells] at e1
    simp [k0, k1, k2] at e2
    simp [k0, k1, k2, k3] at e3
    obtain ⟨f0, f1, f2, f3⟩ := e1
    subst e0; subst e2; subst e3; subst f0; subst f1; subst f2; subst f3
    exact ⟨⟨a0, a1, a2, a3⟩, w1, rfl⟩

/-- acts -/
theorem open_actsW {fuel : Nat} {cs : List Value} {x : DataW H × List MemPlace} (h : DataW.trod enc Try.prog w base spare held fuel 22 cs = some x) :
    ∃ (A : Option Addr) (n cap : Nat) (l : List DeedA), cs = [.slice A n cap] ∧ l.length = n ∧ (Sl w 7 A n (l.flatMap DeedA.cells) ∧ ∀ d ∈ l, (Lit.int .u64 d.h.id).wf = true) := by
  obtain ⟨A, n, cap, l, h1, h4, h2, h3⟩ := open_rows DeedA.cells 7 DeedA.len (by decide) (fun d => (Lit.int .u64 d.h.id).wf = true) Try.underlying22 (by kernel_rfl) open_actW h
  exact ⟨A, n, cap, l, h1, h2, h3, h4⟩
end
end Go.Proofs.Ytbolioeopcmfcaa
