/- Layer 28: how the laws' arguments read. -/
import Derived.Test.YthlmcoeikelheaaRows
import Derived.WalkKit
import Derived.ProofKit
import Derived.SizedLaws
import Derived.Test.YthlmcoeikelheaaB5
import Derived.Test.YthlmcoeikelheaaMom11
namespace Go.Proofs.Ythlmcoeikelheaa
open Go.ChangeShapes Go.WideShapes Go.ChangeAt Go.RowKit Go.Deep Go.Proofs.YthlmcoeikelheaaB
open Go.Joins

section
variable {H : Type} {enc : TypeId × Value → H} {w : World} {base : Nat} {spare : Nat → Bool} {held : Bool}

theorem open_deed (n : Nat) (cs : List Value) (x : DataW H × List MemPlace) (h : DataW.trod enc Try.prog w base spare held n 35 cs = some x) : ∃ a : DeedM, True ∧ cs = a.cells := by
  obtain ⟨y0, y1, y2, m, rfl, hl, h0, h1, h2⟩ := trod_struct3 Try.underlying35 h
  have hl3 : cs.length = 3 := by rw [hl]; kernel_rfl
  match cs, hl3 with
  | [c0, c1, c2], _ =>
    obtain ⟨a0, e0, _, _⟩ := DataW.trod_int Try.underlying3 h0
    obtain ⟨a1, e1, _, _⟩ := DataW.trod_int Try.underlying23 h1
    obtain ⟨a2, e2, _, _⟩ := DataW.trod_int Try.underlying3 h2
    have k0 : Try.prog.cellsOf 23 = 1 := by kernel_rfl
    have k1 : Try.prog.cellsOf 3 = 1 := by kernel_rfl
    simp [k1] at e0
    simp [k0, k1] at e1
    simp [k0, k1] at e2
    subst e0; subst e1; subst e2
    exact ⟨⟨a0, a1, a2⟩, trivial, rfl⟩

/-- deeds -/
theorem open_deeds {fuel : Nat} {cs : List Value} {x : DataW H × List MemPlace} (h : DataW.trod enc Try.prog w base spare held fuel 22 cs = some x) :
    ∃ (A : Option Addr) (n cap : Nat) (l : List DeedM), cs = [.slice A n cap] ∧ l.length = n ∧ Sl w 3 A n (l.flatMap DeedM.cells) := by
  obtain ⟨A, n, cap, l, h1, _, h2, h3⟩ := open_rows DeedM.cells 3 DeedM.len (by decide) (fun _ => True) Try.underlying22 (by kernel_rfl) open_deed h
  exact ⟨A, n, cap, l, h1, h2, h3⟩
end

theorem wf_le {n : Int} (h : (Lit.int .i64 n).wf = true) : n ≤ 9223372036854775807 := by
  simp [Lit.wf] at h
  omega
theorem own : ownKnob Try.prog.godebug = none := by kernel_rfl
theorem laidOut : laidOutB Try.prog = true := by kernel_rfl
end Go.Proofs.Ythlmcoeikelheaa
