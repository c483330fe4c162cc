/- Layer 37: how the laws' arguments read. -/
import Derived.Test.YtbolioeopcmfcaaRows
import Derived.WalkKit
import Derived.ProofKit
import Derived.SizedLaws
import Derived.Test.YtbolioeopcmfcaaB5
import Derived.Test.YtbolioeopcmfcaaHold13
namespace Go.Proofs.Ytbolioeopcmfcaa
open Go.ChangeShapes Go.WideShapes Go.ChangeAt Go.RowKit Go.Deep Go.Proofs.YtbolioeopcmfcaaB
open Go.Joins

section
variable {H : Type} {enc : TypeId × Value → H} {w : World} {base : Nat} {spare : Nat → Bool} {held : Bool}

theorem open_held (n : Nat) (cs : List Value) (x : DataW H × List MemPlace) (h : DataW.trod enc Try.prog w base spare held n 30 cs = some x) : ∃ a : Held, True ∧ cs = a.cells := by
  obtain ⟨y0, y1, y2, y3, m, rfl, hl, h0, h1, h2, h3⟩ := trod_struct4 Try.underlying30 h
  have hl4 : cs.length = 4 := by rw [hl]; kernel_rfl
  match cs, hl4 with
  | [c0, c1, c2, c3], _ =>
    obtain ⟨a0, e0, _, _⟩ := DataW.trod_int Try.underlying28 h0
    obtain ⟨a1, e1, _, _⟩ := DataW.trod_int Try.underlying3 h1
    obtain ⟨a2, e2, _, _⟩ := DataW.trod_int Try.underlying3 h2
    obtain ⟨a3, e3, _, _⟩ := DataW.trod_int Try.underlying3 h3
    have k0 : Try.prog.cellsOf 28 = 1 := by kernel_rfl
    have k1 : Try.prog.cellsOf 3 = 1 := by kernel_rfl
    simp [k0] at e0
    simp [k1] at e1
    simp [k1] at e2
    simp [k1] at e3
    subst e0; subst e1; subst e2; subst e3
    exact ⟨⟨a0, a1, a2, a3⟩, trivial, rfl⟩

theorem open_act (n : Nat) (cs : List Value) (x : DataW H × List MemPlace) (h : DataW.trod enc Try.prog w base spare held n 32 cs = some x) : ∃ a : DeedA, True ∧ cs = a.cells := by
  obtain ⟨y0, y1, y2, y3, m, rfl, hl, h0, h1, h2, h3⟩ := trod_struct4 Try.underlying32 h
  have hl4 : cs.length = 7 := by rw [hl]; kernel_rfl
  match cs, hl4 with
  | [c0, c1, c2, c3, c4, c5, c6], _ =>
    have k0 : Try.prog.cellsOf 4 = 1 := by kernel_rfl
    have k1 : Try.prog.cellsOf 30 = 4 := by kernel_rfl
    have k2 : Try.prog.cellsOf 28 = 1 := by kernel_rfl
    have k3 : Try.prog.cellsOf 3 = 1 := by kernel_rfl
    obtain ⟨a0, e0, _, _⟩ := DataW.trod_bool Try.underlying4 h0
    obtain ⟨a1, _, e1⟩ := open_held _ _ _ h1
    obtain ⟨a2, e2, _, _⟩ := DataW.trod_int Try.underlying28 h2
    obtain ⟨a3, e3, _, _⟩ := DataW.trod_int Try.underlying3 h3
    simp [k0] at e0
    simp [k0, k1, Held.cells] at e1
    simp [k0, k1, k2] at e2
    simp [k0, k1, k2, k3] at e3
    obtain ⟨f0, f1, f2, f3⟩ := e1
    subst e0; subst e2; subst e3; subst f0; subst f1; subst f2; subst f3
    exact ⟨⟨a0, a1, a2, a3⟩, trivial, rfl⟩

theorem open_one_bool (n : Nat) (cs : List Value) (x : DataW H × List MemPlace) (h : DataW.trod enc Try.prog w base spare held n 4 cs = some x) : ∃ a : Bool, True ∧ cs = [.bool a] := by
  obtain ⟨a0, e0, _, _⟩ := DataW.trod_bool Try.underlying4 h
  exact ⟨a0, trivial, e0⟩

/-- acts -/
theorem open_acts {fuel : Nat} {cs : List Value} {x : DataW H × List MemPlace} (h : DataW.trod enc Try.prog w base spare held fuel 22 cs = some x) :
    ∃ (A : Option Addr) (n cap : Nat) (l : List DeedA), cs = [.slice A n cap] ∧ l.length = n ∧ Sl w 7 A n (l.flatMap DeedA.cells) := by
  obtain ⟨A, n, cap, l, h1, _, h2, h3⟩ := open_rows DeedA.cells 7 DeedA.len (by decide) (fun _ => True) Try.underlying22 (by kernel_rfl) open_act h
  exact ⟨A, n, cap, l, h1, h2, h3⟩

/-- flags -/
theorem open_flags {fuel : Nat} {cs : List Value} {x : DataW H × List MemPlace} (h : DataW.trod enc Try.prog w base spare held fuel 23 cs = some x) :
    ∃ (A : Option Addr) (n cap : Nat) (l : List Bool), cs = [.slice A n cap] ∧ l.length = n ∧ Sl w 1 A n (l.map Value.bool) := by
  obtain ⟨A, n, cap, l, h1, _, h2, h3⟩ := open_rows (fun b : Bool => [Value.bool b]) 1 (fun _ => rfl) (by decide) (fun _ => True) Try.underlying23 (by kernel_rfl) open_one_bool h
  refine ⟨A, n, cap, l, h1, h2, ?_⟩
  have e : (l.flatMap fun b : Bool => [Value.bool b]) = l.map Value.bool := by
    clear h2 h3
    induction l with
    | nil => rfl
    | cons a l ih => simp [ih]
  rwa [e] at h3
end

theorem open_act_val {H : Type} {enc : TypeId × Value → H} {w : World} {base : Nat} {spare : Nat → Bool} {held : Bool} {r : Reach} {b0 fuel : Nat} {v : Value} {x : DataW H × List MemPlace}
    (hval : Value.okWide Try.prog w r b0 32 v) (h : DataW.trod enc Try.prog w base spare held fuel 32 v.cells.toList = some x) :
    ∃ d : DeedA, v = .agg #[.bool d.lift, .int .u64 d.h.id, .int .i64 d.h.fr, .int .i64 d.h.to, .int .i64 d.h.til, .int .u64 d.num, .int .i64 d.min] := by
  obtain ⟨cs, rfl⟩ := open_agg Try.underlying32 hval
  obtain ⟨d, _, hd⟩ := open_act _ _ _ h
  refine ⟨d, ?_⟩
  have : cs = d.cells.toArray := by rw [← hd]; simp [Value.cells]
  rw [this]; rfl
theorem open_held_val {H : Type} {enc : TypeId × Value → H} {w : World} {base : Nat} {spare : Nat → Bool} {held : Bool} {r : Reach} {b0 fuel : Nat} {v : Value} {x : DataW H × List MemPlace}
    (hval : Value.okWide Try.prog w r b0 30 v) (h : DataW.trod enc Try.prog w base spare held fuel 30 v.cells.toList = some x) :
    ∃ d : Held, v = d.val := by
  obtain ⟨cs, rfl⟩ := open_agg Try.underlying30 hval
  obtain ⟨d, _, hd⟩ := open_held _ _ _ h
  refine ⟨d, ?_⟩
  have : cs = d.cells.toArray := by rw [← hd]; simp [Value.cells]
  rw [this]; rfl

theorem own : ownKnob Try.prog.godebug = none := by kernel_rfl
theorem laidOut : laidOutB Try.prog = true := by kernel_rfl
end Go.Proofs.Ytbolioeopcmfcaa
