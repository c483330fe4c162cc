/- Layer 61: how the laws' arguments read. -/
import Derived.Test.YthbdmfbjkkmplaaRows
import Derived.WalkKit
import Derived.ProofKit
import Derived.SizedLaws
import Derived.Test.YthbdmfbjkkmplaaB5
import Derived.Test.YthbdmfbjkkmplaaB9
namespace Go.Proofs.Ythbdmfbjkkmplaa
open Go.ChangeShapes Go.WideShapes Go.ChangeAt Go.RowKit Go.Deep Go.Proofs.YthbdmfbjkkmplaaB
open Go.Joins

section
variable {H : Type} {enc : TypeId × Value → H} {w : World} {base : Nat} {spare : Nat → Bool} {held : Bool}

theorem open_byte (n : Nat) (cs : List Value) (x : DataW H × List MemPlace) (h : DataW.trod enc Try.prog w base spare held n 5 cs = some x) : ∃ a : Nat, a < 256 ∧ cs = [.int .u8 a] := by
  obtain ⟨a, e, _, hw⟩ := DataW.trod_int Try.underlying5 h
  simp [Lit.wf, IntKind.min, IntKind.max, IntKind.signed, IntKind.bits] at hw
  refine ⟨a.toNat, by omega, ?_⟩
  rw [e, Int.toNat_of_nonneg (by omega)]

theorem open_bytes {t : TypeId} {n : Nat} (ht : Try.prog.underlying t = some (.array n 5)) (hc : Try.prog.cellsOf t = n) (fuel : Nat) (cs : List Value) (x : DataW H × List MemPlace) (h : DataW.trod enc Try.prog w base spare held fuel t cs = some x) :
    ∃ l : List Nat, (l.length = n ∧ ∀ y ∈ l, y < 256) ∧ cs = u8s l := by
  obtain ⟨xs, m, _, _, hl, hx, hi⟩ := DataW.trod_array ht h
  rw [hc] at hl
  have k0 : Try.prog.cellsOf 5 = 1 := by kernel_rfl
  simp only [k0, Nat.mul_one] at hi
  have hone : ∀ i, i < n → ∃ a : Nat, a < 256 ∧ cs[i]? = some (.int .u8 a) := fun i h => by
    have h1 := hi i h
    rw [List.getElem?_eq_getElem (by omega)] at h1
    obtain ⟨a, ha, he⟩ := open_byte _ _ _ h1
    refine ⟨a, ha, ?_⟩
    have h2 : ((cs.drop i).take 1)[0]? = some (.int .u8 a) := by rw [he]; rfl
    rw [List.getElem?_take, if_pos (by decide), List.getElem?_drop, Nat.add_zero] at h2
    exact h2
  refine ⟨cs.map fun v => match v with | .int _ a => a.toNat | _ => 0, ⟨by simp [hl], ?_⟩, ?_⟩
  · intro y hy
    obtain ⟨v, hv, rfl⟩ := List.mem_map.1 hy
    obtain ⟨i, hi', rfl⟩ := List.getElem_of_mem hv
    obtain ⟨a, ha, he⟩ := hone i (by omega)
    rw [List.getElem?_eq_getElem hi'] at he
    cases he' : cs[i] <;> simp_all
  · apply List.ext_getElem?
    intro i
    by_cases h1 : i < n
    · obtain ⟨a, ha, he⟩ := hone i h1
      simp [u8s, he]
    · rw [List.getElem?_eq_none (by omega), List.getElem?_eq_none (by simp [u8s]; omega)]

theorem open_sum (fuel : Nat) (cs : List Value) (x : DataW H × List MemPlace) (h : DataW.trod enc Try.prog w base spare held fuel 28 cs = some x) : ∃ l : List Nat, (l.length = 16 ∧ ∀ y ∈ l, y < 256) ∧ cs = encN 16 l := by
  obtain ⟨l, hl, rfl⟩ := open_bytes Try.underlying28 (by kernel_rfl) fuel cs x h
  exact ⟨l, hl, (encN_eq hl.1).symm⟩
theorem open_block (fuel : Nat) (cs : List Value) (x : DataW H × List MemPlace) (h : DataW.trod enc Try.prog w base spare held fuel 24 cs = some x) : ∃ l : List Nat, (l.length = 32 ∧ ∀ y ∈ l, y < 256) ∧ cs = encN 32 l := by
  obtain ⟨l, hl, rfl⟩ := open_bytes Try.underlying24 (by kernel_rfl) fuel cs x h
  exact ⟨l, hl, (encN_eq hl.1).symm⟩
/-- blocks -/
theorem open_blocks {fuel : Nat} {cs : List Value} {x : DataW H × List MemPlace} (h : DataW.trod enc Try.prog w base spare held fuel 22 cs = some x) :
    ∃ (A : Option Addr) (n cap : Nat) (l : List (List Nat)), cs = [.slice A n cap] ∧ l.length = n ∧ (AllB 32 l ∧ Sl w 32 A n (rowN 32 l)) := by
  obtain ⟨A, n, cap, l, h1, h2, h3, h4⟩ := open_rows (encN 32) 32 (encN_len 32) (by decide) (fun l => l.length = 32 ∧ ∀ y ∈ l, y < 256) Try.underlying22 (by kernel_rfl) (fun n cs x h => open_block n cs x h) h
  exact ⟨A, n, cap, l, h1, h3, h2, h4⟩
end
/-- an array that is an argument: its cells -/
theorem open_arr {P : Program} {w : World} {r : Reach} {b0 : Nat} {t e : TypeId} {n : Nat} {v : Value} (ht : P.underlying t = some (.array n e)) (hval : Value.okWide P w r b0 t v) : ∃ cs, v = .agg cs := by
  unfold Value.okWide at hval
  rw [ht] at hval
  obtain ⟨cs, rfl, _, _⟩ := hval
  exact ⟨cs, rfl⟩
set_option maxRecDepth 100000 in
theorem open_sum_val {H : Type} {enc : TypeId × Value → H} {w : World} {base : Nat} {spare : Nat → Bool} {held : Bool} {r : Reach} {b0 fuel : Nat} {v : Value} {x : DataW H × List MemPlace}
    (hval : Value.okWide Try.prog w r b0 28 v) (h : DataW.trod enc Try.prog w base spare held fuel 28 v.cells.toList = some x) :
    ∃ l : {l : List Nat // l.length = 16 ∧ ∀ y ∈ l, y < 256}, v = .agg (u8s l.1).toArray := by
  obtain ⟨cs, rfl⟩ := open_arr Try.underlying28 hval
  obtain ⟨l, hl, he⟩ := open_sum _ _ _ h
  refine ⟨⟨l, hl⟩, ?_⟩
  rw [encN_eq hl.1] at he
  have h2 : cs.toList = u8s l := he
  rw [← h2]
set_option maxRecDepth 100000 in
theorem open_block_val {H : Type} {enc : TypeId × Value → H} {w : World} {base : Nat} {spare : Nat → Bool} {held : Bool} {r : Reach} {b0 fuel : Nat} {v : Value} {x : DataW H × List MemPlace}
    (hval : Value.okWide Try.prog w r b0 24 v) (h : DataW.trod enc Try.prog w base spare held fuel 24 v.cells.toList = some x) :
    ∃ l : {l : List Nat // l.length = 32 ∧ ∀ y ∈ l, y < 256}, v = .agg (u8s l.1).toArray := by
  obtain ⟨cs, rfl⟩ := open_arr Try.underlying24 hval
  obtain ⟨l, hl, he⟩ := open_block _ _ _ h
  refine ⟨⟨l, hl⟩, ?_⟩
  rw [encN_eq hl.1] at he
  have h2 : cs.toList = u8s l := he
  rw [← h2]

theorem own : ownKnob Try.prog.godebug = none := by kernel_rfl
theorem laidOut : laidOutB Try.prog = true := by kernel_rfl
end Go.Proofs.Ythbdmfbjkkmplaa
