/- Contracts of layer 37: a book's methods. -/
import Derived.Shelf.Abstract
import Derived.Test.YtbolioeopcmfcaaHold1
namespace Go.Proofs.Ytbolioeopcmfcaa
open Go.RowKit Go.Proofs.YtbolioeopcmfcaaB Go.Shelf

/-- a book: its block holds a slice of its own -/
structure BookAt (w : World) (p : Nat) (v : Value) (l : List Put) : Prop where
  blk : w.heap[p]? = some (.cells #[v] 56 (0, 0))
  own : w.ownsRow 0 38 6 v l.length (l.flatMap Put.cells)
  ne : v.ownBlock ≠ some p

theorem BookAt.cell {w : World} {p : Nat} {v : Value} {l : List Put} (h : BookAt w p v l) : w.cell? ⟨p, 0, none⟩ = some v := by
  rw [cell_of_row w p 0 _ _ _ h.blk]; rfl
theorem BookAt.lt {w : World} {p : Nat} {v : Value} {l : List Put} (h : BookAt w p v l) : p < w.heap.size := (Array.getElem?_eq_some_iff.1 h.blk).1
theorem BookAt.ex {S : Nat → Prop} {w w' : World} {p : Nat} {v : Value} {l : List Put} (h : BookAt w p v l) (hx : Ex S w w') (h1 : ¬ S p) (h2 : ∀ b, v.ownBlock = some b → ¬ S b) : BookAt w' p v l :=
  ⟨(hx.block p h.lt h1).trans h.blk, own_ex h.own hx h2, h.ne⟩
theorem BookAt.ex0 {w w' : World} {p : Nat} {v : Value} {l : List Put} (h : BookAt w p v l) (hx : Ex0 w w') : BookAt w' p v l := h.ex hx id (fun _ _ => id)

theorem find_any (p : Nat) (v : Value) (l : List Put) (id : Int) (w : World) (hB : BookAt w p v l) :
    Calls Try.prog 25 #[.pointer (some ⟨p, 0, none⟩), .int .u64 id] w fun e w' => e = .returned (.int .i64 (idxOf (fun x => x.h.id == id) l)) ∧ Ex0 w w' := by
  have hc := hB.cell
  have hl := hB.lt
  obtain ⟨A, cap, rfl, hsl, hbl⟩ := own_sl hB.own
  have HB := Lib.hid hbl
  clear hbl
  go_enter Try.func25, Try.ntmps25
  go_wp2_with fail
  refine (indexFunc_any A l.length cap l 35 _ (fun x => x.h.id == id) _ (hsl.ex0 (Ex.alloc _ _)) (enters_of Try.func35 (by kernel_rfl) rfl) ?_).mono ?_
  · intro x _ w' hw'
    exact isId_any x id _ w' (hw'.cellS (by simp) not_false)
  · rintro e w' ⟨rfl, hx⟩
    go_wp2
    go_ret
    exact ⟨rfl, (Ex.alloc _ _).trans0 hx⟩
end Go.Proofs.Ytbolioeopcmfcaa
