/- Layer 28: the document's example. -/
import Derived.Test.YthlmcoeikelheaaMom12
namespace Go.Proofs.Ythlmcoeikelheaa
open Go.RowKit Go.Proofs.YthlmcoeikelheaaB Go.Shelf

/-- a table, new since a world -/
structure Mine (w0 : World) (p : Nat) (v : Value) (l : List It) (w : World) : Prop where
  T : TabAt w p v l
  ge : w0.heap.size ≤ p ∧ ∀ b, v.ownBlock = some b → w0.heap.size ≤ b
  bel : Below w0.heap.size w0 w
theorem Mine.ex0 {w0 : World} {p : Nat} {v : Value} {l : List It} {w w' : World} (h : Mine w0 p v l w) (hx : Ex0 w w') : Mine w0 p v l w' :=
  ⟨h.T.ex0 hx, h.ge, h.bel.trans (hx.below h.bel.size (fun _ h => h.elim))⟩
theorem Mine.post {w0 : World} {p : Nat} {v : Value} {l l' : List It} {r : Int} {w w' : World} {e : Ending} (h : Mine w0 p v l w) (hp : TabPost p v l' r w e w') : ∃ v', e = .returned (.int .i64 r) ∧ Mine w0 p v' l' w' := by
  obtain ⟨v', he, hv, hT, hx⟩ := hp
  refine ⟨v', he, hT, ⟨h.ge.1, fun b hb => ?_⟩, h.bel.trans (hx.below h.bel.size (fun i e => ?_))⟩
  · rcases hv with h1 | ⟨c, h1, h2⟩
    · exact h.ge.2 b (by rw [← h1]; exact hb)
    · rw [h1] at hb; cases hb
      exact Nat.le_trans h.bel.size h2
  · rcases e with e | e
    · rw [e]; exact h.ge.1
    · exact h.ge.2 i e

theorem ok_nil : TabOk [] := ⟨List.Pairwise.nil, (fun x hx => by simp at hx), by simp⟩
def a1 : List It := [⟨1, 5, false⟩]
def a2 : List It := [⟨1, 5, false⟩, ⟨2, 7, false⟩]
def a3 : List It := [⟨1, 5, false⟩, ⟨2, 7, false⟩, ⟨3, 21, false⟩]
def a4 : List It := [⟨1, 5, false⟩, ⟨2, 7, true⟩, ⟨3, 21, false⟩]
def a5 : List It := [⟨1, 5, false⟩, ⟨3, 21, false⟩]
theorem ok1 : TabOk a1 := ok_add (num := 1) (min := 5) ok_nil (by simp)
theorem ok2 : TabOk a2 := ok_add (num := 2) (min := 7) ok1 (by decide)
theorem ok3 : TabOk a3 := ok_add (num := 3) (min := 21) ok2 (by decide)
theorem ok4 : TabOk a4 := ok_rel (num := 2) ok3
theorem ok5 : TabOk a5 := ok_drop (num := 2) ok4

set_option maxHeartbeats 2000000 in
theorem awake_any (w : World) : Calls Try.prog 13 #[] w fun e w' => e = .returned (.bool true) ∧ Ex0 w w' := by
  go_enter Try.func13, Try.ntmps13
  go_wp2_with fail
  refine (new_any _).mono ?_
  rintro e w1 ⟨rfl, hT, hx⟩
  have M0 : Mine w w.heap.size (.slice none 0 0) [] w1 := ⟨hT, ⟨Nat.le_refl _, fun b hb => by simp [Value.ownBlock] at hb⟩, hx.below (Nat.le_refl _) (fun _ h => h.elim)⟩
  generalize w.heap.size = p at M0 ⊢
  clear hT hx
  go_wp2_with fail
  refine (add_any p _ [] 1 5 _ M0.T ok_nil (by simp)).mono ?_
  rintro e w2 hp
  obtain ⟨v1, rfl, M1⟩ := M0.post hp
  rw [show addE 1 5 [] = 0 by decide]
  rw [show addL 1 5 [] = a1 by decide] at M1
  clear hp M0
  go_wp2_with fail
  refine (add_any p v1 a1 2 7 _ M1.T ok1 (by decide)).mono ?_
  rintro e w3 hp
  obtain ⟨v2, rfl, M2⟩ := M1.post hp
  rw [show addE 2 7 a1 = 0 by decide]
  rw [show addL 2 7 a1 = a2 by decide] at M2
  clear hp M1
  go_wp2_with fail
  refine (add_any p v2 a2 3 21 _ M2.T ok2 (by decide)).mono ?_
  rintro e w4 hp
  obtain ⟨v3, rfl, M3⟩ := M2.post hp
  rw [show addE 3 21 a2 = 0 by decide]
  rw [show addL 3 21 a2 = a3 by decide] at M3
  clear hp M2
  go_wp2_with fail
  refine (closes_any p v3 a3 1 10 _ M3.T ok3 (by decide)).mono ?_
  rintro e w5 ⟨rfl, hx⟩
  rw [show closesB 1 10 a3 = false by decide]
  have M4 := M3.ex0 hx
  clear hx M3
  go_wp2_with fail
  refine (closes_any p v3 a3 2 10 _ M4.T ok3 (by decide)).mono ?_
  rintro e w6 ⟨rfl, hx⟩
  rw [show closesB 2 10 a3 = true by decide]
  have M5 := M4.ex0 hx
  clear hx M4
  go_wp2_with fail
  refine (quiet_any p v3 a3 2 10 _ M5.T ok3).mono ?_
  rintro e w7 ⟨rfl, hx⟩
  rw [show quietB 2 10 a3 = true by decide]
  have M6 := M5.ex0 hx
  clear hx M5
  go_wp2_with fail
  refine (release_any p v3 a3 2 _ M6.T ok3).mono ?_
  rintro e w8 hp
  obtain ⟨v4, rfl, M7⟩ := M6.post hp
  rw [show relE 2 a3 = 0 by decide]
  rw [show relL 2 a3 = a4 by decide] at M7
  clear hp M6
  go_wp2_with fail
  refine (next_any p v4 a4 1 _ M7.T ok4).mono ?_
  rintro e w9 ⟨rfl, hx⟩
  rw [show nextN 1 a4 = 2 by decide, show nextB 1 a4 = true by decide]
  have M8 := M7.ex0 hx
  clear hx M7
  go_wp2_with fail
  refine (drop_any p v4 a4 2 _ M8.T ok4).mono ?_
  rintro e w10 hp
  obtain ⟨v5, rfl, M9⟩ := M8.post hp
  rw [show dropE 2 a4 = 0 by decide]
  rw [show dropL 2 a4 = a5 by decide] at M9
  clear hp M8
  go_wp2_with fail
  refine (next_any p v5 a5 1 _ M9.T ok5).mono ?_
  rintro e w11 ⟨rfl, hx⟩
  rw [show nextN 1 a5 = 3 by decide, show nextB 1 a5 = true by decide]
  have M10 := M9.ex0 hx
  clear hx M9
  go_wp2_with fail
  refine (closes_any p v5 a5 1 10 _ M10.T ok5 (by decide)).mono ?_
  rintro e w12 ⟨rfl, hx⟩
  rw [show closesB 1 10 a5 = true by decide]
  have M11 := M10.ex0 hx
  clear hx M10
  go_wp2
  go_ret
  exact ⟨rfl, Ex.ofBelow M11.bel⟩
end Go.Proofs.Ythlmcoeikelheaa
