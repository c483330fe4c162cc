/- Words: worlds whose cells have not turned but for some blocks; a region that draws its order within a round. -/
import Derived.Test.YtoglddndicmelaaGreatB3
import Derived.Test.YtoglddndicmelaaGreatB2
import Derived.OrdersHeld
import Derived.OrdersIn
import Derived.RangeFuncCalls
namespace Go.Proofs.YtoglddndicmelaaGreatB
open Go Go.RowKit

/-- Blocks of cells that are not of S have not turned. -/
structure Kc (S : Nat → Prop) (w w' : World) : Prop where
  size : w.heap.size ≤ w'.heap.size
  block : ∀ k o, ¬ S k → w.heap[k]? = some o → o.isCells = true → w'.heap[k]? = some o
abbrev Kc0 (w w' : World) : Prop := Kc (fun _ => False) w w'

theorem Kc.refl (S : Nat → Prop) (w : World) : Kc S w w := ⟨Nat.le_refl _, fun _ _ _ h _ => h⟩
theorem Kc.trans {S : Nat → Prop} {a b c : World} (h : Kc S a b) (k : Kc S b c) : Kc S a c := ⟨Nat.le_trans h.size k.size, fun i o hS ho hc => k.block i o hS (h.block i o hS ho hc) hc⟩
theorem Kc.to {S T : Nat → Prop} {a b : World} (h : Kc S a b) (hS : ∀ i, S i → T i) : Kc T a b := ⟨h.size, fun i o ht => h.block i o (fun hs => ht (hS i hs))⟩
theorem Kc.ofEx {S : Nat → Prop} {a b : World} (h : Ex S a b) : Kc S a b := ⟨h.size, fun i _ hs ho _ => (h.block i (Array.getElem?_eq_some_iff.1 ho).1 hs).trans ho⟩
theorem Kc.ofGrown {w w' : World} {row : Option Nat} (hg : w.grownBy w' row) (hr : ∀ r, row = some r → ∃ o : Obj, w.heap[r]? = some o ∧ o.isCells = false) (S : Nat → Prop) : Kc S w w' :=
  ⟨hg.size, fun _ _ _ ho hc => (grownBy_keeps_cells hg hr ho hc).trans ho⟩
theorem Kc.cells {S : Nat → Prop} {a b : World} (h : Kc S a b) {k : Nat} {cs : Array Value} {t : TypeId} {fr : Nat × Nat} (ho : a.heap[k]? = some (.cells cs t fr)) (hS : ¬ S k) : b.heap[k]? = some (.cells cs t fr) := h.block k _ hS ho rfl
theorem Kc.cellS {S : Nat → Prop} {a b : World} (h : Kc S a b) {p : Addr} {v : Value} (hv : a.cell? p = some v) (hS : ¬ S p.block) : b.cell? p = some v := by
  obtain ⟨o, ho, hc⟩ := cells_of_cell hv
  exact (World.cell?_of_block (w := a) ((h.block _ _ hS ho hc).trans ho.symm)).trans hv
theorem RowAt.kc {S : Nat → Prop} {w w' : World} {a : Addr} {cs : List Value} (h : RowAt w a cs) (hx : Kc S w w') (hS : ¬ S a.block) : RowAt w' a cs := by
  intro j u hu
  have e : (a.add j).block = a.block := by unfold Addr.add; split <;> rfl
  exact hx.cellS (h j u hu) (by rw [e]; exact hS)
theorem Sl.kc {S : Nat → Prop} {w w' : World} {sz : Nat} {A : Option Addr} {n : Nat} {cs : List Value} (h : Sl w sz A n cs) (hx : Kc S w w') (hS : ∀ b, Bl A b → ¬ S b) : Sl w' sz A n cs :=
  ⟨h.len, h.small, fun hn => by
    obtain ⟨g, off, rfl, hr⟩ := h.at_ hn
    exact ⟨g, off, rfl, hr.kc hx (hS g rfl)⟩⟩
theorem own_kc {S : Nat → Prop} {w w' : World} {b : Nat} {e : TypeId} {sz : Nat} {v : Value} {n : Nat} {cs : List Value} (h : w.ownsRow b e sz v n cs) (hx : Kc S w w') (hS : ∀ b, v.ownBlock = some b → ¬ S b) : w'.ownsRow b e sz v n cs := by
  refine ⟨h.1, ?_⟩
  rcases h.2 with hn | ⟨g, cap, cur, rfl, hb, hgg, rest⟩
  · exact .inl hn
  · exact .inr ⟨g, cap, cur, rfl, hb, hx.cells hgg (hS g rfl), rest⟩
theorem boxed_kc {S : Nat → Prop} {w w' : World} {B : Nat} {t : TypeId} {v : Value} (h : Boxed w B t v) (hx : Kc S w w') (hS : ¬ S B) : Boxed w' B t v := hx.cells h hS

/-- what the law on a loop over a function asks of an iterator's Kp -/
theorem kc_t {S : Nat → Prop} {A B C : World} (h : Kc S A B) (k : Kc S B C) : Kc S A C := h.trans k
theorem kc_b {S : Nat → Prop} {w : World} (W : World) (l : Nat) (o o' : Obj) (_ : w.heap.size ≤ l) (h : W.heap[l]? = some o) (hc : o.isCells = false) (_ : o.isWalk = false) : Kc S W (W.putObj l o') :=
  Kc.ofGrown (grownBy_putObj' W l o') (fun r e => by cases e; exact ⟨o, h, hc⟩) S
/-- whatever speaks of cells alone, and of what lies below -/
theorem ownFrom_kc {β : Type} {B n0 : Nat} {w0 : World} {I : β → World → Prop} (hn : n0 ≤ w0.heap.size) (hB : n0 ≤ B) (h : ∀ s W W', I s W → Kc0 W W' → Below n0 w0 W' → I s W') (hb : ∀ s W, I s W → Below n0 w0 W) : OwnFrom B I :=
  fun s W W' row hs hg hr => h s W W' hs (Kc.ofGrown hg (fun r e => (hr r e).2) _) ((hb s W hs).grown hg (by have := (hb s W hs).size; omega) (fun r e => by have := (hr r e).1; omega))

theorem keepsFrom_ex {S : Nat → Prop} {B : Nat} {W W' : World} (h : Ex S W W') (hS : ∀ i, S i → i < B) : KeepsFrom B W W' :=
  ⟨h.size, fun k o hB ho _ => (h.block k (Array.getElem?_eq_some_iff.1 ho).1 (fun hs => by have := hS k hs; omega)).trans ho⟩

/-! ### a region within a round -/
section
variable {P : Program} {ops : Array Oper} {Q : Exit → Act → World → Prop} {md : Region.Mode} {S : World → Prop} {n l : Nat}

def noDefer (ops : Array Oper) : Bool := ops.all fun o => match o.op with | .defer _ => false | _ => true
theorem noDefer_spec (h : noDefer ops = true) {i : Nat} {o : Oper} (ho : ops[i]? = some o) (c : Call) : o.op ≠ .defer c := by
  obtain ⟨hi, he⟩ := Array.getElem?_eq_some_iff.1 ho
  have := Array.all_eq_true.1 h i hi
  rw [he] at this
  intro e; rw [e] at this; cases this

theorem rowsIn_round {row : String} {args : Array Value} {w : World} {R : Value → World → Prop} (h : Rows P row args w R) : RowsIn (Fence.wide.inRound l) n P row args w R :=
  fun c cs _ => let ⟨v, w', r, s⟩ := h c cs; ⟨v, w', r, stepsIn_wide.2 s⟩

theorem wpIn_of_wp_round {o : Oper} {a : Act} {w : World} {K : Act → World → Prop} (hd : ∀ c, o.op ≠ .defer c) (h : o.wp P a w K Q) : o.wpIn (Fence.wide.inRound l) n P a w K Q := by
  unfold Oper.wp at h
  unfold Oper.wpIn
  refine ⟨fun _ _ => trivial, ?_⟩
  rw [Oper.semAt_eq _ _ _ hd]
  generalize (execOp a.eval o).run P w = r at *
  cases r with
  | ok x w' =>
    cases x with
    | value v => exact h
    | skip => exact h
    | defer d => exact h
    | enter f args => exact ⟨fun h => by simp [Fence.inRound, Fence.wide] at h, CallsIn.inRound l (callsIn_wide.2 h)⟩
    | row r args => exact ⟨fun h => by simp [Fence.inRound, Fence.wide] at h, rowsIn_round h⟩
    | round => exact h.elim
    | _ => exact h.elim
  | halt x w' => cases x <;> exact h

theorem wpAnyIn_of_wpAny_round (hd : noDefer ops = true) (hno : ¬ LetsOut Q) : ∀ (fuel : Nat) (listed : Array Bool) (a : Act) (w : World), wpAny P md ops Q fuel listed a w → wpAnyIn (Fence.wide.inRound l) n P md ops Q fuel listed a w
  | 0, _, _, _, h => h
  | fuel + 1, listed, a, w, h => ⟨h.1, fun i hi => by
    have h2 := wpOp_mono (fun a' w' h' => wpAnyIn_of_wpAny_round hd hno fuel _ a' w' h') (h.2 i hi)
    unfold wpOp at h2
    unfold wpOpIn
    cases ho : ops[i]? with
    | none => rw [ho] at h2; exact h2
    | some o =>
      rw [ho] at h2
      dsimp only at h2 ⊢
      split
      · rename_i hw; rw [if_pos hw] at h2; exact wpIn_of_wp_round (fun c => noDefer_spec hd ho c) (h2.resolve_right (fun h => hno h.2))
      · rename_i hw; rw [if_neg hw] at h2; exact ⟨fun _ _ => trivial, h2⟩⟩

/-- the checks of a take, in one -/
def takeH (md : Region.Mode) (ops : Array Oper) (listed : Array Bool) (i : Nat) : Bool := Region.noSelect ops && Region.free md ops listed i && (Region.ready md ops listed).contains i

theorem wpAnyH_do {l0 : List Oper} (i : Nat) {oi : Oper} {fuel : Nat} {listed : Array Bool} {a : Act} {w : World} (hi : l0[i]? = some oi)
    (hb : takeH md l0.toArray listed i = true)
    (hQ : ∀ c a v w, Q (.panic c) (a.put oi.dst v) w → Q (.panic c) a w) (hw : Region.wanted oi (yielded l0.toArray a.tmps) = true) (hS : S w)
    (h : ∃ v, (∀ w, S w → (execOp a.eval oi).run P w = .ok (.value v) w) ∧ wpAnyH P md l0.toArray Q S fuel (listed.setIfInBounds i true) (a.put oi.dst v) w) : wpAnyH P md l0.toArray Q S (fuel + 1) listed a w := by
  obtain ⟨v, hy, h⟩ := h
  simp only [takeH, Bool.and_eq_true] at hb
  exact wpAnyH_take (by simpa using hi) hb.1.1 hb.1.2 hb.2 (fun c a w => hQ c a v w) (.inl ⟨hw, hy⟩) hS h
theorem wpAnyH_pass {l0 : List Oper} (i : Nat) {oi : Oper} {fuel : Nat} {listed : Array Bool} {a : Act} {w : World} (hi : l0[i]? = some oi)
    (hb : takeH md l0.toArray listed i = true)
    (hQ : ∀ c a v w, Q (.panic c) (a.put oi.dst v) w → Q (.panic c) a w) (hw : Region.wanted oi (yielded l0.toArray a.tmps) = false) (hS : S w)
    (h : wpAnyH P md l0.toArray Q S fuel (listed.setIfInBounds i true) (a.put oi.dst undef) w) : wpAnyH P md l0.toArray Q S (fuel + 1) listed a w := by
  simp only [takeH, Bool.and_eq_true] at hb
  exact wpAnyH_take (by simpa using hi) hb.1.1 hb.1.2 hb.2 (fun c a w => hQ c a undef w) (.inr ⟨hw, rfl⟩) hS h
theorem wpAnyH_eff {l0 : List Oper} (i : Nat) {oi : Oper} {fuel : Nat} {listed : Array Bool} {a : Act} {w : World} (hi : l0[i]? = some oi) (hr : Region.ready md l0.toArray listed = [i]) (hw : Region.wanted oi (yielded l0.toArray a.tmps) = true)
    (h : ∀ K : Act → World → Prop, (∀ a' w', S w' → wpAnyH P md l0.toArray Q S fuel (listed.setIfInBounds i true) a' w' → K a' w') → Oper.wp P oi a w K Q) :
    wpAnyH P md l0.toArray Q S (fuel + 1) listed a w := by
  refine wpAnyH_all hr (by simp) fun j hj => ?_
  have : j = i := by simpa using hj
  subst this
  unfold wpOp
  have hi' : l0.toArray[j]? = some oi := by simpa using hi
  simp only [hi', hw, if_true]
  exact .inl (h _ (fun a' w' hs hh => ⟨hs, hh⟩))
/-- the beginning, within a round -/
theorem wpIn_region_round {id : Nat} {l0 : List Oper} {a : Act} {w : World} (S : World → Prop) (hm : P.follows .mixedOrders = true) (hd : noDefer l0.toArray = true) (hno : ¬ LetsOut Q)
    (h : wpAnyH P .any l0.toArray Q S l0.length (Array.replicate l0.length false) a w.drew) : (Code.region id l0.toArray true).wpIn (Fence.wide.inRound l) n P Q a w := by
  refine wpIn_region_any hm (wpAnyIn_of_wpAny_round hd hno _ _ _ _ ?_)
  have := wpAny_of_held _ _ _ _ h
  simpa using this
/-- the same, in a function's own body -/
theorem wp_region_takes {id : Nat} {l0 : List Oper} {a : Act} {w : World} (S : World → Prop) (hm : P.follows .mixedOrders = true)
    (h : wpAnyH P .any l0.toArray Q S l0.length (Array.replicate l0.length false) a w.drew) : (Code.region id l0.toArray true).wp P Q a w := by
  refine wp_region_held (S := S) hm ?_
  simpa using h
end
/-- the frame under a name -/
theorem wpIn_named {F : Fence} {n : Nat} {P : Program} {c : Code} {Q : Exit → Act → World → Prop} {a : Act} {w : World} (h : ∀ a0, a0 = a → c.wpIn F n P Q a0 w) : c.wpIn F n P Q a w := h a rfl
/-- the ways out of a loop over a function meet again: it runs out, or a break leaves it -/
theorem wpIn_cut_block {F : Fence} {n id : Nat} {P : Program} {c : Code} {Q : Exit → Act → World → Prop} {a : Act} {w : World} (R : Act → World → Prop)
    (h1 : c.wpIn F n P (fun e a w => match e with | .normal => R a w | .exit j => if j = id then R a w else Q (.exit j) a w | e => Q e a w) a w) (h2 : ∀ a w, R a w → Q .normal a w) : c.wpIn F n P (Exit.inBlock id Q) a w := by
  refine wpIn_mono h1 fun e a w h => ?_
  cases e with
  | normal => exact h2 _ _ h
  | exit j =>
    simp only [Exit.inBlock]
    dsimp only at h
    split
    · rename_i e; rw [if_pos e] at h; exact h2 _ _ h
    · rename_i e; rw [if_neg e] at h; exact h
  | _ => exact h
end Go.Proofs.YtoglddndicmelaaGreatB
