/- Words: a region that draws its order and ends in a row of operations whose order is forced: the head is walked in one order, where S holds behind each of its operations. -/
import Derived.OrdersHeld
import Derived.StillTail
import Derived.RegionTactic
namespace Go.Proofs.YtoglddndicmelaaGreatB
open Go

section
variable {P : Program} {ops : Array Oper} {Q : Exit → Act → World → Prop} {md : Region.Mode} {S : World → Prop} {n : Nat} {l : List Oper}

def wpHead (P : Program) (md : Region.Mode) (ops : Array Oper) (Q : Exit → Act → World → Prop) (S : World → Prop) (n : Nat) (l : List Oper) : Nat → Array Bool → Act → World → Prop
  | 0, listed, a, w => Region.seqB md ops l.length n listed = true ∧ wpList P ops Q l a w
  | fuel + 1, listed, a, w => Region.ready md ops listed ≠ [] ∧
    ∀ i ∈ Region.ready md ops listed, wpOp P ops Q i (fun a' w' => S w' ∧ wpHead P md ops Q S n l fuel (listed.setIfInBounds i true) a' w') a w

theorem wpAny_of_head (hl : ∀ j, l[j]? = ops[n + j]?) : ∀ (fuel : Nat) (listed : Array Bool) (a : Act) (w : World), wpHead P md ops Q S n l fuel listed a w → wpAny P md ops Q (fuel + l.length) listed a w
  | 0, listed, a, w, h => by rw [Nat.zero_add]; exact wpAny_of_seq l n listed a w hl h.1 h.2
  | fuel + 1, listed, a, w, h => by
    rw [show fuel + 1 + l.length = (fuel + l.length) + 1 by omega]
    exact ⟨fun h0 => absurd h0 h.1, fun i hi => wpOp_mono (fun a' w' h' => wpAny_of_head hl fuel _ a' w' h'.2) (h.2 i hi)⟩

theorem wpHead_first {i : Nat} {oi : Oper} {v : Value} (hi : ops[i]? = some oi) (hsel : ∀ (j : Nat) (o : Oper) cs b, ops[j]? = some o → o.op ≠ .select cs b)
    (hQ : ∀ c a w, Q (.panic c) (a.put oi.dst v) w → Q (.panic c) a w) (hl0 : l ≠ []) (hin : i ≠ n) (hwait : Region.waitsFor md ops n i = true) :
    ∀ (fuel : Nat) (listed : Array Bool) (a : Act) (w : World),
      (∀ j oj, ops[j]? = some oj → j ≠ i → listed.getD j true = false → (∀ e ∈ oj.after, Region.binds md e = true → e.on ≠ i) → oi.apart ops oj = true) →
      i ∈ Region.ready md ops listed → YieldsIf P ops S oi v a → S w →
      wpHead P md ops Q S n l fuel (listed.setIfInBounds i true) (a.put oi.dst v) w → wpHead P md ops Q S n l (fuel + 1) listed a w := by
  intro fuel
  induction fuel with
  | zero =>
    intro listed a w _ hr hy hS H
    refine ⟨fun h => (by rw [h] at hr; cases hr), fun j hj => ?_⟩
    by_cases hji : j = i
    · subst hji; exact hy.wpOp hi hS ⟨hS, H⟩
    · exfalso
      have h1 := ready_mono hj hji
      have h2 := H.1
      obtain ⟨o, l', rfl⟩ : ∃ o l', l = o :: l' := by cases l with | nil => exact absurd rfl hl0 | cons o l' => exact ⟨o, l', rfl⟩
      simp only [List.length_cons, Region.seqB, Bool.and_eq_true, decide_eq_true_eq] at h2
      rw [h2.1] at h1
      have hjn : j = n := by simpa using h1
      subst hjn
      obtain ⟨oj, hoj, e, he, hb, heq⟩ := Region.waitsFor_spec hwait
      obtain ⟨_, oj', hoj', hall⟩ := mem_ready.1 hj
      rw [hoj] at hoj'; cases hoj'
      have h3 := hall e he hb
      have h0 := (mem_ready.1 hr).1
      rw [heq] at h3
      rcases Nat.lt_or_ge i listed.size with h' | h'
      · simp [h'] at h0 h3; rw [h0] at h3; cases h3
      · simp [Array.getElem?_eq_none h'] at h3
  | succ fuel ih =>
    intro listed a w hfree hr hy hS H
    refine ⟨fun h => (by rw [h] at hr; cases hr), fun j hj => ?_⟩
    by_cases hji : j = i
    · subst hji; exact hy.wpOp hi hS ⟨hS, H⟩
    · have h1 := H.2 j (ready_mono hj hji)
      obtain ⟨hjun, oj, hoj, hall⟩ := mem_ready.1 hj
      have hnot : ∀ e ∈ oj.after, Region.binds md e = true → e.on ≠ i := fun e he hb heq => by
        have h1 := hall e he hb
        have h0 := (mem_ready.1 hr).1
        rw [heq] at h1
        rcases Nat.lt_or_ge i listed.size with h' | h'
        · simp [h'] at h0 h1; rw [h0] at h1; cases h1
        · simp [Array.getElem?_eq_none h'] at h1
      have h2 := wpOp_putIf hoj (hfree j oj hoj hji hjun hnot) (fun cs b => hsel i oi cs b hi) (fun cs b => hsel j oj cs b hoj) hQ hy h1
      have hfree' : ∀ k ok, ops[k]? = some ok → k ≠ i → (listed.setIfInBounds j true).getD k true = false →
          (∀ e ∈ ok.after, Region.binds md e = true → e.on ≠ i) → oi.apart ops ok = true := fun k ok hk hki hun hno => by
        refine hfree k ok hk hki ?_ hno
        by_cases hjk : j = k
        · subst hjk; exact hjun
        · rw [getD_set_ne true hjk] at hun; exact hun
      refine wpOp_mono (fun a' w' h3 => ⟨h3.2.1, ih (listed.setIfInBounds j true) a' w' hfree' (ready_mono hr (Ne.symm hji)) h3.1 h3.2.1 ?_⟩) h2
      rw [Array.setIfInBounds_comm _ _ hji]
      exact h3.2.2

/-- the checks of a take, in one -/
def takeB (md : Region.Mode) (ops : Array Oper) (n : Nat) (l : List Oper) (listed : Array Bool) (i : Nat) : Bool :=
  Region.noSelect ops && Region.free md ops listed i && (Region.ready md ops listed).contains i && !l.isEmpty && decide (i ≠ n) && Region.waitsFor md ops n i

theorem wpHead_take {i : Nat} {oi : Oper} {v : Value} {fuel : Nat} {listed : Array Bool} {a : Act} {w : World} (hi : ops[i]? = some oi)
    (hb : takeB md ops n l listed i = true)
    (hQ : ∀ c a w, Q (.panic c) (a.put oi.dst v) w → Q (.panic c) a w) (hw : Region.wanted oi (yielded ops a.tmps) = true) (hy : ∀ w, S w → (execOp a.eval oi).run P w = .ok (.value v) w) (hS : S w)
    (h : wpHead P md ops Q S n l fuel (listed.setIfInBounds i true) (a.put oi.dst v) w) : wpHead P md ops Q S n l (fuel + 1) listed a w := by
  simp only [takeB, Bool.and_eq_true, decide_eq_true_eq, Bool.not_eq_true', List.isEmpty_eq_false_iff] at hb
  obtain ⟨⟨⟨⟨⟨hs, hf⟩, hr⟩, hl⟩, hin⟩, hwt⟩ := hb
  exact wpHead_first hi (Region.noSelect_spec hs) hQ hl hin hwt fuel listed a w (Region.free_spec hi hf) (by simpa using hr) (.inl ⟨hw, hy⟩) hS h

/-- one that its guard passes over -/
theorem wpHead_skip {i : Nat} {oi : Oper} {fuel : Nat} {listed : Array Bool} {a : Act} {w : World} (hi : ops[i]? = some oi)
    (hb : takeB md ops n l listed i = true)
    (hQ : ∀ c a w, Q (.panic c) (a.put oi.dst undef) w → Q (.panic c) a w) (hw : Region.wanted oi (yielded ops a.tmps) = false) (hS : S w)
    (h : wpHead P md ops Q S n l fuel (listed.setIfInBounds i true) (a.put oi.dst undef) w) : wpHead P md ops Q S n l (fuel + 1) listed a w := by
  simp only [takeB, Bool.and_eq_true, decide_eq_true_eq, Bool.not_eq_true', List.isEmpty_eq_false_iff] at hb
  obtain ⟨⟨⟨⟨⟨hs, hf⟩, hr⟩, hl⟩, hin⟩, hwt⟩ := hb
  exact wpHead_first hi (Region.noSelect_spec hs) hQ hl hin hwt fuel listed a w (Region.free_spec hi hf) (by simpa using hr) (.inr ⟨hw, rfl⟩) hS h

/-- the one that comes up -/
theorem wpHead_one {i : Nat} {oi : Oper} {fuel : Nat} {listed : Array Bool} {a : Act} {w : World} (hi : ops[i]? = some oi) (hr : Region.ready md ops listed = [i])
    (h : ∀ K : Act → World → Prop, (∀ a' w', S w' → wpHead P md ops Q S n l fuel (listed.setIfInBounds i true) a' w' → K a' w') → if Region.wanted oi (yielded ops a.tmps) = true then Oper.wp P oi a w K Q else K (a.put oi.dst undef) w) :
    wpHead P md ops Q S n l (fuel + 1) listed a w := by
  refine ⟨by rw [hr]; simp, fun j hj => ?_⟩
  rw [hr] at hj
  have : j = i := by simpa using hj
  subst this
  unfold wpOp
  simp only [hi]
  have h2 := h (fun a' w' => S w' ∧ wpHead P md ops Q S n l fuel (listed.setIfInBounds j true) a' w') (fun a' w' hs hh => ⟨hs, hh⟩)
  split
  · rename_i hw; rw [if_pos hw] at h2; exact .inl h2
  · rename_i hw; rw [if_neg hw] at h2; exact h2

theorem wpHead_tail {listed : Array Bool} {a : Act} {w : World} (hs : Region.seqB md ops l.length n listed = true) (h : wpList P ops Q l a w) : wpHead P md ops Q S n l 0 listed a w := ⟨hs, h⟩

theorem wpHead_do {l0 : List Oper} (i : Nat) {oi : Oper} {fuel : Nat} {listed : Array Bool} {a : Act} {w : World} (hi : l0[i]? = some oi)
    (hb : takeB md l0.toArray n l listed i = true)
    (hQ : ∀ c a v w, Q (.panic c) (a.put oi.dst v) w → Q (.panic c) a w) (hw : Region.wanted oi (yielded l0.toArray a.tmps) = true) (hS : S w)
    (h : ∃ v, (∀ w, S w → (execOp a.eval oi).run P w = .ok (.value v) w) ∧ wpHead P md l0.toArray Q S n l fuel (listed.setIfInBounds i true) (a.put oi.dst v) w) : wpHead P md l0.toArray Q S n l (fuel + 1) listed a w := by
  obtain ⟨v, hy, h⟩ := h
  exact wpHead_take (by simpa using hi) hb (fun c a w => hQ c a v w) hw hy hS h
theorem wpHead_pass {l0 : List Oper} (i : Nat) {oi : Oper} {fuel : Nat} {listed : Array Bool} {a : Act} {w : World} (hi : l0[i]? = some oi)
    (hb : takeB md l0.toArray n l listed i = true)
    (hQ : ∀ c a v w, Q (.panic c) (a.put oi.dst v) w → Q (.panic c) a w) (hw : Region.wanted oi (yielded l0.toArray a.tmps) = false) (hS : S w)
    (h : wpHead P md l0.toArray Q S n l fuel (listed.setIfInBounds i true) (a.put oi.dst undef) w) : wpHead P md l0.toArray Q S n l (fuel + 1) listed a w :=
  wpHead_skip (by simpa using hi) hb (fun c a w => hQ c a undef w) hw hS h
theorem wpHead_eff {l0 : List Oper} (i : Nat) {oi : Oper} {fuel : Nat} {listed : Array Bool} {a : Act} {w : World} (hi : l0[i]? = some oi) (hr : Region.ready md l0.toArray listed = [i]) (hw : Region.wanted oi (yielded l0.toArray a.tmps) = true)
    (h : ∀ K : Act → World → Prop, (∀ a' w', S w' → wpHead P md l0.toArray Q S n l fuel (listed.setIfInBounds i true) a' w' → K a' w') → Oper.wp P oi a w K Q) :
    wpHead P md l0.toArray Q S n l (fuel + 1) listed a w :=
  wpHead_one (by simpa using hi) hr (fun K hK => by rw [if_pos hw]; exact h K hK)
theorem wp_region_head {id : Nat} {l0 : List Oper} {a : Act} {w : World} (S : World → Prop) (n : Nat) (hm : P.follows .mixedOrders = true) (hn : n ≤ l0.length)
    (h : wpHead P .any l0.toArray Q S n (l0.drop n) n (Array.replicate l0.length false) a w.drew) : (Code.region id l0.toArray true).wp P Q a w := by
  refine wp_region_any hm ?_
  have := wpAny_of_head (ops := l0.toArray) (l := l0.drop n) (n := n) (fun j => by simp [List.getElem?_drop]) n _ a w.drew h
  rw [List.length_drop, show n + (l0.length - n) = l0.length by omega] at this
  simpa using this
end
end Go.Proofs.YtoglddndicmelaaGreatB
