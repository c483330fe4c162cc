/- Layer 54, the law's side: the program's list and the document's, side by side. Layer 54, the law's side: what an act does (plain). -/
import Derived.Test.YtoglddndicmelaaGreatLawC
import Derived.Test.YtoglddndicmelaaGreatRlH
import Derived.Test.YtoglddndicmelaaGreatTruOpen
namespace Go.Proofs.YtoglddndicmelaaGreat.Tr
open Go.RowKit Go.Proofs.YtoglddndicmelaaGreatB Go.Proofs.YtoglddndicmelaaGreat
set_option maxRecDepth 100000

/-- the program's list stands at s, the document's at t, both made since w0 -/
structure At2 (w0 w : World) (L : LstP) (D : RLstP) (s t : TS) : Prop where
  l : LstAt w L s
  d : RLstAt w D t
  fl : Fr w0.heap.size L.F
  fd : Fr w0.heap.size D.G
  rl : ∀ b, Bl D.P.R b → b < w0.heap.size
  dj : Dj L.F D.G
  x : Ex0 w0 w
theorem ty_lt {w : World} {b : Nat} {T : TypeId} (h : Ty w b T) : b < w.heap.size := by
  obtain ⟨cs, fr, h⟩ := h
  exact (Array.getElem?_eq_some_iff.1 h).1
theorem RLstAt.inG {w : World} {D : RLstP} {s : TS} (h : RLstAt w D s) : In w D.G := fun b hb => hb.elim (h.mlt b) (fun hb => (h.ap b (.inl hb)).2)
theorem LstAt.inF {w : World} {L : LstP} {s : TS} (h : LstAt w L s) : In w L.F := fun b hb => by
  obtain ⟨_, h2⟩ := h.tys
  obtain ⟨h3, h4, h5, h6, h7⟩ := h.law.tys
  rcases hb with hb | hb | hb | hb | hb | hb | hb
  · subst hb; exact h.lt
  · exact (h.ws.lt b hb).2
  · subst hb; exact ty_lt h3
  · exact ty_lt (h4 b hb)
  · subst hb; exact ty_lt h5
  · exact ty_lt (h6 b hb)
  · subst hb; exact ty_lt h7
theorem At2.ex0 {w0 w w' : World} {L : LstP} {D : RLstP} {s t : TS} (h : At2 w0 w L D s t) (hx : Ex0 w w') : At2 w0 w' L D s t :=
  ⟨h.l.ex0 hx, h.d.ex0 hx, h.fl, h.fd, h.rl, h.dj, h.x.trans0 hx⟩
theorem At2.left {w0 w w' : World} {L : LstP} {D : RLstP} {s t s' : TS} (h : At2 w0 w L D s t) (k : OpP L s' w w') : ∃ L', L'.p = L.p ∧ At2 w0 w' L' D s' t := by
  obtain ⟨L', e, h1, hx, hn⟩ := k
  refine ⟨L', e, h1, h.d.ex hx (fun b hb hf => h.dj b hf hb) (fun b hb hf => by have := h.fl b hf; have := h.rl b hb; omega), h.fl.step hn h.x.size, h.fd, h.rl, h.dj.step hn h.d.inG, ?_⟩
  exact h.x.trans hx (fun _ _ h => h) (fun i hi hb => by have := h.fl i hb; omega)
theorem At2.right {w0 w w' : World} {L : LstP} {D : RLstP} {s t t' : TS} (h : At2 w0 w L D s t) (k : ROpP D t' w w') : ∃ D', D'.p = D.p ∧ At2 w0 w' L D' s t' := by
  obtain ⟨D', e, h1, hx, hn, hR, _⟩ := k
  obtain ⟨t1, t2, t3⟩ := h.d.tys
  have hnc : NoCal w D.M := fun b hb => by
    rcases hb with hb | hb | hb
    · subst hb; exact NoCal.of t1 (by decide) (by decide)
    · subst hb; exact NoCal.of t2 (by decide) (by decide)
    · subst hb; exact NoCal.of t3 (by decide) (by decide)
  refine ⟨D', e, h.l.ex hx hnc (fun b hb hm => h.dj b hb (.inl hm)), h1, h.fl, h.fd.step hn h.x.size, by rw [hR]; exact h.rl, h.dj.step' hn h.l.inF, ?_⟩
  exact h.x.trans hx (fun _ _ h => h) (fun i hi hb => by have := h.fd i (.inl hb); omega)
/-- a number that lies by so much below the last one, or 0 -/
def belowN (t a : Int) : Int := if t < a then 0 else t - a
theorem below_any (t : Int) (a : Nat) (ha : a < 256) (ht : 0 ≤ t ∧ t ≤ 65535) (w : World) :
    Calls Tryz.prog 24 #[.int .u64 t, .int .u8 a] w fun e w' => e = .returned (.int .u64 (belowN t a)) ∧ w' = w := by
  have hc : IntKind.u64.wrap (a : Int) = a := by rw [IntKind.wrap_u64]; omega
  have hs : ¬ t < (a : Int) → IntKind.u64.wrap (t - a) = t - a := fun h => by rw [IntKind.wrap_u64]; omega
  by_cases h : t < (a : Int)
  · have HE : Hid (belowN t a = 0) := if_pos h
    go_enter Tryz.func24, Tryz.ntmps24
    go_wp2
    go_ret
    exact ⟨ret_int HE.out.symm, rfl⟩
  · have HE : Hid (belowN t a = t - a) := if_neg h
    have hs' := hs h
    clear hs
    go_enter Tryz.func24, Tryz.ntmps24
    go_wp2
    go_ret
    exact ⟨ret_int HE.out.symm, rfl⟩
end Go.Proofs.YtoglddndicmelaaGreat.Tr

namespace Go.Proofs.YtoglddndicmelaaGreat.Tr
open Go.RowKit Go.Proofs.YtoglddndicmelaaGreatB Go.Proofs.YtoglddndicmelaaGreat
set_option maxRecDepth 100000

/-- what an act writes -/
def dataA (y : Nat) : List Nat := y :: 1 :: List.replicate 30 0
theorem dataA_ok {y : Nat} (h : y < 256) : (dataA y).length = 32 ∧ ∀ z ∈ dataA y, z < 256 := by
  refine ⟨rfl, fun z hz => ?_⟩
  unfold dataA at hz
  simp only [List.mem_cons, List.mem_replicate] at hz
  omega
/-- what an act does to a list -/
def stepA (s : TS) (x : ActT) : TS :=
  if x.d % 10 = 3 then s.tick (s.now + x.a - 1)
  else if x.d % 10 = 4 then s.mark
  else if x.d % 10 = 5 then s.fork (x.br % 5 : Nat) (belowN s.top x.a)
  else if x.d % 10 = 6 then s.drop (x.br % 5 : Nat)
  else if x.d % 10 = 7 then s.hold x.a x.b (s.now + x.c)
  else if x.d % 10 = 8 then s.lift (belowN s.top x.a)
  else if x.d % 10 = 9 then s.skip (s.top + x.a)
  else s.write (x.br % 5 : Nat) (x.vol % 3 : Nat) (x.blk % 3 : Nat) (dataA x.y)
theorem inv_stepA {s : TS} (h : Inv s) (hlen : s.tab.length ≤ 900) (x : ActT) (hx : x.Ok) : Inv (stepA s x) := by
  unfold stepA
  split
  · exact inv_tick h _
  split
  · exact inv_mark h
  split
  · exact inv_fork h _ _
  split
  · exact inv_drop h _
  split
  · exact inv_hold h _ _ _
  split
  · exact inv_lift h _
  split
  · exact inv_skip h _
  · exact inv_write h hlen _ _ _ _ (dataA_ok hx.y)
theorem len_rel (s : TS) : s.rel.tab.length = s.tab.length := by unfold TS.rel; simp
theorem len_stepA (s : TS) (x : ActT) : (stepA s x).tab.length ≤ s.tab.length + 1 := by
  unfold stepA
  split
  · unfold TS.tick; split <;> simp
  split
  · unfold TS.mark; split <;> simp
  split
  · unfold TS.fork; split <;> simp
  split
  · unfold TS.drop; split <;> simp
  split
  · unfold TS.hold
    split
    · show s.rel.tab.length ≤ _; rw [len_rel]; omega
    · rw [len_rel]; omega
  split
  · unfold TS.lift; split <;> simp
  split
  · unfold TS.skip; split <;> simp
  · unfold TS.write; split <;> simp
/-- what a row of acts does -/
def playA (s : TS) (xs : List ActT) : TS := xs.foldl stepA s
theorem play_ok {s : TS} (h : Inv s) (xs : List ActT) (hx : ∀ x ∈ xs, x.Ok) : s.tab.length + xs.length ≤ 900 → Inv (playA s xs) ∧ (playA s xs).tab.length ≤ s.tab.length + xs.length := by
  induction xs generalizing s with
  | nil => intro _; exact ⟨h, Nat.le_refl _⟩
  | cons x l ih =>
    intro hl
    rw [List.length_cons] at hl
    have h1 := len_stepA s x
    obtain ⟨h2, h3⟩ := ih (inv_stepA h (by omega) x (hx x (List.mem_cons_self ..))) (fun y hy => hx y (List.mem_cons_of_mem _ hy)) (by omega)
    refine ⟨h2, ?_⟩
    rw [List.length_cons]
    show (playA (stepA s x) l).tab.length ≤ _
    omega
theorem play_snoc (s : TS) (xs : List ActT) (j : Nat) (hj : j < xs.length) : playA s (xs.take (j + 1)) = stepA (playA s (xs.take j)) xs[j] := by
  unfold playA
  rw [List.take_succ_eq_append_getElem hj, List.foldl_append]; rfl
/-- what acts leave as it is, and how far the numbers go -/
theorem step_dims (s : TS) (x : ActT) (hx : x.Ok) (_ : 0 ≤ s.top) : (stepA s x).vols = s.vols ∧ (stepA s x).blocks = s.blocks ∧ (stepA s x).rules = s.rules ∧ (stepA s x).top ≤ s.top + 255 := by
  have ha := hx.a
  unfold stepA
  split
  · unfold TS.tick; split
    · exact ⟨rfl, rfl, rfl, by dsimp only; omega⟩
    · exact ⟨rfl, rfl, rfl, by omega⟩
  split
  · unfold TS.mark; split
    · exact ⟨rfl, rfl, rfl, by omega⟩
    · exact ⟨rfl, rfl, rfl, by dsimp only; omega⟩
  split
  · unfold TS.fork; split
    · exact ⟨rfl, rfl, rfl, by dsimp only; omega⟩
    · exact ⟨rfl, rfl, rfl, by omega⟩
  split
  · unfold TS.drop; split
    · exact ⟨rfl, rfl, rfl, by dsimp only; omega⟩
    · exact ⟨rfl, rfl, rfl, by omega⟩
  split
  · unfold TS.hold; split
    · exact ⟨rfl, rfl, rfl, by dsimp only; omega⟩
    · exact ⟨rfl, rfl, rfl, by show s.top ≤ _; omega⟩
  split
  · unfold TS.lift; split
    · exact ⟨rfl, rfl, rfl, by dsimp only; omega⟩
    · exact ⟨rfl, rfl, rfl, by omega⟩
  split
  · unfold TS.skip; split
    · exact ⟨rfl, rfl, rfl, by dsimp only; omega⟩
    · exact ⟨rfl, rfl, rfl, by omega⟩
  · unfold TS.write; split
    · exact ⟨rfl, rfl, rfl, by dsimp only; omega⟩
    · exact ⟨rfl, rfl, rfl, by omega⟩
theorem play_dims {s : TS} (h : Inv s) (xs : List ActT) (hx : ∀ x ∈ xs, x.Ok) : s.tab.length + xs.length ≤ 900 → (playA s xs).vols = s.vols ∧ (playA s xs).blocks = s.blocks ∧ (playA s xs).rules = s.rules ∧ (playA s xs).top ≤ s.top + 255 * xs.length := by
  induction xs generalizing s with
  | nil => intro _; exact ⟨rfl, rfl, rfl, by simp [playA]⟩
  | cons x l ih =>
    intro hl
    rw [List.length_cons] at hl
    have h1 := len_stepA s x
    have hx0 := hx x (List.mem_cons_self ..)
    obtain ⟨d1, d2, d3, d4⟩ := step_dims s x hx0 h.top.1
    obtain ⟨h2, h3, h4, h5⟩ := ih (inv_stepA h (by omega) x hx0) (fun y hy => hx y (List.mem_cons_of_mem _ hy)) (by omega)
    have e : playA s (x :: l) = playA (stepA s x) l := rfl
    rw [e, List.length_cons]
    exact ⟨h2.trans d1, h3.trans d2, h4.trans d3, by push_cast; omega⟩
end Go.Proofs.YtoglddndicmelaaGreat.Tr
