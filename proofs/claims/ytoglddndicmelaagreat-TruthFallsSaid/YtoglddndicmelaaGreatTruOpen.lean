/- Layer 54: how the laws' arguments read. -/
import Derived.Test.YtoglddndicmelaaGreatRows
import Derived.WalkKit
import Derived.ProofKit
import Derived.SizedLaws
import Derived.Test.YtoglddndicmelaaGreatB5
import Derived.Test.YtoglddndicmelaaGreatTru0
namespace Go.Proofs.YtoglddndicmelaaGreat
open Go.ChangeShapes Go.WideShapes Go.ChangeAt Go.RowKit Go.Deep Go.Proofs.YtoglddndicmelaaGreatB
open Go.Joins
set_option maxRecDepth 100000

theorem own : ownKnob Tryz.prog.godebug = none := by kernel_rfl
theorem laidOut : laidOutB Tryz.prog = true := by kernel_rfl
/-- what is done -/
structure ActT where
  (d br vol blk a b c y : Nat)
def ActT.cells (x : ActT) : List Value := [.int .u8 x.d, .int .u8 x.br, .int .u8 x.vol, .int .u8 x.blk, .int .u8 x.a, .int .u8 x.b, .int .u8 x.c, .int .u8 x.y]
theorem ActT.len (x : ActT) : x.cells.length = 8 := rfl
structure ActT.Ok (x : ActT) : Prop where
  d : x.d < 256
  br : x.br < 256
  vol : x.vol < 256
  blk : x.blk < 256
  a : x.a < 256
  b : x.b < 256
  c : x.c < 256
  y : x.y < 256
/-- a setup that is an argument -/
structure SetupV (w : World) where
  C : Array Value
  (vols blocks : Int)
  A : Option Addr
  (n cap : Nat)
  rs : List Tr.Rul
  hC : C.size = 38
  h2 : C[2]? = some (.int .i64 vols)
  h3 : C[3]? = some (.int .i64 blocks)
  h36 : C[36]? = some (.slice A n cap)
  hn : rs.length = n
  hs : Sl w 3 A n (rs.flatMap Tr.Rul.cells)

section
variable {H : Type} {enc : TypeId × Value → H} {w : World} {base : Nat} {spare : Nat → Bool} {held : Bool}
theorem open_u8 (n : Nat) (cs : List Value) (x : DataW H × List MemPlace) (h : DataW.trod enc Tryz.prog w base spare held n 5 cs = some x) : ∃ a : Nat, a < 256 ∧ cs = [.int .u8 a] := by
  obtain ⟨a, e, _, hw⟩ := DataW.trod_int Tryz.underlying5 h
  simp [Lit.wf, IntKind.min, IntKind.max, IntKind.signed, IntKind.bits] at hw
  refine ⟨a.toNat, by omega, ?_⟩
  rw [e, Int.toNat_of_nonneg (by omega)]
theorem open_rule (n : Nat) (cs : List Value) (x : DataW H × List MemPlace) (h : DataW.trod enc Tryz.prog w base spare held n 112 cs = some x) : ∃ a : Tr.Rul, True ∧ cs = a.cells := by
  obtain ⟨y0, y1, y2, m, rfl, hl, h0, h1, h2⟩ := trod_struct3 Tryz.underlying112 h
  have hl3 : cs.length = 3 := by rw [hl]; kernel_rfl
  match cs, hl3 with
  | [c0, c1, c2], _ =>
    obtain ⟨a0, e0, _, _⟩ := DataW.trod_int Tryz.underlying3 h0
    obtain ⟨a1, e1, _, _⟩ := DataW.trod_int Tryz.underlying3 h1
    obtain ⟨a2, e2, _, _⟩ := DataW.trod_int Tryz.underlying3 h2
    have k1 : Tryz.prog.cellsOf 3 = 1 := by kernel_rfl
    simp [k1] at e0
    simp [k1] at e1
    simp [k1] at e2
    subst e0; subst e1; subst e2
    exact ⟨⟨a0, a1, a2⟩, trivial, rfl⟩
/-- rules -/
theorem open_rules {fuel : Nat} {cs : List Value} {x : DataW H × List MemPlace} (h : DataW.trod enc Tryz.prog w base spare held fuel 24 cs = some x) :
    ∃ (A : Option Addr) (n cap : Nat) (l : List Tr.Rul), cs = [.slice A n cap] ∧ l.length = n ∧ Sl w 3 A n (l.flatMap Tr.Rul.cells) := by
  obtain ⟨A, n, cap, l, h1, _, h2, h3⟩ := open_rows Tr.Rul.cells 3 Tr.Rul.length (by decide) (fun _ => True) Tryz.underlying24 (by kernel_rfl) open_rule h
  exact ⟨A, n, cap, l, h1, h2, h3⟩
set_option maxRecDepth 100000 in
theorem open_act (n : Nat) (cs : List Value) (x : DataW H × List MemPlace) (h : DataW.trod enc Tryz.prog w base spare held n 57 cs = some x) : ∃ a : ActT, a.Ok ∧ cs = a.cells := by
  obtain ⟨xs, m, _, rfl, hl, hlen, hf⟩ := DataW.trod_struct Tryz.underlying57 h
  have hl8 : cs.length = 8 := by rw [hl]; kernel_rfl
  have hlen' : xs.length = 8 := by first | exact hlen | (rw [hlen]; rfl)
  match xs, hlen', cs, hl8 with
  | [y0, y1, y2, y3, y4, y5, y6, y7], _, [c0, c1, c2, c3, c4, c5, c6, c7], _ =>
    have k1 : Tryz.prog.cellsOf 5 = 1 := by kernel_rfl
    obtain ⟨a0, q0, e0⟩ := open_u8 _ _ _ (show DataW.trod enc Tryz.prog w base spare held m 5 (([c0, c1, c2, c3, c4, c5, c6, c7].drop 0).take (Tryz.prog.cellsOf 5)) = some y0 from hf 0 _ rfl)
    obtain ⟨a1, q1, e1⟩ := open_u8 _ _ _ (show DataW.trod enc Tryz.prog w base spare held m 5 (([c0, c1, c2, c3, c4, c5, c6, c7].drop 1).take (Tryz.prog.cellsOf 5)) = some y1 from hf 1 _ rfl)
    obtain ⟨a2, q2, e2⟩ := open_u8 _ _ _ (show DataW.trod enc Tryz.prog w base spare held m 5 (([c0, c1, c2, c3, c4, c5, c6, c7].drop 2).take (Tryz.prog.cellsOf 5)) = some y2 from hf 2 _ rfl)
    obtain ⟨a3, q3, e3⟩ := open_u8 _ _ _ (show DataW.trod enc Tryz.prog w base spare held m 5 (([c0, c1, c2, c3, c4, c5, c6, c7].drop 3).take (Tryz.prog.cellsOf 5)) = some y3 from hf 3 _ rfl)
    obtain ⟨a4, q4, e4⟩ := open_u8 _ _ _ (show DataW.trod enc Tryz.prog w base spare held m 5 (([c0, c1, c2, c3, c4, c5, c6, c7].drop 4).take (Tryz.prog.cellsOf 5)) = some y4 from hf 4 _ rfl)
    obtain ⟨a5, q5, e5⟩ := open_u8 _ _ _ (show DataW.trod enc Tryz.prog w base spare held m 5 (([c0, c1, c2, c3, c4, c5, c6, c7].drop 5).take (Tryz.prog.cellsOf 5)) = some y5 from hf 5 _ rfl)
    obtain ⟨a6, q6, e6⟩ := open_u8 _ _ _ (show DataW.trod enc Tryz.prog w base spare held m 5 (([c0, c1, c2, c3, c4, c5, c6, c7].drop 6).take (Tryz.prog.cellsOf 5)) = some y6 from hf 6 _ rfl)
    obtain ⟨a7, q7, e7⟩ := open_u8 _ _ _ (show DataW.trod enc Tryz.prog w base spare held m 5 (([c0, c1, c2, c3, c4, c5, c6, c7].drop 7).take (Tryz.prog.cellsOf 5)) = some y7 from hf 7 _ rfl)
    rw [k1] at e0 e1 e2 e3 e4 e5 e6 e7
    simp only [List.drop_zero, List.drop_succ_cons, List.take_succ_cons, List.take_zero, List.cons.injEq, and_true] at e0 e1 e2 e3 e4 e5 e6 e7
    subst e0; subst e1; subst e2; subst e3; subst e4; subst e5; subst e6; subst e7
    exact ⟨⟨a0, a1, a2, a3, a4, a5, a6, a7⟩, ⟨q0, q1, q2, q3, q4, q5, q6, q7⟩, rfl⟩
/-- acts -/
theorem open_acts {fuel : Nat} {cs : List Value} {x : DataW H × List MemPlace} (h : DataW.trod enc Tryz.prog w base spare held fuel 35 cs = some x) :
    ∃ (A : Option Addr) (n cap : Nat) (l : List ActT), cs = [.slice A n cap] ∧ l.length = n ∧ ((∀ y ∈ l, y.Ok) ∧ Sl w 8 A n (l.flatMap ActT.cells)) := by
  obtain ⟨A, n, cap, l, h1, h4, h2, h3⟩ := open_rows ActT.cells 8 ActT.len (by decide) ActT.Ok Tryz.underlying35 (by kernel_rfl) open_act h
  exact ⟨A, n, cap, l, h1, h2, h4, h3⟩
theorem open_act_val {r : Reach} {b0 fuel : Nat} {v : Value} {x : DataW H × List MemPlace}
    (hval : Value.okWide Tryz.prog w r b0 57 v) (h : DataW.trod enc Tryz.prog w base spare held fuel 57 v.cells.toList = some x) : ∃ l : {a : ActT // a.Ok}, v = .agg l.1.cells.toArray := by
  obtain ⟨cs, rfl⟩ := open_agg Tryz.underlying57 hval
  obtain ⟨a, ha, e⟩ := open_act _ _ _ h
  refine ⟨⟨a, ha⟩, ?_⟩
  have : cs.toList = a.cells := e
  rw [← this]
/-- a write that is an argument: its cells -/
theorem open_wr_val {r : Reach} {b0 fuel : Nat} {v : Value} {x : DataW H × List MemPlace}
    (hval : Value.okWide Tryz.prog w r b0 63 v) (_ : DataW.trod enc Tryz.prog w base spare held fuel 63 v.cells.toList = some x) : ∃ l : {C : Array Value // C.size = 35}, v = .agg l.1 := by
  unfold Value.okWide at hval
  rw [Tryz.underlying63] at hval
  obtain ⟨cs, rfl, hs, _⟩ := hval
  have hk : Tryz.prog.cellsOf 63 = 35 := by kernel_rfl
  exact ⟨⟨cs, hs.trans hk⟩, rfl⟩
set_option maxRecDepth 100000 in
theorem open_setup_val {r : Reach} {b0 fuel : Nat} {v : Value} {x : DataW H × List MemPlace}
    (hval : Value.okWide Tryz.prog w r b0 26 v) (h : DataW.trod enc Tryz.prog w base spare held fuel 26 v.cells.toList = some x) : ∃ l : SetupV w, v = .agg l.C := by
  obtain ⟨cs, rfl⟩ := open_agg Tryz.underlying26 hval
  have e : (Value.agg cs).cells.toList = cs.toList := rfl
  rw [e] at h
  obtain ⟨xs, m, _, rfl, hl, hlen, hf⟩ := DataW.trod_struct Tryz.underlying26 h
  have hl' : cs.toList.length = 38 := by rw [hl]; kernel_rfl
  have hlen' : xs.length = 7 := by first | exact hlen | (rw [hlen]; rfl)
  match xs, hlen' with
  | [y0, y1, y2, y3, y4, y5, y6], _ =>
    have k1 : Tryz.prog.cellsOf 3 = 1 := by kernel_rfl
    have k3 : Tryz.prog.cellsOf 24 = 1 := by kernel_rfl
    obtain ⟨a2, e2, _, _⟩ := DataW.trod_int Tryz.underlying3 (show DataW.trod enc Tryz.prog w base spare held m 3 ((cs.toList.drop 2).take (Tryz.prog.cellsOf 3)) = some y2 from hf 2 _ rfl)
    obtain ⟨a3, e3, _, _⟩ := DataW.trod_int Tryz.underlying3 (show DataW.trod enc Tryz.prog w base spare held m 3 ((cs.toList.drop 3).take (Tryz.prog.cellsOf 3)) = some y3 from hf 3 _ rfl)
    obtain ⟨A, n, cap, rs, e5, hn, hs⟩ := open_rules (show DataW.trod enc Tryz.prog w base spare held m 24 ((cs.toList.drop 36).take (Tryz.prog.cellsOf 24)) = some y5 from hf 5 _ rfl)
    rw [k1] at e2 e3
    rw [k3] at e5
    have g : ∀ (i : Nat) (u : Value), (cs.toList.drop i).take 1 = [u] → cs[i]? = some u := fun i u h => by
      have h2 : ((cs.toList.drop i).take 1)[0]? = some u := by rw [h]; rfl
      rw [List.getElem?_take, if_pos (by decide), List.getElem?_drop, Nat.add_zero] at h2
      simpa using h2
    exact ⟨⟨cs, a2, a3, A, n, cap, rs, by simpa using hl', g _ _ e2, g _ _ e3, g _ _ e5, hn, hs⟩, rfl⟩
end
end Go.Proofs.YtoglddndicmelaaGreat
