/- Layer 54, the law's side: blocks that are compared. -/
import Derived.Test.YtoglddndicmelaaGreatLwA
namespace Go.Proofs.YtoglddndicmelaaGreat.Tr
open Go.RowKit Go.Proofs.YtoglddndicmelaaGreatB Go.Proofs.YtoglddndicmelaaGreat
set_option maxRecDepth 100000

theorem eql_blk (a b : List Nat) (ha : a.length = 32) (hb : b.length = 32) (w : World) : (Op.equalIn 10000 49 (.agg (encN 32 a).toArray) (.agg (encN 32 b).toArray)).run Tryz.prog w = .ok (decide (a = b)) w := by
  rw [encN_eq ha, encN_eq hb]
  exact run_eql_bytes (P := Tryz.prog) w 49 5 32 .u8 Tryz.underlying49 Tryz.underlying5 (by kernel_rfl) (fun w => by kernel_rfl) a b ha hb
theorem eqg_blk : Tryz.prog.eqGuardType Tryz.prog.depth 49 = false := by kernel_rfl
theorem shown_in {ws : List Wr} {vol blk : Int} : ∀ {l : List Stp} {x : Wr}, shownL ws vol blk l = some x → x ∈ ws := by
  intro l
  induction l with
  | nil => intro x h; cases h
  | cons st l ih =>
    intro x h
    unfold shownL at h
    cases hq : (ws.filter (onB vol blk st)).getLast? with
    | some y =>
      rw [hq] at h
      injection h with h
      subst h
      exact (List.mem_filter.1 (List.mem_of_getLast? hq)).1
    | none => rw [hq] at h; exact ih h
theorem readD_len {s : TS} (hI : Inv s) (id m vol blk : Int) : (s.readD id m vol blk).length = 32 := by
  unfold TS.readD
  split
  · cases hq : s.shown id m vol blk with
    | none => rfl
    | some x => exact (hI.wsd x (shown_in hq)).1
  · rfl
/-- a block's cells -/
def blkA (d : List Nat) : Array Value := (encN 32 d).toArray
theorem blkA_len (d : List Nat) : (blkA d).size = 32 := by unfold blkA; rw [List.size_toArray, encN_len]
theorem blkA_one (d : List Nat) : ∀ v ∈ blkA d, v.oneCell' = true := fun v hv => encN_one 32 d v (by simpa [blkA] using hv)
theorem eql_blkA (a b : List Nat) (ha : a.length = 32) (hb : b.length = 32) (w : World) : (Op.equalIn 10000 49 (.agg (blkA a)) (.agg (blkA b))).run Tryz.prog w = .ok (decide (a = b)) w := eql_blk a b ha hb w
/-- Read, the block's cells under a name -/
theorem treadA (L : LstP) (s : TS) (id m vol blk : Int) (w : World) (h : LstAt w L s) (hI : Inv s) (hlen : s.tab.length ≤ 900) :
    Calls Tryz.prog 21 #[.pointer (some ⟨L.p, 0, none⟩), .int .i64 id, .int .u64 m, .int .i64 vol, .int .i64 blk] w fun e w' => e = .returned (.tuple #[.agg (blkA (s.readD id m vol blk)), .int .i64 (s.readE id m vol blk)]) ∧ Ex0 w w' := tread_any L s id m vol blk w h hI hlen
def data5 (y : Nat) : List Nat := y :: 5 :: List.replicate 30 0
theorem data5_ok {y : Nat} (h : y < 256) : (data5 y).length = 32 ∧ ∀ z ∈ data5 y, z < 256 := by
  refine ⟨rfl, fun z hz => ?_⟩
  unfold data5 at hz
  simp only [List.mem_cons, List.mem_replicate] at hz
  omega
def dataB (y : Nat) : List Nat := y :: 2 :: List.replicate 30 0
theorem dataB_ok {y : Nat} (h : y < 256) : (dataB y).length = 32 ∧ ∀ z ∈ dataB y, z < 256 := by
  refine ⟨rfl, fun z hz => ?_⟩
  unfold dataB at hz
  simp only [List.mem_cons, List.mem_replicate] at hz
  omega
theorem wrC_one (p v b : Int) (d : List Nat) : ∀ q ∈ (wrC p v b d).toArray, q.oneCell' = true := fun q hq => by
  have hq' : q ∈ wrC p v b d := by simpa using hq
  unfold wrC at hq'
  simp only [List.mem_cons] at hq'
  rcases hq' with rfl | rfl | rfl | hq'
  · rfl
  · rfl
  · rfl
  · exact encN_one 32 _ q hq'
def d77 : List Nat := 77 :: List.replicate 31 0
theorem d77_ok : d77.length = 32 ∧ ∀ y ∈ d77, y < 256 := by decide +kernel
/-- a block of another type is none of the list's -/
theorem inF_not {w : World} {L : LstP} {s : TS} (h : LstAt w L s) {b : Nat} {T : TypeId} (hb : Ty w b T) (h1 : 126 ≠ T) (h2 : 139 ≠ T) (h3 : 171 ≠ T) (h4 : 199 ≠ T) (h5 : 174 ≠ T) (h6 : 203 ≠ T) (h7 : 159 ≠ T) : ¬ L.F b := fun hf => by
  obtain ⟨t1, t2⟩ := h.tys
  obtain ⟨t3, t4, t5, t6, t7⟩ := h.law.tys
  rcases hf with hf | hf | hf | hf | hf | hf | hf
  · subst hf; exact t1.ne hb h1 rfl
  · exact (t2 b hf).ne hb h2 rfl
  · subst hf; exact t3.ne hb h3 rfl
  · exact (t4 b hf).ne hb h4 rfl
  · subst hf; exact t5.ne hb h5 rfl
  · exact (t6 b hf).ne hb h6 rfl
  · subst hf; exact t7.ne hb h7 rfl
theorem u8_nat {a : Int} (h : (Lit.int .u8 a).wf = true) : ∃ q : Nat, a = q ∧ q < 256 := by
  simp only [Lit.wf, Bool.and_eq_true, decide_eq_true_eq] at h
  have h1 : (0 : Int) ≤ a := h.1
  have h2 : a ≤ 255 := h.2
  exact ⟨a.toNat, by omega, by omega⟩
/-- two lists of the program, and one of the document that stays -/
structure T3 (w0 w : World) (L M : LstP) (D : RLstP) (s t u : TS) : Prop where
  l : LstAt w L s
  m : LstAt w M t
  d : RLstAt w D u
  fl : Fr w0.heap.size L.F
  fm : Fr w0.heap.size M.F
  rl : ∀ b, Bl D.P.R b → b < w0.heap.size
  dj : Dj L.F M.F
  djl : Dj L.F D.G
  djm : Dj M.F D.G
  x : Ex0 w0 w
theorem T3.ex0 {w0 w w' : World} {L M : LstP} {D : RLstP} {s t u : TS} (h : T3 w0 w L M D s t u) (hx : Ex0 w w') : T3 w0 w' L M D s t u :=
  ⟨h.l.ex0 hx, h.m.ex0 hx, h.d.ex0 hx, h.fl, h.fm, h.rl, h.dj, h.djl, h.djm, h.x.trans0 hx⟩
theorem T3.symm {w0 w : World} {L M : LstP} {D : RLstP} {s t u : TS} (h : T3 w0 w L M D s t u) : T3 w0 w M L D t s u :=
  ⟨h.m, h.l, h.d, h.fm, h.fl, h.rl, h.dj.symm, h.djm, h.djl, h.x⟩
theorem T3.left {w0 w w' : World} {L M : LstP} {D : RLstP} {s t u s' : TS} (h : T3 w0 w L M D s t u) (k : OpP L s' w w') : ∃ L', L'.p = L.p ∧ T3 w0 w' L' M D s' t u := by
  obtain ⟨L', e, h1, hx, hn⟩ := k
  refine ⟨L', e, h1, h.m.ex hx h.l.nocal (fun b hb hf => h.dj b hf hb), h.d.ex hx (fun b hb hf => h.djl b hf hb) (fun b hb hf => by have := h.fl b hf; have := h.rl b hb; omega), h.fl.step hn h.x.size, h.fm, h.rl, h.dj.step hn h.m.inF, h.djl.step hn h.d.inG, h.djm, ?_⟩
  exact h.x.trans hx (fun _ _ h => h) (fun i hi hb => by have := h.fl i hb; omega)
theorem T3.right {w0 w w' : World} {L M : LstP} {D : RLstP} {s t u t' : TS} (h : T3 w0 w L M D s t u) (k : OpP M t' w w') : ∃ M', M'.p = M.p ∧ T3 w0 w' L M' D s t' u := by
  obtain ⟨M', e, h'⟩ := h.symm.left k
  exact ⟨M', e, h'.symm⟩
theorem At2.t3 {w1 w2 w3 : World} {L M : LstP} {D E : RLstP} {s t u v : TS} (h : At2 w1 w2 L D s u) (k : At2 w2 w3 M E t v) : T3 w1 w3 L M D s t u := by
  have hs := h.x.size
  refine ⟨h.l.ex0 k.x, k.l, h.d.ex0 k.x, h.fl, fun b hb => Nat.le_trans hs (k.fl b hb), h.rl, fun b hb hm => ?_, h.dj, fun b hm hg => ?_, h.x.trans0 k.x⟩
  · have := h.l.inF b hb; have := k.fl b hm; omega
  · have := h.d.inG b hg; have := k.fl b hm; omega
theorem T3.exN {w0 w w' : World} {L M : LstP} {D : RLstP} {s t u : TS} {b : Nat} (h : T3 w0 w L M D s t u) (hx : Ex (· = b) w w') (hb : w.heap.size ≤ b) : T3 w0 w' L M D s t u := by
  have hc : NoCal w (· = b) := fun c hc => by
    have hc' : c = b := hc
    subst hc'
    exact ⟨fun k => by have := ty_lt k; omega, fun k => by have := ty_lt k; omega⟩
  refine ⟨h.l.ex hx hc (fun c hf e => ?_), h.m.ex hx hc (fun c hf e => ?_), h.d.ex hx (fun c hf e => ?_) (fun c hf e => ?_), h.fl, h.fm, h.rl, h.dj, h.djl, h.djm, h.x.trans hx (fun _ _ h => h) (fun i hi e => ?_)⟩
  · have := h.l.inF c hf; have e' : c = b := e; omega
  · have := h.m.inF c hf; have e' : c = b := e; omega
  · have := h.d.inG c hf; have e' : c = b := e; omega
  · have := h.rl c hf; have := h.x.size; have e' : c = b := e; omega
  · have := h.x.size; have e' : i = b := e; omega
theorem own_keep {w w' : World} {L : LstP} {s : TS} {B n : Nat} {v : Value} {cs : List Value} (h : LstAt w L s) (hx : Ex L.F w w') (ho : w.ownsRow B 31 1 v n cs) : w'.ownsRow B 31 1 v n cs :=
  own_ex ho hx (fun b hb => inF_not h (own_ty ho hb) (by decide) (by decide) (by decide) (by decide) (by decide) (by decide) (by decide))
theorem own_at {w : World} {b : Nat} {e : TypeId} {sz : Nat} {A : Option Addr} {n c : Nat} {cs : List Value} (h : w.ownsRow b e sz (.slice A n c) n cs) : Sl w sz A n cs := by
  obtain ⟨A', c', e, h1, _⟩ := own_sl h
  cases e; exact h1
theorem wf64 {x : Int} (h : 0 ≤ x ∧ x ≤ 65535) : (Lit.int .u64 x).wf = true := by
  simp only [Lit.wf, Bool.and_eq_true, decide_eq_true_eq]
  have h1 : (IntKind.u64).min = 0 := rfl
  have h2 : (IntKind.u64).max = 18446744073709551615 := rfl
  rw [h1, h2]; omega
theorem all_rng {s : TS} (hI : Inv s) {x : Int} (hx : x ∈ s.all) : s.has x = true ∧ 1 ≤ x ∧ x ≤ 65535 := by
  have h : s.has x = true := by
    unfold TS.all at hx
    simp only [List.mem_map, List.mem_filter] at hx
    obtain ⟨y, ⟨_, h⟩, rfl⟩ := hx; exact h
  have := hI.has_rng h
  have := hI.top
  exact ⟨h, by omega, by omega⟩
theorem At2.exS {S : Nat → Prop} {w0 w w' : World} {L : LstP} {D : RLstP} {s t : TS} (h : At2 w0 w L D s t) (hx : Ex S w w') (hS : ∀ c, S c → w.heap.size ≤ c) : At2 w0 w' L D s t := by
  have hc : NoCal w S := fun c hc => ⟨fun k => by have := ty_lt k; have := hS c hc; omega, fun k => by have := ty_lt k; have := hS c hc; omega⟩
  refine ⟨h.l.ex hx hc (fun c hf e => ?_), h.d.ex hx (fun c hf e => ?_) (fun c hf e => ?_), h.fl, h.fd, h.rl, h.dj, h.x.trans hx (fun _ _ h => h) (fun i hi e => ?_)⟩
  · have := h.l.inF c hf; have := hS c e; omega
  · have := h.d.inG c hf; have := hS c e; omega
  · have := h.rl c hf; have := h.x.size; have := hS c e; omega
  · have := h.x.size; have := hS i e; omega
theorem all_nodup {s : TS} (hI : Inv s) : s.all.Nodup := by
  unfold TS.all
  have h := hI.tab.srt
  unfold Mo.Srt at h
  have h2 : (s.tab.filter fun x => s.has x.num).Pairwise (fun x y => x.num ≠ y.num) := (h.filter _).imp (fun h => by have := h.1; omega)
  exact List.pairwise_map.2 h2
theorem all_len {s : TS} (hI : Inv s) : s.all.length ≤ 1000 := by unfold TS.all; rw [List.length_map]; exact Nat.le_trans (List.length_filter_le _ _) hI.tab.len
end Go.Proofs.YtoglddndicmelaaGreat.Tr
