/- Words: numbers of 32 bits; arrays in blocks of their own. Words: slices of slices. Words: rows of byte arrays; parts of slices. Words: regions in which two operations may come up; whole arrays in regions. Words: arrays of bytes that are compared. Words: a struct's value that begins with an array. Words: a region that draws its order: the head is walked in one order, where S holds; what comes then goes by itself. A region that draws its order, where the last effect ends what holds of the world till then. -/
import Derived.Laws.BitsLemmas
import Derived.Laws.CopyRow
import Derived.Laws.MakeOwn
import Derived.StillTailTactics
import Derived.Test.YtoglddndicmelaaGreatB1
import Derived.Test.YtoglddndicmelaaGreatB7
import Derived.Laws.StructEq
import Derived.OrdersHeld
import Derived.StillTail
import Derived.RegionTactic
import Derived.Test.YtoglddndicmelaaGreatB2
namespace Go.Proofs.YtoglddndicmelaaGreatB
open Go Go.RowKit

def u8s (l : List Nat) : List Value := l.map fun (x : Nat) => .int .u8 x
def u32s (l : List Nat) : List Value := l.map fun (x : Nat) => .int .u32 x
theorem u8s_len (l : List Nat) : (u8s l).length = l.length := by simp [u8s]
theorem u32s_len (l : List Nat) : (u32s l).length = l.length := by simp [u32s]
theorem u8s_get {l : List Nat} {i : Nat} (h : i < l.length) : (u8s l)[i]? = some (.int .u8 (l.getD i 0 : Nat)) := by
  simp [u8s, List.getElem?_eq_getElem h, List.getD_eq_getElem?_getD]
theorem u32s_get {l : List Nat} {i : Nat} (h : i < l.length) : (u32s l)[i]? = some (.int .u32 (l.getD i 0 : Nat)) := by
  simp [u32s, List.getElem?_eq_getElem h, List.getD_eq_getElem?_getD]
theorem u8s_one (l : List Nat) : ∀ u ∈ u8s l, u.oneCell' = true := by
  intro u hu
  obtain ⟨x, _, rfl⟩ := List.mem_map.1 hu
  rfl
theorem u32s_one (l : List Nat) : ∀ u ∈ u32s l, u.oneCell' = true := by
  intro u hu
  obtain ⟨x, _, rfl⟩ := List.mem_map.1 hu
  rfl
/-! ### 32 bits -/
theorem wrap32 (x : Nat) : IntKind.u32.wrap (x : Int) = ((x % 4294967296 : Nat) : Int) := by rw [IntKind.wrap_u32]; omega
theorem wrap32_lt {x : Nat} (h : x < 4294967296) : IntKind.u32.wrap (x : Int) = (x : Int) := by rw [wrap32, Nat.mod_eq_of_lt h]
theorem wraps_u32 (n : Int) (h₀ : 0 ≤ n) (h₁ : n < 2 ^ 32) : IntKind.u32.wrap n = n := by rw [IntKind.wrap_u32]; omega
theorem add32 (x y : Nat) : IntKind.u32.wrap ((x : Int) + y) = (((x + y) % 4294967296 : Nat) : Int) := by rw [← wrap32]; simp
theorem and32 {a b : Nat} (ha : a < 4294967296) (hb : b < 4294967296) : bits .and .u32 a b = ((a &&& b : Nat) : Int) := (bits_nat .u32 32 (by decide) wraps_u32 a b ha hb).1
theorem or32 {a b : Nat} (ha : a < 4294967296) (hb : b < 4294967296) : bits .or .u32 a b = ((a ||| b : Nat) : Int) := (bits_nat .u32 32 (by decide) wraps_u32 a b ha hb).2
theorem xor32 {a b : Nat} (ha : a < 4294967296) (hb : b < 4294967296) : bits .xor .u32 a b = ((a ^^^ b : Nat) : Int) := by
  have ha' : a % 2 ^ 32 = a := Nat.mod_eq_of_lt ha
  have hb' : b % 2 ^ 32 = b := Nat.mod_eq_of_lt hb
  show IntKind.u32.wrap ((BitVec.ofInt 32 (a : Int) ^^^ BitVec.ofInt 32 (b : Int)).toNat : Int) = _
  rw [BitVec.ofInt_natCast, BitVec.ofInt_natCast, BitVec.toNat_xor, BitVec.toNat_ofNat, BitVec.toNat_ofNat, ha', hb']
  exact wrap32_lt (Nat.xor_lt_two_pow (n := 32) ha hb)
theorem not32 {a : Nat} (ha : a < 4294967296) : bits .xor .u32 4294967295 a = ((4294967295 - a : Nat) : Int) := by
  rw [show (4294967295 : Int) = ((4294967295 : Nat) : Int) from rfl, xor32 (by decide) ha]
  congr 1
  have h := BitVec.toNat_not (x := BitVec.ofNat 32 a)
  rw [← BitVec.allOnes_xor, BitVec.toNat_xor, BitVec.toNat_ofNat, Nat.mod_eq_of_lt (by simpa using ha), BitVec.toNat_allOnes] at h
  simpa using h
theorem run_shl32 {P : Program} (x k : Nat) (hk : k < 32) (c : IntKind) (w : World) : (Op.shift .shl .u32 x c k).run P w = .ok (.int .u32 ((x * 2 ^ k % 4294967296 : Nat) : Int)) w := by
  have h : min k 32 = k := by omega
  simp only [Op.shift, show ¬ ((k : Nat) : Int) < 0 by omega, if_false, Int.toNat_natCast, IntKind.bits, h, Sem.run_pure]
  rw [← wrap32]; simp
theorem run_shr32 {P : Program} (x k : Nat) (hk : k < 32) (c : IntKind) (w : World) : (Op.shift .shr .u32 x c k).run P w = .ok (.int .u32 ((x / 2 ^ k : Nat) : Int)) w := by
  have h : min k 32 = k := by omega
  simp only [Op.shift, show ¬ ((k : Nat) : Int) < 0 by omega, if_false, Int.toNat_natCast, IntKind.bits, h, Sem.run_pure]
  rw [Int.fdiv_eq_ediv_of_nonneg _ (by exact_mod_cast Nat.zero_le _)]; simp
/-! ### a whole value into a place of a block -/
/-- cells laid over others -/
def lay (cs : List Value) (o : Nat) (vs : List Value) : List Value := cs.take o ++ vs ++ cs.drop (o + vs.length)
theorem lay_len {cs vs : List Value} {o : Nat} (h : o + vs.length ≤ cs.length) : (lay cs o vs).length = cs.length := by simp [lay]; omega
theorem lay_all {cs vs : List Value} (h : cs.length = vs.length) : lay cs 0 vs = vs := by simp [lay, h]

theorem run_storeVar_lay {P : Program} (w : World) (g o : Nat) (t ty : TypeId) (cs vs : List Value) (hg : w.heap[g]? = some (.cells cs.toArray t (0, 0))) (hfit : o + vs.length ≤ cs.length) (h1 : ∀ v ∈ vs, v.oneCell' = true)
    (hi : (P.info? ty).map (·.size) = some vs.length) : (storeVar ty ⟨g, o, none⟩ (.agg vs.toArray)).run P w = .ok () (w.setRow g (lay cs o vs).toArray) := by
  have hst := run_storeCells_at P g o t vs 0 cs.toArray w hg (by simpa using hfit) h1
  cases hq : P.info? ty with
  | none => simp [hq] at hi
  | some i =>
    have hs : vs.length = i.size := by simp [hq] at hi; omega
    simp only [Nat.add_zero] at hst
    simp [storeVar, sizeOf, typeInfo, hq, Value.cells, hs, hst, lay]

/-! ### a slice of an array -/
theorem run_sizeOf {P : Program} {t n : Nat} (h : (P.info? t).map (·.size) = some n) (w : World) : (sizeOf t).run P w = .ok n w := by
  cases hq : P.info? t with
  | none => simp [hq] at h
  | some i => simp [hq] at h; simp [sizeOf, typeInfo, hq, h]
theorem run_sliceAt_from {P : Program} {t e n : Nat} (hu : P.underlying t = some (.array n e)) (hs : (P.info? e).map (·.size) = some 1) (g o l : Nat) (hl : l < n) (w : World) :
    (Instr.sliceAt t (.pointer (some ⟨g, o, none⟩)) (some (.int .i64 l)) none none).run P w = .ok (.slice (some ⟨g, o + l, none⟩) (n - l) (n - l)) w := by
  have h1 : ¬ n = l := by omega
  simp [Instr.sliceAt, Instr.sureAddr, run_underlying hu, Instr.sliceBounds, run_sliceBound, run_sizeOf hs, h1, Addr.add_lit, (by omega : (l : Int) ≤ n)]
theorem run_sliceAt_whole {P : Program} {t e n : Nat} (hu : P.underlying t = some (.array n e)) (hs : (P.info? e).map (·.size) = some 1) (g o : Nat) (hn : 0 < n) (w : World) :
    (Instr.sliceAt t (.pointer (some ⟨g, o, none⟩)) none none none).run P w = .ok (.slice (some ⟨g, o, none⟩) n n) w := by
  have h1 : ¬ n = 0 := by omega
  simp [Instr.sliceAt, Instr.sureAddr, run_underlying hu, Instr.sliceBounds, run_sizeOf hs, Addr.add]
theorem run_index_arr {P : Program} {t e n : Nat} (hu : P.underlying t = some (.array n e)) (hs : (P.info? e).map (·.size) = some 1) (ha : ∀ w, (isAgg e).run P w = .ok false w) (cs : Array Value) (i : Nat) (hi : i < n) (v : Value) (hv : cs[i]? = some v) (w : World) :
    (Instr.index t (.agg cs) (.int .i64 i)).run P w = .ok v w := by
  simp [Instr.index, asIntOf, run_underlying hu, run_sizeOf hs, part, ha, hv]
  intro h; omega
section
variable {P : Program} {ops : Array Oper} {rest : List Oper} {o : Oper} {a : Act} {w : World} {K : Act → World → Prop} {Q : Exit → Act → World → Prop}
theorem wp_store_lay (ty : TypeId) (x y : Operand) (ho : o.op = .store ty x y)
    (g off : Nat) (hx : a.eval x = .pointer (some ⟨g, off, none⟩)) (vs : List Value) (A : Array Value) (hy : a.eval y = .agg A) (hA : A = vs.toArray) (t : TypeId) (cs : List Value) (hg : w.heap[g]? = some (.cells cs.toArray t (0, 0)))
    (hfit : off + vs.length ≤ cs.length) (h1 : ∀ v ∈ vs, v.oneCell' = true) (hi : (P.info? ty).map (·.size) = some vs.length)
    (h : K (a.put o.dst undef) (w.setRow g (lay cs off vs).toArray)) : o.wp P a w K Q := by
  subst hA
  unfold Oper.wp execOp
  simp only [ho, hx, hy, Instr.storeAt, Instr.sureAddr, Sem.run_bind, Sem.run_pure, Result.andThen_ok, run_storeVar_lay w g off t ty cs vs hg hfit h1 hi]
  exact h
theorem wpList_store_lay (hgd : o.guard = none) (ty : TypeId) (x y : Operand) (ho : o.op = .store ty x y)
    (g off : Nat) (hx : a.eval x = .pointer (some ⟨g, off, none⟩)) (vs : List Value) (A : Array Value) (hy : a.eval y = .agg A) (hA : A = vs.toArray) (t : TypeId) (cs : List Value) (hg : w.heap[g]? = some (.cells cs.toArray t (0, 0)))
    (hfit : off + vs.length ≤ cs.length) (h1 : ∀ v ∈ vs, v.oneCell' = true) (hi : (P.info? ty).map (·.size) = some vs.length)
    (h : wpList P ops Q rest (a.put o.dst undef) (w.setRow g (lay cs off vs).toArray)) : wpList P ops Q (o :: rest) a w :=
  wpList_plain hgd fun _ hK => wp_store_lay ty x y ho g off hx vs A hy hA t cs hg hfit h1 hi (hK _ _ h)
/-- an operation of which the run is known -/
theorem wpList_yields (hgd : o.guard = none) (v : Value) (hy : (execOp a.eval o).run P w = .ok (.value v) w) (h : wpList P ops Q rest (a.put o.dst v) w) : wpList P ops Q (o :: rest) a w :=
  wpList_plain hgd fun K hK => by unfold Oper.wp; rw [hy]; exact hK _ _ h
theorem wpStill_yields {R : Act → Prop} (hgd : o.guard = none) (v : Value) (hy : (execOp a.eval o).run P w = .ok (.value v) w) (h : wpStill P ops w R rest (a.put o.dst v)) : wpStill P ops w R (o :: rest) a := by
  refine wpStill_step fun K hK => ?_
  have hw : Region.wanted o (yielded ops a.tmps) = true := by simp [Region.wanted, hgd]
  rw [if_pos hw]
  unfold Oper.still
  rw [hy, Oper.stillUpon_value]
  exact hK _ h
theorem wpStill_load_at {R : Act → Prop} (hgd : o.guard = none) (ty : TypeId) (x : Operand) (ho : o.op = .load ty x)
    (ad : Addr) (hx : a.eval x = .pointer (some ad)) (cs : List Value) (d : TypeDesc) (hg : RowAt w ad cs)
    (hu : P.underlying ty = some d) (hd : (match d with | .struct _ | .array _ _ => true | _ => false) = true) (hi : (P.info? ty).map (·.size) = some cs.length)
    (h : wpStill P ops w R rest (a.put o.dst (.agg cs.toArray))) : wpStill P ops w R (o :: rest) a := by
  refine wpStill_yields hgd (.agg cs.toArray) ?_ h
  unfold execOp
  simp only [ho, hx, Instr.loadAt, Instr.sureAddr, Sem.run_bind, Sem.run_pure, Result.andThen_ok, run_loadVar_at w ad ty cs d hg hu hd hi]
/-- the whole value of a block -/
theorem wpList_store_all (hgd : o.guard = none) (ty : TypeId) (x y : Operand) (ho : o.op = .store ty x y)
    (g : Nat) (hx : a.eval x = .pointer (some ⟨g, 0, none⟩)) (A C : Array Value) (hy : a.eval y = .agg A) (t : TypeId) (hg : w.heap[g]? = some (.cells C t (0, 0)))
    (hfit : C.size = A.size) (h1 : ∀ v ∈ A, v.oneCell' = true) (hi : (P.info? ty).map (·.size) = some A.size)
    (h : wpList P ops Q rest (a.put o.dst undef) (w.setRow g A)) : wpList P ops Q (o :: rest) a w := by
  refine wpList_store_lay hgd ty x y ho g 0 hx A.toList A hy (by simp) t C.toList (by simpa using hg) (by simp; omega) (by simpa using h1) (by simpa using hi) ?_
  rw [lay_all (by simpa using hfit)]
  simpa using h
end
end Go.Proofs.YtoglddndicmelaaGreatB

namespace Go.Proofs.YtoglddndicmelaaGreatB
open Go Go.RowKit

theorem run_sliceAt_mid {P : Program} {t e sz : Nat} (hu : P.underlying t = some (.slice e)) (hs : (P.info? e).map (·.size) = some sz) (A : Option Addr) (len cap l h : Nat) (h1 : l ≤ h) (h2 : h ≤ cap) (w : World) :
    (Instr.sliceAt t (.slice A len cap) (some (.int .i64 l)) (some (.int .i64 h)) none).run P w = .ok (.slice (if cap = l then A else A.map (·.add (l * sz))) (h - l) (cap - l)) w := by
  have h3 : (h : Int) ≤ cap := by omega
  have h4 : (l : Int) ≤ h := by omega
  simp [Instr.sliceAt, Instr.slice, run_underlying hu, Instr.sliceBounds, run_sliceBound, run_sizeOf hs, h3, h4]
theorem run_sliceAt_low {P : Program} {t e sz : Nat} (hu : P.underlying t = some (.slice e)) (hs : (P.info? e).map (·.size) = some sz) (A : Option Addr) (len cap l : Nat) (h1 : l ≤ len) (w : World) :
    (Instr.sliceAt t (.slice A len cap) (some (.int .i64 l)) none none).run P w = .ok (.slice (if cap = l then A else A.map (·.add (l * sz))) (len - l) (cap - l)) w := by
  have h4 : (l : Int) ≤ len := by omega
  simp [Instr.sliceAt, Instr.slice, run_underlying hu, Instr.sliceBounds, run_sliceBound, run_sizeOf hs, h4]
theorem run_sliceAt_high {P : Program} {t e sz : Nat} (hu : P.underlying t = some (.slice e)) (hs : (P.info? e).map (·.size) = some sz) (A : Option Addr) (len cap h : Nat) (h2 : h ≤ cap) (w : World) :
    (Instr.sliceAt t (.slice A len cap) none (some (.int .i64 h)) none).run P w = .ok (.slice A h cap) w := by
  have h3 : (h : Int) ≤ cap := by omega
  simp [Instr.sliceAt, Instr.slice, run_underlying hu, Instr.sliceBounds, run_sliceBound, run_sizeOf hs, h3]
  intro h; cases A <;> simp [Addr.add]
theorem run_storeCells_all {P : Program} {w : World} {b : Nat} {A C : Array Value} {t : TypeId} (hg : w.heap[b]? = some (.cells C t (0, 0))) (hfit : C.size = A.size) (h1 : ∀ v ∈ A, v.oneCell' = true) :
    (storeCells ⟨b, 0, none⟩ A.toList).run P w = .ok () (w.setRow b A) := by
  have hst := run_storeCells_at P b 0 t A.toList 0 C w hg (by simp; omega) (by simpa using h1)
  simp only [Nat.add_zero] at hst
  rw [hst]
  congr 2
  apply Array.ext'
  simp
  omega
section
variable {P : Program} {ops : Array Oper} {rest : List Oper} {o : Oper} {a : Act} {w : World} {K : Act → World → Prop} {Q : Exit → Act → World → Prop}
theorem step_store_all {E : Prop} (hgd : o.guard = none) (ty : TypeId) (x y : Operand) (ho : o.op = .store ty x y)
    (g : Nat) (hx : a.eval x = .pointer (some ⟨g, 0, none⟩)) (A C : Array Value) (hy : a.eval y = .agg A) (t : TypeId) (hg : w.heap[g]? = some (.cells C t (0, 0)))
    (hfit : C.size = A.size) (h1 : ∀ v ∈ A, v.oneCell' = true) (hi : (P.info? ty).map (·.size) = some A.size)
    (h : K (a.put o.dst undef) (w.setRow g A)) : if Region.wanted o (yielded ops a.tmps) = true then Oper.wp P o a w K Q else E := by
  have hw : Region.wanted o (yielded ops a.tmps) = true := by simp [Region.wanted, hgd]
  rw [if_pos hw]
  refine wp_store_lay ty x y ho g 0 hx A.toList A hy (by simp) t C.toList (by simpa using hg) (by simp; omega) (by simpa using h1) (by simpa using hi) ?_
  rw [lay_all (by simpa using hfit)]
  simpa using h
end
end Go.Proofs.YtoglddndicmelaaGreatB

namespace Go.Proofs.YtoglddndicmelaaGreatB
open Go Go.RowKit

/-- so many bytes, as cells -/
def encN (n : Nat) (x : List Nat) : List Value := u8s ((x ++ List.replicate n 0).take n)
theorem encN_len (n : Nat) (x : List Nat) : (encN n x).length = n := by simp [encN, u8s_len]
theorem encN_eq {n : Nat} {x : List Nat} (h : x.length = n) : encN n x = u8s x := by
  unfold encN; rw [List.take_append_of_le_length (by omega), List.take_of_length_le (by omega)]
theorem encN_one (n : Nat) (x : List Nat) : ∀ v ∈ encN n x, v.oneCell' = true := u8s_one _
def rowN (n : Nat) (l : List (List Nat)) : List Value := l.flatMap (encN n)
theorem rowN_len (n : Nat) (l : List (List Nat)) : (rowN n l).length = l.length * n := flat_len (encN n) n (encN_len n) l
theorem rowN_append (n : Nat) (a b : List (List Nat)) : rowN n (a ++ b) = rowN n a ++ rowN n b := by simp [rowN]
theorem rowN_single (n : Nat) (a : List Nat) : rowN n [a] = encN n a := by simp [rowN]
theorem rowN_take (n : Nat) (l : List (List Nat)) (k : Nat) (hk : k ≤ l.length) : (rowN n l).take (k * n) = rowN n (l.take k) := by
  have e : rowN n l = rowN n (l.take k) ++ rowN n (l.drop k) := by rw [← rowN_append, List.take_append_drop]
  have hl : (rowN n (l.take k)).length = k * n := by rw [rowN_len, List.length_take, Nat.min_eq_left hk]
  rw [e, List.take_append_of_le_length (by omega), List.take_of_length_le (by omega)]
theorem rowN_drop (n : Nat) (l : List (List Nat)) (k : Nat) (hk : k ≤ l.length) : (rowN n l).drop (k * n) = rowN n (l.drop k) := by
  have e : rowN n l = rowN n (l.take k) ++ rowN n (l.drop k) := by rw [← rowN_append, List.take_append_drop]
  have hl : (rowN n (l.take k)).length = k * n := by rw [rowN_len, List.length_take, Nat.min_eq_left hk]
  rw [e, ← hl, List.drop_left]
theorem rowN_one (n : Nat) (l : List (List Nat)) : ∀ v ∈ rowN n l, v.oneCell' = true := by
  intro v hv
  obtain ⟨x, _, hx⟩ := List.mem_flatMap.1 hv
  exact encN_one n x v hx

theorem Sl.takeS {w : World} {sz : Nat} {A : Option Addr} {n : Nat} {cs : List Value} (h : Sl w sz A n cs) {k : Nat} (hk : k ≤ n) : Sl w sz A k (cs.take (k * sz)) :=
  ⟨by rw [List.length_take, h.len, Nat.min_eq_left (Nat.mul_le_mul_right _ hk)], by have := h.small; omega, fun h0 => by
    obtain ⟨g, off, hA, hr⟩ := h.at_ (by omega)
    refine ⟨g, off, hA, fun j u hu => hr j u ?_⟩
    rw [List.getElem?_take] at hu
    split at hu
    · exact hu
    · cases hu⟩
theorem Sl.dropS {w : World} {sz : Nat} {A : Option Addr} {n : Nat} {cs : List Value} (h : Sl w sz A n cs) {k : Nat} (hk : k ≤ n) : Sl w sz (A.map (·.add (k * sz))) (n - k) (cs.drop (k * sz)) :=
  ⟨by rw [List.length_drop, h.len, ← Nat.sub_mul], by have := h.small; omega, fun h0 => by
    obtain ⟨g, off, rfl, hr⟩ := h.at_ (by omega)
    refine ⟨g, off + k * sz, by simp [Addr.add_lit], fun j u hu => ?_⟩
    rw [List.getElem?_drop] at hu
    have := hr _ u hu
    rw [Addr.add_lit] at this ⊢
    rwa [Nat.add_assoc]⟩
theorem Sl.part {w : World} {N : Nat} {A : Option Addr} {n : Nat} {l : List (List Nat)} (h : Sl w N A n (rowN N l)) (hn : n = l.length) {k : Nat} (hk : k ≤ n) : Sl w N A k (rowN N (l.take k)) := by
  rw [← rowN_take N l k (by omega)]; exact h.takeS hk
theorem Sl.rest {w : World} {N : Nat} {A : Option Addr} {n : Nat} {l : List (List Nat)} (h : Sl w N A n (rowN N l)) (hn : n = l.length) {k : Nat} (hk : k ≤ n) : Sl w N (A.map (·.add (k * N))) (n - k) (rowN N (l.drop k)) := by
  rw [← rowN_drop N l k (by omega)]; exact h.dropS hk
/-- an element -/
theorem Sl.elemN {w : World} {N : Nat} {A : Option Addr} {n : Nat} {l : List (List Nat)} (h : Sl w N A n (rowN N l)) (hN : 0 < N) (_ : n = l.length) {i : Nat} (hi : i < n) (hl : (l.getD i []).length = N) :
    ∃ g off : Nat, A = some ⟨g, off, none⟩ ∧ RowAt w ⟨g, off + i * N, none⟩ (u8s (l.getD i [])) := by
  obtain ⟨g, off, h1, h2, h3⟩ := Sl.row (enc := encN N) h (encN_len N) hN hi
  refine ⟨g, off, h2, ?_⟩
  have e : l.getD i [] = l[i] := by simp [List.getD_eq_getElem?_getD, List.getElem?_eq_getElem h1]
  rw [e] at hl ⊢
  rw [encN_eq hl] at h3
  exact h3
/-- all of so many bytes -/
def AllB (n : Nat) (l : List (List Nat)) : Prop := ∀ x ∈ l, x.length = n ∧ ∀ y ∈ x, y < 256
theorem AllB.take {n : Nat} {l : List (List Nat)} (h : AllB n l) (k : Nat) : AllB n (l.take k) := fun x hx => h x (List.mem_of_mem_take hx)
theorem AllB.drop {n : Nat} {l : List (List Nat)} (h : AllB n l) (k : Nat) : AllB n (l.drop k) := fun x hx => h x (List.mem_of_mem_drop hx)
theorem AllB.get {n : Nat} {l : List (List Nat)} (h : AllB n l) {i : Nat} (hi : i < l.length) : (l.getD i []).length = n ∧ ∀ y ∈ l.getD i [], y < 256 := by
  have e : l.getD i [] = l[i] := by simp [List.getD_eq_getElem?_getD, List.getElem?_eq_getElem hi]
  rw [e]; exact h _ (List.getElem_mem hi)
theorem AllB.append {n : Nat} {a b : List (List Nat)} (h : AllB n a) (k : AllB n b) : AllB n (a ++ b) := fun x hx => by
  rcases List.mem_append.1 hx with h1 | h1
  · exact h x h1
  · exact k x h1
theorem AllB.single {n : Nat} {x : List Nat} (h1 : x.length = n) (h2 : ∀ y ∈ x, y < 256) : AllB n [x] := fun y hy => by
  rw [List.mem_singleton] at hy; subst hy; exact ⟨h1, h2⟩
theorem AllB.nil {n : Nat} : AllB n [] := fun _ h => by cases h
theorem results_row_tmp {P : Program} {fn : Func} {p u : Tmp} {ty : TypeId} (h : fn.results = #[.cell p ty, .tmp u]) (tmps : Array Value) (w : World) (g : Nat) (t : TypeId) (cs : Array Value) (fr : Nat × Nat) (d : TypeDesc)
    (hp : tmps.getD p undef = .pointer (some ⟨g, 0, none⟩)) (hg : w.heap[g]? = some (.cells cs t fr))
    (hu : P.underlying ty = some d) (hd : (match d with | .struct _ | .array _ _ => true | _ => false) = true) (hi : (P.info? ty).map (·.size) = some cs.size) (v : Value) (hv : tmps.getD u undef = v) :
    (results fn tmps).run P w = .ok (.tuple #[.agg cs, v]) w := by
  have hp' : tmps[p]?.getD undef = .pointer (some ⟨g, 0, none⟩) := by simpa using hp
  have hv' : tmps[u]?.getD undef = v := by simpa using hv
  simp [results, h, hp', hv', asAddr, run_loadVar_row w g t ty cs fr d hg hu hd hi]
end Go.Proofs.YtoglddndicmelaaGreatB

namespace Go.Proofs.YtoglddndicmelaaGreatB
open Go Go.RowKit

section
variable {P : Program} {Q : Exit → Act → World → Prop} {md : Region.Mode} {S : World → Prop}
theorem wpAnyH_two {l0 : List Oper} (i j : Nat) {oi oj : Oper} {fuel : Nat} {listed : Array Bool} {a : Act} {w : World} (hi : l0[i]? = some oi) (hj : l0[j]? = some oj) (hr : Region.ready md l0.toArray listed = [i, j])
    (hwi : Region.wanted oi (yielded l0.toArray a.tmps) = true) (hwj : Region.wanted oj (yielded l0.toArray a.tmps) = true)
    (h1 : ∀ K : Act → World → Prop, (∀ a' w', S w' → wpAnyH P md l0.toArray Q S fuel (listed.setIfInBounds i true) a' w' → K a' w') → Oper.wp P oi a w K Q)
    (h2 : ∀ K : Act → World → Prop, (∀ a' w', S w' → wpAnyH P md l0.toArray Q S fuel (listed.setIfInBounds j true) a' w' → K a' w') → Oper.wp P oj a w K Q) :
    wpAnyH P md l0.toArray Q S (fuel + 1) listed a w := by
  refine wpAnyH_all hr (by simp) fun k hk => ?_
  have hk' : k = i ∨ k = j := by simpa using hk
  rcases hk' with rfl | rfl
  · unfold wpOp
    have hi' : l0.toArray[k]? = some oi := by simpa using hi
    simp only [hi', hwi, if_true]
    exact .inl (h1 _ (fun a' w' hs hh => ⟨hs, hh⟩))
  · unfold wpOp
    have hj' : l0.toArray[k]? = some oj := by simpa using hj
    simp only [hj', hwj, if_true]
    exact .inl (h2 _ (fun a' w' hs hh => ⟨hs, hh⟩))
variable {o : Oper} {a : Act} {w : World} {K : Act → World → Prop}
theorem exec_load_row (ty : TypeId) (x : Operand) (ho : o.op = .load ty x) (g : Nat) (hx : a.eval x = .pointer (some ⟨g, 0, none⟩)) (t : TypeId) (cs : Array Value) (fr : Nat × Nat) (d : TypeDesc) (hg : w.heap[g]? = some (.cells cs t fr))
    (hu : P.underlying ty = some d) (hd : (match d with | .struct _ | .array _ _ => true | _ => false) = true) (hi : (P.info? ty).map (·.size) = some cs.size) : (execOp a.eval o).run P w = .ok (.value (.agg cs)) w := by
  unfold execOp
  simp only [ho, hx, Instr.loadAt, Instr.sureAddr, Sem.run_bind, Sem.run_pure, Result.andThen_ok, run_loadVar_row w g t ty cs fr d hg hu hd hi]
theorem exec_load_at (ty : TypeId) (x : Operand) (ho : o.op = .load ty x) (ad : Addr) (hx : a.eval x = .pointer (some ad)) (cs : List Value) (d : TypeDesc) (hg : RowAt w ad cs)
    (hu : P.underlying ty = some d) (hd : (match d with | .struct _ | .array _ _ => true | _ => false) = true) (hi : (P.info? ty).map (·.size) = some cs.length) : (execOp a.eval o).run P w = .ok (.value (.agg cs.toArray)) w := by
  unfold execOp
  simp only [ho, hx, Instr.loadAt, Instr.sureAddr, Sem.run_bind, Sem.run_pure, Result.andThen_ok, run_loadVar_at w ad ty cs d hg hu hd hi]
theorem wp_store_all (ty : TypeId) (x y : Operand) (ho : o.op = .store ty x y)
    (g : Nat) (hx : a.eval x = .pointer (some ⟨g, 0, none⟩)) (A C : Array Value) (hy : a.eval y = .agg A) (t : TypeId) (hg : w.heap[g]? = some (.cells C t (0, 0)))
    (hfit : C.size = A.size) (h1 : ∀ v ∈ A, v.oneCell' = true) (hi : (P.info? ty).map (·.size) = some A.size)
    (h : K (a.put o.dst undef) (w.setRow g A)) : o.wp P a w K Q := by
  refine wp_store_lay ty x y ho g 0 hx A.toList A hy (by simp) t C.toList (by simpa using hg) (by simp; omega) (by simpa using h1) (by simpa using hi) ?_
  rw [lay_all (by simpa using hfit)]
  simpa using h
theorem wpList_load_row_g {ops : Array Oper} {rest : List Oper} (hw : Region.wanted o (yielded ops a.tmps) = true) (ty : TypeId) (x : Operand) (ho : o.op = .load ty x)
    (g : Nat) (hx : a.eval x = .pointer (some ⟨g, 0, none⟩)) (t : TypeId) (cs : Array Value) (fr : Nat × Nat) (d : TypeDesc) (hg : w.heap[g]? = some (.cells cs t fr))
    (hu : P.underlying ty = some d) (hd : (match d with | .struct _ | .array _ _ => true | _ => false) = true) (hi : (P.info? ty).map (·.size) = some cs.size)
    (h : wpList P ops Q rest (a.put o.dst (.agg cs)) w) : wpList P ops Q (o :: rest) a w :=
  wpList_step fun K hK => by rw [if_pos hw]; exact wp_load_row ty x ho g hx t cs fr d hg hu hd hi (hK _ _ h)
end
end Go.Proofs.YtoglddndicmelaaGreatB

namespace Go.Proofs.YtoglddndicmelaaGreatB
open Go Go.RowKit

theorem run_part_u8 {P : Program} (e : TypeId) (_ : (P.info? e).map (·.size) = some 1) (ha : ∀ w, (isAgg e).run P w = .ok false w) (a : List Nat) (i : Nat) (h : i < a.length) (w : World) :
    (part e (u8s a).toArray i).run P w = .ok (.int .u8 (a.getD i 0 : Nat)) w := by
  have hg := u8s_get h
  simp [part, ha, hg]

theorem run_equalIn_bytes {P : Program} (w : World) (d : Nat) (t e : TypeId) (n : Nat) (k' : IntKind) (ht : P.underlying t = some (.array n e)) (he : P.underlying e = some (.int k')) (hs : (P.info? e).map (·.size) = some 1) (ha : ∀ w, (isAgg e).run P w = .ok false w)
    (a b : List Nat) (hla : a.length = n) (hlb : b.length = n) : (Op.equalIn (d + 2) t (.agg (u8s a).toArray) (.agg (u8s b).toArray)).run P w = .ok (decide (a = b)) w := by
  have hsz := run_sizeOf hs
  rw [Op.equalIn]
  simp only [Sem.run_bind, run_underlying ht, Result.andThen_ok, hsz, Std.Legacy.Range.forIn_eq_forIn_range', Std.Legacy.Range.size]
  have key : ∀ (m i : Nat) (w : World), i + m = n →
      (forIn (List.range' i m) ((none, ()) : Option Bool × Unit) (fun i _ => do
        let x ← part e (u8s a).toArray (i * 1)
        let y ← part e (u8s b).toArray (i * 1)
        let z ← Op.equalIn (d + 1) e x y
        if (!z) = true then pure (ForInStep.done (some false, ())) else pure (ForInStep.yield (none, ()))) : Sem (Option Bool × Unit)).run P w = .ok (if a.drop i = b.drop i then (none, ()) else (some false, ())) w := by
    intro m
    induction m with
    | zero =>
      intro i w h
      simp [List.drop_of_length_le (show a.length ≤ i by omega), List.drop_of_length_le (show b.length ≤ i by omega)]
    | succ m ih =>
      intro i w h
      have hia : i < a.length := by omega
      have hib : i < b.length := by omega
      have e1 := run_part_u8 (P := P) e hs ha a i hia w
      have e2 := run_part_u8 (P := P) e hs ha b i hib w
      have e3 := run_equalIn_int (P := P) w d e .u8 k' (a.getD i 0 : Nat) (b.getD i 0 : Nat) he
      simp only [List.range'_succ, List.forIn_cons, Sem.run_bind, Nat.mul_one, e1, e2, e3, Result.andThen_ok, Sem.run_ite]
      have hda : a.drop i = a.getD i 0 :: a.drop (i + 1) := by rw [List.drop_eq_getElem_cons hia]; simp [List.getD_eq_getElem?_getD, List.getElem?_eq_getElem hia]
      have hdb : b.drop i = b.getD i 0 :: b.drop (i + 1) := by rw [List.drop_eq_getElem_cons hib]; simp [List.getD_eq_getElem?_getD, List.getElem?_eq_getElem hib]
      by_cases hx : a.getD i 0 = b.getD i 0
      · have hq : (((a.getD i 0 : Nat) : Int) == ((b.getD i 0 : Nat) : Int)) = true := by rw [hx]; simp
        simp only [hq, Bool.not_true, Bool.false_eq_true, if_false, Sem.run_pure, Result.andThen_ok]
        have := ih (i + 1) w (by omega)
        simp only [Nat.mul_one] at this
        rw [this, hda, hdb, hx]
        simp
      · have hq : (((a.getD i 0 : Nat) : Int) == ((b.getD i 0 : Nat) : Int)) = false := by
          rw [beq_eq_false_iff_ne]; intro h; exact hx (by exact_mod_cast h)
        simp only [hq, Bool.not_false, if_true, Sem.run_pure, Result.andThen_ok]
        rw [if_neg]
        rw [hda, hdb]
        intro h
        exact hx (List.cons.inj h).1
  have h0 := key n 0 w (by omega)
  simp only [Nat.sub_zero, Nat.add_sub_cancel, Nat.div_one]
  rw [h0]
  simp only [Result.andThen_ok, List.drop_zero]
  by_cases h : a = b <;> simp [h]

theorem run_eql_bytes {P : Program} (w : World) (t e : TypeId) (n : Nat) (k' : IntKind) (ht : P.underlying t = some (.array n e)) (he : P.underlying e = some (.int k')) (hs : (P.info? e).map (·.size) = some 1) (ha : ∀ w, (isAgg e).run P w = .ok false w)
    (a b : List Nat) (hla : a.length = n) (hlb : b.length = n) : (Op.equalIn 10000 t (.agg (u8s a).toArray) (.agg (u8s b).toArray)).run P w = .ok (decide (a = b)) w :=
  run_equalIn_bytes w 9998 t e n k' ht he hs ha a b hla hlb
end Go.Proofs.YtoglddndicmelaaGreatB

namespace Go.Proofs.YtoglddndicmelaaGreatB
open Go Go.RowKit

theorem fold_lay_list (C : List Value) : ∀ (k : Nat) (Z : Array Value), k + C.length ≤ Z.size →
    List.foldl (fun (cs : Array Value) (x : Value × Nat) => cs.setIfInBounds x.snd x.fst) Z (C.zipIdx k) = (Z.toList.take k ++ C ++ Z.toList.drop (k + C.length)).toArray := by
  induction C with
  | nil => intro k Z h; simp
  | cons c C ih =>
    intro k Z h
    simp only [List.length_cons] at h
    rw [List.zipIdx_cons, List.foldl_cons, ih (k + 1) _ (by simp; omega)]
    apply Array.ext'
    simp only [Array.toList_setIfInBounds, List.length_cons]
    have e1 : (Z.toList.set k c).take (k + 1) = Z.toList.take k ++ [c] := by
      rw [List.take_succ_eq_append_getElem (by simp; omega), List.take_set_of_le (Nat.le_refl _)]
      simp
    have e2 : (Z.toList.set k c).drop (k + 1 + C.length) = Z.toList.drop (k + (C.length + 1)) := by
      rw [List.drop_set_of_lt (by omega)]
      congr 1; omega
    rw [e1, e2]
    simp
theorem fold_lay (Z C : Array Value) (n : Nat) (hn : n = C.size) (h : C.size ≤ Z.size) :
    Array.foldl (fun (cs : Array Value) (x : Value × Nat) => cs.setIfInBounds x.snd x.fst) Z C.zipIdx 0 n = (C.toList ++ Z.toList.drop C.size).toArray := by
  subst hn
  have h1 := fold_lay_list C.toList 0 Z (by simpa using h)
  simp only [Nat.zero_add, List.take_zero, List.nil_append, Array.length_toList] at h1
  rw [← h1]
  have : C.size = C.zipIdx.size := by simp
  rw [this, ← Array.foldl_toList]
  simp
theorem fold_lay_off (k : Nat) (C : List Value) : ∀ (j : Nat) (Z : Array Value), k + j + C.length ≤ Z.size →
    List.foldl (fun (cs : Array Value) (x : Value × Nat) => cs.setIfInBounds (k + x.snd) x.fst) Z (C.zipIdx j) = (Z.toList.take (k + j) ++ C ++ Z.toList.drop (k + j + C.length)).toArray := by
  induction C with
  | nil => intro j Z h; simp
  | cons c C ih =>
    intro j Z h
    simp only [List.length_cons] at h
    rw [List.zipIdx_cons, List.foldl_cons, ih (j + 1) _ (by simp; omega)]
    apply Array.ext'
    simp only [Array.toList_setIfInBounds, List.length_cons]
    have e1 : (Z.toList.set (k + j) c).take (k + (j + 1)) = Z.toList.take (k + j) ++ [c] := by
      rw [← Nat.add_assoc, List.take_succ_eq_append_getElem (by simp; omega), List.take_set_of_le (Nat.le_refl _)]
      simp
    have e2 : (Z.toList.set (k + j) c).drop (k + (j + 1) + C.length) = Z.toList.drop (k + j + (C.length + 1)) := by
      rw [List.drop_set_of_lt (by omega)]
      congr 1; omega
    rw [e1, e2]
    simp
theorem fold_lay_at (Z C : Array Value) (k n : Nat) (hn : n = C.size) (h : k + C.size ≤ Z.size) :
    Array.foldl (fun (cs : Array Value) (x : Value × Nat) => cs.setIfInBounds (k + x.snd) x.fst) Z C.zipIdx 0 n = (Z.toList.take k ++ C.toList ++ Z.toList.drop (k + C.size)).toArray := by
  subst hn
  have h1 := fold_lay_off k C.toList 0 Z (by simpa using h)
  simp only [Array.length_toList, Nat.add_zero] at h1
  rw [← h1]
  have : C.size = C.zipIdx.size := by simp
  rw [this, ← Array.foldl_toList]
  simp
end Go.Proofs.YtoglddndicmelaaGreatB

namespace Go.Proofs.YtoglddndicmelaaGreatB
open Go

section
variable {P : Program} {ops : Array Oper} {Q : Exit → Act → World → Prop} {md : Region.Mode} {S : World → Prop} {n m : Nat}

def wpFore (P : Program) (md : Region.Mode) (ops : Array Oper) (Q : Exit → Act → World → Prop) (S : World → Prop) (n m : Nat) : Nat → Array Bool → Act → World → Prop
  | 0, listed, a, w => Region.ready md ops listed = [n] ∧ wpAny P md ops Q m listed a w
  | fuel + 1, listed, a, w => Region.ready md ops listed ≠ [] ∧
    ∀ i ∈ Region.ready md ops listed, wpOp P ops Q i (fun a' w' => S w' ∧ wpFore P md ops Q S n m fuel (listed.setIfInBounds i true) a' w') a w

theorem wpAny_of_fore : ∀ (fuel : Nat) (listed : Array Bool) (a : Act) (w : World), wpFore P md ops Q S n m fuel listed a w → wpAny P md ops Q (fuel + m) listed a w
  | 0, listed, a, w, h => by rw [Nat.zero_add]; exact h.2
  | fuel + 1, listed, a, w, h => by
    rw [show fuel + 1 + m = (fuel + m) + 1 by omega]
    exact ⟨fun h0 => absurd h0 h.1, fun i hi => wpOp_mono (fun a' w' h' => wpAny_of_fore fuel _ a' w' h'.2) (h.2 i hi)⟩

theorem wpFore_first {i : Nat} {oi : Oper} {v : Value} (hi : ops[i]? = some oi) (hsel : ∀ (j : Nat) (o : Oper) cs b, ops[j]? = some o → o.op ≠ .select cs b)
    (hQ : ∀ c a w, Q (.panic c) (a.put oi.dst v) w → Q (.panic c) a w) (hin : i ≠ n) (hwait : Region.waitsFor md ops n i = true) :
    ∀ (fuel : Nat) (listed : Array Bool) (a : Act) (w : World),
      (∀ j oj, ops[j]? = some oj → j ≠ i → listed.getD j true = false → (∀ e ∈ oj.after, Region.binds md e = true → e.on ≠ i) → oi.apart ops oj = true) →
      i ∈ Region.ready md ops listed → YieldsIf P ops S oi v a → S w →
      wpFore P md ops Q S n m fuel (listed.setIfInBounds i true) (a.put oi.dst v) w → wpFore P md ops Q S n m (fuel + 1) listed a w := by
  intro fuel
  induction fuel with
  | zero =>
    intro listed a w _ hr hy hS H
    refine ⟨fun h => (by rw [h] at hr; cases hr), fun j hj => ?_⟩
    by_cases hji : j = i
    · subst hji; exact hy.wpOp hi hS ⟨hS, H⟩
    · exfalso
      have h1 := ready_mono hj hji
      have h2 := H.1
      rw [h2] at h1
      have hjn : j = n := by simpa using h1
      subst hjn
      obtain ⟨oj, hoj, e, he, hb, heq⟩ := Region.waitsFor_spec hwait
      obtain ⟨_, oj', hoj', hall⟩ := mem_ready.1 hj
      rw [hoj] at hoj'; cases hoj'
      have h3 := hall e he hb
      have h0 := (mem_ready.1 hr).1
      rw [heq] at h3
      rcases Nat.lt_or_ge i listed.size with h' | h'
      · simp [h'] at h0 h3; rw [h0] at h3; cases h3
      · simp [Array.getElem?_eq_none h'] at h3
  | succ fuel ih =>
    intro listed a w hfree hr hy hS H
    refine ⟨fun h => (by rw [h] at hr; cases hr), fun j hj => ?_⟩
    by_cases hji : j = i
    · subst hji; exact hy.wpOp hi hS ⟨hS, H⟩
    · have h1 := H.2 j (ready_mono hj hji)
      obtain ⟨hjun, oj, hoj, hall⟩ := mem_ready.1 hj
      have hnot : ∀ e ∈ oj.after, Region.binds md e = true → e.on ≠ i := fun e he hb heq => by
        have h1 := hall e he hb
        have h0 := (mem_ready.1 hr).1
        rw [heq] at h1
        rcases Nat.lt_or_ge i listed.size with h' | h'
        · simp [h'] at h0 h1; rw [h0] at h1; cases h1
        · simp [Array.getElem?_eq_none h'] at h1
      have h2 := wpOp_putIf hoj (hfree j oj hoj hji hjun hnot) (fun cs b => hsel i oi cs b hi) (fun cs b => hsel j oj cs b hoj) hQ hy h1
      have hfree' : ∀ k ok, ops[k]? = some ok → k ≠ i → (listed.setIfInBounds j true).getD k true = false →
          (∀ e ∈ ok.after, Region.binds md e = true → e.on ≠ i) → oi.apart ops ok = true := fun k ok hk hki hun hno => by
        refine hfree k ok hk hki ?_ hno
        by_cases hjk : j = k
        · subst hjk; exact hjun
        · rw [getD_set_ne true hjk] at hun; exact hun
      refine wpOp_mono (fun a' w' h3 => ⟨h3.2.1, ih (listed.setIfInBounds j true) a' w' hfree' (ready_mono hr (Ne.symm hji)) h3.1 h3.2.1 ?_⟩) h2
      rw [Array.setIfInBounds_comm _ _ hji]
      exact h3.2.2

/-- the checks of a take, in one -/
def takeF (md : Region.Mode) (ops : Array Oper) (n : Nat) (listed : Array Bool) (i : Nat) : Bool :=
  Region.noSelect ops && Region.free md ops listed i && (Region.ready md ops listed).contains i && decide (i ≠ n) && Region.waitsFor md ops n i

theorem wpFore_take {i : Nat} {oi : Oper} {v : Value} {fuel : Nat} {listed : Array Bool} {a : Act} {w : World} (hi : ops[i]? = some oi)
    (hb : takeF md ops n listed i = true)
    (hQ : ∀ c a w, Q (.panic c) (a.put oi.dst v) w → Q (.panic c) a w) (hw : Region.wanted oi (yielded ops a.tmps) = true) (hy : ∀ w, S w → (execOp a.eval oi).run P w = .ok (.value v) w) (hS : S w)
    (h : wpFore P md ops Q S n m fuel (listed.setIfInBounds i true) (a.put oi.dst v) w) : wpFore P md ops Q S n m (fuel + 1) listed a w := by
  simp only [takeF, Bool.and_eq_true, decide_eq_true_eq] at hb
  obtain ⟨⟨⟨⟨hs, hf⟩, hr⟩, hin⟩, hwt⟩ := hb
  exact wpFore_first hi (Region.noSelect_spec hs) hQ hin hwt fuel listed a w (Region.free_spec hi hf) (by simpa using hr) (.inl ⟨hw, hy⟩) hS h

/-- one that its guard passes over, too -/
theorem wpFore_skip {i : Nat} {oi : Oper} {fuel : Nat} {listed : Array Bool} {a : Act} {w : World} (hi : ops[i]? = some oi)
    (hb : takeF md ops n listed i = true)
    (hQ : ∀ c a w, Q (.panic c) (a.put oi.dst undef) w → Q (.panic c) a w) (hw : Region.wanted oi (yielded ops a.tmps) = false) (hS : S w)
    (h : wpFore P md ops Q S n m fuel (listed.setIfInBounds i true) (a.put oi.dst undef) w) : wpFore P md ops Q S n m (fuel + 1) listed a w := by
  simp only [takeF, Bool.and_eq_true, decide_eq_true_eq] at hb
  obtain ⟨⟨⟨⟨hs, hf⟩, hr⟩, hin⟩, hwt⟩ := hb
  exact wpFore_first hi (Region.noSelect_spec hs) hQ hin hwt fuel listed a w (Region.free_spec hi hf) (by simpa using hr) (.inr ⟨hw, rfl⟩) hS h


theorem wpFore_do {l0 : List Oper} (i : Nat) {oi : Oper} {fuel : Nat} {listed : Array Bool} {a : Act} {w : World} (hi : l0[i]? = some oi)
    (hb : takeF md l0.toArray n listed i = true)
    (hQ : ∀ c a v w, Q (.panic c) (a.put oi.dst v) w → Q (.panic c) a w) (hw : Region.wanted oi (yielded l0.toArray a.tmps) = true) (hS : S w)
    (h : ∃ v, (∀ w, S w → (execOp a.eval oi).run P w = .ok (.value v) w) ∧ wpFore P md l0.toArray Q S n m fuel (listed.setIfInBounds i true) (a.put oi.dst v) w) : wpFore P md l0.toArray Q S n m (fuel + 1) listed a w := by
  obtain ⟨v, hy, h⟩ := h
  exact wpFore_take (by simpa using hi) hb (fun c a w => hQ c a v w) hw hy hS h
theorem wpFore_end {l0 : List Oper} {listed : Array Bool} {a : Act} {w : World} (hr : Region.ready md l0.toArray listed = [n]) (h : wpAny P md l0.toArray Q m listed a w) : wpFore P md l0.toArray Q S n m 0 listed a w := ⟨hr, h⟩
theorem wpAny_eff {l0 : List Oper} (i : Nat) {oi : Oper} {fuel : Nat} {listed : Array Bool} {a : Act} {w : World} (hi : l0[i]? = some oi) (hr : Region.ready md l0.toArray listed = [i]) (hw : Region.wanted oi (yielded l0.toArray a.tmps) = true)
    (h : ∀ K : Act → World → Prop, (∀ a' w', wpAny P md l0.toArray Q fuel (listed.setIfInBounds i true) a' w' → K a' w') → Oper.wp P oi a w K Q) : wpAny P md l0.toArray Q (fuel + 1) listed a w := by
  refine wpAny_all hr (by simp) fun j hj => ?_
  have : j = i := by simpa using hj
  subst this
  unfold wpOp
  have hi' : l0.toArray[j]? = some oi := by simpa using hi
  simp only [hi', hw, if_true]
  exact .inl (h _ (fun a' w' hh => hh))
theorem wpAny_do {l0 : List Oper} (i : Nat) {oi : Oper} {fuel : Nat} {listed : Array Bool} {a : Act} {w : World} (hi : l0[i]? = some oi)
    (hs : Region.noSelect l0.toArray = true) (hf : Region.free md l0.toArray listed i = true) (hr : (Region.ready md l0.toArray listed).contains i = true)
    (hQ : ∀ c a v w, Q (.panic c) (a.put oi.dst v) w → Q (.panic c) a w) (hw : Region.wanted oi (yielded l0.toArray a.tmps) = true)
    (h : ∃ v, (∀ w, (execOp a.eval oi).run P w = .ok (.value v) w) ∧ wpAny P md l0.toArray Q fuel (listed.setIfInBounds i true) (a.put oi.dst v) w) : wpAny P md l0.toArray Q (fuel + 1) listed a w := by
  obtain ⟨v, hy, h⟩ := h
  exact wpAny_take (by simpa using hi) hs hf hr (fun c a w => hQ c a v w) (.inl ⟨hw, hy⟩) h
theorem wpAny_fore {l0 : List Oper} (S : World → Prop) (n k m : Nat) {fuel : Nat} {listed : Array Bool} {a : Act} {w : World} (hn : fuel = k + m)
    (h : wpFore P md l0.toArray Q S n m k listed a w) : wpAny P md l0.toArray Q fuel listed a w := by
  subst hn; exact wpAny_of_fore k listed a w h
theorem wp_region_all {id : Nat} {l0 : List Oper} {a : Act} {w : World} (hm : P.follows .mixedOrders = true)
    (h : wpAny P .any l0.toArray Q l0.length (Array.replicate l0.length false) a w.drew) : (Code.region id l0.toArray true).wp P Q a w := by
  refine wp_region_any hm ?_
  simpa using h
theorem wp_region_fore {id : Nat} {l0 : List Oper} {a : Act} {w : World} (S : World → Prop) (n k m : Nat) (hm : P.follows .mixedOrders = true) (hn : k + m = l0.length)
    (h : wpFore P .any l0.toArray Q S n m k (Array.replicate l0.length false) a w.drew) : (Code.region id l0.toArray true).wp P Q a w := by
  refine wp_region_any hm ?_
  have := wpAny_of_fore (ops := l0.toArray) k _ a w.drew h
  rw [hn] at this
  simpa using this
end
end Go.Proofs.YtoglddndicmelaaGreatB

namespace Go.Proofs.YtoglddndicmelaaGreatB
open Go

section
variable {P : Program} {ops : Array Oper} {Q : Exit → Act → World → Prop} {md : Region.Mode} {S : World → Prop} {n : Nat}

/-- S holds behind each operation, till number n came up -/
def wpTill (P : Program) (md : Region.Mode) (ops : Array Oper) (Q : Exit → Act → World → Prop) (S : World → Prop) (n : Nat) : Nat → Array Bool → Act → World → Prop
  | 0, listed, a, w => Region.ready md ops listed = [] ∧ Q .normal a w
  | fuel + 1, listed, a, w => (Region.ready md ops listed = [] → Q .normal a w) ∧
    ∀ i ∈ Region.ready md ops listed, wpOp P ops Q i (fun a' w' => if i = n then wpAny P md ops Q fuel (listed.setIfInBounds i true) a' w' else S w' ∧ wpTill P md ops Q S n fuel (listed.setIfInBounds i true) a' w') a w

theorem wpAny_of_till : ∀ (fuel : Nat) (listed : Array Bool) (a : Act) (w : World), wpTill P md ops Q S n fuel listed a w → wpAny P md ops Q fuel listed a w
  | 0, _, _, _, h => h
  | fuel + 1, _, _, _, h => ⟨h.1, fun i hi => wpOp_mono (fun a' w' h' => by
      by_cases e : i = n
      · rw [if_pos e] at h'; exact h'
      · rw [if_neg e] at h'; exact wpAny_of_till fuel _ a' w' h'.2) (h.2 i hi)⟩

/-- a row of operations none of which came up, each but i waits for another one of it -/
def chainB (md : Region.Mode) (ops : Array Oper) (n i : Nat) (C : List Nat) (listed : Array Bool) : Bool :=
  C.contains n && C.all fun j => !listed.getD j true && (j == i || match ops[j]? with | some oj => oj.after.any (fun e => Region.binds md e && C.contains e.on) | none => false)
theorem chain_not {i j : Nat} {C : List Nat} {listed : Array Bool} (h : chainB md ops n i C listed = true) (hj : j ∈ Region.ready md ops listed) (hji : j ≠ i) : j ∉ C ∧ j ≠ n := by
  unfold chainB at h
  simp only [Bool.and_eq_true, List.all_eq_true] at h
  have key : j ∉ C := fun hC => by
    have h1 := (h.2 j hC).2
    obtain ⟨_, oj, hoj, hall⟩ := mem_ready.1 hj
    rw [hoj] at h1
    simp only [Bool.or_eq_true, beq_iff_eq, Array.any_eq_true] at h1
    rcases h1 with h1 | ⟨k, hk, h1⟩
    · exact hji h1
    · simp only [Bool.and_eq_true] at h1
      have h2 := hall oj.after[k] (Array.getElem_mem hk) h1.1
      have h3 := (h.2 oj.after[k].on (by simpa using h1.2)).1
      simp only [Bool.not_eq_true'] at h3
      rcases Nat.lt_or_ge oj.after[k].on listed.size with h' | h'
      · simp [h'] at h2 h3; rw [h3] at h2; cases h2
      · simp [Array.getElem?_eq_none h'] at h3
  exact ⟨key, fun e => key (by rw [e]; simpa using h.1)⟩
theorem chain_set {i j : Nat} {C : List Nat} {listed : Array Bool} (h : chainB md ops n i C listed = true) (hj : j ∉ C) : chainB md ops n i C (listed.setIfInBounds j true) = true := by
  unfold chainB at h ⊢
  simp only [Bool.and_eq_true, List.all_eq_true] at h ⊢
  refine ⟨h.1, fun k hk => ⟨?_, (h.2 k hk).2⟩⟩
  have hne : j ≠ k := fun e => hj (by rw [e]; exact hk)
  rw [getD_set_ne true hne]
  exact (h.2 k hk).1

theorem wpTill_first {i : Nat} {oi : Oper} {v : Value} (C : List Nat) (hi : ops[i]? = some oi) (hsel : ∀ (j : Nat) (o : Oper) cs b, ops[j]? = some o → o.op ≠ .select cs b)
    (hQ : ∀ c a w, Q (.panic c) (a.put oi.dst v) w → Q (.panic c) a w) (hin : i ≠ n) :
    ∀ (fuel : Nat) (listed : Array Bool) (a : Act) (w : World), chainB md ops n i C listed = true →
      (∀ j oj, ops[j]? = some oj → j ≠ i → listed.getD j true = false → (∀ e ∈ oj.after, Region.binds md e = true → e.on ≠ i) → oi.apart ops oj = true) →
      i ∈ Region.ready md ops listed → YieldsIf P ops S oi v a → S w →
      wpTill P md ops Q S n fuel (listed.setIfInBounds i true) (a.put oi.dst v) w → wpTill P md ops Q S n (fuel + 1) listed a w := by
  intro fuel
  induction fuel with
  | zero =>
    intro listed a w _ _ hr hy hS H
    refine ⟨fun h => (by rw [h] at hr; cases hr), fun j hj => ?_⟩
    by_cases hji : j = i
    · subst hji; exact hy.wpOp hi hS (by rw [if_neg hin]; exact ⟨hS, H⟩)
    · have := ready_mono hj hji
      rw [H.1] at this
      cases this
  | succ fuel ih =>
    intro listed a w hC hfree hr hy hS H
    refine ⟨fun h => (by rw [h] at hr; cases hr), fun j hj => ?_⟩
    by_cases hji : j = i
    · subst hji; exact hy.wpOp hi hS (by rw [if_neg hin]; exact ⟨hS, H⟩)
    · obtain ⟨hjC, hjn⟩ := chain_not hC hj hji
      have h1 := H.2 j (ready_mono hj hji)
      simp only [if_neg hjn] at h1 ⊢
      obtain ⟨hjun, oj, hoj, hall⟩ := mem_ready.1 hj
      have hnot : ∀ e ∈ oj.after, Region.binds md e = true → e.on ≠ i := fun e he hb heq => by
        have h1 := hall e he hb
        have h0 := (mem_ready.1 hr).1
        rw [heq] at h1
        rcases Nat.lt_or_ge i listed.size with h' | h'
        · simp [h'] at h0 h1; rw [h0] at h1; cases h1
        · simp [Array.getElem?_eq_none h'] at h1
      have h2 := wpOp_putIf hoj (hfree j oj hoj hji hjun hnot) (fun cs b => hsel i oi cs b hi) (fun cs b => hsel j oj cs b hoj) hQ hy h1
      have hfree' : ∀ k ok, ops[k]? = some ok → k ≠ i → (listed.setIfInBounds j true).getD k true = false →
          (∀ e ∈ ok.after, Region.binds md e = true → e.on ≠ i) → oi.apart ops ok = true := fun k ok hk hki hun hno => by
        refine hfree k ok hk hki ?_ hno
        by_cases hjk : j = k
        · subst hjk; exact hjun
        · rw [getD_set_ne true hjk] at hun; exact hun
      refine wpOp_mono (fun a' w' h3 => ⟨h3.2.1, ih (listed.setIfInBounds j true) a' w' (chain_set hC hjC) hfree' (ready_mono hr (Ne.symm hji)) h3.1 h3.2.1 ?_⟩) h2
      rw [Array.setIfInBounds_comm _ _ hji]
      exact h3.2.2

/-- the checks of a take, in one -/
def takeT (md : Region.Mode) (ops : Array Oper) (n : Nat) (C : List Nat) (listed : Array Bool) (i : Nat) : Bool :=
  Region.noSelect ops && Region.free md ops listed i && (Region.ready md ops listed).contains i && decide (i ≠ n) && chainB md ops n i C listed
/-- all that wait for i, by other ones too -/
def restB (md : Region.Mode) (ops : Array Oper) (listed : Array Bool) (i : Nat) : List Nat :=
  (List.range ops.size).foldl (fun acc j => if j = i || (!listed.getD j true && match ops[j]? with | some oj => oj.after.any (fun e => Region.binds md e && acc.contains e.on) | none => false) then j :: acc else acc) []

theorem wpTill_do {l0 : List Oper} (i : Nat) {oi : Oper} {fuel : Nat} {listed : Array Bool} {a : Act} {w : World} (hi : l0[i]? = some oi)
    (hb : takeT md l0.toArray n (restB md l0.toArray listed i) listed i = true)
    (hQ : ∀ c a v w, Q (.panic c) (a.put oi.dst v) w → Q (.panic c) a w) (hw : Region.wanted oi (yielded l0.toArray a.tmps) = true) (hS : S w)
    (h : ∃ v, (∀ w, S w → (execOp a.eval oi).run P w = .ok (.value v) w) ∧ wpTill P md l0.toArray Q S n fuel (listed.setIfInBounds i true) (a.put oi.dst v) w) : wpTill P md l0.toArray Q S n (fuel + 1) listed a w := by
  obtain ⟨v, hy, h⟩ := h
  simp only [takeT, Bool.and_eq_true, decide_eq_true_eq] at hb
  obtain ⟨⟨⟨⟨hs, hf⟩, hr⟩, hin⟩, hc⟩ := hb
  exact wpTill_first _ (by simpa using hi) (Region.noSelect_spec hs) (fun c a w => hQ c a v w) hin fuel listed a w hc (Region.free_spec (by simpa using hi) hf) (by simpa using hr) (.inl ⟨hw, hy⟩) hS h
theorem wpTill_pass {l0 : List Oper} (i : Nat) {oi : Oper} {fuel : Nat} {listed : Array Bool} {a : Act} {w : World} (hi : l0[i]? = some oi)
    (hb : takeT md l0.toArray n (restB md l0.toArray listed i) listed i = true)
    (hQ : ∀ c a v w, Q (.panic c) (a.put oi.dst v) w → Q (.panic c) a w) (hw : Region.wanted oi (yielded l0.toArray a.tmps) = false) (hS : S w)
    (h : wpTill P md l0.toArray Q S n fuel (listed.setIfInBounds i true) (a.put oi.dst undef) w) : wpTill P md l0.toArray Q S n (fuel + 1) listed a w := by
  simp only [takeT, Bool.and_eq_true, decide_eq_true_eq] at hb
  obtain ⟨⟨⟨⟨hs, hf⟩, hr⟩, hin⟩, hc⟩ := hb
  exact wpTill_first _ (by simpa using hi) (Region.noSelect_spec hs) (fun c a w => hQ c a undef w) hin fuel listed a w hc (Region.free_spec (by simpa using hi) hf) (by simpa using hr) (.inr ⟨hw, rfl⟩) hS h
/-- an effect that keeps S -/
theorem wpTill_eff {l0 : List Oper} (i : Nat) {oi : Oper} {fuel : Nat} {listed : Array Bool} {a : Act} {w : World} (hi : l0[i]? = some oi) (hin : i ≠ n) (hr : Region.ready md l0.toArray listed = [i]) (hw : Region.wanted oi (yielded l0.toArray a.tmps) = true)
    (h : ∀ K : Act → World → Prop, (∀ a' w', S w' → wpTill P md l0.toArray Q S n fuel (listed.setIfInBounds i true) a' w' → K a' w') → Oper.wp P oi a w K Q) :
    wpTill P md l0.toArray Q S n (fuel + 1) listed a w := by
  refine ⟨fun h0 => (by rw [hr] at h0; cases h0), fun j hj => ?_⟩
  rw [hr] at hj
  have : j = i := by simpa using hj
  subst this
  unfold wpOp
  have hi' : l0.toArray[j]? = some oi := by simpa using hi
  simp only [hi', hw, if_true, if_neg hin]
  exact .inl (h _ (fun a' w' hs hh => ⟨hs, hh⟩))
/-- the last one -/
theorem wpTill_last {l0 : List Oper} {oi : Oper} {fuel : Nat} {listed : Array Bool} {a : Act} {w : World} (hi : l0[n]? = some oi) (hr : Region.ready md l0.toArray listed = [n]) (hw : Region.wanted oi (yielded l0.toArray a.tmps) = true)
    (h : ∀ K : Act → World → Prop, (∀ a' w', wpAny P md l0.toArray Q fuel (listed.setIfInBounds n true) a' w' → K a' w') → Oper.wp P oi a w K Q) :
    wpTill P md l0.toArray Q S n (fuel + 1) listed a w := by
  refine ⟨fun h0 => (by rw [hr] at h0; cases h0), fun j hj => ?_⟩
  rw [hr] at hj
  have : j = n := by simpa using hj
  subst this
  unfold wpOp
  have hi' : l0.toArray[j]? = some oi := by simpa using hi
  simp only [hi', hw, if_true]
  exact .inl (h _ (fun a' w' hh => hh))
theorem wp_region_till {id : Nat} {l0 : List Oper} {a : Act} {w : World} (S : World → Prop) (n : Nat) (hm : P.follows .mixedOrders = true)
    (h : wpTill P .any l0.toArray Q S n l0.length (Array.replicate l0.length false) a w.drew) : (Code.region id l0.toArray true).wp P Q a w := by
  refine wp_region_any hm ?_
  have := wpAny_of_till _ _ _ _ h
  simpa using this
end
end Go.Proofs.YtoglddndicmelaaGreatB
