/- Contracts of layer 28: a moment's place. Contracts of layer 28: slices.Delete at slices of moments. Contracts of layer 28: a table's methods that only read. Contracts of layer 28: Closes, Quiet; New, Add, Release, Drop, Clone. Contracts of layer 28: New, Add, Release, Drop, Clone. -/
import Derived.Test.YtoglddndicmelaaGreatProg
import Derived.WalkKit
import Derived.ProofKit
import Derived.Lib.Hide
import Derived.Outline
import Derived.Laws.Rows
import Derived.BigQuiet
import Derived.Deep.QuietTactic
import Derived.Deep.RegionHeld3
import Derived.Deep.AppendLies
import Derived.Shelf.Abstract
import Derived.Laws.Shifts
import Derived.Test.YtoglddndicmelaaGreatB3
import Derived.Test.YtoglddndicmelaaGreatB1
import Derived.OwnWalk
import Derived.Test.YtoglddndicmelaaGreatB6
import Derived.WalkSpells
import Derived.Maps.AppendAt
namespace Go.Proofs.YtoglddndicmelaaGreat.Mo
open Go.RowKit Go.Proofs.YtoglddndicmelaaGreatB Go.Shelf
set_option maxRecDepth 100000

structure It where
  num : Int
  min : Int
  out : Bool
  deriving DecidableEq
def It.cells (p : It) : List Value := [.int .u64 p.num, .int .i64 p.min, .bool p.out]
def It.val (p : It) : Value := .agg #[.int .u64 p.num, .int .i64 p.min, .bool p.out]
theorem It.len (x : It) : x.cells.length = 3 := rfl
def Srt (l : List It) : Prop := l.Pairwise (fun x y => x.num < y.num ∧ x.min ≤ y.min)
/-- the place of a number -/
def lo (num : Int) (l : List It) : Nat := l.countP (fun x => decide (x.num < num))
def has (num : Int) (l : List It) : Bool := l.any (fun x => x.num == num)
theorem countP_bound (p : It → Bool) (l : List It) (i : Nat) (hi : i ≤ l.length) (h1 : ∀ t (h : t < l.length), t < i → p l[t] = true) (h2 : ∀ t (h : t < l.length), i ≤ t → p l[t] = false) : l.countP p = i := by
  have e : l = l.take i ++ l.drop i := (List.take_append_drop i l).symm
  have a : (l.take i).countP p = i := by
    have : (l.take i).countP p = (l.take i).length := by
      rw [List.countP_eq_length]
      intro x hx
      obtain ⟨t, ht, rfl⟩ := List.getElem_of_mem hx
      rw [List.getElem_take]
      rw [List.length_take] at ht
      exact h1 t (by omega) (by omega)
    rw [this, List.length_take]; omega
  have b : (l.drop i).countP p = 0 := by
    rw [List.countP_eq_zero]
    intro x hx
    obtain ⟨t, ht, rfl⟩ := List.getElem_of_mem hx
    rw [List.getElem_drop]
    rw [List.length_drop] at ht
    rw [h2 (i + t) (by omega) (by omega)]; simp
  rw [e, List.countP_append, a, b, Nat.add_zero]
theorem srt_get {l : List It} (h : Srt l) {i j : Nat} (hi : i < l.length) (hj : j < l.length) (hij : i < j) : l[i].num < l[j].num ∧ l[i].min ≤ l[j].min :=
  List.pairwise_iff_getElem.1 h i j hi hj hij
/-- a place between the lesser and the others is the place -/
theorem lo_bound {l : List It} {num : Int} {i : Nat} (hi : i ≤ l.length) (h1 : ∀ t (h : t < l.length), t < i → l[t].num < num) (h2 : ∀ t (h : t < l.length), i ≤ t → num ≤ l[t].num) : i = lo num l := by
  unfold lo
  exact (countP_bound _ l i hi (fun t h ht => by simpa using h1 t h ht) (fun t h ht => by simpa using h2 t h ht)).symm
theorem has_of_get {l : List It} {i : Nat} (hi : i < l.length) {num : Int} (h : l[i].num = num) : has num l = true := by
  unfold has; rw [List.any_eq_true]; exact ⟨_, List.getElem_mem hi, by simpa using h⟩
theorem has_none {l : List It} {num : Int} (h : ∀ t (h : t < l.length), l[t].num ≠ num) : has num l = false := by
  unfold has; rw [List.any_eq_false]
  intro x hx
  obtain ⟨t, ht, rfl⟩ := List.getElem_of_mem hx
  simpa using h t ht
theorem lo_le (num : Int) (l : List It) : lo num l ≤ l.length := List.countP_le_length
/-- ahead of the place all are lesser, behind it none is -/
theorem lo_split {l : List It} (hs : Srt l) (num : Int) : (∀ t (h : t < l.length), t < lo num l → l[t].num < num) ∧ (∀ t (h : t < l.length), lo num l ≤ t → num ≤ l[t].num) := by
  induction l with
  | nil => exact ⟨fun t h => by simp at h, fun t h => by simp at h⟩
  | cons x l ih =>
    obtain ⟨hx, hl⟩ := List.pairwise_cons.1 hs
    obtain ⟨i1, i2⟩ := ih hl
    by_cases h : x.num < num
    · have e : lo num (x :: l) = lo num l + 1 := by unfold lo; rw [List.countP_cons_of_pos (by simpa using h)]
      rw [e]
      refine ⟨fun t ht hlt => ?_, fun t ht hle => ?_⟩
      · cases t with
        | zero => exact h
        | succ t => exact i1 t (by simpa using ht) (by omega)
      · cases t with
        | zero => omega
        | succ t => exact i2 t (by simpa using ht) (by omega)
    · have e : lo num (x :: l) = 0 := by
        unfold lo
        rw [List.countP_eq_zero]
        intro y hy
        rcases List.mem_cons.1 hy with rfl | hy
        · simpa using h
        · have := (hx y hy).1; simp; omega
      rw [e]
      refine ⟨fun t ht hlt => by omega, fun t ht _ => ?_⟩
      cases t with
      | zero => simp; omega
      | succ t =>
        have := (hx _ (List.getElem_mem (by simpa using ht : t < l.length))).1
        simp only [List.getElem_cons_succ]; omega
theorem has_get {l : List It} (hs : Srt l) {num : Int} (h : has num l = true) : ∃ hi : lo num l < l.length, l[lo num l].num = num := by
  obtain ⟨h1, h2⟩ := lo_split hs num
  unfold has at h
  rw [List.any_eq_true] at h
  obtain ⟨x, hx, he⟩ := h
  obtain ⟨t, ht, rfl⟩ := List.getElem_of_mem hx
  have he' : l[t].num = num := by simpa using he
  have hle : lo num l ≤ t := by
    rcases Nat.lt_or_ge t (lo num l) with h | h
    · have := h1 t ht h; omega
    · exact h
  have hlt : lo num l < l.length := by omega
  refine ⟨hlt, ?_⟩
  rcases Nat.lt_or_ge (lo num l) t with h | h
  · have := (srt_get hs hlt ht h).1; have := h2 _ hlt (Nat.le_refl _); omega
  · have e : t = lo num l := by omega
    subst e; exact he'
theorem shr1 (x : Int) (w : World) : (binOp .shr 260 (.int .u64 x) (.int .u64 1)).run Tryz.prog w = .ok (.int .u64 (x / 2)) w := by
  go_simp
/-- how two compare -/
def cmpI (x : It) (num : Int) : Int := if x.num < num then -1 else if x.num > num then 1 else 0
theorem cmp_any (x : It) (num : Int) (w : World) :
    Calls Tryz.prog 162 #[x.val, .int .u64 num] w fun e w' => e = .returned (.int .i64 (cmpI x num)) ∧ Ex0 w w' := by
  obtain ⟨a, b, c⟩ := x
  unfold It.val cmpI
  by_cases h1 : a < num
  · have H := Lib.hid h1
    go_enter Tryz.func162, Tryz.ntmps162
    go_wp2
    go_ret
    exact ⟨by simp, Ex.alloc _ _⟩
  · by_cases h2 : a > num
    · have H := Lib.hid h1
      have H2 := Lib.hid h2
      go_enter Tryz.func162, Tryz.ntmps162
      go_wp2
      go_ret
      exact ⟨by simp, Ex.alloc _ _⟩
    · have H := Lib.hid h1
      have H2 := Lib.hid h2
      go_enter Tryz.func162, Tryz.ntmps162
      go_wp2
      go_ret
      exact ⟨by simp, Ex.alloc _ _⟩
set_option maxRecDepth 100000 in
set_option maxHeartbeats 1000000 in
theorem bsearch_any (A : Option Addr) (len cap : Nat) (l : List It) (num : Int) (w : World) (hs : Sl w 3 A len (l.flatMap It.cells)) (hn : len ≤ 1000000) (hsrt : Srt l) :
    Calls Tryz.prog 161 #[.slice A len cap, .int .u64 num, .func (.func 162) #[] #[]] w fun e w' => e = .returned (.tuple #[.int .i64 (lo num l), .bool (has num l)]) ∧ Ex0 w w' := by
  have hm := hs.small
  have hll : l.length = len := by have := hs.len; rw [flat_len It.cells 3 It.len] at this; omega
  have he := enters_of (P := Tryz.prog) Tryz.func162 (by kernel_rfl) rfl
  go_enter Tryz.func161, Tryz.ntmps161
  go_wp2
  go_loopw [9, 10] (fun i j wr => ∃ a b : Nat, a ≤ b ∧ b ≤ len ∧ i = .int .i64 a ∧ j = .int .i64 b ∧ Ex0 w wr ∧ (∀ t (h : t < l.length), t < a → l[t].num < num) ∧ (∀ t (h : t < l.length), b ≤ t → num ≤ l[t].num)) (fun i j _ => (intOf j).toNat - (intOf i).toNat)
  case atStart => exact ⟨0, len, Nat.zero_le _, Nat.le_refl _, rfl, rfl, Ex.refl _ _, fun t h hj => by omega, fun t h hj => by omega⟩
  case round =>
    obtain ⟨a, b, hab, hbl, rfl, rfl, hx, h1, h2⟩ := hrel
    by_cases hlt : a < b
    · obtain ⟨m, hma, hmb, ediv⟩ : ∃ m : Nat, a ≤ m ∧ m < b ∧ ((a : Int) + (b : Int)) / 2 = (m : Int) := ⟨(a + b) / 2, by omega, by omega, by omega⟩
      obtain ⟨g, off, hl, rfl, hr⟩ := (hs.ex0 hx).row It.len (i := m) (by omega) (by omega)
      have hH1 := Lib.hid h1
      have hH2 := Lib.hid h2
      have hgt : ∀ t (h : t < l.length), l[m].num ≤ l[t].num ∨ t < m := fun t h => by
        rcases Nat.lt_trichotomy t (m) with e | e | e
        · exact .inr e
        · left; subst e; exact Int.le_refl _
        · left; have := (srt_get hsrt hl h e).1; omega
      have hle : ∀ t (h : t < l.length), t < m + 1 → l[t].num ≤ l[m].num := fun t h ht => by
        rcases Nat.lt_trichotomy t (m) with e | e | e
        · have := (srt_get hsrt h hl e).1; omega
        · subst e; exact Int.le_refl _
        · omega
      have HG := Lib.hid hgt
      have HL := Lib.hid hle
      clear h1 h2 hgt hle
      generalize l[m] = x at hr HG HL
      obtain ⟨x1, x2, x3⟩ := x
      unfold It.cells at hr
      have hsh : ∀ w, (binOp .shr 260 (.int .u64 ((a : Int) + (b : Int))) (.int .u64 1)).run Tryz.prog w = .ok (.int .u64 (m : Int)) w := fun w => by rw [shr1, ediv]
      have hi0 : (0 : Int) ≤ (m : Int) := Int.natCast_nonneg _
      have hi1 : (m : Int) < (len : Int) := by omega
      by_cases hxn : x1 < num
      · have hc : cmpI ⟨x1, x2, x3⟩ num = -1 := by unfold cmpI; rw [if_pos hxn]
        have HX := Lib.hid hxn
        clear hxn
        go_wp2_with (first | (refine wpList_load_at rfl _ _ rfl _ rfl _ _ hr Tryz.underlying199 rfl (by kernel_rfl) ?_))
        refine (cmp_any ⟨x1, x2, x3⟩ num wr).mono ?_
        rintro e w1 ⟨rfl, hx1⟩
        rw [hc]
        go_wp2
        go_roundw
        case rel => exact ⟨m + 1, b, by omega, hbl, by go_num, rfl, hx.trans0 hx1, fun t h ht => by have h3 := HL.out t h ht; have h4 := HX.out; omega, hH2.out⟩
        case measure => simp [intOf]; omega
      · have hc : (cmpI ⟨x1, x2, x3⟩ num < 0) = False := by unfold cmpI; rw [if_neg hxn]; split <;> simp
        have hc2 : ¬ (cmpI ⟨x1, x2, x3⟩ num < 0) := by rw [hc]; exact id
        have HX := Lib.hid hxn
        clear hxn hc
        go_wp2_with (first | (refine wpList_load_at rfl _ _ rfl _ rfl _ _ hr Tryz.underlying199 rfl (by kernel_rfl) ?_))
        refine (cmp_any ⟨x1, x2, x3⟩ num wr).mono ?_
        rintro e w1 ⟨rfl, hx1⟩
        generalize cmpI ⟨x1, x2, x3⟩ num = cc at hc2 ⊢
        go_wp2
        go_roundw
        case rel => exact ⟨a, m, by omega, by omega, rfl, rfl, hx.trans0 hx1, hH1.out, fun t h ht => by
          have h4 := HX.out
          rcases HG.out t h with h3 | h3
          · omega
          · omega⟩
        case measure => simp [intOf]; omega
    · have hab2 : a = b := by omega
      subst hab2
      have hlo := lo_bound (by omega) h1 h2
      by_cases hal : a < len
      · obtain ⟨g, off, hl, rfl, hr⟩ := (hs.ex0 hx).row It.len (i := a) (by omega) (by omega)
        have hh : has num l = decide (cmpI l[a] num = 0) := by
          have hge := h2 a hl (Nat.le_refl _)
          by_cases e : l[a].num = num
          · rw [has_of_get hl e]; unfold cmpI; rw [e]; simp
          · have : cmpI l[a] num = 1 := by unfold cmpI; rw [if_neg (by omega), if_pos (by omega)]
            rw [this, has_none (fun t ht => ?_)]
            · rfl
            · rcases Nat.lt_trichotomy t a with h | h | h
              · have := h1 t ht h; omega
              · subst h; exact e
              · have := (srt_get hsrt hl ht h).1; omega
        clear h1 h2
        generalize l[a] = x at hr hh
        have HH := Lib.hid hh
        have HLO := Lib.hid hlo
        clear hh hlo
        obtain ⟨x1, x2, x3⟩ := x
        unfold It.cells at hr
        have c0 : wr.cell? ⟨g, off + a * 3, none⟩ = some (.int .u64 x1) := by simpa [Addr.add] using hr 0 _ rfl
        have c1 : wr.cell? ⟨g, off + a * 3 + 1, none⟩ = some (.int .i64 x2) := by simpa [Addr.add] using hr 1 _ rfl
        have c2 : wr.cell? ⟨g, off + a * 3 + 2, none⟩ = some (.bool x3) := by simpa [Addr.add] using hr 2 _ rfl
        go_wp2_with fail
        refine (cmp_any ⟨x1, x2, x3⟩ num wr).mono ?_
        rintro e w1 ⟨rfl, hx1⟩
        go_wp2
        go_ret2
        refine ⟨?_, hx.trans0 hx1⟩
        rw [HH.out, ← HLO.out]
        rfl
      · have hh : has num l = false := has_none (fun t ht => by have := h1 t ht (by omega); omega)
        have HH := Lib.hid hh
        have HLO := Lib.hid hlo
        clear h1 h2 hlo hh
        go_wp2
        go_ret2
        rw [HH.out, ← HLO.out]
        exact ⟨rfl, hx⟩

theorem infoIt : (Tryz.prog.info? 199).map (fun i => (i.zero, i.size, i.bytes)) = some (some (.agg #[.int .u64 0, .int .i64 0, .bool false]), 3, 24) := by kernel_rfl
theorem zeroIt (w : World) : (zeroValue 199).run Tryz.prog w = .ok (.agg #[.int .u64 0, .int .i64 0, .bool false]) w := by kernel_rfl

/-- a table: its block holds a slice of its own -/
structure TabAt (w : World) (p : Nat) (v : Value) (l : List It) : Prop where
  blk : w.heap[p]? = some (.cells #[v] 171 (0, 0))
  own : w.ownsRow 0 199 3 v l.length (l.flatMap It.cells)
  ne : v.ownBlock ≠ some p
theorem TabAt.cell {w : World} {p : Nat} {v : Value} {l : List It} (h : TabAt w p v l) : w.cell? ⟨p, 0, none⟩ = some v := by
  rw [cell_of_row w p 0 _ _ _ h.blk]; rfl
theorem TabAt.lt {w : World} {p : Nat} {v : Value} {l : List It} (h : TabAt w p v l) : p < w.heap.size := (Array.getElem?_eq_some_iff.1 h.blk).1
theorem TabAt.ex {S : Nat → Prop} {w w' : World} {p : Nat} {v : Value} {l : List It} (h : TabAt w p v l) (hx : Ex S w w') (h1 : ¬ S p) (h2 : ∀ b, v.ownBlock = some b → ¬ S b) : TabAt w' p v l :=
  ⟨(hx.block p h.lt h1).trans h.blk, own_ex h.own hx h2, h.ne⟩
theorem TabAt.ex0 {w w' : World} {p : Nat} {v : Value} {l : List It} (h : TabAt w p v l) (hx : Ex0 w w') : TabAt w' p v l := h.ex hx id (fun _ _ => id)
/-- what a table is -/
structure TabOk (l : List It) : Prop where
  srt : Srt l
  rng : ∀ x ∈ l, 1 ≤ x.num ∧ x.num ≤ 65535 ∧ 0 ≤ x.min ∧ x.min ≤ 1073741824
  len : l.length ≤ 1000
def gt (l : List It) (i : Nat) : It := l.getD i ⟨0, 0, false⟩
theorem gt_get {l : List It} {i : Nat} (h : i < l.length) : gt l i = l[i] := by unfold gt; simp [List.getD, List.getElem?_eq_getElem h]
theorem gt_rng {l : List It} (hk : TabOk l) {i : Nat} (h : i < l.length) : 1 ≤ (gt l i).num ∧ (gt l i).num ≤ 65535 ∧ 0 ≤ (gt l i).min ∧ (gt l i).min ≤ 1073741824 := by
  rw [gt_get h]; exact hk.rng _ (List.getElem_mem h)
/-- an item's cells -/
structure ItC (g o : Nat) (x : It) (w : World) : Prop where
  c0 : w.cell? ⟨g, o, none⟩ = some (.int .u64 x.num)
  c1 : w.cell? ⟨g, o + 1, none⟩ = some (.int .i64 x.min)
  c2 : w.cell? ⟨g, o + 2, none⟩ = some (.bool x.out)
theorem ItC.of {g o : Nat} {x : It} {w : World} (h : RowAt w ⟨g, o, none⟩ x.cells) : ItC g o x w :=
  ⟨by simpa [Addr.add] using h 0 _ rfl, by simpa [Addr.add] using h 1 _ rfl, by simpa [Addr.add] using h 2 _ rfl⟩
theorem TabAt.item {w : World} {p : Nat} {v : Value} {l : List It} (h : TabAt w p v l) {i : Nat} (hi : i < l.length) : ∃ g off cap, v = .slice (some ⟨g, off, none⟩) l.length cap ∧ ItC g (off + i * 3) (gt l i) w := by
  obtain ⟨A, cap, rfl, hsl, _⟩ := own_sl h.own
  obtain ⟨g, off, hl, rfl, hr⟩ := hsl.row It.len (by decide) (by have := hsl.len; rw [flat_len It.cells 3 It.len] at this; omega)
  exact ⟨g, off, cap, rfl, by rw [gt_get hl]; exact ItC.of hr⟩
theorem find_any (p : Nat) (v : Value) (l : List It) (num : Int) (w : World) (hB : TabAt w p v l) (hk : TabOk l) :
    Calls Tryz.prog 135 #[.pointer (some ⟨p, 0, none⟩), .int .u64 num] w fun e w' => e = .returned (.tuple #[.int .i64 (lo num l), .bool (has num l)]) ∧ Ex0 w w' := by
  have hc := hB.cell
  have hn := hk.len
  obtain ⟨A, cap, rfl, hsl, _⟩ := own_sl hB.own
  go_enter Tryz.func135, Tryz.ntmps135
  go_wp2_with fail
  refine (bsearch_any A l.length cap l num _ hsl (by omega) hk.srt).mono ?_
  rintro e w' ⟨rfl, hx⟩
  go_wp2
  go_ret2
  exact ⟨rfl, hx⟩
theorem find_nil (num : Int) (w : World) :
    Calls Tryz.prog 135 #[.pointer none, .int .u64 num] w fun e w' => e = .returned (.tuple #[.int .i64 0, .bool false]) ∧ w' = w := by
  go_enter Tryz.func135, Tryz.ntmps135
  go_wp2
  go_ret2
  exact ⟨rfl, rfl⟩
theorem len_any (p : Nat) (v : Value) (l : List It) (w : World) (hB : TabAt w p v l) :
    Calls Tryz.prog 136 #[.pointer (some ⟨p, 0, none⟩)] w fun e w' => e = .returned (.int .i64 l.length) ∧ w' = w := by
  have hc := hB.cell
  obtain ⟨A, cap, rfl, hsl, _⟩ := own_sl hB.own
  go_enter Tryz.func136, Tryz.ntmps136
  go_wp2
  go_ret
  exact ⟨rfl, rfl⟩
theorem len_nil (w : World) :
    Calls Tryz.prog 136 #[.pointer none] w fun e w' => e = .returned (.int .i64 0) ∧ w' = w := by
  go_enter Tryz.func136, Tryz.ntmps136
  go_wp2
  go_ret
  exact ⟨rfl, rfl⟩
/-- a moment's minute -/
def minV (num : Int) (l : List It) : Int := if has num l then (gt l (lo num l)).min else 0
theorem min_any (p : Nat) (v : Value) (l : List It) (num : Int) (w : World) (hB : TabAt w p v l) (hk : TabOk l) :
    Calls Tryz.prog 92 #[.pointer (some ⟨p, 0, none⟩), .int .u64 num] w fun e w' => e = .returned (.tuple #[.int .i64 (minV num l), .bool (has num l)]) ∧ Ex0 w w' := by
  have hn := hk.len
  go_enter Tryz.func92, Tryz.ntmps92
  go_wp2_with fail
  refine (find_any p v l num _ hB hk).mono ?_
  rintro e w1 ⟨rfl, hx⟩
  have hB1 := hB.ex0 hx
  have hX := Lib.hid hx
  clear hx hB
  cases hh : has num l
  · have HH := Lib.hid hh
    clear hh
    go_wp2
    go_ret2
    refine ⟨?_, hX.out⟩
    unfold minV; rw [HH.out]; rfl
  · obtain ⟨hi, _⟩ := has_get hk.srt hh
    obtain ⟨g, off, cap, rfl, c0, c1, c2⟩ := hB1.item hi
    have hc := hB1.cell
    have HH := Lib.hid hh
    clear hh hB1
    have hi0 : (0 : Int) ≤ (lo num l : Int) := Int.natCast_nonneg _
    have hi1 : (lo num l : Int) < (l.length : Int) := by omega
    go_wp2
    go_ret2
    refine ⟨?_, hX.out⟩
    unfold minV; rw [HH.out]; rfl
theorem min_nil (num : Int) (w : World) :
    Calls Tryz.prog 92 #[.pointer none, .int .u64 num] w fun e w' => e = .returned (.tuple #[.int .i64 0, .bool false]) ∧ w' = w := by
  go_enter Tryz.func92, Tryz.ntmps92
  go_wp2_with fail
  refine (find_nil num _).mono ?_
  rintro e w1 ⟨rfl, rfl⟩
  go_wp2
  go_ret2
  exact ⟨rfl, rfl⟩
/-- is it out? -/
def outB (num : Int) (l : List It) : Bool := has num l && (gt l (lo num l)).out
theorem out_any (p : Nat) (v : Value) (l : List It) (num : Int) (w : World) (hB : TabAt w p v l) (hk : TabOk l) :
    Calls Tryz.prog 93 #[.pointer (some ⟨p, 0, none⟩), .int .u64 num] w fun e w' => e = .returned (.bool (outB num l)) ∧ Ex0 w w' := by
  have hn := hk.len
  go_enter Tryz.func93, Tryz.ntmps93
  go_wp2_with fail
  refine (find_any p v l num _ hB hk).mono ?_
  rintro e w1 ⟨rfl, hx⟩
  have hB1 := hB.ex0 hx
  have hX := Lib.hid hx
  clear hx hB
  cases hh : has num l
  · have HH := Lib.hid hh
    clear hh
    go_wp2
    go_ret
    refine ⟨?_, hX.out⟩
    unfold outB; rw [HH.out]; rfl
  · obtain ⟨hi, _⟩ := has_get hk.srt hh
    obtain ⟨g, off, cap, rfl, c0, c1, c2⟩ := hB1.item hi
    have hc := hB1.cell
    have HH := Lib.hid hh
    clear hh hB1
    have hi0 : (0 : Int) ≤ (lo num l : Int) := Int.natCast_nonneg _
    have hi1 : (lo num l : Int) < (l.length : Int) := by omega
    go_wp2
    go_ret
    refine ⟨?_, hX.out⟩
    unfold outB; rw [HH.out]; rfl
theorem out_nil (num : Int) (w : World) :
    Calls Tryz.prog 93 #[.pointer none, .int .u64 num] w fun e w' => e = .returned (.bool false) ∧ w' = w := by
  go_enter Tryz.func93, Tryz.ntmps93
  go_wp2_with fail
  refine (find_nil num _).mono ?_
  rintro e w1 ⟨rfl, rfl⟩
  go_wp2
  go_ret
  exact ⟨rfl, rfl⟩
/-- the last one -/
def lastN (l : List It) : Int := if l.length = 0 then 0 else (gt l (l.length - 1)).num
theorem last_any (p : Nat) (v : Value) (l : List It) (w : World) (hB : TabAt w p v l) (hk : TabOk l) :
    Calls Tryz.prog 94 #[.pointer (some ⟨p, 0, none⟩)] w fun e w' => e = .returned (.tuple #[.int .u64 (lastN l), .bool (decide (0 < l.length))]) ∧ Ex0 w w' := by
  have hn := hk.len
  go_enter Tryz.func94, Tryz.ntmps94
  go_wp2_with fail
  refine (len_any p v l _ hB).mono ?_
  rintro e w1 ⟨rfl, rfl⟩
  by_cases h0 : l.length = 0
  · have e0 : ((l.length : Int) == 0) = true := by rw [h0]; rfl
    have H0 := Lib.hid h0
    clear h0
    go_wp2
    go_ret2
    refine ⟨?_, Ex.refl _ _⟩
    unfold lastN; rw [H0.out]; rfl
  · have e0 : ((l.length : Int) == 0) = false := by rw [beq_eq_false_iff_ne]; omega
    obtain ⟨g, off, cap, rfl, c0, c1, c2⟩ := hB.item (i := l.length - 1) (by omega)
    have hc := hB.cell
    have hi0 : (0 : Int) ≤ (l.length : Int) - 1 := by omega
    have hi1 : (l.length : Int) - 1 < (l.length : Int) := by omega
    have ec : ((l.length : Int) - 1) = ((l.length - 1 : Nat) : Int) := by omega
    have en : ((l.length : Int) - 1).toNat = l.length - 1 := by omega
    have hd : decide (0 < l.length) = true := by simp; omega
    have H0 := Lib.hid h0
    have HD := Lib.hid hd
    clear h0 hd hB ec
    go_wp2
    go_quiet (fail)
    go_wp2
    go_ret2
    refine ⟨?_, (Ex.refl _ _).drewN' _⟩
    unfold lastN; rw [if_neg H0.out, HD.out]; rfl
theorem last_nil (w : World) :
    Calls Tryz.prog 94 #[.pointer none] w fun e w' => e = .returned (.tuple #[.int .u64 0, .bool false]) ∧ w' = w := by
  go_enter Tryz.func94, Tryz.ntmps94
  go_wp2_with fail
  refine (len_nil _).mono ?_
  rintro e w1 ⟨rfl, rfl⟩
  go_wp2
  go_ret2
  exact ⟨rfl, rfl⟩
/-- the next one -/
def nextI (num : Int) (l : List It) : Nat := lo num l + (if has num l then 1 else 0)
def nextB (num : Int) (l : List It) : Bool := decide (nextI num l < l.length)
def nextN (num : Int) (l : List It) : Int := if nextB num l then (gt l (nextI num l)).num else 0
theorem next_any (p : Nat) (v : Value) (l : List It) (num : Int) (w : World) (hB : TabAt w p v l) (hk : TabOk l) :
    Calls Tryz.prog 158 #[.pointer (some ⟨p, 0, none⟩), .int .u64 num] w fun e w' => e = .returned (.tuple #[.int .u64 (nextN num l), .bool (nextB num l)]) ∧ Ex0 w w' := by
  have hn := hk.len
  have hle := lo_le num l
  go_enter Tryz.func158, Tryz.ntmps158
  go_wp2_with fail
  refine (find_any p v l num _ hB hk).mono ?_
  rintro e w1 ⟨rfl, hx⟩
  have hB1 := hB.ex0 hx
  have hX := Lib.hid hx
  clear hx hB
  have hni : nextI num l = lo num l + (if has num l then 1 else 0) := rfl
  have hnb : nextB num l = decide (nextI num l < l.length) := rfl
  have hnn : nextN num l = if nextB num l then (gt l (nextI num l)).num else 0 := rfl
  have HNB := Lib.hid hnb
  have HNN := Lib.hid hnn
  clear hnb hnn
  cases hh : has num l
  all_goals
    rw [hh] at hni
    clear hh
    simp only [Bool.false_eq_true, if_false, if_true, Nat.add_zero] at hni
    by_cases hlt : nextI num l < l.length
    · have e1 : nextB num l = true := by rw [HNB.out]; simpa using hlt
      have E1 := Lib.hid e1
      obtain ⟨g, off, cap, rfl, c0, c1, c2⟩ := hB1.item hlt
      have hc := hB1.cell
      generalize hgx : gt l (nextI num l) = x at *
      rw [hni] at c0 c1 c2 hlt
      have hHB := Lib.hid hB1
      clear hB1 e1 hgx hni
      generalize lo num l = i at *
      go_wp2_with fail
      refine (len_any p _ l _ hHB.out).mono ?_
      rintro e w2 ⟨rfl, rfl⟩
      have hi0 : (0 : Int) ≤ (i : Int) := Int.natCast_nonneg _
      have hi0' : (0 : Int) ≤ (i : Int) + 1 := by omega
      have hi2 : ((i : Int) + 1).toNat = i + 1 := by omega
      go_wp2
      go_ret2
      refine ⟨?_, hX.out⟩
      rw [HNN.out, E1.out]; rfl
    · have e1 : nextB num l = false := by rw [HNB.out]; simpa using hlt
      have E1 := Lib.hid e1
      have hHB := Lib.hid hB1
      rw [hni] at hlt
      clear e1 hB1 hni
      generalize lo num l = i at *
      go_wp2_with fail
      refine (len_any p v l _ hHB.out).mono ?_
      rintro e w2 ⟨rfl, rfl⟩
      go_wp2
      go_ret2
      refine ⟨?_, hX.out⟩
      rw [HNN.out, E1.out]; rfl
theorem next_nil (num : Int) (w : World) :
    Calls Tryz.prog 158 #[.pointer none, .int .u64 num] w fun e w' => e = .returned (.tuple #[.int .u64 0, .bool false]) ∧ w' = w := by
  go_enter Tryz.func158, Tryz.ntmps158
  go_wp2_with fail
  refine (find_nil num _).mono ?_
  rintro e w1 ⟨rfl, rfl⟩
  go_wp2_with fail
  refine (len_nil _).mono ?_
  rintro e w1 ⟨rfl, rfl⟩
  go_wp2
  go_ret2
  exact ⟨rfl, rfl⟩

/-- the next one's minute -/
def nextM (num : Int) (l : List It) : Int := if nextB num l then minV (nextN num l) l else 0
theorem ahead_any (p : Nat) (v : Value) (l : List It) (num : Int) (w : World) (hB : TabAt w p v l) (hk : TabOk l) :
    Calls Tryz.prog 123 #[.pointer (some ⟨p, 0, none⟩), .int .u64 num] w fun e w' => e = .returned (.tuple #[.int .i64 (minV num l), .int .i64 (nextM num l), .bool (has num l), .bool (!nextB num l)]) ∧ Ex0 w w' := by
  go_enter Tryz.func123, Tryz.ntmps123
  go_wp2_with fail
  refine (min_any p v l num _ hB hk).mono ?_
  rintro e w1 ⟨rfl, hx1⟩
  have hB1 := Lib.hid (hB.ex0 hx1)
  have HX1 := Lib.hid hx1
  clear hx1 hB
  go_wp2_with fail
  refine (next_any p v l num _ hB1.out hk).mono ?_
  rintro e w2 ⟨rfl, hx2⟩
  have hB2 := Lib.hid (hB1.out.ex0 hx2)
  have HX2 := Lib.hid (HX1.out.trans0 hx2)
  clear hx2 hB1 HX1
  cases hb : nextB num l
  · have HB := Lib.hid hb
    clear hb
    go_wp2
    refine bodyPost_ret (v := .tuple #[.int .i64 (minV num l), .int .i64 0, .bool (has num l), .bool true]) (by simp [results, Tryz.results123, go_sem]) rfl ?_
    refine ⟨?_, HX2.out⟩
    unfold nextM; rw [HB.out]; rfl
  · have HB := Lib.hid hb
    clear hb
    go_wp2_with fail
    refine (min_any p v l (nextN num l) _ hB2.out hk).mono ?_
    rintro e w3 ⟨rfl, hx3⟩
    have HX3 := Lib.hid (HX2.out.trans0 hx3)
    clear hx3
    go_wp2
    refine bodyPost_ret (v := .tuple #[.int .i64 (minV num l), .int .i64 (minV (nextN num l) l), .bool (has num l), .bool false]) (by simp [results, Tryz.results123, go_sem]) rfl ?_
    refine ⟨?_, HX3.out⟩
    unfold nextM; rw [HB.out]; rfl
theorem minV_rng {l : List It} (hk : TabOk l) (num : Int) : 0 ≤ minV num l ∧ minV num l ≤ 1073741824 := by
  unfold minV
  cases hh : has num l
  · simp
  · obtain ⟨hi, _⟩ := has_get hk.srt hh
    have := gt_rng hk hi
    simp only [if_true]; exact ⟨this.2.2.1, this.2.2.2⟩
theorem nextM_rng {l : List It} (hk : TabOk l) (num : Int) : 0 ≤ nextM num l ∧ nextM num l ≤ 1073741824 := by
  unfold nextM
  split
  · exact minV_rng hk _
  · simp
/-- does it close its window? -/
def closesB (num win : Int) (l : List It) : Bool := has num l && decide (1 ≤ win) && (!nextB num l || !(minV num l / win == nextM num l / win))
set_option maxHeartbeats 1000000 in
theorem closes_any (p : Nat) (v : Value) (l : List It) (num win : Int) (w : World) (hB : TabAt w p v l) (hk : TabOk l) (hwin : win ≤ 9223372036854775807) :
    Calls Tryz.prog 80 #[.pointer (some ⟨p, 0, none⟩), .int .u64 num, .int .i64 win] w fun e w' => e = .returned (.bool (closesB num win l)) ∧ Ex0 w w' := by
  have hr1 := minV_rng hk num
  have hr2 := nextM_rng hk num
  go_enter Tryz.func80, Tryz.ntmps80
  go_wp2_with fail
  refine (ahead_any p v l num _ hB hk).mono ?_
  rintro e w1 ⟨rfl, hx1⟩
  have HX1 := Lib.hid hx1
  have hcl : closesB num win l = (has num l && decide (1 ≤ win) && (!nextB num l || !(minV num l / win == nextM num l / win))) := rfl
  have HCL := Lib.hid hcl
  clear hx1 hcl
  generalize has num l = h at *
  generalize nextB num l = nb at *
  cases h
  · go_wp2
    go_quiet (fail)
    go_wp2
    go_ret
    exact ⟨by rw [HCL.out]; rfl, HX1.out.drewN' _⟩
  · by_cases hw : 1 ≤ win
    · have hd : decide (1 ≤ win) = true := by simpa using hw
      have HD := Lib.hid hd
      clear hd
      cases nb
      · go_wp2
        go_quiet (fail)
        go_wp2
        go_ret
        exact ⟨by rw [HCL.out, HD.out]; rfl, HX1.out.drewN' _⟩
      · have hx : (minV num l / win != nextM num l / win) = (true && true && (!true || !(minV num l / win == nextM num l / win))) := by simp [bne]
        have HXX := Lib.hid hx
        clear hx
        go_wp2
        go_quiet (fail)
        go_wp2
        go_ret
        refine ⟨?_, HX1.out.drewN' _⟩
        rw [HCL.out, HD.out, ← HXX.out]
        rfl
    · have hd : decide (1 ≤ win) = false := by simpa using hw
      have HD := Lib.hid hd
      have hlt : win < 1 := by omega
      go_wp2
      go_quiet (fail)
      go_wp2
      go_ret
      exact ⟨by rw [HCL.out, HD.out]; rfl, HX1.out.drewN' _⟩
/-- is it quiet? -/
def quietB (num gap : Int) (l : List It) : Bool := has num l && decide (0 ≤ gap) && (!nextB num l || decide (nextM num l - minV num l > gap))
theorem quiet_any (p : Nat) (v : Value) (l : List It) (num gap : Int) (w : World) (hB : TabAt w p v l) (hk : TabOk l) :
    Calls Tryz.prog 82 #[.pointer (some ⟨p, 0, none⟩), .int .u64 num, .int .i64 gap] w fun e w' => e = .returned (.bool (quietB num gap l)) ∧ Ex0 w w' := by
  have hr1 := minV_rng hk num
  have hr2 := nextM_rng hk num
  go_enter Tryz.func82, Tryz.ntmps82
  go_wp2_with fail
  refine (ahead_any p v l num _ hB hk).mono ?_
  rintro e w1 ⟨rfl, hx1⟩
  have HX1 := Lib.hid hx1
  have hcl : quietB num gap l = (has num l && decide (0 ≤ gap) && (!nextB num l || decide (nextM num l - minV num l > gap))) := rfl
  have HCL := Lib.hid hcl
  clear hx1 hcl
  generalize minV num l = a at *
  generalize nextM num l = b at *
  generalize has num l = h at *
  generalize nextB num l = nb at *
  cases h
  · go_wp2
    go_ret
    exact ⟨by rw [HCL.out]; rfl, HX1.out⟩
  · by_cases hw : 0 ≤ gap
    · have hd : decide (0 ≤ gap) = true := by simpa using hw
      have HD := Lib.hid hd
      clear hd
      cases nb
      · go_wp2
        go_ret
        exact ⟨by rw [HCL.out, HD.out]; rfl, HX1.out⟩
      · by_cases hg : b - a > gap
        · have hd2 : decide (b - a > gap) = true := by simpa using hg
          have HD2 := Lib.hid hd2
          clear hd2
          go_wp2
          go_ret
          exact ⟨by rw [HCL.out, HD.out, HD2.out]; rfl, HX1.out⟩
        · have hd2 : decide (b - a > gap) = false := by simpa using hg
          have HD2 := Lib.hid hd2
          clear hd2
          go_wp2
          go_ret
          exact ⟨by rw [HCL.out, HD.out, HD2.out]; rfl, HX1.out⟩
    · have hd : decide (0 ≤ gap) = false := by simpa using hw
      have HD := Lib.hid hd
      clear hd
      go_wp2
      go_ret
      exact ⟨by rw [HCL.out, HD.out]; rfl, HX1.out⟩

theorem TabAt.item0 {w : World} {p : Nat} {v : Value} {l : List It} (h : TabAt w p v l) {i : Nat} (hi : i < l.length) : ∃ g cap, v = .slice (some ⟨g, 0, none⟩) l.length cap ∧ g < w.heap.size ∧ ItC g (i * 3) (gt l i) w := by
  obtain ⟨g, off, cap, rfl, hc⟩ := h.item hi
  obtain ⟨g', cap', hve, _, hlt⟩ := h.own.form (by omega)
  simp only [Value.slice.injEq, Option.some.injEq, Addr.mk.injEq, and_true, true_and] at hve
  obtain ⟨⟨rfl, rfl⟩, rfl⟩ := hve
  exact ⟨g, cap, rfl, hlt, by simpa using hc⟩
theorem it_one (l : List It) : ∀ u ∈ l.flatMap It.cells, u.oneCell' = true := by
  intro u hu
  obtain ⟨x, _, hx⟩ := List.mem_flatMap.1 hu
  simp only [It.cells, List.mem_cons, List.not_mem_nil, or_false] at hx
  rcases hx with rfl | rfl | rfl <;> rfl
theorem new_any (w : World) :
    Calls Tryz.prog 43 #[] w fun e w' => e = .returned (.pointer (some ⟨w.heap.size, 0, none⟩)) ∧ TabAt w' w.heap.size (.slice none 0 0) [] ∧ Ex0 w w' := by
  go_enter Tryz.func43, Tryz.ntmps43
  go_wp2
  go_ret
  exact ⟨rfl, ⟨heap_alloc_new _ _, World.ownsRow_nil _ _ _ _, by simp [Value.ownBlock]⟩, Ex.alloc _ _⟩
set_option maxHeartbeats 1000000 in
theorem sclone_any (v : Value) (n : Nat) (cs : List Value) (w : World) (ho : w.ownsRow 0 199 3 v n cs) (h1 : ∀ u ∈ cs, u.oneCell' = true) (hn : n ≤ 1000000) :
    Calls Tryz.prog 125 #[v] w fun e w' => ∃ v', e = .returned v' ∧ w'.ownsRow w.heap.size 199 3 v' n cs ∧ Ex0 w w' := by
  have he : ∀ (a : Option Addr) (n c : Nat) (w : World), (binOp .eql 169 (.slice a n c) (.slice none 0 0)).run Tryz.prog w = .ok (.bool a.isNone) w := fun a n c w => Lib.run_eql_slice_nil w _ _ a n c 0 0 Tryz.underlying169
  obtain ⟨hlen, ⟨rfl, h0⟩ | ⟨g, cap, cur, rfl, hb, hg, hnc, hcap, hsz, htake⟩⟩ := ho
  · go_enter Tryz.func125, Tryz.ntmps125
    go_wp2
    go_ret
    subst h0
    exact ⟨_, rfl, ⟨hlen, .inl ⟨rfl, rfl⟩⟩, Ex.refl _ _⟩
  · obtain ⟨i0, hi0, hz0, hz1, hz2⟩ := info_parts infoIt
    have hrow : RowAt w ⟨g, 0, none⟩ cs := by
      have := World.ownsRow.cells (w := w) (base := 0) (e := 199) (size := 3) (v := .slice (some ⟨g, 0, none⟩) n cap) (n := n) (xs := cs) ⟨hlen, .inr ⟨g, cap, cur, rfl, hb, hg, hnc, hcap, hsz, htake⟩⟩ (g := g) rfl
      exact this
    have hlt := (Array.getElem?_eq_some_iff.1 hg).1
    have HL := Lib.hid hlen
    have HR := Lib.hid (hrow.ex (Ex.alloc w (.cells #[] 199)) not_false)
    clear hlen htake hg hsz hrow
    have hown := World.ownsRow_made (base := w.heap.size) (e := 199) (size := 3) w #[] 0 (Nat.le_refl _) (by decide) rfl
    have HO := Lib.hid hown
    clear hown
    go_enter Tryz.func125, Tryz.ntmps125
    go_wp2_with (refine wpList_append_own_at _ rfl (.tmp 5) (.tmp 6) 169 rfl w.heap.size 199 i0 _ 3 24 Tryz.underlying169 hi0 hz0 hz1 hz2 rfl (by decide) _ 0 [] rfl HO.out ⟨g, 0, none⟩ n cap cs rfl HL.out HR.out h1 (by unfold maxLen; omega) (by omega) (by simp) ?_)
    intro v' w1 hown1 hgrow _ hat
    go_wp2
    go_ret
    refine ⟨v', rfl, by simpa using hown1, (Ex.alloc w _).trans (Ex.ofGrown hgrow) (fun _ _ h => h) ?_⟩
    intro k hk h
    simp [Value.ownBlock] at h
    omega
/-- what a method leaves that changes a table -/
def TabPost (p : Nat) (v : Value) (l' : List It) (r : Int) (w : World) (e : Ending) (w' : World) : Prop :=
  ∃ v', e = .returned (.int .i64 r) ∧ (v'.ownBlock = v.ownBlock ∨ ∃ b, v'.ownBlock = some b ∧ w.heap.size ≤ b) ∧ TabAt w' p v' l' ∧ Ex (fun b => b = p ∨ v.ownBlock = some b) w w'
theorem tabPost_same {p : Nat} {v : Value} {l : List It} {r : Int} {w w' : World} (hB : TabAt w p v l) (hx : Ex0 w w') : TabPost p v l r w (.returned (.int .i64 r)) w' :=
  ⟨v, rfl, .inl rfl, hB.ex0 hx, hx.to (fun _ _ hh => hh.elim)⟩
theorem tabPost_store {p : Nat} {v v2 : Value} {l l' : List It} {r : Int} {w w2 : World} (hB : TabAt w p v l) (hx : Ex (fun b => v.ownBlock = some b) w w2) (ho : w2.ownsRow 0 199 3 v2 l'.length (l'.flatMap It.cells))
    (hv : v2.ownBlock = v.ownBlock ∨ ∃ b, v2.ownBlock = some b ∧ w.heap.size ≤ b) : TabPost p v l' r w (.returned (.int .i64 r)) (w2.setCell ⟨p, 0, none⟩ v2) := by
  have hne : v2.ownBlock ≠ some p := by
    rcases hv with h | ⟨b, h, hle⟩
    · rw [h]; exact hB.ne
    · rw [h]; intro e; cases e; have := hB.lt; omega
  have hb2 : w2.heap[p]? = some (.cells #[v] 171 (0, 0)) := (hx.block p hB.lt hB.ne).trans hB.blk
  refine ⟨v2, rfl, hv, ⟨heap_setCell_same w2 p 0 #[v] _ _ hb2, own_ex ho (Ex.setCell w2 _ _) (fun b hb h => hne ?_), hne⟩, hx.trans (Ex.setCell w2 _ _) (fun _ _ h => .inr h) (fun _ _ h => .inl h)⟩
  rw [hb, h]

/-! ### Release -/
def relE (num : Int) (l : List It) : Int := if has num l then (if (gt l (lo num l)).out then 7 else if lo num l + 1 = l.length then 12 else 0) else 4
def relL (num : Int) (l : List It) : List It := if relE num l = 0 then l.set (lo num l) ⟨(gt l (lo num l)).num, (gt l (lo num l)).min, true⟩ else l
theorem release_any (p : Nat) (v : Value) (l : List It) (num : Int) (w : World) (hB : TabAt w p v l) (hk : TabOk l) :
    Calls Tryz.prog 105 #[.pointer (some ⟨p, 0, none⟩), .int .u64 num] w (TabPost p v (relL num l) (relE num l) w) := by
  have hn := hk.len
  go_enter Tryz.func105, Tryz.ntmps105
  go_wp2_with fail
  refine (find_any p v l num _ hB hk).mono ?_
  rintro e w1 ⟨rfl, hx⟩
  have hB1 := hB.ex0 hx
  have hX := Lib.hid hx
  have hHB := Lib.hid hB
  clear hx hB
  cases hh : has num l
  · have HH := Lib.hid hh
    clear hh
    go_wp2
    go_ret
    have e0 : relE num l = 4 := by unfold relE; rw [HH.out]; rfl
    rw [show relL num l = l by unfold relL; rw [e0]; rfl, e0]
    exact tabPost_same hHB.out hX.out
  · obtain ⟨hi, _⟩ := has_get hk.srt hh
    obtain ⟨g, cap, rfl, hg, c0, c1, c2⟩ := hB1.item0 hi
    have hc := hB1.cell
    have hf := hB1.own.frozenAt (lo num l * 3 + 2)
    have hst := hB1.own.stored (lo num l * 3 + 2) (.bool true)
    have hfs := flat_set It.cells 3 It.len 2 (.bool true) (by decide) l (lo num l) ⟨(gt l (lo num l)).num, (gt l (lo num l)).min, true⟩ hi (by rw [gt_get hi]; rfl)
    rw [hfs] at hst
    have hrl : relE num l = if (gt l (lo num l)).out then 7 else if lo num l + 1 = l.length then 12 else 0 := by unfold relE; rw [hh]; rfl
    have hll : relL num l = if relE num l = 0 then l.set (lo num l) ⟨(gt l (lo num l)).num, (gt l (lo num l)).min, true⟩ else l := rfl
    have HST := Lib.hid hst
    have HRL := Lib.hid hrl
    have HLL := Lib.hid hll
    have HBB := Lib.hid hB1
    have HI := Lib.hid hi
    have hi0 : (0 : Int) ≤ (lo num l : Int) := Int.natCast_nonneg _
    have hi1 : (lo num l : Int) < (l.length : Int) := by omega
    clear hst hrl hll hfs hB1 hh
    generalize gt l (lo num l) = x at *
    generalize lo num l = i at *
    obtain ⟨x1, x2, x3⟩ := x
    dsimp only at c0 c1 c2
    cases x3 with
    | true =>
      go_wp2
      go_ret
      have e0 : relE num l = 7 := by rw [HRL.out]; rfl
      rw [show relL num l = l by rw [HLL.out, e0]; rfl, e0]
      exact tabPost_same hHB.out hX.out
    | false =>
      by_cases hlast : i + 1 = l.length
      · have heq : ((i : Int) == (l.length : Int) - 1) = true := by simp; omega
        have HLA := Lib.hid hlast
        clear hlast
        go_wp2
        go_ret
        have e0 : relE num l = 12 := by rw [HRL.out]; simp [HLA.out]
        rw [show relL num l = l by rw [HLL.out, e0]; rfl, e0]
        exact tabPost_same hHB.out hX.out
      · have heq : ((i : Int) == (l.length : Int) - 1) = false := by rw [beq_eq_false_iff_ne]; omega
        have HLA := Lib.hid hlast
        clear hlast
        go_wp2
        go_ret
        have e0 : relE num l = 0 := by rw [HRL.out]; simp [HLA.out]
        have eL : relL num l = l.set i ⟨x1, x2, true⟩ := by rw [HLL.out, e0]; rfl
        rw [eL, e0]
        have hne : g ≠ p := fun e => HBB.out.ne (by rw [← e]; rfl)
        refine ⟨_, rfl, .inl rfl, ⟨(Ex.setCell w1 ⟨g, i * 3 + 2, none⟩ (.bool true)).block p HBB.out.lt (fun e => hne e.symm) |>.trans HBB.out.blk, ?_, HBB.out.ne⟩, hX.out.trans (Ex.setCell w1 _ _) (fun _ _ h => h.elim) (fun _ _ h => .inr (by rw [h]; rfl))⟩
        rw [List.length_set]
        exact HST.out.1

/-! ### Drop -/
def dropE (num : Int) (l : List It) : Int := if has num l then (if (gt l (lo num l)).out then 0 else 7) else 4
def dropL (num : Int) (l : List It) : List It := if dropE num l = 0 then l.eraseIdx (lo num l) else l
def rngB (num min : Int) : Bool := decide (1 ≤ num) && decide (num ≤ 65535) && decide (0 ≤ min) && decide (min ≤ 1073741824)
def pastI (num min : Int) (x : It) : Bool := decide (num ≤ x.num) || decide (min < x.min)
def addE (num min : Int) (l : List It) : Int := if rngB num min then (if l.any (pastI num min) then 15 else 0) else 2
def addL (num min : Int) (l : List It) : List It := if addE num min l = 0 then l ++ [⟨num, min, false⟩] else l
theorem past_last {l : List It} (hs : Srt l) (num min : Int) (h0 : 0 < l.length) : l.any (pastI num min) = pastI num min (gt l (l.length - 1)) := by
  rw [gt_get (by omega)]
  cases h : pastI num min (l[l.length - 1]'(by omega))
  · rw [List.any_eq_false]
    intro x hx
    obtain ⟨t, ht, rfl⟩ := List.getElem_of_mem hx
    unfold pastI at h ⊢
    simp at h ⊢
    rcases Nat.lt_or_ge t (l.length - 1) with h1 | h1
    · have := srt_get hs ht (show l.length - 1 < l.length by omega) h1
      omega
    · have e : t = l.length - 1 := by omega
      subst e; omega
  · rw [List.any_eq_true]
    exact ⟨_, List.getElem_mem _, h⟩
set_option maxHeartbeats 2000000 in
theorem add_any (p : Nat) (v : Value) (l : List It) (num min : Int) (w : World) (hB : TabAt w p v l) (hk : TabOk l) (hlen : l.length ≤ 900) :
    Calls Tryz.prog 60 #[.pointer (some ⟨p, 0, none⟩), .int .u64 num, .int .i64 min] w (TabPost p v (addL num min l) (addE num min l) w) := by
  have hc := hB.cell
  obtain ⟨i0, hi0, hz0, hz1, hz2⟩ := info_parts infoIt
  have hcases : (num < 1) ∨ (¬ num < 1 ∧ num > 65535) ∨ (¬ num < 1 ∧ ¬ num > 65535 ∧ min < 0) ∨ (¬ num < 1 ∧ ¬ num > 65535 ∧ ¬ min < 0 ∧ min > 1073741824) ∨ (¬ num < 1 ∧ ¬ num > 65535 ∧ ¬ min < 0 ∧ ¬ min > 1073741824) := by omega
  have hbad : rngB num min = false → TabPost p v (addL num min l) (addE num min l) w (.returned (.int .i64 2)) w := fun h => by
    have e0 : addE num min l = 2 := by unfold addE; rw [h]; rfl
    rw [show addL num min l = l by unfold addL; rw [e0]; rfl, e0]
    exact tabPost_same hB (Ex.refl _ _)
  have HBAD := Lib.hid hbad
  have HB := Lib.hid hB
  have HK := Lib.hid hk
  clear hbad
  rcases hcases with h1 | ⟨h1, h2⟩ | ⟨h1, h2, h3⟩ | ⟨h1, h2, h3, h4⟩ | ⟨h1, h2, h3, h4⟩
  · have hb : rngB num min = false := by unfold rngB; simp; omega
    have HBD := Lib.hid hb
    clear hb hB hk
    go_enter Tryz.func60, Tryz.ntmps60
    go_wp2
    go_ret
    exact HBAD.out HBD.out
  · have hb : rngB num min = false := by unfold rngB; simp; omega
    have HBD := Lib.hid hb
    clear hb hB hk
    go_enter Tryz.func60, Tryz.ntmps60
    go_wp2
    go_ret
    exact HBAD.out HBD.out
  · have hb : rngB num min = false := by unfold rngB; simp; omega
    have HBD := Lib.hid hb
    clear hb hB hk
    go_enter Tryz.func60, Tryz.ntmps60
    go_wp2
    go_ret
    exact HBAD.out HBD.out
  · have hb : rngB num min = false := by unfold rngB; simp; omega
    have HBD := Lib.hid hb
    clear hb hB hk
    go_enter Tryz.func60, Tryz.ntmps60
    go_wp2
    go_ret
    exact HBAD.out HBD.out
  have hb : rngB num min = true := by unfold rngB; simp; omega
  have hadd : addE num min l = if l.any (pastI num min) then 15 else 0 := by unfold addE; rw [hb]; rfl
  have HADD := Lib.hid hadd
  clear hb hadd HBAD
  have hpost : l.any (pastI num min) = true → TabPost p v (addL num min l) (addE num min l) w (.returned (.int .i64 15)) w := fun h => by
    have e0 : addE num min l = 15 := by rw [HADD.out, h]; rfl
    rw [show addL num min l = l by unfold addL; rw [e0]; rfl, e0]
    exact tabPost_same HB.out (Ex.refl _ _)
  have hdone : l.any (pastI num min) = false → ∀ v2 w2, w2.ownsRow 0 199 3 v2 (l.length + 1) (l.flatMap It.cells ++ [.int .u64 num, .int .i64 min, .bool false]) →
      (w.alloc (.cells #[.int .u64 num, .int .i64 min, .bool false] 199)).grownBy w2 v.ownBlock → (v2.ownBlock = v.ownBlock ∨ v2.ownBlock = some (w.heap.size + 1)) →
      TabPost p v (addL num min l) (addE num min l) w (.returned (.int .i64 0)) (w2.setCell ⟨p, 0, none⟩ v2) := fun h v2 w2 ho hg hv => by
    have e0 : addE num min l = 0 := by rw [HADD.out, h]; rfl
    rw [show addL num min l = l ++ [⟨num, min, false⟩] by unfold addL; rw [e0]; rfl, e0]
    refine tabPost_store HB.out ((Ex.alloc w _).trans (Ex.ofGrown hg) (fun _ _ h => h.elim) (fun _ _ h => h)) ?_ ?_
    · rw [List.length_append, List.flatMap_append]; exact ho
    · rcases hv with h | h
      · exact .inl h
      · exact .inr ⟨_, h, by omega⟩
  have HPOST := Lib.hid hpost
  have HDONE := Lib.hid hdone
  have hlp := hB.lt
  have hne := Lib.hid hB.ne
  have hblk := Lib.hid hB.blk
  have hfin : ∀ (v2 : Value) (w2 : World), (w.alloc (.cells #[.int .u64 num, .int .i64 min, .bool false] 199)).grownBy w2 v.ownBlock → w2.cell? ⟨p, 0, none⟩ = some v ∧ w2.frozen? ⟨p, 0, none⟩ = false ∧ p < w2.heap.size := fun v2 w2 hg => by
    have hx : Ex (fun b => v.ownBlock = some b) w w2 := (Ex.alloc w _).trans (Ex.ofGrown hg) (fun _ _ h => h.elim) (fun _ _ h => h)
    have hb2 := (hx.block p hlp hne.out).trans hblk.out
    exact ⟨by rw [cell_of_row w2 p 0 _ _ _ hb2]; rfl, frozen_of_row w2 p 0 _ _ hb2, Nat.lt_of_lt_of_le hlp hx.size⟩
  have HFIN := Lib.hid hfin
  clear hpost hdone hfin
  by_cases h0 : l.length = 0
  · have hany : l.any (pastI num min) = false := by rw [List.length_eq_zero_iff.1 h0]; rfl
    have HANY := Lib.hid hany
    have ho := hB.own
    obtain ⟨A, cap, rfl, _, hbl⟩ := own_sl ho
    have HO := Lib.hid ho
    have HBL := Lib.hid hbl
    clear hany hB ho hk hbl
    have h00 : ¬ (0 < l.length) := by omega
    clear h0
    go_enter Tryz.func60, Tryz.ntmps60
    go_wp2_with (at_builtin; refine wpList_append_own_at _ rfl (.tmp 63) (.tmp 67) 169 rfl 0 199 i0 _ 3 24 Tryz.underlying169 hi0 hz0 hz1 hz2 rfl (by decide) _ l.length (l.flatMap It.cells) rfl (HO.out.alloc _) ⟨w.heap.size, 0, none⟩ 1 1 [.int .u64 num, .int .i64 min, .bool false] rfl rfl (World.news_of_block (cs := #[.int .u64 num, .int .i64 min, .bool false]) (t := 199) (fr := (0, 0)) (heap_alloc_new w _)) (by simp [Value.oneCell']) (by unfold maxLen; omega) (by omega) (Nat.zero_le _) ?_)
    intro v2 w2 hown2 hgrow _ hat
    have HD := Lib.hid (HDONE.out HANY.out v2 w2 hown2 hgrow hat)
    obtain ⟨e1, e2, e3⟩ := HFIN.out v2 w2 hgrow
    obtain ⟨g2, cap2, rfl⟩ := ownsRow_succ hown2
    clear hown2 hgrow hat
    go_wp2
    go_ret
    exact HD.out
  · have hpl := past_last HK.out.srt num min (show 0 < l.length by omega)
    have ho := hB.own
    obtain ⟨g, cap, rfl, hg, c0, c1, c2⟩ := hB.item0 (i := l.length - 1) (by omega)
    have hi0' : (0 : Int) ≤ (l.length : Int) - 1 := by omega
    have hi1 : (l.length : Int) - 1 < (l.length : Int) := by omega
    have en : ((l.length : Int) - 1).toNat = l.length - 1 := by omega
    have h00 : 0 < l.length := by omega
    have HPL := Lib.hid hpl
    have HO := Lib.hid ho
    clear hpl ho hB hk
    generalize gt l (l.length - 1) = x at *
    obtain ⟨x1, x2, x3⟩ := x
    dsimp only at c0 c1 c2
    by_cases hx1 : x1 ≥ num
    · have hp : l.any (pastI num min) = true := by rw [HPL.out]; unfold pastI; simp; omega
      have HP := Lib.hid (HPOST.out hp)
      clear hp
      go_enter Tryz.func60, Tryz.ntmps60
      go_wp2
      go_ret
      exact HP.out
    · by_cases hx2 : x2 > min
      · have hp : l.any (pastI num min) = true := by rw [HPL.out]; unfold pastI; simp; omega
        have HP := Lib.hid (HPOST.out hp)
        clear hp
        go_enter Tryz.func60, Tryz.ntmps60
        go_wp2
        go_ret
        exact HP.out
      · have hp : l.any (pastI num min) = false := by rw [HPL.out]; unfold pastI; simp; omega
        have HANY := Lib.hid hp
        clear hp
        go_enter Tryz.func60, Tryz.ntmps60
        go_wp2_with (at_builtin; refine wpList_append_own_at _ rfl (.tmp 63) (.tmp 67) 169 rfl 0 199 i0 _ 3 24 Tryz.underlying169 hi0 hz0 hz1 hz2 rfl (by decide) _ l.length (l.flatMap It.cells) rfl (HO.out.alloc _) ⟨w.heap.size, 0, none⟩ 1 1 [.int .u64 num, .int .i64 min, .bool false] rfl rfl (World.news_of_block (cs := #[.int .u64 num, .int .i64 min, .bool false]) (t := 199) (fr := (0, 0)) (heap_alloc_new w _)) (by simp [Value.oneCell']) (by unfold maxLen; omega) (by omega) (Nat.zero_le _) ?_)
        intro v2 w2 hown2 hgrow _ hat
        have HD := Lib.hid (HDONE.out HANY.out v2 w2 hown2 hgrow hat)
        obtain ⟨e1, e2, e3⟩ := HFIN.out v2 w2 hgrow
        obtain ⟨g2, cap2, rfl⟩ := ownsRow_succ hown2
        clear hown2 hgrow hat
        go_wp2
        go_ret
        exact HD.out
end Go.Proofs.YtoglddndicmelaaGreat.Mo
