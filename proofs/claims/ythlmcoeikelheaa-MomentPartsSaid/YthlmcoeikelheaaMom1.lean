/- Contracts of layer 28: a moment's place. -/
import Derived.Test.YthlmcoeikelheaaProg
import Derived.WalkKit
import Derived.ProofKit
import Derived.Lib.Hide
import Derived.Outline
import Derived.Laws.Rows
import Derived.BigQuiet
import Derived.Deep.QuietTactic
import Derived.Deep.RegionHeld3
import Derived.Deep.AppendLies
import Derived.Shelf.Abstract
import Derived.Laws.Shifts
import Derived.Test.YthlmcoeikelheaaB3
namespace Go.Proofs.Ythlmcoeikelheaa
open Go.RowKit Go.Proofs.YthlmcoeikelheaaB Go.Shelf

structure It where
  num : Int
  min : Int
  out : Bool
  deriving DecidableEq
def It.cells (p : It) : List Value := [.int .u64 p.num, .int .i64 p.min, .bool p.out]
def It.val (p : It) : Value := .agg #[.int .u64 p.num, .int .i64 p.min, .bool p.out]
theorem It.len (x : It) : x.cells.length = 3 := rfl

def Srt (l : List It) : Prop := l.Pairwise (fun x y => x.num < y.num ∧ x.min ≤ y.min)
/-- the place of a number -/
def lo (num : Int) (l : List It) : Nat := l.countP (fun x => decide (x.num < num))
def has (num : Int) (l : List It) : Bool := l.any (fun x => x.num == num)

theorem countP_bound (p : It → Bool) (l : List It) (i : Nat) (hi : i ≤ l.length) (h1 : ∀ t (h : t < l.length), t < i → p l[t] = true) (h2 : ∀ t (h : t < l.length), i ≤ t → p l[t] = false) : l.countP p = i := by
  have e : l = l.take i ++ l.drop i := (List.take_append_drop i l).symm
  have a : (l.take i).countP p = i := by
    have : (l.take i).countP p = (l.take i).length := by
      rw [List.countP_eq_length]
      intro x hx
      obtain ⟨t, ht, rfl⟩ := List.getElem_of_mem hx
      rw [List.getElem_take]
      rw [List.length_take] at ht
      exact h1 t (by omega) (by omega)
    rw [this, List.length_take]; omega
  have b : (l.drop i).countP p = 0 := by
    rw [List.countP_eq_zero]
    intro x hx
    obtain ⟨t, ht, rfl⟩ := List.getElem_of_mem hx
    rw [List.getElem_drop]
    rw [List.length_drop] at ht
    rw [h2 (i + t) (by omega) (by omega)]; simp
  rw [e, List.countP_append, a, b, Nat.add_zero]

theorem srt_get {l : List It} (h : Srt l) {i j : Nat} (hi : i < l.length) (hj : j < l.length) (hij : i < j) : l[i].num < l[j].num ∧ l[i].min ≤ l[j].min :=
  List.pairwise_iff_getElem.1 h i j hi hj hij

/-- a place between the lesser and the others is the place -/
theorem lo_bound {l : List It} {num : Int} {i : Nat} (hi : i ≤ l.length) (h1 : ∀ t (h : t < l.length), t < i → l[t].num < num) (h2 : ∀ t (h : t < l.length), i ≤ t → num ≤ l[t].num) : i = lo num l := by
  unfold lo
  exact (countP_bound _ l i hi (fun t h ht => by simpa using h1 t h ht) (fun t h ht => by simpa using h2 t h ht)).symm
theorem has_of_get {l : List It} {i : Nat} (hi : i < l.length) {num : Int} (h : l[i].num = num) : has num l = true := by
  unfold has; rw [List.any_eq_true]; exact ⟨_, List.getElem_mem hi, by simpa using h⟩
theorem has_none {l : List It} {num : Int} (h : ∀ t (h : t < l.length), l[t].num ≠ num) : has num l = false := by
  unfold has; rw [List.any_eq_false]
  intro x hx
  obtain ⟨t, ht, rfl⟩ := List.getElem_of_mem hx
  simpa using h t ht
theorem lo_le (num : Int) (l : List It) : lo num l ≤ l.length := List.countP_le_length
/-- ahead of the place all are lesser, behind it none is -/
theorem lo_split {l : List It} (hs : Srt l) (num : Int) : (∀ t (h : t < l.length), t < lo num l → l[t].num < num) ∧ (∀ t (h : t < l.length), lo num l ≤ t → num ≤ l[t].num) := by
  induction l with
  | nil => exact ⟨fun t h => by simp at h, fun t h => by simp at h⟩
  | cons x l ih =>
    obtain ⟨hx, hl⟩ := List.pairwise_cons.1 hs
    obtain ⟨i1, i2⟩ := ih hl
    by_cases h : x.num < num
    · have e : lo num (x :: l) = lo num l + 1 := by unfold lo; rw [List.countP_cons_of_pos (by simpa using h)]
      rw [e]
      refine ⟨fun t ht hlt => ?_, fun t ht hle => ?_⟩
      · cases t with
        | zero => exact h
        | succ t => exact i1 t (by simpa using ht) (by omega)
      · cases t with
        | zero => omega
        | succ t => exact i2 t (by simpa using ht) (by omega)
    · have e : lo num (x :: l) = 0 := by
        unfold lo
        rw [List.countP_eq_zero]
        intro y hy
        rcases List.mem_cons.1 hy with rfl | hy
        · simpa using h
        · have := (hx y hy).1; simp; omega
      rw [e]
      refine ⟨fun t ht hlt => by omega, fun t ht _ => ?_⟩
      cases t with
      | zero => simp; omega
      | succ t =>
        have := (hx _ (List.getElem_mem (by simpa using ht : t < l.length))).1
        simp only [List.getElem_cons_succ]; omega
theorem has_get {l : List It} (hs : Srt l) {num : Int} (h : has num l = true) : ∃ hi : lo num l < l.length, l[lo num l].num = num := by
  obtain ⟨h1, h2⟩ := lo_split hs num
  unfold has at h
  rw [List.any_eq_true] at h
  obtain ⟨x, hx, he⟩ := h
  obtain ⟨t, ht, rfl⟩ := List.getElem_of_mem hx
  have he' : l[t].num = num := by simpa using he
  have hle : lo num l ≤ t := by
    rcases Nat.lt_or_ge t (lo num l) with h | h
    · have := h1 t ht h; omega
    · exact h
  have hlt : lo num l < l.length := by omega
  refine ⟨hlt, ?_⟩
  rcases Nat.lt_or_ge (lo num l) t with h | h
  · have := (srt_get hs hlt ht h).1; have := h2 _ hlt (Nat.le_refl _); omega
  · have e : t = lo num l := by omega
    subst e; exact he'

theorem shr1 (x : Int) (w : World) : (binOp .shr 83 (.int .u64 x) (.int .u64 1)).run Try.prog w = .ok (.int .u64 (x / 2)) w := by
  go_simp

/-- how two compare -/
def cmpI (x : It) (num : Int) : Int := if x.num < num then -1 else if x.num > num then 1 else 0
theorem cmp_any (x : It) (num : Int) (w : World) :
    Calls Try.prog 46 #[x.val, .int .u64 num] w fun e w' => e = .returned (.int .i64 (cmpI x num)) ∧ Ex0 w w' := by
  obtain ⟨a, b, c⟩ := x
  unfold It.val cmpI
  by_cases h1 : a < num
  · have H := Lib.hid h1
    go_enter Try.func46, Try.ntmps46
    go_wp2
    go_ret
    exact ⟨by simp [H.out], Ex.alloc _ _⟩
  · by_cases h2 : a > num
    · have H := Lib.hid h1
      have H2 := Lib.hid h2
      go_enter Try.func46, Try.ntmps46
      go_wp2
      go_ret
      exact ⟨by simp [H.out, H2.out], Ex.alloc _ _⟩
    · have H := Lib.hid h1
      have H2 := Lib.hid h2
      go_enter Try.func46, Try.ntmps46
      go_wp2
      go_ret
      exact ⟨by simp [H.out, H2.out], Ex.alloc _ _⟩

set_option maxRecDepth 100000 in
set_option maxHeartbeats 1000000 in
theorem bsearch_any (A : Option Addr) (len cap : Nat) (l : List It) (num : Int) (w : World) (hs : Sl w 3 A len (l.flatMap It.cells)) (hn : len ≤ 1000000) (hsrt : Srt l) :
    Calls Try.prog 45 #[.slice A len cap, .int .u64 num, .func (.func 46) #[] #[]] w fun e w' => e = .returned (.tuple #[.int .i64 (lo num l), .bool (has num l)]) ∧ Ex0 w w' := by
  have hm := hs.small
  have hll : l.length = len := by have := hs.len; rw [flat_len It.cells 3 It.len] at this; omega
  have he := enters_of (P := Try.prog) Try.func46 (by kernel_rfl) rfl
  go_enter Try.func45, Try.ntmps45
  go_wp2
  go_loopw [9, 10] (fun i j wr => ∃ a b : Nat, a ≤ b ∧ b ≤ len ∧ i = .int .i64 a ∧ j = .int .i64 b ∧ Ex0 w wr ∧ (∀ t (h : t < l.length), t < a → l[t].num < num) ∧ (∀ t (h : t < l.length), b ≤ t → num ≤ l[t].num)) (fun i j _ => (intOf j).toNat - (intOf i).toNat)
  case atStart => exact ⟨0, len, Nat.zero_le _, Nat.le_refl _, rfl, rfl, Ex.refl _ _, fun t h hj => by omega, fun t h hj => by omega⟩
  case round =>
    obtain ⟨a, b, hab, hbl, rfl, rfl, hx, h1, h2⟩ := hrel
    by_cases hlt : a < b
    · obtain ⟨m, hma, hmb, ediv⟩ : ∃ m : Nat, a ≤ m ∧ m < b ∧ ((a : Int) + (b : Int)) / 2 = (m : Int) := ⟨(a + b) / 2, by omega, by omega, by omega⟩
      obtain ⟨g, off, hl, rfl, hr⟩ := (hs.ex0 hx).row It.len (i := m) (by omega) (by omega)
      have hH1 := Lib.hid h1
      have hH2 := Lib.hid h2
      have hgt : ∀ t (h : t < l.length), l[m].num ≤ l[t].num ∨ t < m := fun t h => by
        rcases Nat.lt_trichotomy t (m) with e | e | e
        · exact .inr e
        · left; subst e; exact Int.le_refl _
        · left; have := (srt_get hsrt hl h e).1; omega
      have hle : ∀ t (h : t < l.length), t < m + 1 → l[t].num ≤ l[m].num := fun t h ht => by
        rcases Nat.lt_trichotomy t (m) with e | e | e
        · have := (srt_get hsrt h hl e).1; omega
        · subst e; exact Int.le_refl _
        · omega
      have HG := Lib.hid hgt
      have HL := Lib.hid hle
      clear h1 h2 hgt hle
      generalize l[m] = x at hr HG HL
      obtain ⟨x1, x2, x3⟩ := x
      unfold It.cells at hr
      have hsh : ∀ w, (binOp .shr 83 (.int .u64 ((a : Int) + (b : Int))) (.int .u64 1)).run Try.prog w = .ok (.int .u64 (m : Int)) w := fun w => by rw [shr1, ediv]
      have hi0 : (0 : Int) ≤ (m : Int) := Int.natCast_nonneg _
      have hi1 : (m : Int) < (len : Int) := by omega
      by_cases hxn : x1 < num
      · have hc : cmpI ⟨x1, x2, x3⟩ num = -1 := by unfold cmpI; rw [if_pos hxn]
        have HX := Lib.hid hxn
        clear hxn
        go_wp2_with (first | (refine wpList_load_at rfl _ _ rfl _ rfl _ _ hr Try.underlying71 rfl (by kernel_rfl) ?_))
        refine (cmp_any ⟨x1, x2, x3⟩ num wr).mono ?_
        rintro e w1 ⟨rfl, hx1⟩
        rw [hc]
        go_wp2
        go_roundw
        case rel => exact ⟨m + 1, b, by omega, hbl, by go_num, rfl, hx.trans0 hx1, fun t h ht => by have h3 := HL.out t h ht; have h4 := HX.out; omega, hH2.out⟩
        case measure => simp [intOf]; omega
      · have hc : (cmpI ⟨x1, x2, x3⟩ num < 0) = False := by unfold cmpI; rw [if_neg hxn]; split <;> simp
        have hc2 : ¬ (cmpI ⟨x1, x2, x3⟩ num < 0) := by rw [hc]; exact id
        have HX := Lib.hid hxn
        clear hxn hc
        go_wp2_with (first | (refine wpList_load_at rfl _ _ rfl _ rfl _ _ hr Try.underlying71 rfl (by kernel_rfl) ?_))
        refine (cmp_any ⟨x1, x2, x3⟩ num wr).mono ?_
        rintro e w1 ⟨rfl, hx1⟩
        generalize cmpI ⟨x1, x2, x3⟩ num = cc at hc2 ⊢
        go_wp2
        go_roundw
        case rel => exact ⟨a, m, by omega, by omega, rfl, rfl, hx.trans0 hx1, hH1.out, fun t h ht => by
          have h4 := HX.out
          rcases HG.out t h with h3 | h3
          · omega
          · omega⟩
        case measure => simp [intOf]; omega
    · have hab2 : a = b := by omega
      subst hab2
      have hlo := lo_bound (by omega) h1 h2
      by_cases hal : a < len
      · obtain ⟨g, off, hl, rfl, hr⟩ := (hs.ex0 hx).row It.len (i := a) (by omega) (by omega)
        have hh : has num l = decide (cmpI l[a] num = 0) := by
          have hge := h2 a hl (Nat.le_refl _)
          by_cases e : l[a].num = num
          · rw [has_of_get hl e]; unfold cmpI; rw [e]; simp
          · have : cmpI l[a] num = 1 := by unfold cmpI; rw [if_neg (by omega), if_pos (by omega)]
            rw [this, has_none (fun t ht => ?_)]
            · rfl
            · rcases Nat.lt_trichotomy t a with h | h | h
              · have := h1 t ht h; omega
              · subst h; exact e
              · have := (srt_get hsrt hl ht h).1; omega
        clear h1 h2
        generalize l[a] = x at hr hh
        have HH := Lib.hid hh
        have HLO := Lib.hid hlo
        clear hh hlo
        obtain ⟨x1, x2, x3⟩ := x
        unfold It.cells at hr
        have c0 : wr.cell? ⟨g, off + a * 3, none⟩ = some (.int .u64 x1) := by simpa [Addr.add] using hr 0 _ rfl
        have c1 : wr.cell? ⟨g, off + a * 3 + 1, none⟩ = some (.int .i64 x2) := by simpa [Addr.add] using hr 1 _ rfl
        have c2 : wr.cell? ⟨g, off + a * 3 + 2, none⟩ = some (.bool x3) := by simpa [Addr.add] using hr 2 _ rfl
        go_wp2_with fail
        refine (cmp_any ⟨x1, x2, x3⟩ num wr).mono ?_
        rintro e w1 ⟨rfl, hx1⟩
        go_wp2
        go_ret2
        refine ⟨?_, hx.trans0 hx1⟩
        rw [HH.out, ← HLO.out]
        rfl
      · have hh : has num l = false := has_none (fun t ht => by have := h1 t ht (by omega); omega)
        have HH := Lib.hid hh
        have HLO := Lib.hid hlo
        clear h1 h2 hlo hh
        go_wp2
        go_ret2
        rw [HH.out, ← HLO.out]
        exact ⟨rfl, hx⟩
end Go.Proofs.Ythlmcoeikelheaa
