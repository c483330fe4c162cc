/- Contracts of layer 37: the small functions. -/
import Derived.Test.YtbolioeopcmfcaaProg
import Derived.WalkKit
import Derived.ProofKit
import Derived.Lib.Hide
import Derived.Outline
import Derived.Laws.Rows
import Derived.BigQuiet
import Derived.Deep.QuietTactic
import Derived.Deep.RegionHeld3
import Derived.Deep.AppendLies
import Derived.Test.YtbolioeopcmfcaaB0
namespace Go.Proofs.Ytbolioeopcmfcaa
open Go.RowKit Go.Proofs.YtbolioeopcmfcaaB

structure Held where
  id : Int
  fr : Int
  to : Int
  til : Int
  deriving DecidableEq
structure Put where
  h : Held
  num : Int
  min : Int
  deriving DecidableEq
def Held.cells (h : Held) : List Value := [.int .u64 h.id, .int .i64 h.fr, .int .i64 h.to, .int .i64 h.til]
def Held.val (h : Held) : Value := .agg #[.int .u64 h.id, .int .i64 h.fr, .int .i64 h.to, .int .i64 h.til]
def Put.cells (p : Put) : List Value := [.int .u64 p.h.id, .int .i64 p.h.fr, .int .i64 p.h.to, .int .i64 p.h.til, .int .u64 p.num, .int .i64 p.min]
def Put.val (p : Put) : Value := .agg #[.int .u64 p.h.id, .int .i64 p.h.fr, .int .i64 p.h.to, .int .i64 p.h.til, .int .u64 p.num, .int .i64 p.min]
theorem Put.len (x : Put) : x.cells.length = 6 := rfl

theorem ret_int {k : IntKind} {a b : Int} (h : a = b) : Ending.returned (.int k a) = .returned (.int k b) := by rw [h]
theorem ret_bool {a b : Bool} (h : a = b) : Ending.returned (.bool a) = .returned (.bool b) := by rw [h]

/-- is it a minute? -/
def minuteB (n : Int) : Bool := decide (0 ≤ n) && decide (n ≤ 1073741824)

theorem minute_any (n : Int) (w : World) :
    Calls Try.prog 24 #[.int .i64 n] w fun e w' => e = .returned (.bool (minuteB n)) ∧ w' = w := by
  go_enter Try.func24, Try.ntmps24
  go_wp2
  all_goals
    go_ret
    simp_all [minuteB] <;> omega

def mayB (h : Held) : Bool := !(h.id == 0) && minuteB h.fr && minuteB h.to && minuteB h.til && decide (h.fr ≤ h.to)

set_option maxHeartbeats 1000000 in
theorem may_any (h : Held) (w : World) :
    Calls Try.prog 23 #[h.val] w fun e w' => e = .returned (.bool (mayB h)) ∧ Ex0 w w' := by
  obtain ⟨id, fr, to, til⟩ := h
  unfold Held.val
  dsimp only
  go_enter Try.func23, Try.ntmps23
  go_wp2_with fail
  go_region_held3 (fun w' => w'.cell? ⟨w.heap.size, 0, none⟩ = some (.int .u64 id) ∧ w'.cell? ⟨w.heap.size, 1, none⟩ = some (.int .i64 fr) ∧ w'.cell? ⟨w.heap.size, 2, none⟩ = some (.int .i64 to) ∧ w'.cell? ⟨w.heap.size, 3, none⟩ = some (.int .i64 til))
    (first | go_keep)
    (first | (go_at_call 24; refine (minute_any _ _).mono ?_; rintro e w' ⟨rfl, rfl⟩))
  all_goals
    go_wp2
    all_goals
      go_ret
      refine ⟨ret_bool ?_, by repeat (first | exact Ex.refl _ _ | apply Ex.alloc' | apply Ex.drew')⟩
      simp_all [mayB]

theorem isId_any (p : Put) (id : Int) (b : Nat) (w : World) (hb : w.cell? ⟨b, 0, none⟩ = some (.int .u64 id)) :
    Calls Try.prog 35 #[p.val, .pointer (some ⟨b, 0, none⟩)] w fun e w' => e = .returned (.bool (p.h.id == id)) ∧ Ex0 w w' := by
  have hl := World.block_lt_of_cell? _ _ hb
  unfold Put.val
  go_enter Try.func35, Try.ntmps35
  go_wp2
  go_ret
  exact ⟨rfl, Ex.alloc _ _⟩

def pastB (num min : Int) (p : Put) : Bool := decide (num ≤ p.num) || decide (min < p.min)

theorem isPast_any (p : Put) (num min : Int) (b c : Nat) (w : World) (hb : w.cell? ⟨b, 0, none⟩ = some (.int .u64 num)) (hc : w.cell? ⟨c, 0, none⟩ = some (.int .i64 min)) :
    Calls Try.prog 27 #[p.val, .pointer (some ⟨b, 0, none⟩), .pointer (some ⟨c, 0, none⟩)] w fun e w' => e = .returned (.bool (pastB num min p)) ∧ Ex0 w w' := by
  have hl := World.block_lt_of_cell? _ _ hb
  have hl2 := World.block_lt_of_cell? _ _ hc
  unfold Put.val
  go_enter Try.func27, Try.ntmps27
  go_wp2
  all_goals
    go_ret
    refine ⟨ret_bool ?_, Ex.alloc _ _⟩
    simp_all [pastB] <;> omega

/-- the first place; -1: there is none -/
def idxOf (q : Put → Bool) (l : List Put) : Int := match l.findIdx? q with | some i => i | none => -1
theorem idxOf_none {q : Put → Bool} {l : List Put} (h : ∀ j (h : j < l.length), q l[j] = false) : (-1 : Int) = idxOf q l := by
  unfold idxOf
  have : l.findIdx? q = none := by
    rw [List.findIdx?_eq_none_iff]
    intro x hx
    obtain ⟨j, hj, rfl⟩ := List.getElem_of_mem hx
    exact h j hj
  rw [this]
theorem idxOf_some {q : Put → Bool} {l : List Put} {k : Nat} (hk : k < l.length) (h : ∀ j (h : j < l.length), j < k → q l[j] = false) (hq : q l[k] = true) : (k : Int) = idxOf q l := by
  unfold idxOf
  have : l.findIdx? q = some k := by
    rw [List.findIdx?_eq_some_iff_getElem]
    exact ⟨hk, hq, fun j hj => by rw [h j (by omega) hj]; simp⟩
  rw [this]
theorem idxOf_any (q : Put → Bool) (l : List Put) : decide (0 ≤ idxOf q l) = l.any q := by
  unfold idxOf
  cases h : l.findIdx? q with
  | none =>
    rw [List.findIdx?_eq_none_iff] at h
    have : l.any q = false := by rw [List.any_eq_false]; intro x hx; rw [h x hx]; simp
    rw [this]; simp
  | some i =>
    rw [List.findIdx?_eq_some_iff_getElem] at h
    obtain ⟨hi, hq, _⟩ := h
    have : l.any q = true := by rw [List.any_eq_true]; exact ⟨_, List.getElem_mem hi, hq⟩
    rw [this]; simp

theorem indexFunc_any (A : Option Addr) (len cap : Nat) (l : List Put) (f : Nat) (cp : Array Value) (q : Put → Bool) (w : World)
    (hs : Sl w 6 A len (l.flatMap Put.cells)) (he : ∀ args w, (callFunc f args).run Try.prog w = .ok (.enter f args) w)
    (hf : ∀ x ∈ l, ∀ w', Ex0 w w' → Calls Try.prog f (#[x.val] ++ cp) w' fun e w'' => e = .returned (.bool (q x)) ∧ Ex0 w' w'') :
    Calls Try.prog 34 #[.slice A len cap, .func (.func f) #[] cp] w fun e w' => e = .returned (.int .i64 (idxOf q l)) ∧ Ex0 w w' := by
  have hm := hs.small
  have hll : l.length = len := by have := hs.len; rw [flat_len Put.cells 6 Put.len] at this; omega
  go_enter Try.func34, Try.ntmps34
  go_wp2
  go_loopw [4, 5, 8] (fun r _ i wr => ∃ k : Nat, k ≤ len ∧ i = .int .i64 k ∧ Ex0 w wr ∧ ∀ j (h : j < l.length), j < k → q l[j] = false) (fun _ _ i _ => len - (intOf i).toNat)
  case atStart => exact ⟨0, Nat.zero_le _, rfl, Ex.refl _ _, fun j h hj => by omega⟩
  case round =>
    obtain ⟨k, hk, rfl, hb, hq⟩ := hrel
    by_cases hlt : k < len
    · obtain ⟨g, off, hl, rfl, hr⟩ := (hs.ex0 hb).row Put.len (by omega) hlt
      have hx : l[k]'(by omega) ∈ l := List.getElem_mem _
      have H := Lib.hid (hf _ hx _ hb)
      cases hqk : q l[k]
      all_goals
        have HQ := Lib.hid hqk
        clear hqk
        go_wp2_with (first | (refine wpList_load_at rfl _ _ rfl _ rfl _ _ hr Try.underlying38 rfl (by kernel_rfl) ?_))
        refine H.out.mono ?_
        rintro e w' ⟨rfl, hb2⟩
        rw [HQ.out]
        go_wp2
      · go_roundw
        case rel =>
          exact ⟨k + 1, by omega, by go_num, hb.trans0 hb2, fun j hj h => by
            by_cases e : j = k
            · subst e; exact HQ.out
            · exact hq j hj (by omega)⟩
        case measure => simp [intOf]; omega
      · go_ret
        exact ⟨ret_int (idxOf_some hl hq HQ.out), hb.trans0 hb2⟩
    · go_wp2
      go_ret
      exact ⟨ret_int (idxOf_none (fun j hj => hq j hj (by omega))), hb⟩

theorem containsFunc_any (A : Option Addr) (len cap : Nat) (l : List Put) (f : Nat) (cp : Array Value) (q : Put → Bool) (w : World)
    (hs : Sl w 6 A len (l.flatMap Put.cells)) (he : ∀ args w, (callFunc f args).run Try.prog w = .ok (.enter f args) w)
    (hf : ∀ x ∈ l, ∀ w', Ex0 w w' → Calls Try.prog f (#[x.val] ++ cp) w' fun e w'' => e = .returned (.bool (q x)) ∧ Ex0 w' w'') :
    Calls Try.prog 26 #[.slice A len cap, .func (.func f) #[] cp] w fun e w' => e = .returned (.bool (l.any q)) ∧ Ex0 w w' := by
  go_enter Try.func26, Try.ntmps26
  have HE := Lib.hid he
  have HF := Lib.hid hf
  clear he hf
  go_wp2_with fail
  refine (indexFunc_any A len cap l f cp q _ hs HE.out HF.out).mono ?_
  rintro e w' ⟨rfl, hb⟩
  go_wp2
  go_ret
  exact ⟨ret_bool (idxOf_any q l), hb⟩
end Go.Proofs.Ytbolioeopcmfcaa
