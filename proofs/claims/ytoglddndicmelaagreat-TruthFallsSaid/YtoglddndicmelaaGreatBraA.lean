/- Contracts of layer 29: a forest's methods that only read; Fork, Drop, Clone. Contracts of layer 29: Fork, Kids, Drop, Free, Clone, New. Contracts of layer 29: Drop, Free, Clone, New. Contracts of layer 29: Line. -/
import Derived.Test.YtoglddndicmelaaGreatProg
import Derived.Test.YtoglddndicmelaaGreatB3
import Derived.Test.YtoglddndicmelaaGreatB10
import Derived.Test.YtoglddndicmelaaGreatTruF
import Derived.Deep.WholeRow
import Derived.BigQuiet
import Derived.Deep.QuietTactic
namespace Go.Proofs.YtoglddndicmelaaGreat.Tr
open Go.RowKit Go.Proofs.YtoglddndicmelaaGreatB Go.Proofs.YtoglddndicmelaaGreat
set_option maxRecDepth 100000

theorem ret_int {k : IntKind} {a b : Int} (h : a = b) : Ending.returned (.int k a) = .returned (.int k b) := by rw [h]
theorem ret_bool {a b : Bool} (h : a = b) : Ending.returned (.bool a) = .returned (.bool b) := by rw [h]
def Tw.cells (t : Tw) : List Value := [.bool t.al, .int .i64 t.pa, .int .u64 t.ba, .int .u64 t.nu]
theorem Tw.length (t : Tw) : t.cells.length = 4 := rfl
/-- a forest in memory -/
structure ForAt (w : World) (p : Nat) (fs : List Tw) : Prop where
  blk : w.heap[p]? = some (.cells (fs.flatMap Tw.cells).toArray 159 (0, 0))
  len : fs.length = 16
theorem ForAt.lt {w : World} {p : Nat} {fs : List Tw} (h : ForAt w p fs) : p < w.heap.size := (Array.getElem?_eq_some_iff.1 h.blk).1
theorem ForAt.ex {S : Nat → Prop} {w w' : World} {p : Nat} {fs : List Tw} (h : ForAt w p fs) (hx : Ex S w w') (hS : ¬ S p) : ForAt w' p fs := ⟨(hx.block p h.lt hS).trans h.blk, h.len⟩
theorem ForAt.ex0 {w w' : World} {p : Nat} {fs : List Tw} (h : ForAt w p fs) (hx : Ex0 w w') : ForAt w' p fs := h.ex hx id
/-- a twig's cells -/
structure TwC (p o : Nat) (t : Tw) (w : World) : Prop where
  c0 : w.cell? ⟨p, o, none⟩ = some (.bool t.al)
  c1 : w.cell? ⟨p, o + 1, none⟩ = some (.int .i64 t.pa)
  c2 : w.cell? ⟨p, o + 2, none⟩ = some (.int .u64 t.ba)
  c3 : w.cell? ⟨p, o + 3, none⟩ = some (.int .u64 t.nu)
theorem ForAt.at {w : World} {p : Nat} {fs : List Tw} (h : ForAt w p fs) {i : Nat} (hi : i < 16) {j : Nat} {u : Value} (hu : ((tg fs i).cells)[j]? = some u) : w.cell? ⟨p, i * 4 + j, none⟩ = some u := by
  rw [cell_of_row _ _ _ _ _ _ h.blk]
  have hl : i < fs.length := by rw [h.len]; exact hi
  rw [tg_get hl] at hu
  simpa using flat_at Tw.cells 4 Tw.length fs i hl j u hu
theorem ForAt.tw {w : World} {p : Nat} {fs : List Tw} (h : ForAt w p fs) {i : Nat} (hi : i < 16) : TwC p (i * 4) (tg fs i) w :=
  ⟨h.at hi (j := 0) rfl, h.at hi (j := 1) rfl, h.at hi (j := 2) rfl, h.at hi (j := 3) rfl⟩
theorem ForAt.frozen {w : World} {p : Nat} {fs : List Tw} (h : ForAt w p fs) (j : Nat) : w.frozen? ⟨p, j, none⟩ = false := frozen_of_row w p j _ _ h.blk

theorem alive_any (p : Nat) (fs : List Tw) (id : Int) (w : World) (h : ForAt w p fs) :
    Calls Tryz.prog 36 #[.pointer (some ⟨p, 0, none⟩), .int .i64 id] w fun e w' => e = .returned (.bool (alive fs id)) ∧ Ex0 w w' := by
  by_cases h1 : id < 0
  · have e : alive fs id = false := by unfold alive; rw [decide_eq_false (by omega)]; rfl
    rw [e]
    go_enter Tryz.func36, Tryz.ntmps36
    go_wp2
    go_ret
    exact ⟨rfl, Ex.refl _ _⟩
  by_cases h2 : 16 ≤ id
  · have e : alive fs id = false := by unfold alive; rw [decide_eq_false (p := id < 16) (by omega)]; simp
    rw [e]
    go_enter Tryz.func36, Tryz.ntmps36
    go_wp2
    go_ret
    exact ⟨rfl, Ex.refl _ _⟩
  obtain ⟨i, rfl⟩ : ∃ i : Nat, id = i := ⟨id.toNat, by omega⟩
  have hi : i < 16 := by omega
  have hi0 : (0 : Int) ≤ (i : Int) := by omega
  have hi1 : (i : Int) < 16 := by omega
  rw [alive_nat, decide_eq_true hi, Bool.true_and]
  by_cases h0 : i = 0
  · subst h0
    go_enter Tryz.func36, Tryz.ntmps36
    go_wp2
    go_ret
    exact ⟨rfl, Ex.refl _ _⟩
  · have hc := (h.tw hi).c0
    rw [decide_eq_false h0, Bool.false_or]
    have h0' : ((i : Int) == 0) = false := by simpa using h0
    generalize (tg fs i).al = c at *
    go_enter Tryz.func36, Tryz.ntmps36
    go_wp2
    go_ret
    exact ⟨rfl, Ex.refl _ _⟩

set_option maxHeartbeats 1000000 in
theorem fnum_any (p : Nat) (fs : List Tw) (id : Int) (w : World) (h : ForAt w p fs) :
    Calls Tryz.prog 61 #[.pointer (some ⟨p, 0, none⟩), .int .i64 id] w fun e w' => e = .returned (.tuple #[.int .u64 (numF fs id), .bool (alive fs id)]) ∧ Ex0 w w' := by
  cases ha : alive fs id with
  | false =>
    have e : numF fs id = 0 := by unfold numF; rw [if_neg (by rw [ha]; simp)]
    rw [e]
    go_enter Tryz.func61, Tryz.ntmps61
    go_wp2_with fail
    refine (alive_any p fs id w h).mono ?_
    rintro e w1 ⟨rfl, hx⟩
    rw [ha]
    go_wp2
    go_ret2
    exact ⟨rfl, hx⟩
  | true =>
    have e : numF fs id = (tg fs id.toNat).nu := by unfold numF; rw [if_pos ha]
    rw [e]
    obtain ⟨i, rfl, hi, _⟩ := (alive_iff _ _).1 ha
    rw [Int.toNat_natCast]
    have hi0 : (0 : Int) ≤ (i : Int) := by omega
    have hi1 : (i : Int) < 16 := by omega
    have HA := Lib.hid ha
    have HC : Hid (∀ w', Ex0 w w' → w'.cell? ⟨p, i * 4 + 3, none⟩ = some (.int .u64 (tg fs i).nu)) := fun w' hx => ((h.ex0 hx).tw hi).c3
    generalize (tg fs i).nu = c at HC ⊢
    clear ha e
    go_enter Tryz.func61, Tryz.ntmps61
    go_wp2_with fail
    refine (alive_any p fs i w h).mono ?_
    rintro e w1 ⟨rfl, hx⟩
    rw [HA.out]
    have hc := HC.out _ hx
    go_wp2
    go_ret2
    exact ⟨rfl, hx⟩

set_option maxHeartbeats 1000000 in
theorem parent_any (p : Nat) (fs : List Tw) (id : Int) (w : World) (h : ForAt w p fs) :
    Calls Tryz.prog 141 #[.pointer (some ⟨p, 0, none⟩), .int .i64 id] w fun e w' => e = .returned (.tuple (if alive fs id && !(id == 0) then #[.int .i64 (tg fs id.toNat).pa, .int .u64 (tg fs id.toNat).ba, .bool true] else #[.int .i64 0, .int .u64 0, .bool false])) ∧ Ex0 w w' := by
  by_cases h0 : id = 0
  · subst h0
    rw [if_neg (by simp)]
    go_enter Tryz.func141, Tryz.ntmps141
    go_wp2
    go_ret3
    exact ⟨rfl, Ex.refl _ _⟩
  have h0' : (id == 0) = false := by simpa using h0
  rw [h0']
  cases ha : alive fs id with
  | false =>
    rw [if_neg (by simp)]
    go_enter Tryz.func141, Tryz.ntmps141
    go_wp2_with fail
    refine (alive_any p fs id w h).mono ?_
    rintro e w1 ⟨rfl, hx⟩
    rw [ha]
    go_wp2
    go_ret3
    exact ⟨rfl, hx⟩
  | true =>
    rw [if_pos (by simp)]
    obtain ⟨i, rfl, hi, _⟩ := (alive_iff _ _).1 ha
    rw [Int.toNat_natCast]
    have hi0 : (0 : Int) ≤ (i : Int) := by omega
    have hi1 : (i : Int) < 16 := by omega
    have HA := Lib.hid ha
    have HC : Hid (∀ w', Ex0 w w' → w'.cell? ⟨p, i * 4 + 1, none⟩ = some (.int .i64 (tg fs i).pa) ∧ w'.cell? ⟨p, i * 4 + 2, none⟩ = some (.int .u64 (tg fs i).ba)) := fun w' hx => ⟨((h.ex0 hx).tw hi).c1, ((h.ex0 hx).tw hi).c2⟩
    generalize (tg fs i).pa = c at HC ⊢
    generalize (tg fs i).ba = d at HC ⊢
    clear ha
    go_enter Tryz.func141, Tryz.ntmps141
    go_wp2_with fail
    refine (alive_any p fs i w h).mono ?_
    rintro e w1 ⟨rfl, hx⟩
    rw [HA.out]
    obtain ⟨hc1, hc2⟩ := HC.out _ hx
    go_wp2
    go_quiet (fail)
    go_wp2
    go_ret3
    exact ⟨rfl, hx.drewN' _⟩
end Go.Proofs.YtoglddndicmelaaGreat.Tr

namespace Go.Proofs.YtoglddndicmelaaGreat.Tr
open Go.RowKit Go.Proofs.YtoglddndicmelaaGreatB Go.Proofs.YtoglddndicmelaaGreat
set_option maxRecDepth 100000

theorem tw_one (fs : List Tw) : ∀ u ∈ fs.flatMap Tw.cells, u.oneCell' = true := by
  intro u hu
  obtain ⟨t, _, ht⟩ := List.mem_flatMap.1 hu
  simp only [Tw.cells, List.mem_cons, List.not_mem_nil, or_false] at ht
  rcases ht with rfl | rfl | rfl | rfl <;> rfl
theorem tw_one1 (t : Tw) : ∀ u ∈ t.cells, u.oneCell' = true := by
  intro u ht
  simp only [Tw.cells, List.mem_cons, List.not_mem_nil, or_false] at ht
  rcases ht with rfl | rfl | rfl | rfl <;> rfl
/-- a forest in which a twig is laid -/
theorem ForAt.set {w : World} {p : Nat} {fs : List Tw} (h : ForAt w p fs) {i : Nat} (hi : i < 16) (t : Tw) : ForAt (w.setRow p (lay (fs.flatMap Tw.cells) (i * 4) t.cells).toArray) p (fs.set i t) := by
  refine ⟨?_, by rw [List.length_set]; exact h.len⟩
  rw [setRow_heap _ _ _ _ _ _ h.blk, flat_lay Tw.cells 4 Tw.length fs i (by rw [h.len]; exact hi) t]

def ForPost (p : Nat) (fs' : List Tw) (r : Int) (w : World) (e : Ending) (w' : World) : Prop := e = .returned (.int .i64 r) ∧ ForAt w' p fs' ∧ Ex (· = p) w w'

set_option maxHeartbeats 2000000 in
theorem ffork_any (p : Nat) (fs : List Tw) (id pa ba nu : Int) (w : World) (h : ForAt w p fs) :
    Calls Tryz.prog 63 #[.pointer (some ⟨p, 0, none⟩), .int .i64 id, .int .i64 pa, .int .u64 ba, .int .u64 nu] w (ForPost p (forkF fs id pa ba nu) (forkE fs id pa ba nu) w) := by
  have hsame : ∀ r w', forkE fs id pa ba nu = r → r ≠ 0 → Ex0 w w' → ForPost p (forkF fs id pa ba nu) (forkE fs id pa ba nu) w (.returned (.int .i64 r)) w' := fun r w' e h0 hx => by
    refine ⟨by rw [e], ?_, hx.to (fun _ _ h => h.elim)⟩
    unfold forkF; rw [e, if_neg h0]; exact h.ex0 hx
  have HSAME := Lib.hid hsame
  clear hsame
  by_cases h1 : id < 1
  · go_enter Tryz.func63, Tryz.ntmps63
    go_wp2
    go_ret
    exact HSAME.out 2 _ (by unfold forkE; rw [if_pos (.inl h1)]) (by decide) (Ex.refl _ _)
  by_cases h2 : 16 ≤ id
  · go_enter Tryz.func63, Tryz.ntmps63
    go_wp2
    go_ret
    exact HSAME.out 2 _ (by unfold forkE; rw [if_pos (.inr h2)]) (by decide) (Ex.refl _ _)
  obtain ⟨i, rfl⟩ : ∃ i : Nat, id = i := ⟨id.toNat, by omega⟩
  have hi : i < 16 := by omega
  have hi0 : (0 : Int) ≤ (i : Int) := by omega
  have hi1 : (i : Int) < 16 := by omega
  have hc := (h.tw hi).c0
  have HE : Hid (forkE fs i pa ba nu = if (tg fs i).al then 5 else if alive fs pa = false then 4 else if ba < (tg fs pa.toNat).nu ∨ nu ≤ ba then 15 else 0) := by
    show _ = _
    unfold forkE; rw [if_neg (by omega), Int.toNat_natCast]
  have HF : Hid (∀ w', Ex0 w w' → forkE fs i pa ba nu = 0 → ForPost p (forkF fs i pa ba nu) (forkE fs i pa ba nu) w (.returned (.int .i64 0)) (w'.setRow p (lay (fs.flatMap Tw.cells) (i * 4) (Tw.cells ⟨true, pa, ba, nu⟩)).toArray)) := fun w' hx e => by
    refine ⟨by rw [e], ?_, (hx.to (fun _ _ h => h.elim)).trans (ex_setRow _ _ _) (fun _ _ h => h) (fun _ _ h => h)⟩
    unfold forkF; rw [e, if_pos rfl, Int.toNat_natCast]; exact (h.ex0 hx).set hi _
  generalize (tg fs i).al = c at *
  cases c with
  | true =>
    go_enter Tryz.func63, Tryz.ntmps63
    go_wp2
    go_ret
    exact HSAME.out 5 _ (by rw [HE.out]; rfl) (by decide) (Ex.refl _ _)
  | false =>
    have HA := Lib.hid (alive_any p fs pa w h)
    cases ha : alive fs pa with
    | false =>
      have HP := Lib.hid ha
      clear ha
      go_enter Tryz.func63, Tryz.ntmps63
      go_wp2_with fail
      refine HA.out.mono ?_
      rintro e w1 ⟨rfl, hx⟩
      rw [HP.out]
      go_wp2
      go_ret
      exact HSAME.out 4 _ (by rw [HE.out, HP.out]; rfl) (by decide) hx
    | true =>
      obtain ⟨j, rfl, hj, _⟩ := (alive_iff _ _).1 ha
      have hj0 : (0 : Int) ≤ (j : Int) := by omega
      have hj1 : (j : Int) < 16 := by omega
      have HP := Lib.hid ha
      have HC : Hid (∀ w', Ex0 w w' → w'.cell? ⟨p, j * 4 + 3, none⟩ = some (.int .u64 (tg fs j).nu)) := fun w' hx => ((h.ex0 hx).tw hj).c3
      have HE2 : Hid (forkE fs i j ba nu = if ba < (tg fs j).nu ∨ nu ≤ ba then 15 else 0) := by
        have e := HE.out
        rw [HP.out, Int.toNat_natCast] at e
        show _ = _
        rw [e]; rfl
      have HBK := Lib.hid h.blk
      have hlen : (fs.flatMap Tw.cells).length = 64 := by rw [flat_len Tw.cells 4 Tw.length, h.len]
      generalize (tg fs j).nu = d at HC HE2
      clear ha HE
      by_cases h5 : ba < d
      · go_enter Tryz.func63, Tryz.ntmps63
        go_wp2_with fail
        refine HA.out.mono ?_
        rintro e w1 ⟨rfl, hx⟩
        rw [HP.out]
        have hc' := HC.out _ hx
        clear hc
        go_wp2
        go_ret
        exact HSAME.out 15 _ (by rw [HE2.out, if_pos (.inl h5)]) (by decide) hx
      by_cases h6 : nu ≤ ba
      · go_enter Tryz.func63, Tryz.ntmps63
        go_wp2_with fail
        refine HA.out.mono ?_
        rintro e w1 ⟨rfl, hx⟩
        rw [HP.out]
        have hc' := HC.out _ hx
        clear hc
        go_wp2
        go_ret
        exact HSAME.out 15 _ (by rw [HE2.out, if_pos (.inr h6)]) (by decide) hx
      · have h7 : d ≤ ba := by omega
        have h8 : ba < nu := by omega
        go_enter Tryz.func63, Tryz.ntmps63
        go_wp2_with fail
        refine HA.out.mono ?_
        rintro e w1 ⟨rfl, hx⟩
        rw [HP.out]
        have hc' := HC.out _ hx
        have HBK1 := Lib.hid ((h.ex0 hx).blk)
        clear hc
        go_wp2_with (refine wpList_store_lay rfl 156 (.tmp 57) (.tmp 54) rfl p (i * 4) rfl (Tw.cells ⟨true, j, ba, nu⟩) _ rfl rfl 159 (fs.flatMap Tw.cells) HBK1.out (by rw [hlen, Tw.length]; omega) (tw_one1 _) (by rw [Tw.length]; kernel_rfl) ?_)
        go_ret
        exact HF.out _ hx (by rw [HE2.out, if_neg (by omega)])

set_option maxHeartbeats 1000000 in
theorem kids_any (p : Nat) (fs : List Tw) (id : Int) (w : World) (h : ForAt w p fs) :
    Calls Tryz.prog 113 #[.pointer (some ⟨p, 0, none⟩), .int .i64 id] w fun e w' => e = .returned (.int .i64 (kids fs id)) ∧ Ex0 w w' := by
  have HA := Lib.hid (alive_any p fs id w h)
  cases ha : alive fs id with
  | false =>
    have e : kids fs id = 0 := by unfold kids; rw [if_neg (by rw [ha]; simp)]
    rw [e]
    have HP := Lib.hid ha
    clear ha
    go_enter Tryz.func113, Tryz.ntmps113
    go_wp2_with fail
    refine HA.out.mono ?_
    rintro e w1 ⟨rfl, hx⟩
    rw [HP.out]
    go_wp2
    go_ret
    exact ⟨rfl, hx⟩
  | true =>
    have e : kids fs id = fs.countP (fun t => t.al && t.pa == id) := by unfold kids; rw [if_pos ha]
    rw [e]
    have HP := Lib.hid ha
    have hlen : (fs.flatMap Tw.cells).toArray.size = 64 := by rw [List.size_toArray, flat_len Tw.cells 4 Tw.length, h.len]
    clear ha e
    obtain ⟨CS, hCS⟩ : ∃ C, C = (fs.flatMap Tw.cells).toArray := ⟨_, rfl⟩
    have HB : Hid (∀ w', Ex0 w w' → w'.heap[p]? = some (.cells CS 159 (0, 0))) := fun w' hx => by rw [hCS]; exact (h.ex0 hx).blk
    have HI : Hid (∀ (i : Nat) (hi : i < 16) w', (Instr.index 157 (.agg CS) (.int .i64 i)).run Tryz.prog w' = .ok (.agg (tg fs i).cells.toArray) w') := fun i hi w' => by
      have := run_index_agg (P := Tryz.prog) (t := 157) (e := 156) (n := 16) (sz := 4) Tryz.underlying157 (by kernel_rfl) (fun w => by kernel_rfl) CS i hi w'
      rw [hCS, flat_part Tw.cells 4 Tw.length fs i (by rw [h.len]; exact hi), ← hCS, ← tg_get (by rw [h.len]; exact hi)] at this
      exact this
    have hl16 := h.len
    rw [← hCS] at hlen
    clear hCS
    go_enter Tryz.func113, Tryz.ntmps113
    go_wp2_with fail
    refine HA.out.mono ?_
    rintro e w1 ⟨rfl, hx⟩
    rw [HP.out]
    have hb1 := HB.out _ hx
    go_wp2_with (refine wpList_load_row rfl 157 (.tmp 14) rfl p rfl 159 CS (0, 0) _ hb1 Tryz.underlying157 rfl (by rw [hlen]; kernel_rfl) ?_)
    go_loopw [5, 16] (fun n i wr => ∃ k : Nat, k ≤ 16 ∧ i = .int .i64 k ∧ n = .int .i64 ((fs.take k).countP (fun t => t.al && t.pa == id)) ∧ Ex0 w wr) (fun _ i _ => 16 - (intOf i).toNat)
    case atStart => exact ⟨0, by omega, rfl, rfl, hx⟩
    case round =>
      obtain ⟨k, hk, rfl, rfl, hx2⟩ := hrel
      by_cases hlt : k < 16
      · have hix := HI.out k hlt
        have hcl := List.countP_le_length (p := fun t : Tw => t.al && t.pa == id) (l := fs.take k)
        rw [List.length_take] at hcl
        have hsn : (fs.take (k + 1)).countP (fun t => t.al && t.pa == id) = (fs.take k).countP (fun t => t.al && t.pa == id) + (if (tg fs k).al && (tg fs k).pa == id then 1 else 0) := by
          rw [List.take_succ_eq_append_getElem (by omega), List.countP_append, tg_get (by omega)]
          simp [List.countP_cons]
        have HS := Lib.hid hsn
        have HX := Lib.hid hx2
        generalize (fs.take k).countP (fun t => t.al && t.pa == id) = c at *
        clear hsn hx2
        have hk0 : (0 : Int) ≤ (k : Int) := by omega
        have hk1 : (k : Int) < 16 := by omega
        unfold Tw.cells at hix
        generalize tg fs k = t at *
        obtain ⟨a, b, c2, d⟩ := t
        dsimp only at hix HS
        cases a with
        | false =>
          go_wp2
          go_roundw
          case rel => exact ⟨k + 1, by omega, by go_num, by rw [HS.out]; simp, HX.out.alloc' _⟩
          case measure => simp [intOf]; omega
        | true =>
          by_cases hb : b = id
          · have hb' : (b == id) = true := by simpa using hb
            have HB' := Lib.hid hb
            clear hb
            go_wp2
            go_roundw
            case rel => exact ⟨k + 1, by omega, by go_num, by rw [HS.out]; simp [HB'.out], HX.out.alloc' _⟩
            case measure => simp [intOf]; omega
          · have hb' : (b == id) = false := by simpa using hb
            have HB' := Lib.hid hb
            clear hb
            go_wp2
            go_roundw
            case rel => exact ⟨k + 1, by omega, by go_num, by rw [HS.out]; simp [HB'.out], HX.out.alloc' _⟩
            case measure => simp [intOf]; omega
      · have hk16 : k = 16 := by omega
        subst hk16
        have e16 : fs.take 16 = fs := List.take_of_length_le (by omega)
        rw [e16]
        go_wp2
        go_ret
        exact ⟨rfl, hx2⟩
end Go.Proofs.YtoglddndicmelaaGreat.Tr

namespace Go.Proofs.YtoglddndicmelaaGreat.Tr
open Go.RowKit Go.Proofs.YtoglddndicmelaaGreatB Go.Proofs.YtoglddndicmelaaGreat
set_option maxRecDepth 100000

set_option maxHeartbeats 2000000 in
theorem fdrop_any (p : Nat) (fs : List Tw) (id : Int) (w : World) (h : ForAt w p fs) :
    Calls Tryz.prog 70 #[.pointer (some ⟨p, 0, none⟩), .int .i64 id] w (ForPost p (dropF fs id) (dropE fs id) w) := by
  have hsame : ∀ r w', dropE fs id = r → r ≠ 0 → Ex0 w w' → ForPost p (dropF fs id) (dropE fs id) w (.returned (.int .i64 r)) w' := fun r w' e h0 hx => by
    refine ⟨by rw [e], ?_, hx.to (fun _ _ h => h.elim)⟩
    unfold dropF; rw [e, if_neg h0]; exact h.ex0 hx
  have HSAME := Lib.hid hsame
  clear hsame
  by_cases h0 : id = 0
  · subst h0
    go_enter Tryz.func70, Tryz.ntmps70
    go_wp2
    go_ret
    exact HSAME.out 7 _ rfl (by decide) (Ex.refl _ _)
  have h0' : (id == 0) = false := by simpa using h0
  have HA := Lib.hid (alive_any p fs id w h)
  cases ha : alive fs id with
  | false =>
    have HE : Hid (dropE fs id = 4) := by show _ = _; unfold dropE; rw [if_neg h0, if_pos ha]
    have HP := Lib.hid ha
    clear ha
    go_enter Tryz.func70, Tryz.ntmps70
    go_wp2_with fail
    refine HA.out.mono ?_
    rintro e w1 ⟨rfl, hx⟩
    rw [HP.out]
    go_wp2
    go_ret
    exact HSAME.out 4 _ HE.out (by decide) hx
  | true =>
    obtain ⟨i, rfl, hi, _⟩ := (alive_iff _ _).1 ha
    have hi0 : (0 : Int) ≤ (i : Int) := by omega
    have hi1 : (i : Int) < 16 := by omega
    have HE : Hid (dropE fs i = if 0 < kids fs i then 12 else 0) := by show _ = _; unfold dropE; rw [if_neg h0, if_neg (by rw [ha]; simp)]
    have HP := Lib.hid ha
    have HK : Hid (∀ w', Ex0 w w' → Calls Tryz.prog 113 #[.pointer (some ⟨p, 0, none⟩), .int .i64 i] w' fun e w'' => e = .returned (.int .i64 (kids fs i)) ∧ Ex0 w' w'') := fun w' hx => kids_any p fs i w' (h.ex0 hx)
    have hlen : (fs.flatMap Tw.cells).length = 64 := by rw [flat_len Tw.cells 4 Tw.length, h.len]
    have HF : Hid (∀ w', Ex0 w w' → dropE fs i = 0 → ForPost p (dropF fs i) (dropE fs i) w (.returned (.int .i64 0)) (w'.setRow p (lay (fs.flatMap Tw.cells) (i * 4) (Tw.cells tw0)).toArray)) := fun w' hx e => by
      refine ⟨by rw [e], ?_, (hx.to (fun _ _ h => h.elim)).trans (ex_setRow _ _ _) (fun _ _ h => h) (fun _ _ h => h)⟩
      unfold dropF; rw [e, if_pos rfl, Int.toNat_natCast]; exact (h.ex0 hx).set hi _
    clear ha
    generalize kids fs i = kk at HE HK
    by_cases hkk : 0 < kk
    · have hkk' : (0 : Int) < (kk : Int) := by omega
      go_enter Tryz.func70, Tryz.ntmps70
      go_wp2_with fail
      refine HA.out.mono ?_
      rintro e w1 ⟨rfl, hx⟩
      rw [HP.out]
      have HX := Lib.hid hx
      clear hx
      go_wp2_with fail
      refine (HK.out _ HX.out).mono ?_
      rintro e w2 ⟨rfl, hx⟩
      have HX2 := Lib.hid (HX.out.trans0 hx)
      clear hx
      go_wp2
      go_ret
      exact HSAME.out 12 _ (by rw [HE.out, if_pos hkk]) (by decide) HX2.out
    · obtain rfl : kk = 0 := by omega
      go_enter Tryz.func70, Tryz.ntmps70
      go_wp2_with fail
      refine HA.out.mono ?_
      rintro e w1 ⟨rfl, hx⟩
      rw [HP.out]
      have HX := Lib.hid hx
      clear hx
      go_wp2_with fail
      refine (HK.out _ HX.out).mono ?_
      rintro e w2 ⟨rfl, hx⟩
      have HX2 := Lib.hid (HX.out.trans0 hx)
      have HBK := Lib.hid ((h.ex0 HX2.out).blk)
      clear hx
      go_wp2_with (refine wpList_store_lay rfl 156 (.tmp 26) (.tmp 23) rfl p (i * 4) rfl (Tw.cells tw0) _ rfl rfl 159 (fs.flatMap Tw.cells) HBK.out (by rw [hlen, Tw.length]; omega) (tw_one1 _) (by rw [Tw.length]; kernel_rfl) ?_)
      go_ret
      exact HF.out _ HX2.out (by rw [HE.out, if_neg (by omega)])

/-- what Free tells -/
def freeR (fs : List Tw) : Array Value := if freeF fs < 16 then #[.int .i64 (freeF fs), .bool true] else #[.int .i64 0, .bool false]
set_option maxHeartbeats 1000000 in
theorem free_any (p : Nat) (fs : List Tw) (w : World) (h : ForAt w p fs) :
    Calls Tryz.prog 62 #[.pointer (some ⟨p, 0, none⟩)] w fun e w' => e = .returned (.tuple (freeR fs)) ∧ Ex0 w w' := by
  have hlen : (fs.flatMap Tw.cells).toArray.size = 64 := by rw [List.size_toArray, flat_len Tw.cells 4 Tw.length, h.len]
  obtain ⟨CS, hCS⟩ : ∃ C, C = (fs.flatMap Tw.cells).toArray := ⟨_, rfl⟩
  have hb : w.heap[p]? = some (.cells CS 159 (0, 0)) := by rw [hCS]; exact h.blk
  have HI : Hid (∀ (i : Nat) (hi : i < 16) w', (Instr.index 157 (.agg CS) (.int .i64 i)).run Tryz.prog w' = .ok (.agg (tg fs i).cells.toArray) w') := fun i hi w' => by
    have := run_index_agg (P := Tryz.prog) (t := 157) (e := 156) (n := 16) (sz := 4) Tryz.underlying157 (by kernel_rfl) (fun w => by kernel_rfl) CS i hi w'
    rw [hCS, flat_part Tw.cells 4 Tw.length fs i (by rw [h.len]; exact hi), ← hCS, ← tg_get (by rw [h.len]; exact hi)] at this
    exact this
  rw [← hCS] at hlen
  have HFREE := Lib.hid (freeF_spec fs)
  clear hCS h
  go_enter Tryz.func62, Tryz.ntmps62
  go_wp2_with (refine wpList_load_row rfl 157 (.tmp 10) rfl p rfl 159 CS (0, 0) _ hb Tryz.underlying157 rfl (by rw [hlen]; kernel_rfl) ?_)
  go_loopw [12] (fun i wr => ∃ k : Nat, k ≤ 16 ∧ i = .int .i64 k ∧ (∀ j, j < k → j = 0 ∨ (tg fs j).al = true) ∧ Ex0 w wr) (fun i _ => 16 - (intOf i).toNat)
  case atStart => exact ⟨0, by omega, rfl, fun j h => by omega, Ex.refl _ _⟩
  case round =>
    obtain ⟨k, hk, rfl, hbel, hx2⟩ := hrel
    have HBEL := Lib.hid hbel
    have HX := Lib.hid hx2
    clear hbel hx2
    by_cases hlt : k < 16
    · have hix := HI.out k hlt
      have hk0 : (0 : Int) ≤ (k : Int) := by omega
      have hk1 : (k : Int) < 16 := by omega
      have HT : Hid (∀ c, (tg fs k).al = c → (tg fs k).cells = [.bool c, .int .i64 (tg fs k).pa, .int .u64 (tg fs k).ba, .int .u64 (tg fs k).nu]) := fun c e => by unfold Tw.cells; rw [e]
      by_cases hk00 : k = 0
      · have hkn : ¬ (0 : Int) < (k : Int) := by omega
        have HK0 := Lib.hid hk00
        unfold Tw.cells at hix
        clear hk00
        go_wp2
        go_roundw
        case rel => exact ⟨k + 1, by omega, by go_num, fun j h => .inl (by have := HK0.out; omega), HX.out.alloc' _⟩
        case measure => simp [intOf]; omega
      have hkp : (0 : Int) < (k : Int) := by omega
      cases hal : (tg fs k).al with
      | true =>
        rw [HT.out _ hal] at hix
        have HAL := Lib.hid hal
        clear hal
        go_wp2
        go_roundw
        case rel => exact ⟨k + 1, by omega, by go_num, fun j h => by
          by_cases e : j = k
          · subst e; exact .inr HAL.out
          · exact HBEL.out j (by omega), HX.out.alloc' _⟩
        case measure => simp [intOf]; omega
      | false =>
        rw [HT.out _ hal] at hix
        have HAL := Lib.hid hal
        clear hal
        go_wp2
        go_ret2
        refine ⟨?_, HX.out.alloc' _⟩
        have e : freeF fs = k := by
          rcases HFREE.out with ⟨h1, h2, h3, h4⟩ | ⟨h1, h4⟩
          · rcases Nat.lt_trichotomy (freeF fs) k with g | g | g
            · rcases HBEL.out _ g with q | q
              · omega
              · rw [h3] at q; cases q
            · exact g
            · have := h4 k g
              rw [alive_nat, HAL.out] at this
              simp [hk00] at this
          · have := h4 k hlt
            rw [alive_nat, HAL.out] at this
            simp [hk00] at this
        have e2 : freeR fs = #[.int .i64 k, .bool true] := by unfold freeR; rw [e, if_pos hlt]
        rw [e2]; rfl
    · have hk16 : k = 16 := by omega
      subst hk16
      go_wp2
      go_ret2
      refine ⟨?_, HX.out⟩
      have e2 : freeR fs = #[.int .i64 0, .bool false] := by
        unfold freeR
        rw [if_neg]
        rcases HFREE.out with ⟨h1, h2, h3, h4⟩ | ⟨h1, h4⟩
        · rcases HBEL.out _ h1 with q | q
          · omega
          · rw [h3] at q; cases q
        · omega
      rw [e2]; rfl

theorem fclone_any (p : Nat) (fs : List Tw) (w : World) (h : ForAt w p fs) :
    Calls Tryz.prog 69 #[.pointer (some ⟨p, 0, none⟩)] w fun e w' => e = .returned (.pointer (some ⟨w.heap.size, 0, none⟩)) ∧ ForAt w' w.heap.size fs ∧ Ex0 w w' := by
  have hlen : (fs.flatMap Tw.cells).toArray.size = 64 := by rw [List.size_toArray, flat_len Tw.cells 4 Tw.length, h.len]
  have hl16 := h.len
  have HO : Hid (∀ u ∈ (fs.flatMap Tw.cells).toArray, u.oneCell' = true) := by show ∀ u ∈ _, _; simpa using tw_one fs
  have hb := h.blk
  generalize hCS : (fs.flatMap Tw.cells).toArray = CS at *
  have HCS := Lib.hid hCS
  clear hCS h
  go_enter Tryz.func69, Tryz.ntmps69
  go_wp2_with (first | refine wpList_load_row rfl 159 (.tmp 7) rfl p rfl 159 CS (0, 0) _ hb Tryz.underlying159 rfl (by rw [hlen]; kernel_rfl) ?_ | refine wpList_store_all rfl 159 (.tmp 3) (.tmp 8) rfl w.heap.size rfl CS _ rfl 159 (heap_alloc_new _ _) hlen.symm HO.out (by rw [hlen]; kernel_rfl) ?_)
  rw [World.setRow_alloc_new]
  go_ret
  exact ⟨rfl, ⟨by rw [HCS.out]; exact heap_alloc_new _ _, hl16⟩, Ex.alloc _ _⟩

theorem fnew_any (w : World) :
    Calls Tryz.prog 34 #[] w fun e w' => e = .returned (.pointer (some ⟨w.heap.size, 0, none⟩)) ∧ ForAt w' w.heap.size fs0 ∧ Ex0 w w' := by
  go_enter Tryz.func34, Tryz.ntmps34
  go_wp2
  go_ret
  exact ⟨rfl, ⟨heap_alloc_new _ _, rfl⟩, Ex.alloc _ _⟩
end Go.Proofs.YtoglddndicmelaaGreat.Tr

namespace Go.Proofs.YtoglddndicmelaaGreat.Tr
open Go.RowKit Go.Proofs.YtoglddndicmelaaGreatB Go.Proofs.YtoglddndicmelaaGreat
set_option maxRecDepth 100000

def Stp.cells (s : Stp) : List Value := [.int .i64 s.br, .int .u64 s.lo, .int .u64 s.hi]
theorem Stp.length (s : Stp) : s.cells.length = 3 := rfl
theorem infoStep : (Tryz.prog.info? 137).map (fun i => (i.zero, i.size, i.bytes)) = some (some (.agg #[.int .i64 0, .int .u64 0, .int .u64 0]), 3, 24) := by kernel_rfl
theorem stp_one (l : List Stp) : ∀ u ∈ l.flatMap Stp.cells, u.oneCell' = true := by
  intro u hu
  obtain ⟨t, _, ht⟩ := List.mem_flatMap.1 hu
  simp only [Stp.cells, List.mem_cons, List.not_mem_nil, or_false] at ht
  rcases ht with rfl | rfl | rfl <;> rfl
/-- is there a line -/
def lineB (fs : List Tw) (id m : Int) : Bool := alive fs id && !decide (m < numF fs id)
theorem line_no (p : Nat) (fs : List Tw) (id m : Int) (w : World) (h : ForAt w p fs) (hn : lineB fs id m = false) :
    Calls Tryz.prog 51 #[.pointer (some ⟨p, 0, none⟩), .int .i64 id, .int .u64 m] w fun e w' => e = .returned (.tuple #[.slice none 0 0, .int .i64 4]) ∧ Ex0 w w' := by
  have HN := Lib.hid (fnum_any p fs id w h)
  unfold lineB at hn
  generalize numF fs id = q at HN hn
  cases ha : alive fs id with
  | false =>
    rw [ha] at HN
    clear hn ha
    go_enter Tryz.func51, Tryz.ntmps51
    go_wp2_with fail
    refine HN.out.mono ?_
    rintro e w1 ⟨rfl, hx⟩
    go_wp2
    go_ret2
    exact ⟨rfl, hx⟩
  | true =>
    rw [ha] at HN hn
    have hq : m < q := by simpa using hn
    clear hn ha
    go_enter Tryz.func51, Tryz.ntmps51
    go_wp2_with fail
    refine HN.out.mono ?_
    rintro e w1 ⟨rfl, hx⟩
    go_wp2
    go_ret2
    exact ⟨rfl, hx⟩

set_option maxHeartbeats 2000000 in
theorem line_yes (p : Nat) (fs : List Tw) (id m : Int) (w : World) (h : ForAt w p fs) (hf : FOk fs) (hy : lineB fs id m = true) :
    Calls Tryz.prog 51 #[.pointer (some ⟨p, 0, none⟩), .int .i64 id, .int .u64 m] w fun e w' => ∃ v, e = .returned (.tuple #[v, .int .i64 0]) ∧ w'.ownsRow w.heap.size 137 3 v (lineF fs id.toNat m).length ((lineF fs id.toNat m).flatMap Stp.cells) ∧ Ex0 w w' := by
  have HN := Lib.hid (fnum_any p fs id w h)
  unfold lineB at hy
  rw [Bool.and_eq_true] at hy
  obtain ⟨ha, hm⟩ := hy
  have hq : numF fs id = (tg fs id.toNat).nu := by unfold numF; rw [if_pos ha]
  rw [hq] at HN hm
  obtain ⟨i, rfl, hi, _⟩ := (alive_iff _ _).1 ha
  rw [Int.toNat_natCast] at *
  have hqm : ¬ m < (tg fs i).nu := by simpa using hm
  rw [ha] at HN
  have HST := Lib.hid (lineF_step hf m ha)
  have HLEN := Lib.hid (lineF_len hf i m)
  obtain ⟨LN, hLN⟩ : ∃ L, L = lineF fs i m := ⟨_, rfl⟩
  rw [← hLN] at HST HLEN ⊢
  have HF := Lib.hid hf
  have HA := Lib.hid ha
  have HTW : Hid (∀ w' (j : Nat), Ex0 w w' → j < 16 → RowAt w' ⟨p, j * 4, none⟩ (tg fs j).cells ∧ TwC p (j * 4) (tg fs j) w') := fun w' j hx hj => ⟨fun k u hu => by rw [Addr.add_lit]; exact (h.ex0 hx).at hj hu, (h.ex0 hx).tw hj⟩
  obtain ⟨is, his, hz0, hz1, hz2⟩ := info_parts infoStep
  clear hLN hf ha hm hq h
  generalize hnu : (tg fs i).nu = q at HN hqm HST
  clear hnu
  go_enter Tryz.func51, Tryz.ntmps51
  go_wp2_with fail
  refine HN.out.mono ?_
  rintro e w1 ⟨rfl, hx⟩
  have HX := Lib.hid hx
  clear hx
  go_wp2
  have hx2 : Ex0 w (w1.alloc (.cells #[.int .i64 i, .int .u64 q, .int .u64 m] 137)) := HX.out.alloc' _
  have ho0 : (w1.alloc (.cells #[.int .i64 i, .int .u64 q, .int .u64 m] 137)).ownsRow w.heap.size 137 3 (.slice (some ⟨w1.heap.size, 0, none⟩) 1 1) 1 ([(⟨i, q, m⟩ : Stp)].flatMap Stp.cells) := own_lit (heap_alloc_new _ _) rfl HX.out.size (by decide)
  go_loopw [1, 10] (fun c v wr => ∃ (j : Nat) (done : List Stp), c = .int .i64 j ∧ j < 16 ∧ alive fs (j : Int) = true ∧ wr.ownsRow w.heap.size 137 3 v done.length (done.flatMap Stp.cells) ∧ LN = done ++ (if j = 0 then [] else lineF fs (tg fs j).pa.toNat (tg fs j).ba) ∧ Ex0 w wr) (fun c _ _ => (tg fs (intOf c).toNat).nu.toNat)
  case atStart => exact ⟨i, [⟨i, q, m⟩], rfl, hi, HA.out, ho0, HST.out, hx2⟩
  case round =>
    obtain ⟨j, done, rfl, hj, haj, hown, hLe, hxr⟩ := hrel
    have HO := Lib.hid hown
    have HL := Lib.hid hLe
    have HXR := Lib.hid hxr
    have HAJ := Lib.hid haj
    clear hown hLe hxr haj ho0 hx2
    have hj0 : (0 : Int) ≤ (j : Int) := by omega
    have hj1 : (j : Int) < 16 := by omega
    by_cases h0 : j = 0
    · have HLD : Hid (done = LN) := by
        have e := HL.out
        rw [if_pos h0, List.append_nil] at e
        exact e.symm
      have HO1 : Hid (wr.ownsRow w.heap.size 137 3 u10 LN.length (LN.flatMap Stp.cells)) := by
        have := HO.out
        rw [HLD.out] at this
        exact this
      have h0' : ((j : Int) == 0) = true := by simpa using h0
      have h0n : ((j : Int) != 0) = false := by simpa using h0
      clear h0 HL HO HLD
      go_wp2
      go_ret2
      exact ⟨_, rfl, HO1.out, HXR.out⟩
    · have h0' : ((j : Int) == 0) = false := by simpa using h0
      have h0n : ((j : Int) != 0) = true := by simpa using h0
      have hal : (tg fs j).al = true := by
        have := HAJ.out
        rw [alive_nat] at this
        simp only [Bool.and_eq_true, decide_eq_true_eq, Bool.or_eq_true] at this
        exact this.2.resolve_left h0
      have HPAR := Lib.hid (HF.out.par j hal)
      have hpr := HF.out.pa_rng j
      obtain ⟨k, hk⟩ : ∃ k : Nat, (tg fs j).pa = k := ⟨(tg fs j).pa.toNat, by omega⟩
      have hk16 : k < 16 := by omega
      have hrow := (HTW.out wr j HXR.out hj).1
      have HROWK := Lib.hid (fun w' hx => (HTW.out w' k hx hk16).2.c3)
      have HST2 := Lib.hid (lineF_step HF.out (id := k) (tg fs j).ba (by have := HPAR.out.1; rw [hk] at this; exact this))
      have HLN := Lib.hid (show LN = (done ++ [(⟨k, (tg fs k).nu, (tg fs j).ba⟩ : Stp)]) ++ (if k = 0 then [] else lineF fs (tg fs k).pa.toNat (tg fs k).ba) by
        have e := HL.out
        rw [if_neg h0, hk, Int.toNat_natCast, HST2.out] at e
        rw [e]; simp)
      have hdl : done.length ≤ 65535 := by
        have e := HLN.out
        have h1 := HLEN.out
        rw [e] at h1
        simp at h1
        omega
      have HMEA : Hid ((tg fs k).nu.toNat < (tg fs j).nu.toNat) := by
        have h1 := HPAR.out
        rw [hk, Int.toNat_natCast] at h1
        show _ < _
        omega
      have HAK : Hid (alive fs (k : Int) = true) := by have := HPAR.out.1; rw [hk] at this; exact this
      unfold Tw.cells at hrow
      rw [hk] at hrow
      generalize (tg fs j).ba = ba at *
      generalize (tg fs k).nu = nk at HROWK HLN
      clear hk hal HST2 hpr HL
      go_wp2_with (refine wpList_load_at rfl 156 (.tmp 36) rfl _ rfl _ _ hrow Tryz.underlying156 rfl (by kernel_rfl) ?_)
      have hs1 : (wr.alloc (.cells #[.bool (tg fs j).al, .int .i64 k, .int .u64 ba, .int .u64 (tg fs j).nu] 156)).heap[wr.heap.size]? = some (.cells #[.bool (tg fs j).al, .int .i64 k, .int .u64 ba, .int .u64 (tg fs j).nu] 156 (0, 0)) := heap_alloc_new _ _
      generalize hwq : wr.alloc (.cells #[.bool (tg fs j).al, .int .i64 k, .int .u64 ba, .int .u64 (tg fs j).nu] 156) = wq at *
      have HXQ : Hid (Ex0 wr wq) := by rw [← hwq]; exact Ex.alloc _ _
      have HB := Lib.hid hs1
      have HSX : Hid (∀ w', Ex0 wq w' → w'.cell? ⟨p, k * 4 + 3, none⟩ = some (.int .u64 nk) ∧ w'.cell? ⟨wr.heap.size, 2, none⟩ = some (.int .u64 ba)) := fun w' hx => ⟨HROWK.out _ ((HXR.out.trans0 HXQ.out).trans0 hx), by rw [cell_of_row _ _ _ _ _ _ ((hx.block _ (Array.getElem?_eq_some_iff.1 HB.out).1 not_false).trans HB.out)]; rfl⟩
      have HY : Hid (Ex0 wq wq.drew) := Ex.drew _
      have hS := HSX.out _ HY.out
      have HOQ := Lib.hid (own_ex HO.out (HXQ.out.trans0 HY.out) (fun _ _ => id))
      have hk0 : (0 : Int) ≤ (k : Int) := by omega
      have hk1 : (k : Int) < 16 := by omega
      clear hwq hs1 hrow
      refine wp_region_takes (fun w' => w'.cell? ⟨p, k * 4 + 3, none⟩ = some (.int .u64 nk) ∧ w'.cell? ⟨wr.heap.size, 2, none⟩ = some (.int .u64 ba)) (by kernel_rfl) ?_
      simp only [List.length_cons, List.length_nil]
      generalize wq.drew = wd at *
      refine' wpAnyH_do 0 rfl (by kernel_rfl) (fun _ _ _ _ h => h) (by rfl) (by assumption) ⟨_, fun w' hS => ?_, ?_⟩
      rotate_left
      · ((try dsimp only at hS); go_split_ands; go_simp; try (with_reducible rfl))
      simp only [Act.put, List.setIfInBounds_toArray, List.set_cons_zero, List.set_cons_succ]
      refine' wpAnyH_do 1 rfl (by kernel_rfl) (fun _ _ _ _ h => h) (by rfl) (by assumption) ⟨_, fun w' hS => ?_, ?_⟩
      rotate_left
      · ((try dsimp only at hS); go_split_ands; go_simp; try (with_reducible rfl))
      simp only [Act.put, List.setIfInBounds_toArray, List.set_cons_zero, List.set_cons_succ]
      refine' wpAnyH_do 2 rfl (by kernel_rfl) (fun _ _ _ _ h => h) (by rfl) (by assumption) ⟨_, fun w' hS => ?_, ?_⟩
      rotate_left
      · ((try dsimp only at hS); go_split_ands; go_simp; try (with_reducible rfl))
      simp only [Act.put, List.setIfInBounds_toArray, List.set_cons_zero, List.set_cons_succ]
      refine' wpAnyH_do 3 rfl (by kernel_rfl) (fun _ _ _ _ h => h) (by rfl) (by assumption) ⟨_, fun w' hS => ?_, ?_⟩
      rotate_left
      · ((try dsimp only at hS); go_split_ands; go_simp; try (with_reducible rfl))
      simp only [Act.put, List.setIfInBounds_toArray, List.set_cons_zero, List.set_cons_succ]
      refine' wpAnyH_do 4 rfl (by kernel_rfl) (fun _ _ _ _ h => h) (by rfl) (by assumption) ⟨_, fun w' hS => ?_, ?_⟩
      rotate_left
      · ((try dsimp only at hS); go_split_ands; go_simp; try (with_reducible rfl))
      simp only [Act.put, List.setIfInBounds_toArray, List.set_cons_zero, List.set_cons_succ]
      refine' wpAnyH_do 5 rfl (by kernel_rfl) (fun _ _ _ _ h => h) (by rfl) (by assumption) ⟨_, fun w' hS => ?_, ?_⟩
      rotate_left
      · ((try dsimp only at hS); go_split_ands; go_simp; try (with_reducible rfl))
      simp only [Act.put, List.setIfInBounds_toArray, List.set_cons_zero, List.set_cons_succ]
      refine' wpAnyH_do 6 rfl (by kernel_rfl) (fun _ _ _ _ h => h) (by rfl) (by assumption) ⟨_, fun w' hS => ?_, ?_⟩
      rotate_left
      · ((try dsimp only at hS); go_split_ands; go_simp; try (with_reducible rfl))
      simp only [Act.put, List.setIfInBounds_toArray, List.set_cons_zero, List.set_cons_succ]
      refine' wpAnyH_do 7 rfl (by kernel_rfl) (fun _ _ _ _ h => h) (by rfl) (by assumption) ⟨_, fun w' hS => ?_, ?_⟩
      rotate_left
      · ((try dsimp only at hS); go_split_ands; go_simp; try (with_reducible rfl))
      simp only [Act.put, List.setIfInBounds_toArray, List.set_cons_zero, List.set_cons_succ]
      refine' wpAnyH_do 8 rfl (by kernel_rfl) (fun _ _ _ _ h => h) (by rfl) (by assumption) ⟨_, fun w' hS => ?_, ?_⟩
      rotate_left
      · ((try dsimp only at hS); go_split_ands; go_simp; try (with_reducible rfl))
      simp only [Act.put, List.setIfInBounds_toArray, List.set_cons_zero, List.set_cons_succ]
      refine' wpAnyH_do 9 rfl (by kernel_rfl) (fun _ _ _ _ h => h) (by rfl) (by assumption) ⟨_, fun w' hS => ?_, ?_⟩
      rotate_left
      · ((try dsimp only at hS); go_split_ands; go_simp; try (with_reducible rfl))
      simp only [Act.put, List.setIfInBounds_toArray, List.set_cons_zero, List.set_cons_succ]
      refine' wpAnyH_do 10 rfl (by kernel_rfl) (fun _ _ _ _ h => h) (by rfl) (by assumption) ⟨_, fun w' hS => ?_, ?_⟩
      rotate_left
      · ((try dsimp only at hS); go_split_ands; go_simp; try (with_reducible rfl))
      simp only [Act.put, List.setIfInBounds_toArray, List.set_cons_zero, List.set_cons_succ]
      refine' wpAnyH_do 11 rfl (by kernel_rfl) (fun _ _ _ _ h => h) (by rfl) (by assumption) ⟨_, fun w' hS => ?_, ?_⟩
      rotate_left
      · ((try dsimp only at hS); go_split_ands; go_simp; try (with_reducible rfl))
      simp only [Act.put, List.setIfInBounds_toArray, List.set_cons_zero, List.set_cons_succ]
      refine wpAnyH_eff 12 rfl (by kernel_rfl) (by rfl) (fun K hK => ?_)
      have HKK := Lib.hid hK
      clear hK
      refine wp_buildSlice_all 103 137 1 _ rfl [.agg #[.int .i64 k, .int .u64 nk, .int .u64 ba]] is _ 3 Tryz.underlying103 his hz0 hz1 (by decide) (by decide) rfl (by decide) rfl (by intro v hv; rw [List.mem_singleton.1 hv]; rfl) ?_
      have hb2 : (wd.alloc (.cells ([Value.agg #[.int .i64 k, .int .u64 nk, .int .u64 ba]].flatMap fun v => v.cells.toList).toArray 137)).heap[wd.heap.size]? = some (.cells #[.int .i64 k, .int .u64 nk, .int .u64 ba] 137 (0, 0)) := heap_alloc_new _ _
      generalize hwe : wd.alloc (.cells ([Value.agg #[.int .i64 k, .int .u64 nk, .int .u64 ba]].flatMap fun v => v.cells.toList).toArray 137) = we at *
      have HXE : Hid (Ex0 wd we) := by rw [← hwe]; exact Ex.alloc _ _
      have HB2 := Lib.hid hb2
      have HOE := Lib.hid (own_ex HOQ.out HXE.out (fun _ _ => id))
      have HYE := Lib.hid (HY.out.trans0 HXE.out)
      clear hwe hb2
      refine HKK.out _ _ (HSX.out _ HYE.out) ?_
      clear HKK K
      (try simp only [Act.put, List.setIfInBounds_toArray, List.set_cons_zero, List.set_cons_succ])
      replace hS := HSX.out _ HYE.out
      refine wpAnyH_eff 13 rfl (by kernel_rfl) (by rfl) (fun K hK => ?_)
      have HKK := Lib.hid hK
      clear hK
      refine wp_append_sl (.tmp 40) (.tmp 52) 103 rfl w.heap.size 137 is _ 3 24 Tryz.underlying103 his hz0 hz1 hz2 rfl (by decide) u10 done.length (done.flatMap Stp.cells) rfl HOE.out (some ⟨wd.heap.size, 0, none⟩) 1 1 [.int .i64 k, .int .u64 nk, .int .u64 ba] rfl (sl_block HB2.out rfl (by decide)) (fun h => by cases h) (by simp [Value.oneCell']) (by unfold maxLen; omega) (by omega) (((HXR.out.trans0 HXQ.out).trans0 HYE.out).size) ?_
      intro v2 wf ho2 hg2 _
      have HO2 := Lib.hid ho2
      have HYF := Lib.hid (ex_of_new ((HXR.out.trans0 HXQ.out).trans0 HYE.out) hg2 (fun b hb => (HOE.out.lt b hb).1))
      have HS2 : Hid (wf.cell? ⟨p, k * 4 + 3, none⟩ = some (.int .u64 nk) ∧ wf.cell? ⟨wr.heap.size, 2, none⟩ = some (.int .u64 ba)) := ⟨HROWK.out _ HYF.out, by
        exact (Ex.ofGrown hg2).cellS hS.2 (fun e => by have := (HO.out.lt _ e).2; exact absurd this (Nat.lt_irrefl _))⟩
      clear ho2 hg2 hS
      refine HKK.out _ _ HS2.out ?_
      clear HKK K
      (try simp only [Act.put, List.setIfInBounds_toArray, List.set_cons_zero, List.set_cons_succ])
      have hS := HS2.out
      refine' wpAnyH_do 14 rfl (by kernel_rfl) (fun _ _ _ _ h => h) (by rfl) (by assumption) ⟨_, fun w' hS => ?_, ?_⟩
      rotate_left
      · ((try dsimp only at hS); go_split_ands; go_simp; try (with_reducible rfl))
      simp only [Act.put, List.setIfInBounds_toArray, List.set_cons_zero, List.set_cons_succ]
      refine wpAnyH_done (by kernel_rfl) ?_ _
      clear hS
      go_wp2_with fail
      go_roundw
      case rel => exact ⟨k, done ++ [⟨k, nk, ba⟩], rfl, hk16, HAK.out, by rw [List.length_append, List.flatMap_append]; exact HO2.out, HLN.out, HYF.out⟩
      case measure => have := HMEA.out; simp [intOf]; omega
end Go.Proofs.YtoglddndicmelaaGreat.Tr
