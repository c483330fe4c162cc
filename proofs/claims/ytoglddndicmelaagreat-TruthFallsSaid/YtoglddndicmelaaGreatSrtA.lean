/- The library's sort at []uint64, of few elements: what it leaves is a permutation. Words; Less; an exchange. The library's sort at []uint64: partitionEqual. The library's sort at []uint64: partition. The library's sort at []uint64: the pivot; a look at what is sorted already. -/
import Derived.Test.YtoglddndicmelaaGreatProg
import Derived.Test.YtoglddndicmelaaGreatB9
import Derived.Test.YtoglddndicmelaaGreatB10
import Derived.BigQuiet
import Derived.BigRegion
import Derived.Deep.QuietTactic
import Derived.RegionTactic
import Derived.Deep.CutBlock
import Derived.Deep.CutRange
namespace Go.Proofs.YtoglddndicmelaaGreat.So
open Go.RowKit Go.Proofs.YtoglddndicmelaaGreatB Go.Proofs.YtoglddndicmelaaGreat
set_option maxRecDepth 100000

/-- a row of numbers, and what stands behind it in its block -/
def RowU (w : World) (g : Nat) (tl : List Value) (ys : List Int) : Prop := w.heap[g]? = some (.cells (ys.map (Value.int .u64) ++ tl).toArray 31 (0, 0))
def yat (ys : List Int) (i : Nat) : Int := ys.getD i 0
theorem RowU.cell {w : World} {g : Nat} {tl : List Value} {ys : List Int} (h : RowU w g tl ys) {i : Nat} (hi : i < ys.length) : w.cell? ⟨g, i, none⟩ = some (.int .u64 (yat ys i)) := by
  rw [cell_of_row _ _ _ _ _ _ h]
  simp [yat, List.getElem?_append_left, hi, List.getD]
theorem RowU.lt {w : World} {g : Nat} {tl : List Value} {ys : List Int} (h : RowU w g tl ys) : g < w.heap.size := (Array.getElem?_eq_some_iff.1 h).1
theorem RowU.frozen {w : World} {g : Nat} {tl : List Value} {ys : List Int} (h : RowU w g tl ys) (i : Nat) : w.frozen? ⟨g, i, none⟩ = false := frozen_of_row _ _ _ _ _ h
theorem RowU.set {w : World} {g : Nat} {tl : List Value} {ys : List Int} (h : RowU w g tl ys) {i : Nat} (hi : i < ys.length) (x : Int) : RowU (w.setCell ⟨g, i, none⟩ (.int .u64 x)) g tl (ys.set i x) := by
  unfold RowU
  rw [heap_setCell_same _ _ _ _ _ _ h]
  have e : (ys.set i x).map (Value.int .u64) = (ys.map (Value.int .u64)).set i (.int .u64 x) := List.map_set
  rw [e]
  simp [hi]
theorem RowU.drew {w : World} {g : Nat} {tl : List Value} {ys : List Int} (h : RowU w g tl ys) (n : Nat) : RowU (w.drewN n) g tl ys := h
theorem RowU.ex {S : Nat → Prop} {w w' : World} {g : Nat} {tl : List Value} {ys : List Int} (h : RowU w g tl ys) (hx : Ex S w w') (hS : ¬ S g) : RowU w' g tl ys := (hx.block g h.lt hS).trans h
/-- an exchange -/
def swp (ys : List Int) (i j : Nat) : List Int := (ys.set i (yat ys j)).set j (yat ys i)
theorem swp_len (ys : List Int) (i j : Nat) : (swp ys i j).length = ys.length := by simp [swp]
theorem swp_perm (ys : List Int) (i j : Nat) (hi : i < ys.length) (hj : j < ys.length) : (swp ys i j).Perm ys := by
  unfold swp yat
  rw [List.getD_eq_getElem?_getD, List.getD_eq_getElem?_getD, List.getElem?_eq_getElem hi, List.getElem?_eq_getElem hj]
  exact List.set_set_perm hi hj
theorem RowU.swap {w : World} {g : Nat} {tl : List Value} {ys : List Int} (h : RowU w g tl ys) {i j : Nat} (hi : i < ys.length) (hj : j < ys.length) : RowU ((w.setCell ⟨g, i, none⟩ (.int .u64 (yat ys j))).setCell ⟨g, j, none⟩ (.int .u64 (yat ys i))).drew g tl (swp ys i j) :=
  (h.set hi _).set (by rw [List.length_set]; exact hj) _
theorem RowU.swap2 {w : World} {g : Nat} {tl : List Value} {ys : List Int} (h : RowU w g tl ys) {i j : Nat} (hi : i < ys.length) (hj : j < ys.length) : RowU ((w.setCell ⟨g, i, none⟩ (.int .u64 (yat ys j))).setCell ⟨g, j, none⟩ (.int .u64 (yat ys i))) g tl (swp ys i j) :=
  (h.set hi _).set (by rw [List.length_set]; exact hj) _
theorem swap_ex2 {w wr : World} {g i j : Nat} {u v : Value} (h : Ex (· = g) w wr) : Ex (· = g) w ((wr.setCell ⟨g, i, none⟩ u).setCell ⟨g, j, none⟩ v) :=
  (h.trans (Ex.setCell _ _ _) (fun _ _ h => h) (fun _ _ h => h)).trans (Ex.setCell _ _ _) (fun _ _ h => h) (fun _ _ h => h)
theorem swap_ex {w wr : World} {g i j : Nat} {u v : Value} (h : Ex (· = g) w wr) : Ex (· = g) w ((wr.setCell ⟨g, i, none⟩ u).setCell ⟨g, j, none⟩ v).drew :=
  ((h.trans (Ex.setCell _ _ _) (fun _ _ h => h) (fun _ _ h => h)).trans (Ex.setCell _ _ _) (fun _ _ h => h) (fun _ _ h => h)).drew'
/-- what each function leaves -/
def Srt (g : Nat) (tl : List Value) (ys : List Int) (w w' : World) : Prop := ∃ zs : List Int, zs.Perm ys ∧ RowU w' g tl zs ∧ Ex (· = g) w w'
theorem Srt.refl {g : Nat} {tl : List Value} {ys : List Int} {w : World} (h : RowU w g tl ys) : Srt g tl ys w w := ⟨ys, List.Perm.refl _, h, Ex.refl _ _⟩

theorem isNaN_any (x : Int) (w : World) : Calls Tryz.prog 200 #[.int .u64 x] w fun e w' => e = .returned (.bool false) ∧ w' = w := by
  go_enter Tryz.func200, Tryz.ntmps200
  go_wp2
  go_ret
  exact ⟨by simp, rfl⟩
theorem less_any (x y : Int) (w : World) : Calls Tryz.prog 183 #[.int .u64 x, .int .u64 y] w fun e w' => e = .returned (.bool (decide (x < y))) ∧ w' = w := by
  go_enter Tryz.func183, Tryz.ntmps183
  go_wp2_with (refine (isNaN_any _ _).mono ?_; rintro e w' ⟨rfl, rfl⟩)
  go_ret
  exact ⟨rfl, rfl⟩

set_option maxHeartbeats 2000000 in
theorem reverse_any (g cap n : Nat) (tl : List Value) (ys : List Int) (a b : Nat) (w : World) (h : RowU w g tl ys) (hn : ys.length = n) (_ : a ≤ b) (hb : b ≤ n) (hm : n ≤ 1000) :
    Calls Tryz.prog 181 #[.slice (some ⟨g, 0, none⟩) n cap, .int .i64 a, .int .i64 b] w fun e w' => e = .returned (.tuple #[]) ∧ Srt g tl ys w w' := by
  have HP := Lib.hid h
  clear h
  go_enter Tryz.func181, Tryz.ntmps181
  go_wp2
  go_loopw [6, 7] (fun i j wr => ∃ (p q : Nat) (zs : List Int), i = .int .i64 p ∧ j = .int .i64 ((q : Int) - 1) ∧ a ≤ p ∧ q ≤ b ∧ zs.length = n ∧ zs.Perm ys ∧ RowU wr g tl zs ∧ Ex (· = g) w wr) (fun i j _ => (intOf j - intOf i).toNat)
  case atStart => exact ⟨a, b, ys, rfl, rfl, Nat.le_refl _, Nat.le_refl _, hn, List.Perm.refl _, HP.out, Ex.refl _ _⟩
  case round =>
    obtain ⟨p, q, zs, rfl, rfl, hp, hq, hz, hpm, hr, hx⟩ := hrel
    have HR := Lib.hid hr
    have HX := Lib.hid hx
    have HPM := Lib.hid hpm
    have HZ := Lib.hid hz
    clear hr hx hpm hz
    by_cases hlt : p + 1 < q
    · obtain ⟨k, rfl⟩ : ∃ k, q = k + 1 := ⟨q - 1, by omega⟩
      have ek : ((k + 1 : Nat) : Int) - 1 = (k : Int) := by omega
      have hpk : (p : Int) < (k : Int) := by omega
      have hpn : (p : Int) < (n : Int) := by omega
      have hkn : (k : Int) < (n : Int) := by omega
      have hp0 : (0 : Int) ≤ (p : Int) := by omega
      have hk0 : (0 : Int) ≤ (k : Int) := by omega
      have hcp := HR.out.cell (i := p) (by rw [HZ.out]; omega)
      have hck := HR.out.cell (i := k) (by rw [HZ.out]; omega)
      have hfp := HR.out.frozen p
      have hfk := HR.out.frozen k
      rw [ek]
      go_wp2
      go_region
      go_wp2
      go_roundw
      case rel => exact ⟨p + 1, k, swp zs p k, by go_num, rfl, by omega, by omega, by rw [swp_len, HZ.out], (swp_perm _ _ _ (by rw [HZ.out]; omega) (by rw [HZ.out]; omega)).trans HPM.out, HR.out.swap (by rw [HZ.out]; omega) (by rw [HZ.out]; omega), swap_ex HX.out⟩
      case measure => simp [intOf]; omega
    · go_wp2
      go_end0
      exact ⟨rfl, zs, HPM.out, HR.out, HX.out⟩

set_option maxHeartbeats 4000000 in
theorem insertion_any (g cap n : Nat) (tl : List Value) (ys : List Int) (a b : Nat) (w : World) (h : RowU w g tl ys) (hn : ys.length = n) (hb : b ≤ n) (hm : n ≤ 1000) (ha : a ≤ 1000) :
    Calls Tryz.prog 177 #[.slice (some ⟨g, 0, none⟩) n cap, .int .i64 a, .int .i64 b] w fun e w' => e = .returned (.tuple #[]) ∧ Srt g tl ys w w' := by
  have HP := Lib.hid h
  clear h
  go_enter Tryz.func177, Tryz.ntmps177
  go_wp2
  go_loopw [6] (fun i wr => ∃ (p : Nat) (zs : List Int), i = .int .i64 p ∧ a + 1 ≤ p ∧ p ≤ n + a + 1 ∧ zs.length = n ∧ zs.Perm ys ∧ RowU wr g tl zs ∧ Ex (· = g) w wr) (fun i _ => (b - intOf i).toNat)
  case atStart => exact ⟨a + 1, ys, by go_num, Nat.le_refl _, by omega, hn, List.Perm.refl _, HP.out, Ex.refl _ _⟩
  case round =>
    obtain ⟨p, zs, rfl, hp, hpn, hz, hpm, hr, hx⟩ := hrel
    by_cases hlt : p < b
    · have hpb : (p : Int) < (b : Int) := by omega
      obtain ⟨wo, rfl⟩ : ∃ wo : World, wo = wr := ⟨_, rfl⟩
      go_wp2
      go_loopw [7] (fun j wr => ∃ (q : Nat) (zs : List Int), j = .int .i64 q ∧ a ≤ q ∧ q ≤ p ∧ zs.length = n ∧ zs.Perm ys ∧ RowU wr g tl zs ∧ Ex (· = g) w wr) (fun j _ => (intOf j).toNat)
      case atStart => exact ⟨p, zs, rfl, by omega, Nat.le_refl _, hz, hpm, hr, hx⟩
      case round =>
        clear hz hpm hr hx
        obtain ⟨q, zs, rfl, hq, hqp, hz, hpm, hr, hx⟩ := hrel
        have HR := Lib.hid hr
        have HX := Lib.hid hx
        have HPM := Lib.hid hpm
        have HZ := Lib.hid hz
        clear hr hx hpm hz
        by_cases hqa : a < q
        · obtain ⟨k, hkq⟩ : ∃ k, k + 1 = q := ⟨q - 1, by omega⟩
          have ek : (q : Int) - 1 = (k : Int) := by omega
          have ekw : IntKind.i64.wrap ((q : Int) - 1) = (k : Int) := by rw [ek, IntKind.wrap_i64]; omega
          have hqa' : (a : Int) < (q : Int) := by omega
          have hmn : (q : Int) < (n : Int) := by omega
          have hkn : (k : Int) < (n : Int) := by omega
          have hm0 : (0 : Int) ≤ (q : Int) := by omega
          have hk0 : (0 : Int) ≤ (k : Int) := by omega
          have hcm := HR.out.cell (i := q) (by rw [HZ.out]; omega)
          have hck := HR.out.cell (i := k) (by rw [HZ.out]; omega)
          have hfm := HR.out.frozen q
          have hfk := HR.out.frozen k
          have hq1 : a ≤ k ∧ k < q := by omega
          have HQ := Lib.hid hq1
          clear hkq hq1
          cases hl : decide (yat zs q < yat zs k) with
          | false =>
            go_wp2
            go_quiet ((go_at_call 183; exact Calls.quiet_of_same (less_any _ _ _)))
            go_wp2
            go_roundw
            case rel => exact ⟨p + 1, zs, by go_num, by omega, by omega, HZ.out, HPM.out, HR.out.drew _, HX.out.drewN' _⟩
            case measure => simp [intOf]; omega
          | true =>
            go_wp2
            go_quiet ((go_at_call 183; exact Calls.quiet_of_same (less_any _ _ _)))
            go_wp2
            go_region
            go_wp2
            go_roundw
            case rel => exact ⟨k, swp zs q k, rfl, by have := HQ.out; omega, by have := HQ.out; omega, by rw [swp_len, HZ.out], (swp_perm _ _ _ (by rw [HZ.out]; omega) (by rw [HZ.out]; omega)).trans HPM.out, (HR.out.drew _).swap2 (by rw [HZ.out]; omega) (by rw [HZ.out]; omega), swap_ex2 (HX.out.drewN' _)⟩
            case measure => have := HQ.out; simp [intOf]; omega
        · go_wp2
          go_quiet (fail)
          go_wp2
          go_roundw
          case rel => exact ⟨p + 1, zs, by go_num, by omega, by omega, HZ.out, HPM.out, HR.out.drew _, HX.out.drewN' _⟩
          case measure => simp [intOf]; omega
    · go_wp2
      go_end0
      exact ⟨rfl, zs, hpm, hr, hx⟩
end Go.Proofs.YtoglddndicmelaaGreat.So

namespace Go.Proofs.YtoglddndicmelaaGreat.So
open Go.RowKit Go.Proofs.YtoglddndicmelaaGreatB Go.Proofs.YtoglddndicmelaaGreat
set_option maxRecDepth 100000

set_option maxHeartbeats 16000000 in
theorem partEq_any (g cap n : Nat) (tl : List Value) (ys : List Int) (a b pv : Nat) (w : World) (h : RowU w g tl ys) (hn : ys.length = n) (hb : b ≤ n) (hm : n ≤ 1000) (hap : a ≤ pv) (hpb : pv < b) :
    Calls Tryz.prog 184 #[.slice (some ⟨g, 0, none⟩) n cap, .int .i64 a, .int .i64 b, .int .i64 pv] w fun e w' => ∃ md : Nat, e = .returned (.int .i64 md) ∧ a < md ∧ md ≤ b ∧ Srt g tl ys w w' := by
  have HP := Lib.hid h
  have hca := h.cell (i := a) (by omega)
  have hcp := h.cell (i := pv) (by omega)
  have hfa := h.frozen a
  have hfp := h.frozen pv
  have ha0 : (0 : Int) ≤ (a : Int) := by omega
  have hp0 : (0 : Int) ≤ (pv : Int) := by omega
  have han : (a : Int) < (n : Int) := by omega
  have hpn : (pv : Int) < (n : Int) := by omega
  have hs2 := (h.set (i := a) (by omega) (yat ys pv)).cell (i := pv) (by simp; omega)
  clear h
  go_enter Tryz.func184, Tryz.ntmps184
  go_wp2
  go_region
  go_wp2
  have HR0 : Hid (RowU ((w.setCell ⟨g, a, none⟩ (.int .u64 (yat ys pv))).setCell ⟨g, pv, none⟩ (.int .u64 (yat ys a))).drew g tl (swp ys a pv)) := HP.out.swap (by omega) (by omega)
  have HX0 : Hid (Ex (· = g) w ((w.setCell ⟨g, a, none⟩ (.int .u64 (yat ys pv))).setCell ⟨g, pv, none⟩ (.int .u64 (yat ys a))).drew) := swap_ex (Ex.refl _ _)
  clear hs2 hca hcp hfa hfp
  go_loopw [9, 10] (fun i j wr => ∃ (p q : Nat) (zs : List Int), i = .int .i64 p ∧ j = .int .i64 q ∧ a + 1 ≤ p ∧ p ≤ q + 2 ∧ p ≤ b ∧ a ≤ q ∧ q < b ∧ zs.length = n ∧ zs.Perm ys ∧ RowU wr g tl zs ∧ Ex (· = g) w wr) (fun i j _ => (intOf j + 2 - intOf i).toNat)
  case atStart => exact ⟨a + 1, b - 1, swp ys a pv, by go_num, by congr 1; omega, Nat.le_refl _, by omega, by omega, by omega, by omega, by rw [swp_len, hn], swp_perm _ _ _ (by omega) (by omega), HR0.out, HX0.out⟩
  case round =>
    obtain ⟨p, q, zs, rfl, rfl, hap1, hpq, hpb1, haq, hqb, hz, hpm, hr, hx⟩ := hrel
    have HR := Lib.hid hr
    have HX := Lib.hid hx
    have HPM := Lib.hid hpm
    have HZ := Lib.hid hz
    clear hr hx hpm hz

    go_upto_block 2 with fail
    go_cut [9] from 29 to 82 (fun i wx => ∃ c : Nat, i = .int .i64 c ∧ p ≤ c ∧ (c = p ∨ c ≤ q + 1) ∧ RowU wx g tl zs ∧ Ex (· = g) w wx)
    case first =>
      go_wp2_with fail
      go_loopw [9] (fun i wr => ∃ c : Nat, i = .int .i64 c ∧ p ≤ c ∧ (c = p ∨ c ≤ q + 1) ∧ RowU wr g tl zs ∧ Ex (· = g) w wr) (fun i _ => ((q : Int) + 1 - intOf i).toNat)
      case atStart => exact ⟨p, rfl, Nat.le_refl _, .inl rfl, HR.out, HX.out⟩
      case round =>
        obtain ⟨c, rfl, hpc, hcq, hr, hx⟩ := hrel
        have HR2 := Lib.hid hr
        have HX2 := Lib.hid hx
        have HC := Lib.hid (And.intro hpc hcq)
        clear hr hx hcq
        by_cases hlt : c ≤ q
        · have hci : (c : Int) ≤ (q : Int) := by omega
          have hcn : (c : Int) < (n : Int) := by omega
          have hc0 : (0 : Int) ≤ (c : Int) := by omega
          have hcc := HR2.out.cell (i := c) (by rw [HZ.out]; omega)
          have hcca := HR2.out.cell (i := a) (by rw [HZ.out]; omega)
          cases hl : decide (yat zs a < yat zs c) with
          | false =>
            go_wp2
            go_quiet ((go_at_call 183; exact Calls.quiet_of_same (less_any _ _ _)))
            go_wp2
            go_roundw
            case rel => exact ⟨c + 1, by go_num, by omega, .inr (by omega), HR2.out.drew _, HX2.out.drewN' _⟩
            case measure => simp [intOf]; omega
          | true =>
            go_wp2
            go_quiet ((go_at_call 183; exact Calls.quiet_of_same (less_any _ _ _)))
            go_wp2
            go_meet
            case rel => exact ⟨c, rfl, hpc, HC.out.2, HR2.out.drew _, HX2.out.drewN' _⟩
        · have hci : (q : Int) < (c : Int) := by omega
          go_wp2
          go_quiet (fail)
          go_wp2
          go_meet
          case rel => exact ⟨c, rfl, hpc, HC.out.2, HR2.out.drew _, HX2.out.drewN' _⟩
    case rest =>
    obtain ⟨c, rfl, hpc, hcq, hr, hx⟩ := hcut
    have HR2 := Lib.hid hr
    have HX2 := Lib.hid hx
    clear hr hx
    go_upto_block 4 with fail
    go_cut [10] from 29 to 82 (fun j wx => ∃ d : Nat, j = .int .i64 d ∧ d ≤ q ∧ a ≤ d ∧ (d = q ∨ c ≤ d + 1) ∧ RowU wx g tl zs ∧ Ex (· = g) w wx)
    case first =>
      go_wp2_with fail
      go_loopw [10] (fun j wr => ∃ d : Nat, j = .int .i64 d ∧ d ≤ q ∧ a ≤ d ∧ (d = q ∨ c ≤ d + 1) ∧ RowU wr g tl zs ∧ Ex (· = g) w wr) (fun j _ => (intOf j).toNat)
      case atStart => exact ⟨q, rfl, Nat.le_refl _, haq, .inl rfl, HR2.out, HX2.out⟩
      case round =>
        obtain ⟨d, rfl, hdq, had, hcd, hr, hx⟩ := hrel
        have HR3 := Lib.hid hr
        have HX3 := Lib.hid hx
        have HD := Lib.hid hcd
        clear hr hx hcd
        by_cases hlt : c ≤ d
        · have hcd : (c : Int) ≤ (d : Int) := by omega
          have hdn : (d : Int) < (n : Int) := by omega
          have hd0 : (0 : Int) ≤ (d : Int) := by omega
          obtain ⟨k, hkd⟩ : ∃ k, k + 1 = d := ⟨d - 1, by omega⟩
          have ek : (d : Int) - 1 = (k : Int) := by omega
          have hk1 : a ≤ k ∧ k < d ∧ c ≤ k + 1 := by omega
          have HK := Lib.hid hk1
          clear hkd hk1
          have hcc := HR3.out.cell (i := d) (by rw [HZ.out]; omega)
          have hcca := HR3.out.cell (i := a) (by rw [HZ.out]; omega)
          cases hl : decide (yat zs a < yat zs d) with
          | true =>
            go_wp2
            go_quiet ((go_at_call 183; exact Calls.quiet_of_same (less_any _ _ _)))
            go_wp2
            go_roundw
            case rel => exact ⟨k, rfl, by have := HK.out; omega, HK.out.1, .inr HK.out.2.2, HR3.out.drew _, HX3.out.drewN' _⟩
            case measure => have := HK.out; simp [intOf]; omega
          | false =>
            go_wp2
            go_quiet ((go_at_call 183; exact Calls.quiet_of_same (less_any _ _ _)))
            go_wp2
            go_meet
            case rel => exact ⟨d, rfl, hdq, had, HD.out, HR3.out.drew _, HX3.out.drewN' _⟩
        · have hcd : (d : Int) < (c : Int) := by omega
          go_wp2
          go_quiet (fail)
          go_wp2
          go_meet
          case rel => exact ⟨d, rfl, hdq, had, HD.out, HR3.out.drew _, HX3.out.drewN' _⟩
    case rest =>
    obtain ⟨d, rfl, hdq, had, hcd, hr, hx⟩ := hcut
    have HR3 := Lib.hid hr
    have HX3 := Lib.hid hx
    clear hr hx
    by_cases hgt : d < c
    · have hgt' : (d : Int) < (c : Int) := by omega
      go_wp2
      go_ret
      exact ⟨c, rfl, by omega, by omega, zs, HPM.out, HR3.out, HX3.out⟩
    · have hle' : (c : Int) ≤ (d : Int) := by omega
      have hci0 : (0 : Int) ≤ (c : Int) := by omega
      have hdi0 : (0 : Int) ≤ (d : Int) := by omega
      have hcin : (c : Int) < (n : Int) := by omega
      have hdin : (d : Int) < (n : Int) := by omega
      have hc1 := HR3.out.cell (i := c) (by rw [HZ.out]; omega)
      have hc2 := HR3.out.cell (i := d) (by rw [HZ.out]; omega)
      have hf1 := HR3.out.frozen c
      have hf2 := HR3.out.frozen d
      have hs2 := (HR3.out.set (i := c) (by rw [HZ.out]; omega) (yat zs d)).cell (i := d) (by simp; rw [HZ.out]; omega)
      obtain ⟨k, hkd⟩ : ∃ k, k + 1 = d := ⟨d - 1, by omega⟩
      have ek : (d : Int) - 1 = (k : Int) := by omega
      have hk1 : a ≤ k ∧ k < d ∧ c ≤ k + 1 := by omega
      have HK := Lib.hid hk1
      clear hkd hk1
      go_wp2
      go_region
      go_wp2
      go_roundw
      case rel => exact ⟨c + 1, k, swp zs c d, by go_num, rfl, by omega, by have := HK.out; omega, by omega, HK.out.1, by have := HK.out; omega, by rw [swp_len, HZ.out], (swp_perm _ _ _ (by rw [HZ.out]; omega) (by rw [HZ.out]; omega)).trans HPM.out, HR3.out.swap (by rw [HZ.out]; omega) (by rw [HZ.out]; omega), swap_ex HX3.out⟩
      case measure => have := HK.out; simp [intOf]; omega
end Go.Proofs.YtoglddndicmelaaGreat.So

namespace Go.Proofs.YtoglddndicmelaaGreat.So
open Go.RowKit Go.Proofs.YtoglddndicmelaaGreatB Go.Proofs.YtoglddndicmelaaGreat
set_option maxRecDepth 100000

set_option maxHeartbeats 16000000 in
theorem part_any (g cap n : Nat) (tl : List Value) (ys : List Int) (a b pv : Nat) (w : World) (h : RowU w g tl ys) (hn : ys.length = n) (hb : b ≤ n) (hm : n ≤ 1000) (hap : a ≤ pv) (hpb : pv < b) :
    Calls Tryz.prog 185 #[.slice (some ⟨g, 0, none⟩) n cap, .int .i64 a, .int .i64 b, .int .i64 pv] w fun e w' => ∃ (md : Nat) (c : Bool), e = .returned (.tuple #[.int .i64 md, .bool c]) ∧ a ≤ md ∧ md < b ∧ Srt g tl ys w w' := by
  have HP := Lib.hid h
  have hca := h.cell (i := a) (by omega)
  have hcp := h.cell (i := pv) (by omega)
  have hfa := h.frozen a
  have hfp := h.frozen pv
  have ha0 : (0 : Int) ≤ (a : Int) := by omega
  have hp0 : (0 : Int) ≤ (pv : Int) := by omega
  have han : (a : Int) < (n : Int) := by omega
  have hpn : (pv : Int) < (n : Int) := by omega
  have hs2 := (h.set (i := a) (by omega) (yat ys pv)).cell (i := pv) (by simp; omega)
  clear h
  go_enter Tryz.func185, Tryz.ntmps185
  go_wp2
  go_region
  go_upto_block 0 with fail
  have HR0 : Hid (RowU ((w.setCell ⟨g, a, none⟩ (.int .u64 (yat ys pv))).setCell ⟨g, pv, none⟩ (.int .u64 (yat ys a))).drew g tl (swp ys a pv)) := HP.out.swap (by omega) (by omega)
  have HX0 : Hid (Ex (· = g) w ((w.setCell ⟨g, a, none⟩ (.int .u64 (yat ys pv))).setCell ⟨g, pv, none⟩ (.int .u64 (yat ys a))).drew) := swap_ex (Ex.refl _ _)
  clear hs2 hca hcp hfa hfp
  obtain ⟨q, hq1⟩ : ∃ q, q + 1 = b := ⟨b - 1, by omega⟩
  obtain ⟨p, hp1⟩ : ∃ p, p = a + 1 := ⟨_, rfl⟩
  have ep : (a : Int) + 1 = (p : Int) := by omega
  have eq' : (b : Int) - 1 = (q : Int) := by omega
  rw [ep, eq']
  obtain ⟨zs, hzs⟩ : ∃ zs, zs = swp ys a pv := ⟨_, rfl⟩
  rw [← hzs] at HR0
  have HZ : Hid (zs.length = n) := by show _ = _; rw [hzs, swp_len, hn]
  have HPM : Hid (zs.Perm ys) := by show List.Perm _ _; rw [hzs]; exact swp_perm _ _ _ (by omega) (by omega)
  have HR := HR0
  have HX := HX0
  have haq : a ≤ q := by omega
  have hpq : p ≤ q + 2 := by omega
  have hqb : q < b := by omega
  have hap1 : a + 1 ≤ p := by omega
  have hpb1 : p ≤ b := by omega
  clear HR0 HX0 hzs ep eq' hq1 hp1
  go_upto_block 0 with fail
  go_cut [10] from 12 to 166 (fun i wx => ∃ c : Nat, i = .int .i64 c ∧ p ≤ c ∧ (c = p ∨ c ≤ q + 1) ∧ RowU wx g tl zs ∧ Ex (· = g) w wx)
  case first =>
    go_wp2_with fail
    go_loopw [10] (fun i wr => ∃ c : Nat, i = .int .i64 c ∧ p ≤ c ∧ (c = p ∨ c ≤ q + 1) ∧ RowU wr g tl zs ∧ Ex (· = g) w wr) (fun i _ => ((q : Int) + 1 - intOf i).toNat)
    case atStart => exact ⟨p, rfl, Nat.le_refl _, .inl rfl, HR.out, HX.out⟩
    case round =>
      obtain ⟨c, rfl, hpc, hcq, hr, hx⟩ := hrel
      have HR2 := Lib.hid hr
      have HX2 := Lib.hid hx
      have HC := Lib.hid (And.intro hpc hcq)
      clear hr hx hcq
      by_cases hlt : c ≤ q
      · have hci : (c : Int) ≤ (q : Int) := by omega
        have hcn : (c : Int) < (n : Int) := by omega
        have hc0 : (0 : Int) ≤ (c : Int) := by omega
        have hcc := HR2.out.cell (i := c) (by rw [HZ.out]; omega)
        have hcca := HR2.out.cell (i := a) (by rw [HZ.out]; omega)
        cases hl : decide (yat zs c < yat zs a) with
        | true =>
          go_wp2
          go_quiet ((go_at_call 183; exact Calls.quiet_of_same (less_any _ _ _)))
          go_wp2
          go_roundw
          case rel => exact ⟨c + 1, by go_num, by omega, .inr (by omega), HR2.out.drew _, HX2.out.drewN' _⟩
          case measure => simp [intOf]; omega
        | false =>
          go_wp2
          go_quiet ((go_at_call 183; exact Calls.quiet_of_same (less_any _ _ _)))
          go_wp2
          go_meet
          case rel => exact ⟨c, rfl, hpc, HC.out.2, HR2.out.drew _, HX2.out.drewN' _⟩
      · have hci : (q : Int) < (c : Int) := by omega
        go_wp2
        go_quiet (fail)
        go_wp2
        go_meet
        case rel => exact ⟨c, rfl, hpc, HC.out.2, HR2.out.drew _, HX2.out.drewN' _⟩
  case rest =>
  obtain ⟨c, rfl, hpc, hcq, hr, hx⟩ := hcut
  have HR2 := Lib.hid hr
  have HX2 := Lib.hid hx
  clear hr hx
  go_upto_block 2 with fail
  go_cut [11] from 12 to 166 (fun j wx => ∃ d : Nat, j = .int .i64 d ∧ d ≤ q ∧ a ≤ d ∧ (d = q ∨ c ≤ d + 1) ∧ RowU wx g tl zs ∧ Ex (· = g) w wx)
  case first =>
    go_wp2_with fail
    go_loopw [11] (fun j wr => ∃ d : Nat, j = .int .i64 d ∧ d ≤ q ∧ a ≤ d ∧ (d = q ∨ c ≤ d + 1) ∧ RowU wr g tl zs ∧ Ex (· = g) w wr) (fun j _ => (intOf j).toNat)
    case atStart => exact ⟨q, rfl, Nat.le_refl _, haq, .inl rfl, HR2.out, HX2.out⟩
    case round =>
      obtain ⟨d, rfl, hdq, had, hcd, hr, hx⟩ := hrel
      have HR3 := Lib.hid hr
      have HX3 := Lib.hid hx
      have HD := Lib.hid hcd
      clear hr hx hcd
      by_cases hlt : c ≤ d
      · have hcd : (c : Int) ≤ (d : Int) := by omega
        have hdn : (d : Int) < (n : Int) := by omega
        have hd0 : (0 : Int) ≤ (d : Int) := by omega
        obtain ⟨k, hkd⟩ : ∃ k, k + 1 = d := ⟨d - 1, by omega⟩
        have ek : (d : Int) - 1 = (k : Int) := by omega
        have hk1 : a ≤ k ∧ k < d ∧ c ≤ k + 1 := by omega
        have HK := Lib.hid hk1
        clear hkd hk1
        have hcc := HR3.out.cell (i := d) (by rw [HZ.out]; omega)
        have hcca := HR3.out.cell (i := a) (by rw [HZ.out]; omega)
        cases hl : decide (yat zs d < yat zs a) with
        | false =>
          go_wp2
          go_quiet ((go_at_call 183; exact Calls.quiet_of_same (less_any _ _ _)))
          go_wp2
          go_roundw
          case rel => exact ⟨k, rfl, by have := HK.out; omega, HK.out.1, .inr HK.out.2.2, HR3.out.drew _, HX3.out.drewN' _⟩
          case measure => have := HK.out; simp [intOf]; omega
        | true =>
          go_wp2
          go_quiet ((go_at_call 183; exact Calls.quiet_of_same (less_any _ _ _)))
          go_wp2
          go_meet
          case rel => exact ⟨d, rfl, hdq, had, HD.out, HR3.out.drew _, HX3.out.drewN' _⟩
      · have hcd : (d : Int) < (c : Int) := by omega
        go_wp2
        go_quiet (fail)
        go_wp2
        go_meet
        case rel => exact ⟨d, rfl, hdq, had, HD.out, HR3.out.drew _, HX3.out.drewN' _⟩
  case rest =>
  obtain ⟨d, rfl, hdq, had, hcd, hr, hx⟩ := hcut
  have HR3 := Lib.hid hr
  have HX3 := Lib.hid hx
  clear hr hx
  by_cases hgt : d < c
  · have hgt' : (d : Int) < (c : Int) := by omega
    have hd0 : (0 : Int) ≤ (d : Int) := by omega
    have hdn : (d : Int) < (n : Int) := by omega
    have hc1 := HR3.out.cell (i := a) (by rw [HZ.out]; omega)
    have hc2 := HR3.out.cell (i := d) (by rw [HZ.out]; omega)
    have hf1 := HR3.out.frozen a
    have hf2 := HR3.out.frozen d
    have hs2 := (HR3.out.set (i := d) (by rw [HZ.out]; omega) (yat zs a)).cell (i := a) (by simp; rw [HZ.out]; omega)
    go_wp2
    go_region
    go_wp2
    go_ret2
    exact ⟨d, true, rfl, by omega, by omega, _, (swp_perm _ _ _ (by rw [HZ.out]; omega) (by rw [HZ.out]; omega)).trans HPM.out, HR3.out.swap (by rw [HZ.out]; omega) (by rw [HZ.out]; omega), swap_ex HX3.out⟩
  have hle' : (c : Int) ≤ (d : Int) := by omega
  have hci0 : (0 : Int) ≤ (c : Int) := by omega
  have hdi0 : (0 : Int) ≤ (d : Int) := by omega
  have hcin : (c : Int) < (n : Int) := by omega
  have hdin : (d : Int) < (n : Int) := by omega
  have hc1 := HR3.out.cell (i := c) (by rw [HZ.out]; omega)
  have hc2 := HR3.out.cell (i := d) (by rw [HZ.out]; omega)
  have hf1 := HR3.out.frozen c
  have hf2 := HR3.out.frozen d
  have hs2 := (HR3.out.set (i := c) (by rw [HZ.out]; omega) (yat zs d)).cell (i := d) (by simp; rw [HZ.out]; omega)
  obtain ⟨k, hkd⟩ : ∃ k, k + 1 = d := ⟨d - 1, by omega⟩
  have ek : (d : Int) - 1 = (k : Int) := by omega
  have hk1 : a ≤ k ∧ k < d ∧ c ≤ k + 1 := by omega
  have HK := Lib.hid hk1
  clear hkd hk1
  go_wp2
  go_region
  go_wp2
  go_loopw [10, 11] (fun i j wr => ∃ (p q : Nat) (zs : List Int), i = .int .i64 p ∧ j = .int .i64 q ∧ a + 1 ≤ p ∧ p ≤ q + 2 ∧ p ≤ b ∧ a ≤ q ∧ q < b ∧ zs.length = n ∧ zs.Perm ys ∧ RowU wr g tl zs ∧ Ex (· = g) w wr) (fun i j _ => (intOf j + 2 - intOf i).toNat)
  case atStart => exact ⟨c + 1, k, swp zs c d, by go_num, rfl, by omega, by have := HK.out; omega, by omega, HK.out.1, by have := HK.out; omega, by rw [swp_len, HZ.out], (swp_perm _ _ _ (by rw [HZ.out]; omega) (by rw [HZ.out]; omega)).trans HPM.out, HR3.out.swap (by rw [HZ.out]; omega) (by rw [HZ.out]; omega), swap_ex HX3.out⟩
  case round =>
    clear hc1 hc2 hf1 hf2 hs2 HR HX HR2 HX2 HR3 HX3 HZ HPM HK hcd hpc hcq hdq had hle' ek hci0 hdi0 hcin hdin hgt haq hpq hqb hap1 hpb1
    obtain ⟨p, q, zs, rfl, rfl, hap1, hpq, hpb1, haq, hqb, hz, hpm, hr, hx⟩ := hrel
    have HR := Lib.hid hr
    have HX := Lib.hid hx
    have HPM := Lib.hid hpm
    have HZ := Lib.hid hz
    clear hr hx hpm hz

    go_upto_block 6 with fail
    go_cut [10] from 99 to 152 (fun i wx => ∃ c : Nat, i = .int .i64 c ∧ p ≤ c ∧ (c = p ∨ c ≤ q + 1) ∧ RowU wx g tl zs ∧ Ex (· = g) w wx)
    case first =>
      go_wp2_with fail
      go_loopw [10] (fun i wr => ∃ c : Nat, i = .int .i64 c ∧ p ≤ c ∧ (c = p ∨ c ≤ q + 1) ∧ RowU wr g tl zs ∧ Ex (· = g) w wr) (fun i _ => ((q : Int) + 1 - intOf i).toNat)
      case atStart => exact ⟨p, rfl, Nat.le_refl _, .inl rfl, HR.out, HX.out⟩
      case round =>
        obtain ⟨c, rfl, hpc, hcq, hr, hx⟩ := hrel
        have HR2 := Lib.hid hr
        have HX2 := Lib.hid hx
        have HC := Lib.hid (And.intro hpc hcq)
        clear hr hx hcq
        by_cases hlt : c ≤ q
        · have hci : (c : Int) ≤ (q : Int) := by omega
          have hcn : (c : Int) < (n : Int) := by omega
          have hc0 : (0 : Int) ≤ (c : Int) := by omega
          have hcc := HR2.out.cell (i := c) (by rw [HZ.out]; omega)
          have hcca := HR2.out.cell (i := a) (by rw [HZ.out]; omega)
          cases hl : decide (yat zs c < yat zs a) with
          | true =>
            go_wp2
            go_quiet ((go_at_call 183; exact Calls.quiet_of_same (less_any _ _ _)))
            go_wp2
            go_roundw
            case rel => exact ⟨c + 1, by go_num, by omega, .inr (by omega), HR2.out.drew _, HX2.out.drewN' _⟩
            case measure => simp [intOf]; omega
          | false =>
            go_wp2
            go_quiet ((go_at_call 183; exact Calls.quiet_of_same (less_any _ _ _)))
            go_wp2
            go_meet
            case rel => exact ⟨c, rfl, hpc, HC.out.2, HR2.out.drew _, HX2.out.drewN' _⟩
        · have hci : (q : Int) < (c : Int) := by omega
          go_wp2
          go_quiet (fail)
          go_wp2
          go_meet
          case rel => exact ⟨c, rfl, hpc, HC.out.2, HR2.out.drew _, HX2.out.drewN' _⟩
    case rest =>
    obtain ⟨c, rfl, hpc, hcq, hr, hx⟩ := hcut
    have HR2 := Lib.hid hr
    have HX2 := Lib.hid hx
    clear hr hx
    go_upto_block 8 with fail
    go_cut [11] from 99 to 152 (fun j wx => ∃ d : Nat, j = .int .i64 d ∧ d ≤ q ∧ a ≤ d ∧ (d = q ∨ c ≤ d + 1) ∧ RowU wx g tl zs ∧ Ex (· = g) w wx)
    case first =>
      go_wp2_with fail
      go_loopw [11] (fun j wr => ∃ d : Nat, j = .int .i64 d ∧ d ≤ q ∧ a ≤ d ∧ (d = q ∨ c ≤ d + 1) ∧ RowU wr g tl zs ∧ Ex (· = g) w wr) (fun j _ => (intOf j).toNat)
      case atStart => exact ⟨q, rfl, Nat.le_refl _, haq, .inl rfl, HR2.out, HX2.out⟩
      case round =>
        obtain ⟨d, rfl, hdq, had, hcd, hr, hx⟩ := hrel
        have HR3 := Lib.hid hr
        have HX3 := Lib.hid hx
        have HD := Lib.hid hcd
        clear hr hx hcd
        by_cases hlt : c ≤ d
        · have hcd : (c : Int) ≤ (d : Int) := by omega
          have hdn : (d : Int) < (n : Int) := by omega
          have hd0 : (0 : Int) ≤ (d : Int) := by omega
          obtain ⟨k, hkd⟩ : ∃ k, k + 1 = d := ⟨d - 1, by omega⟩
          have ek : (d : Int) - 1 = (k : Int) := by omega
          have hk1 : a ≤ k ∧ k < d ∧ c ≤ k + 1 := by omega
          have HK := Lib.hid hk1
          clear hkd hk1
          have hcc := HR3.out.cell (i := d) (by rw [HZ.out]; omega)
          have hcca := HR3.out.cell (i := a) (by rw [HZ.out]; omega)
          cases hl : decide (yat zs d < yat zs a) with
          | false =>
            go_wp2
            go_quiet ((go_at_call 183; exact Calls.quiet_of_same (less_any _ _ _)))
            go_wp2
            go_roundw
            case rel => exact ⟨k, rfl, by have := HK.out; omega, HK.out.1, .inr HK.out.2.2, HR3.out.drew _, HX3.out.drewN' _⟩
            case measure => have := HK.out; simp [intOf]; omega
          | true =>
            go_wp2
            go_quiet ((go_at_call 183; exact Calls.quiet_of_same (less_any _ _ _)))
            go_wp2
            go_meet
            case rel => exact ⟨d, rfl, hdq, had, HD.out, HR3.out.drew _, HX3.out.drewN' _⟩
        · have hcd : (d : Int) < (c : Int) := by omega
          go_wp2
          go_quiet (fail)
          go_wp2
          go_meet
          case rel => exact ⟨d, rfl, hdq, had, HD.out, HR3.out.drew _, HX3.out.drewN' _⟩
    case rest =>
    obtain ⟨d, rfl, hdq, had, hcd, hr, hx⟩ := hcut
    have HR3 := Lib.hid hr
    have HX3 := Lib.hid hx
    clear hr hx
    by_cases hgt : d < c
    · have hgt' : (d : Int) < (c : Int) := by omega
      have hd0 : (0 : Int) ≤ (d : Int) := by omega
      have hdn : (d : Int) < (n : Int) := by omega
      have hc1 := HR3.out.cell (i := a) (by rw [HZ.out]; omega)
      have hc2 := HR3.out.cell (i := d) (by rw [HZ.out]; omega)
      have hf1 := HR3.out.frozen a
      have hf2 := HR3.out.frozen d
      have hs2 := (HR3.out.set (i := d) (by rw [HZ.out]; omega) (yat zs a)).cell (i := a) (by simp; rw [HZ.out]; omega)
      go_wp2
      go_region
      go_wp2
      go_ret2
      exact ⟨d, false, rfl, by omega, by omega, _, (swp_perm _ _ _ (by rw [HZ.out]; omega) (by rw [HZ.out]; omega)).trans HPM.out, HR3.out.swap (by rw [HZ.out]; omega) (by rw [HZ.out]; omega), swap_ex HX3.out⟩
    have hle' : (c : Int) ≤ (d : Int) := by omega
    have hci0 : (0 : Int) ≤ (c : Int) := by omega
    have hdi0 : (0 : Int) ≤ (d : Int) := by omega
    have hcin : (c : Int) < (n : Int) := by omega
    have hdin : (d : Int) < (n : Int) := by omega
    have hc1 := HR3.out.cell (i := c) (by rw [HZ.out]; omega)
    have hc2 := HR3.out.cell (i := d) (by rw [HZ.out]; omega)
    have hf1 := HR3.out.frozen c
    have hf2 := HR3.out.frozen d
    have hs2 := (HR3.out.set (i := c) (by rw [HZ.out]; omega) (yat zs d)).cell (i := d) (by simp; rw [HZ.out]; omega)
    obtain ⟨k, hkd⟩ : ∃ k, k + 1 = d := ⟨d - 1, by omega⟩
    have ek : (d : Int) - 1 = (k : Int) := by omega
    have hk1 : a ≤ k ∧ k < d ∧ c ≤ k + 1 := by omega
    have HK := Lib.hid hk1
    clear hkd hk1
    go_wp2
    go_region
    go_wp2
    go_roundw
    case rel => exact ⟨c + 1, k, swp zs c d, by go_num, rfl, by omega, by have := HK.out; omega, by omega, HK.out.1, by have := HK.out; omega, by rw [swp_len, HZ.out], (swp_perm _ _ _ (by rw [HZ.out]; omega) (by rw [HZ.out]; omega)).trans HPM.out, HR3.out.swap (by rw [HZ.out]; omega) (by rw [HZ.out]; omega), swap_ex HX3.out⟩
    case measure => have := HK.out; simp [intOf]; omega
end Go.Proofs.YtoglddndicmelaaGreat.So

namespace Go.Proofs.YtoglddndicmelaaGreat.So
open Go.RowKit Go.Proofs.YtoglddndicmelaaGreatB Go.Proofs.YtoglddndicmelaaGreat
set_option maxRecDepth 100000

/-- a counter in a block of its own -/
def Cnt (w : World) (s : Nat) (c : Int) : Prop := w.heap[s]? = some (.cells #[.int .i64 c] 3 (0, 0))
theorem Cnt.cell {w : World} {s : Nat} {c : Int} (h : Cnt w s c) : w.cell? ⟨s, 0, none⟩ = some (.int .i64 c) := by rw [cell_of_row _ _ _ _ _ _ h]; rfl
theorem Cnt.frozen {w : World} {s : Nat} {c : Int} (h : Cnt w s c) : w.frozen? ⟨s, 0, none⟩ = false := frozen_of_row _ _ _ _ _ h
theorem Cnt.set {w : World} {s : Nat} {c : Int} (h : Cnt w s c) (d : Int) : Cnt (w.setCell ⟨s, 0, none⟩ (.int .i64 d)) s d := by
  unfold Cnt; rw [heap_setCell_same _ _ _ _ _ _ h]; rfl
theorem Cnt.ne {w : World} {s g : Nat} {c : Int} {tl : List Value} {ys : List Int} (h : Cnt w s c) (hr : RowU w g tl ys) (hy : 2 ≤ ys.length) : g ≠ s := by
  intro e
  subst e
  unfold Cnt at h; unfold RowU at hr
  rw [hr] at h
  simp only [Option.some.injEq, Obj.cells.injEq] at h
  have := congrArg Array.size h.1
  simp at this; omega

set_option maxHeartbeats 2000000 in
theorem order2_any (g cap n s : Nat) (tl : List Value) (ys : List Int) (a b : Nat) (c : Int) (w : World) (h : RowU w g tl ys) (hc : Cnt w s c) (hn : ys.length = n) (_ : 2 ≤ n) (ha : a < n) (hb : b < n) (_ : n ≤ 1000) (hc0 : 0 ≤ c) (hc1 : c ≤ 100) :
    Calls Tryz.prog 213 #[.slice (some ⟨g, 0, none⟩) n cap, .int .i64 a, .int .i64 b, .pointer (some ⟨s, 0, none⟩)] w fun e w' => ∃ (x y : Nat) (c' : Int), e = .returned (.tuple #[.int .i64 x, .int .i64 y]) ∧ ((x = a ∧ y = b) ∨ (x = b ∧ y = a)) ∧ c ≤ c' ∧ c' ≤ c + 1 ∧ Cnt w' s c' ∧ Ex (· = s) w w' := by
  have hca := h.cell (i := a) (by omega)
  have hcb := h.cell (i := b) (by omega)
  have HC := Lib.hid hc
  have hcs := hc.cell
  have hfs := hc.frozen
  have ha0 : (0 : Int) ≤ (a : Int) := by omega
  have hb0 : (0 : Int) ≤ (b : Int) := by omega
  have han : (a : Int) < (n : Int) := by omega
  have hbn : (b : Int) < (n : Int) := by omega
  clear hc h
  by_cases hl : yat ys b < yat ys a
  · go_enter Tryz.func213, Tryz.ntmps213
    go_wp2
    go_quiet ((go_at_call 183; exact Calls.quiet_of_same (less_any _ _ _)))
    go_wp2
    go_ret2
    exact ⟨b, a, c + 1, rfl, .inr ⟨rfl, rfl⟩, by omega, by omega, Cnt.set (w := w.drewN _) HC.out _, ((Ex.drewN' (Ex.refl _ _) _).trans (Ex.setCell _ _ _) (fun _ _ h => h) (fun _ _ h => h))⟩
  · have hl : yat ys a ≤ yat ys b := by omega
    go_enter Tryz.func213, Tryz.ntmps213
    go_wp2
    go_quiet ((go_at_call 183; exact Calls.quiet_of_same (less_any _ _ _)))
    go_wp2
    go_ret2
    exact ⟨a, b, c, rfl, .inl ⟨rfl, rfl⟩, by omega, by omega, HC.out, Ex.drewN' (Ex.refl _ _) _⟩

set_option maxHeartbeats 2000000 in
theorem median_any (g cap n s : Nat) (tl : List Value) (ys : List Int) (a b d : Nat) (c : Int) (w : World) (h : RowU w g tl ys) (hc : Cnt w s c) (hn : ys.length = n) (h2 : 2 ≤ n) (ha : a < n) (hb : b < n) (hd : d < n) (hm : n ≤ 1000) (hc0 : 0 ≤ c) (hc1 : c ≤ 50) :
    Calls Tryz.prog 199 #[.slice (some ⟨g, 0, none⟩) n cap, .int .i64 a, .int .i64 b, .int .i64 d, .pointer (some ⟨s, 0, none⟩)] w fun e w' => ∃ (x : Nat) (c' : Int), e = .returned (.int .i64 x) ∧ (x = a ∨ x = b ∨ x = d) ∧ c ≤ c' ∧ c' ≤ c + 3 ∧ Cnt w' s c' ∧ Ex (· = s) w w' := by
  have hne := hc.ne h (by omega)
  have HR := Lib.hid h
  have HC := Lib.hid hc
  clear h hc
  go_enter Tryz.func199, Tryz.ntmps199
  go_wp2_with fail
  refine (order2_any g cap n s tl ys a b c w HR.out HC.out hn h2 ha hb hm hc0 (by omega)).mono ?_
  rintro e w1 ⟨x1, y1, c1, rfl, hxy, hc2, hc3, hk, hx⟩
  have HR1 := Lib.hid (HR.out.ex hx hne)
  have HC1 := Lib.hid hk
  have HX1 := Lib.hid hx
  have hx1n : x1 < n := by omega
  have hy1n : y1 < n := by omega
  have HXY := Lib.hid hxy
  clear hk hx hxy
  go_wp2_with fail
  refine (order2_any g cap n s tl ys y1 d c1 w1 HR1.out HC1.out hn h2 hy1n hd hm (by omega) (by omega)).mono ?_
  rintro e w2 ⟨x2, y2, c2, rfl, hxy, hc4, hc5, hk, hx⟩
  have HR2 := Lib.hid (HR1.out.ex hx hne)
  have HC2 := Lib.hid hk
  have HX2 : Hid (Ex (· = s) w w2) := HX1.out.trans hx (fun _ _ h => h) (fun _ _ h => h)
  have hx2n : x2 < n := by omega
  have HXY2 := Lib.hid hxy
  clear hk hx hxy
  go_wp2_with fail
  refine (order2_any g cap n s tl ys x1 x2 c2 w2 HR2.out HC2.out hn h2 hx1n hx2n hm (by omega) (by omega)).mono ?_
  rintro e w3 ⟨x3, y3, c3, rfl, hxy, hc6, hc7, hk, hx⟩
  have HC3 := Lib.hid hk
  have HX3 : Hid (Ex (· = s) w w3) := HX2.out.trans hx (fun _ _ h => h) (fun _ _ h => h)
  have HXY3 := Lib.hid hxy
  clear hk hx hxy
  go_wp2
  go_ret
  exact ⟨y3, c3, rfl, by have h1 := HXY.out; have h2 := HXY2.out; have h3 := HXY3.out; omega, by omega, by omega, HC3.out, HX3.out⟩

set_option maxHeartbeats 4000000 in
theorem pivot_any (g cap n : Nat) (tl : List Value) (ys : List Int) (a b : Nat) (w : World) (h : RowU w g tl ys) (hn : ys.length = n) (hab : a + 12 < b) (hb : b ≤ n) (hm : n ≤ 15) :
    Calls Tryz.prog 180 #[.slice (some ⟨g, 0, none⟩) n cap, .int .i64 a, .int .i64 b] w fun e w' => ∃ (x : Nat) (hh : Int), e = .returned (.tuple #[.int .i64 x, .int .i64 hh]) ∧ a ≤ x ∧ x < b ∧ (hh = 0 ∨ hh = 1 ∨ hh = 2) ∧ Ex0 w w' := by
  obtain ⟨l, hl⟩ : ∃ l, a + l = b := ⟨b - a, by omega⟩
  obtain ⟨i, hi⟩ : ∃ i, a + 3 = i := ⟨_, rfl⟩
  obtain ⟨j, hj⟩ : ∃ j, a + 6 = j := ⟨_, rfl⟩
  obtain ⟨k, hk⟩ : ∃ k, a + 9 = k := ⟨_, rfl⟩
  have e1 : (b : Int) - (a : Int) = (l : Int) := by omega
  have e2 : (l : Int) / 4 = 3 := by omega
  have e3 : (a : Int) + 3 = (i : Int) := by omega
  have e4 : (a : Int) + 6 = (j : Int) := by omega
  have e5 : (a : Int) + 9 = (k : Int) := by omega
  have hl8 : (8 : Int) ≤ (l : Int) := by omega
  have hl50 : (l : Int) < 50 := by omega
  have HB := Lib.hid (And.intro hl (And.intro hi (And.intro hj hk)))
  have HR := Lib.hid h
  clear h hl hi hj hk
  go_enter Tryz.func180, Tryz.ntmps180
  go_wp2_with fail
  have hc : Cnt (w.alloc (.cells #[.int .i64 0] 3)) w.heap.size 0 := heap_alloc_new _ _
  have hx0 : Ex0 w (w.alloc (.cells #[.int .i64 0] 3)) := Ex.alloc _ _
  have hB := HB.out
  refine (median_any g cap n w.heap.size tl ys i j k 0 _ (HR.out.ex hx0 not_false) hc hn (by omega) (by omega) (by omega) (by omega) (by omega) (by decide) (by decide)).mono ?_
  rintro e w1 ⟨x, c, rfl, hx, hc1, hc2, hk, hx1⟩
  have HX : Hid (Ex0 w w1) := hx0.trans hx1 (fun _ _ h => h) (fun q hq h => by have h' : q = w.heap.size := h; omega)
  have hcc := hk.cell
  have HXX := Lib.hid hx
  clear hx hx0 hx1 hk hc hB
  by_cases h0 : c = 0
  · subst h0
    go_wp2
    go_ret2
    exact ⟨x, 1, rfl, by have := HB.out; have := HXX.out; omega, by have := HB.out; have := HXX.out; omega, .inr (.inl rfl), HX.out⟩
  · have h0' : (c == 0) = false := by simpa using h0
    have h12 : (c == 12) = false := by simp; omega
    have HC0 := Lib.hid h0
    clear h0
    go_wp2
    go_ret2
    exact ⟨x, 0, rfl, by have := HB.out; have := HXX.out; omega, by have := HB.out; have := HXX.out; omega, .inl rfl, HX.out⟩
end Go.Proofs.YtoglddndicmelaaGreat.So
