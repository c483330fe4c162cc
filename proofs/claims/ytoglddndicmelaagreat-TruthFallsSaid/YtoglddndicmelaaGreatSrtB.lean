/- The library's sort at []uint64: a look at what is sorted already; patterns are broken. The library's sort at []uint64: patterns are broken; the sort of few. The library's sort at []uint64, of few: pdqsort. The library's Sort, Compact, Index and Contains at []uint64: what stands there is told. The library's Compact at []uint64: the same numbers. -/
import Derived.Test.YtoglddndicmelaaGreatSrtA
import Derived.Test.YtoglddndicmelaaGreatShelf
import Derived.Laws.BitsLemmas
import Derived.Sort.Walk7a
import Derived.Test.YtoglddndicmelaaGreatB1
namespace Go.Proofs.YtoglddndicmelaaGreat.So
open Go.RowKit Go.Proofs.YtoglddndicmelaaGreatB Go.Proofs.YtoglddndicmelaaGreat
set_option maxRecDepth 100000

set_option maxHeartbeats 4000000 in
theorem partial_any (g cap n : Nat) (tl : List Value) (ys : List Int) (a b : Nat) (w : World) (h : RowU w g tl ys) (hn : ys.length = n) (hab : a + 2 ≤ b) (hb : b ≤ n) (hm : n ≤ 40) :
    Calls Tryz.prog 182 #[.slice (some ⟨g, 0, none⟩) n cap, .int .i64 a, .int .i64 b] w fun e w' => ∃ c : Bool, e = .returned (.bool c) ∧ Ex0 w w' := by
  have HR := Lib.hid h
  have hba : (b : Int) - (a : Int) < 50 := by omega
  clear h
  go_enter Tryz.func182, Tryz.ntmps182
  go_wp2
  go_loopw [7, 8] (fun i j wr => i = .int .i64 ((a : Int) + 1) ∧ j = .int .i64 0 ∧ w = wr) (fun _ _ _ => 0)
  case atStart => exact ⟨rfl, rfl, rfl⟩
  case round =>
    obtain ⟨rfl, rfl, rfl⟩ := hrel
    go_upto_block 2 with fail
    go_cut [7] from 13 to 132 (fun i wx => ∃ c : Nat, i = .int .i64 c ∧ a + 1 ≤ c ∧ c ≤ b ∧ Ex0 w wx)
    case first =>
      go_wp2_with fail
      go_loopw [7] (fun i wr => ∃ c : Nat, i = .int .i64 c ∧ a + 1 ≤ c ∧ c ≤ b ∧ Ex0 w wr) (fun i _ => ((b : Int) - intOf i).toNat)
      case atStart => exact ⟨a + 1, by go_num, Nat.le_refl _, by omega, Ex.refl _ _⟩
      case round =>
        obtain ⟨c, rfl, hac, hcb, hx⟩ := hrel
        have HX := Lib.hid hx
        have HR2 := Lib.hid (HR.out.ex hx not_false)
        clear hx
        by_cases hlt : c < b
        · obtain ⟨k, hkd⟩ : ∃ k, k + 1 = c := ⟨c - 1, by omega⟩
          have ek : (c : Int) - 1 = (k : Int) := by omega
          have ekw : IntKind.i64.wrap ((c : Int) - 1) = (k : Int) := by rw [ek, IntKind.wrap_i64]; omega
          have hci : (c : Int) < (b : Int) := by omega
          have hcn : (c : Int) < (n : Int) := by omega
          have hkn : (k : Int) < (n : Int) := by omega
          have hc0 : (0 : Int) ≤ (c : Int) := by omega
          have hk0 : (0 : Int) ≤ (k : Int) := by omega
          have hcc := HR2.out.cell (i := c) (by omega)
          have hck := HR2.out.cell (i := k) (by omega)
          clear hkd
          cases hl : decide (yat ys c < yat ys k) with
          | false =>
            go_wp2
            go_quiet ((go_at_call 183; exact Calls.quiet_of_same (less_any _ _ _)))
            go_wp2
            go_roundw
            case rel => exact ⟨c + 1, by go_num, by omega, by omega, HX.out.drewN' _⟩
            case measure => simp [intOf]; omega
          | true =>
            go_wp2
            go_quiet ((go_at_call 183; exact Calls.quiet_of_same (less_any _ _ _)))
            go_wp2
            go_meet
            case rel => exact ⟨c, rfl, hac, hcb, HX.out.drewN' _⟩
        · have hci : (b : Int) ≤ (c : Int) := by omega
          go_wp2
          go_quiet (fail)
          go_wp2
          go_meet
          case rel => exact ⟨c, rfl, hac, hcb, HX.out.drewN' _⟩
    case rest =>
    obtain ⟨c, rfl, hac, hcb, hx⟩ := hcut
    have HX := Lib.hid hx
    clear hx
    by_cases hcb2 : c = b
    · have hb2 : ((c : Int) == (b : Int)) = true := by rw [hcb2]; simp
      clear hcb2
      go_wp2
      go_ret
      exact ⟨true, rfl, HX.out⟩
    · have hb2 : ((c : Int) == (b : Int)) = false := by simp; omega
      clear hcb2
      go_wp2
      go_ret
      exact ⟨false, rfl, HX.out⟩

theorem pow2_any (l : Nat) (hl : 12 < l) (hl2 : l ≤ 15) (w : World) :
    Calls Tryz.prog 196 #[.int .i64 l] w fun e w' => e = .returned (.int .u64 16) ∧ w' = w := by
  have hb : Lib.bitLen l = 4 := by
    rcases (by omega : l = 13 ∨ l = 14 ∨ l = 15) with rfl | rfl | rfl <;> decide
  have HC : Hid (Calls Tryz.prog 165 #[.int .u64 l] w fun e w' => e = .returned (.int .i64 4) ∧ w' = w) := by
    have := Tryz.bits_Len (l : Int) w (by omega) (by omega)
    rw [Int.toNat_natCast, hb] at this
    exact this
  have hl0 : (0 : Int) ≤ (l : Int) := by omega
  clear hb
  go_enter Tryz.func196, Tryz.ntmps196
  go_wp2_with fail
  refine HC.out.mono ?_
  rintro e w1 ⟨rfl, rfl⟩
  go_wp2
  go_ret
  exact ⟨rfl, rfl⟩

/-- a number in a block of its own -/
def Rnd (w : World) (s : Nat) (x : Nat) : Prop := w.heap[s]? = some (.cells #[.int .u64 x] 289 (0, 0)) ∧ x < 18446744073709551616
theorem next_any (s x : Nat) (w : World) (h : Rnd w s x) :
    Calls Tryz.prog 197 #[.pointer (some ⟨s, 0, none⟩)] w fun e w' => ∃ y : Nat, e = .returned (.int .u64 y) ∧ Rnd w' s y ∧ Ex (· = s) w w' := by
  obtain ⟨h, hX⟩ := h
  have HB := Lib.hid h
  have hc : w.cell? ⟨s, 0, none⟩ = some (.int .u64 x) := by rw [cell_of_row _ _ _ _ _ _ h]; rfl
  have hf : w.frozen? ⟨s, 0, none⟩ = false := frozen_of_row _ _ _ _ _ h
  obtain ⟨p, hp⟩ : ∃ p : Nat, p = x ^^^ (x * 8192 % 18446744073709551616) := ⟨_, rfl⟩
  obtain ⟨q, hq⟩ : ∃ q : Nat, q = p ^^^ (p / 128) := ⟨_, rfl⟩
  obtain ⟨r, hr⟩ : ∃ r : Nat, r = q ^^^ (q * 131072 % 18446744073709551616) := ⟨_, rfl⟩
  have lp : p < 18446744073709551616 := by rw [hp]; exact Nat.xor_lt_two_pow (n := 64) (by omega) (by omega)
  have lq : q < 18446744073709551616 := by rw [hq]; exact Nat.xor_lt_two_pow (n := 64) (by omega) (by omega)
  have lr : r < 18446744073709551616 := by rw [hr]; exact Nat.xor_lt_two_pow (n := 64) (by omega) (by omega)
  have e1 : bits .xor .u64 (x : Int) (IntKind.u64.wrap ((x : Int) * 8192)) = (p : Int) := by
    rw [IntKind.wrap_u64, show ((x : Int) * 8192 % 18446744073709551616) = ((x * 8192 % 18446744073709551616 : Nat) : Int) by omega, bits_xor_u64_nat _ _ hX (by omega), hp]
  have e2 : bits .xor .u64 (p : Int) ((p : Int) / 128) = (q : Int) := by
    rw [show ((p : Int) / 128) = ((p / 128 : Nat) : Int) by omega, bits_xor_u64_nat _ _ lp (by omega), hq]
  have e3 : bits .xor .u64 (q : Int) (IntKind.u64.wrap ((q : Int) * 131072)) = (r : Int) := by
    rw [IntKind.wrap_u64, show ((q : Int) * 131072 % 18446744073709551616) = ((q * 131072 % 18446744073709551616 : Nat) : Int) by omega, bits_xor_u64_nat _ _ lq (by omega), hr]
  have HL := Lib.hid lr
  clear hp hq hr h lp lq lr
  have hss : ∀ v v', (w.setCell ⟨s, 0, none⟩ v).setCell ⟨s, 0, none⟩ v' = w.setCell ⟨s, 0, none⟩ v' := setCell_setCell w s 0
  go_enter Tryz.func197, Tryz.ntmps197
  go_wp2
  go_region
  go_wp2
  go_region
  go_wp2
  go_region
  go_wp2
  go_ret
  exact ⟨r, rfl, ⟨by show (w.setCell ⟨s, 0, none⟩ (.int .u64 r)).heap[s]? = _; rw [heap_setCell_same _ _ _ _ _ _ HB.out]; rfl, HL.out⟩, (((Ex.setCell w ⟨s, 0, none⟩ (.int .u64 r)).drew').drew').drew'⟩
end Go.Proofs.YtoglddndicmelaaGreat.So

namespace Go.Proofs.YtoglddndicmelaaGreat.So
open Go.RowKit Go.Proofs.YtoglddndicmelaaGreatB Go.Proofs.YtoglddndicmelaaGreat
set_option maxRecDepth 100000

theorem Rnd.swap {w : World} {s x g i j : Nat} {u v : Value} (h : Rnd w s x) (hne : s ≠ g) : Rnd ((w.setCell ⟨g, i, none⟩ u).setCell ⟨g, j, none⟩ v).drew s x :=
  ⟨by show ((w.setCell ⟨g, i, none⟩ u).setCell ⟨g, j, none⟩ v).heap[s]? = _; rw [heap_setCell_other _ _ _ _ hne, heap_setCell_other _ _ _ _ hne]; exact h.1, h.2⟩
theorem and15 (y : Nat) (hy : y < 18446744073709551616) : ∃ r : Nat, bits .and .u64 (y : Int) 15 = (r : Int) ∧ r ≤ 15 := by
  refine ⟨y &&& 15, ?_, Nat.and_le_right⟩
  exact (bits_nat .u64 64 (by decide) (fun n h0 h1 => by rw [IntKind.wrap_u64]; omega) y 15 hy (by decide)).1

set_option maxHeartbeats 8000000 in
theorem break_any (g cap n : Nat) (tl : List Value) (ys : List Int) (a b : Nat) (w : World) (h : RowU w g tl ys) (hn : ys.length = n) (hab : a + 12 < b) (hb : b ≤ n) (hm : n ≤ 15) :
    Calls Tryz.prog 179 #[.slice (some ⟨g, 0, none⟩) n cap, .int .i64 a, .int .i64 b] w fun e w' => e = .returned (.tuple #[]) ∧ Srt g tl ys w w' := by
  obtain ⟨l, hl⟩ : ∃ l, a + l = b := ⟨b - a, by omega⟩
  have e1 : (b : Int) - (a : Int) = (l : Int) := by omega
  have e2 : (l : Int) / 4 = 3 := by omega
  have hl8 : (8 : Int) ≤ (l : Int) := by omega
  have HP2 := Lib.hid (pow2_any l (by omega) (by omega))
  have HR := Lib.hid h
  have HL := Lib.hid hl
  have hl13 : 12 < l ∧ l ≤ 15 := by omega
  have HL13 := Lib.hid hl13
  clear h hl hl13
  go_enter Tryz.func179, Tryz.ntmps179
  go_wp2_with fail
  refine (HP2.out _).mono ?_
  rintro e w1 ⟨rfl, rfl⟩
  go_wp2
  have hrn0 : Rnd (w.alloc (.cells #[.int .u64 l] 289)) w.heap.size l := ⟨heap_alloc_new _ _, by have := HL13.out; omega⟩
  have hr0 : RowU (w.alloc (.cells #[.int .u64 l] 289)) g tl ys := HR.out.ex (Ex.alloc _ _) (S := fun _ => False) not_false
  have HNE : Hid (g ≠ w.heap.size) := by have := HR.out.lt; show _ ≠ _; omega
  go_loopw [9] (fun i wr => ∃ (p x : Nat) (zs : List Int), i = .int .i64 p ∧ a + 5 ≤ p ∧ p ≤ a + 8 ∧ Rnd wr w.heap.size x ∧ zs.length = n ∧ zs.Perm ys ∧ RowU wr g tl zs ∧ Ex (· = g) w wr) (fun i _ => ((a : Int) + 8 - intOf i).toNat)
  case atStart => exact ⟨a + 5, l, ys, by congr 1; omega, Nat.le_refl _, by omega, hrn0, hn, List.Perm.refl _, hr0, (Ex.alloc _ _).to (fun _ _ h => h.elim)⟩
  case round =>
    obtain ⟨p, x, zs, rfl, hp, hp8, hrn, hz, hpm, hr, hx⟩ := hrel
    have HZ := Lib.hid hz
    have HPM := Lib.hid hpm
    have HR1 := Lib.hid hr
    have HX1 := Lib.hid hx
    have HNX := Lib.hid (next_any w.heap.size x wr hrn)
    clear hrn0 hr0 hz hpm hr hx hrn
    by_cases hlt : p ≤ a + 7
    · have hpi : (p : Int) ≤ (a : Int) + 6 + 1 := by omega
      have hpn : (p : Int) < (n : Int) := by have := HL.out; have := HL13.out; omega
      have hp0 : (0 : Int) ≤ (p : Int) := by omega
      go_wp2_with fail
      refine HNX.out.mono ?_
      rintro e w2 ⟨x2, rfl, hrn2, hx2⟩
      have HRN := Lib.hid hrn2
      have HR2 := Lib.hid (HR1.out.ex hx2 HNE.out)
      have HX2 : Hid (Ex (· = g) w w2) := HX1.out.trans hx2 (fun _ _ h => h) (fun i hi h => by have h' : i = w.heap.size := h; omega)
      obtain ⟨r, hr15, hrl⟩ := and15 x2 hrn2.2
      have hrw : IntKind.i64.wrap (r : Int) = (r : Int) := by rw [IntKind.wrap_i64]; omega
      have hr0 : (0 : Int) ≤ (r : Int) := by omega
      clear hrn2 hx2 HNX
      by_cases hge : l ≤ r
      · have hgi : (l : Int) ≤ (r : Int) := by omega
        obtain ⟨o, ho⟩ : ∃ o, l + o = r := ⟨r - l, by omega⟩
        have eo : (r : Int) - (l : Int) = (o : Int) := by omega
        have hol : o < l := by have := HL13.out; omega
        clear ho
        obtain ⟨k, hk⟩ : ∃ k, a + o = k := ⟨_, rfl⟩
        have ea : (a : Int) + (o : Int) = (k : Int) := by omega
        have eaw : IntKind.i64.wrap ((a : Int) + (o : Int)) = (k : Int) := by rw [ea, IntKind.wrap_i64]; omega
        have hkn : (k : Int) < (n : Int) := by have := HL.out; have := HL13.out; omega
        have hk0 : (0 : Int) ≤ (k : Int) := by omega
        have hKK : k < n := by omega
        clear hk
        have hc1 := HR2.out.cell (i := p) (by rw [HZ.out]; omega)
        have hc2 := HR2.out.cell (i := k) (by rw [HZ.out]; omega)
        have hf1 := HR2.out.frozen p
        have hf2 := HR2.out.frozen k
        have hs2 := (HR2.out.set (i := p) (by rw [HZ.out]; omega) (yat zs k)).cell (i := k) (by simp; rw [HZ.out]; omega)
        go_wp2
        go_region
        go_wp2
        go_roundw
        case rel => exact ⟨p + 1, x2, swp zs p k, by go_num, by omega, by omega, Rnd.swap HRN.out (Ne.symm HNE.out), by rw [swp_len, HZ.out], (swp_perm _ _ _ (by rw [HZ.out]; omega) (by rw [HZ.out]; omega)).trans HPM.out, HR2.out.swap (by rw [HZ.out]; omega) (by rw [HZ.out]; omega), swap_ex HX2.out⟩
        case measure => simp [intOf]; omega
      · have hgi : (r : Int) < (l : Int) := by omega
        obtain ⟨k, hk⟩ : ∃ k, a + r = k := ⟨_, rfl⟩
        have ea : (a : Int) + (r : Int) = (k : Int) := by omega
        have eaw : IntKind.i64.wrap ((a : Int) + (r : Int)) = (k : Int) := by rw [ea, IntKind.wrap_i64]; omega
        have hkn : (k : Int) < (n : Int) := by have := HL.out; have := HL13.out; omega
        have hk0 : (0 : Int) ≤ (k : Int) := by omega
        have hKK : k < n := by omega
        clear hk
        have hc1 := HR2.out.cell (i := p) (by rw [HZ.out]; omega)
        have hc2 := HR2.out.cell (i := k) (by rw [HZ.out]; omega)
        have hf1 := HR2.out.frozen p
        have hf2 := HR2.out.frozen k
        have hs2 := (HR2.out.set (i := p) (by rw [HZ.out]; omega) (yat zs k)).cell (i := k) (by simp; rw [HZ.out]; omega)
        go_wp2
        go_region
        go_wp2
        go_roundw
        case rel => exact ⟨p + 1, x2, swp zs p k, by go_num, by omega, by omega, Rnd.swap HRN.out (Ne.symm HNE.out), by rw [swp_len, HZ.out], (swp_perm _ _ _ (by rw [HZ.out]; omega) (by rw [HZ.out]; omega)).trans HPM.out, HR2.out.swap (by rw [HZ.out]; omega) (by rw [HZ.out]; omega), swap_ex HX2.out⟩
        case measure => simp [intOf]; omega
    · have hpi : (a : Int) + 6 + 1 < (p : Int) := by omega
      go_wp2
      go_end0
      exact ⟨rfl, zs, HPM.out, HR1.out, HX1.out⟩
end Go.Proofs.YtoglddndicmelaaGreat.So

namespace Go.Proofs.YtoglddndicmelaaGreat.So
open Go.RowKit Go.Proofs.YtoglddndicmelaaGreatB Go.Proofs.YtoglddndicmelaaGreat
set_option maxRecDepth 100000

theorem Srt.trans {g : Nat} {tl : List Value} {ys zs : List Int} {w w' w'' : World} (hp : zs.Perm ys) (hx : Ex (· = g) w w') (h : Srt g tl zs w' w'') : Srt g tl ys w w'' := by
  obtain ⟨us, h1, h2, h3⟩ := h
  exact ⟨us, h1.trans hp, h2, hx.trans h3 (fun _ _ h => h) (fun _ _ h => h)⟩

theorem pdq_small (g cap n : Nat) (tl : List Value) (ys : List Int) (a b : Nat) (lim : Int) (w : World) (h : RowU w g tl ys) (hn : ys.length = n) (hab : a ≤ b) (hs : b ≤ a + 12) (hb : b ≤ n) (hm : n ≤ 1000) :
    Calls Tryz.prog 164 #[.slice (some ⟨g, 0, none⟩) n cap, .int .i64 a, .int .i64 b, .int .i64 lim] w fun e w' => e = .returned (.tuple #[]) ∧ Srt g tl ys w w' := by
  have HI := Lib.hid (insertion_any g cap n tl ys a b w h hn hb hm (by omega))
  have hle : (b : Int) - (a : Int) ≤ 12 := by omega
  clear h
  go_enter Tryz.func164, Tryz.ntmps164
  go_wp2
  go_loopw [1, 2, 3] (fun p q l wr => p = .int .i64 a ∧ q = .int .i64 b ∧ l = .int .i64 lim ∧ w = wr) (fun _ _ _ _ => 0)
  case atStart => exact ⟨rfl, rfl, rfl, rfl⟩
  case round =>
    obtain ⟨rfl, rfl, rfl, rfl⟩ := hrel
    go_wp2_with fail
    refine HI.out.mono ?_
    rintro e w1 ⟨rfl, hs1⟩
    go_wp2
    refine bodyPost_ret (results_none rfl _ _ _) rfl ?_
    exact ⟨rfl, hs1⟩

set_option maxHeartbeats 16000000 in
theorem pdq_any (g cap n : Nat) (tl : List Value) (ys : List Int) (w : World) (h : RowU w g tl ys) (hn : ys.length = n) (hn12 : 12 < n) (hm : n ≤ 15) :
    Calls Tryz.prog 164 #[.slice (some ⟨g, 0, none⟩) n cap, .int .i64 0, .int .i64 n, .int .i64 4] w fun e w' => e = .returned (.tuple #[]) ∧ Srt g tl ys w w' := by
  have HR0 := Lib.hid h
  clear h
  go_enter Tryz.func164, Tryz.ntmps164
  go_wp2
  go_loopw [1, 2, 3, 8, 9] (fun p q l b1 b2 wr => ∃ (a b m : Nat) (wb wp : Bool) (zs : List Int), p = .int .i64 a ∧ q = .int .i64 b ∧ l = .int .i64 m ∧ b1 = .bool wb ∧ b2 = .bool wp ∧ a ≤ b ∧ b ≤ n ∧ b ≤ a + m + 11 ∧ m ≤ 4 ∧ zs.length = n ∧ zs.Perm ys ∧ RowU wr g tl zs ∧ Ex (· = g) w wr) (fun p q _ _ _ _ => (intOf q - intOf p).toNat)
  case atStart => exact ⟨0, n, 4, true, true, ys, rfl, rfl, rfl, rfl, rfl, by omega, Nat.le_refl _, by omega, by omega, hn, List.Perm.refl _, HR0.out, Ex.refl _ _⟩
  case round =>
    obtain ⟨a, b, m, wb, wp, zs, rfl, rfl, rfl, rfl, rfl, hab, hbn, hbm, hm4, hz, hpm, hr, hx⟩ := hrel
    have HZ := Lib.hid hz
    have HPM := Lib.hid hpm
    have HR := Lib.hid hr
    have HX := Lib.hid hx
    clear hz hpm hr hx HR0
    by_cases hs : b ≤ a + 12
    · have hle : (b : Int) - (a : Int) ≤ 12 := by omega
      go_wp2_with fail
      refine (insertion_any g cap n tl zs a b _ HR.out HZ.out hbn (by omega) (by omega)).mono ?_
      rintro e w1 ⟨rfl, hs1⟩
      have HS := Lib.hid (Srt.trans HPM.out HX.out hs1)
      clear hs1
      go_wp2
      refine bodyPost_ret (results_none rfl _ _ _) rfl ?_
      exact ⟨rfl, HS.out⟩
    · have hgt : (12 : Int) < (b : Int) - (a : Int) := by omega
      have hm0 : ((m : Int) == 0) = false := by simp; omega
      go_upto_if 35 with fail
      go_cut [3] from 19 to 133 (fun l wx => ∃ (m' : Nat) (us : List Int), l = .int .i64 m' ∧ b ≤ a + m' + 12 ∧ m' ≤ 4 ∧ us.length = n ∧ us.Perm ys ∧ RowU wx g tl us ∧ Ex (· = g) w wx)
      case first =>
        cases wb with
        | true =>
          go_wp2_with fail
          go_meet
          case rel => exact ⟨m, zs, rfl, by omega, hm4, HZ.out, HPM.out, HR.out, HX.out⟩
        | false =>
          obtain ⟨m', hm'⟩ : ∃ m', m' + 1 = m := ⟨m - 1, by omega⟩
          have em : (m : Int) - 1 = (m' : Int) := by omega
          have hmm : b ≤ a + m' + 12 ∧ m' ≤ 4 := by omega
          have hm0' : (0 : Int) ≤ (m' : Int) := by omega
          have hm4' : (m' : Int) ≤ 4 := by omega
          clear hm'
          go_wp2_with fail
          refine (break_any g cap n tl zs a b _ HR.out HZ.out (by omega) hbn hm).mono ?_
          rintro e w1 ⟨rfl, us, hp1, hr1, hx1⟩
          have HU : Hid (us.length = n ∧ us.Perm ys ∧ RowU w1 g tl us ∧ Ex (· = g) w w1) := ⟨by rw [hp1.length_eq]; exact HZ.out, hp1.trans HPM.out, hr1, HX.out.trans hx1 (fun _ _ h => h) (fun _ _ h => h)⟩
          clear hp1 hr1 hx1
          go_wp2_with fail
          go_meet
          case rel => exact ⟨m', us, rfl, hmm.1, hmm.2, HU.out⟩
      case rest =>
      obtain ⟨m', us, rfl, hbm', hm4', hz, hpm, hr, hx⟩ := hcut
      clear HZ HPM HR HX
      have HZ := Lib.hid hz
      have HPM := Lib.hid hpm
      have HR := Lib.hid hr
      have HX := Lib.hid hx
      clear hz hpm hr hx
      go_wp2_with fail
      refine (pivot_any g cap n tl us a b _ HR.out HZ.out (by omega) hbn hm).mono ?_
      rintro e w2 ⟨x, hh, rfl, hax, hxb, hhh, hx2⟩
      have HR2 := Lib.hid (HR.out.ex hx2 (S := fun _ => False) not_false)
      have HX2 := Lib.hid (HX.out.trans0 hx2)
      clear hx2
      go_upto_if 50 with fail
      go_cut [11, 12] from 19 to 133 (fun x h wx => ∃ (x' : Nat) (hh : Int) (us : List Int), x = .int .i64 x' ∧ h = .int .i64 hh ∧ a ≤ x' ∧ x' < b ∧ us.length = n ∧ us.Perm ys ∧ RowU wx g tl us ∧ Ex (· = g) w wx)
      case first =>
        by_cases h2 : hh = 2
        · subst h2
          obtain ⟨y, hy⟩ : ∃ y, y + (x - a) + 1 = b := ⟨b - 1 - (x - a), by omega⟩
          have ey : (b : Int) - 1 - ((x : Int) - (a : Int)) = (y : Int) := by omega
          have hyy : a ≤ y ∧ y < b := by omega
          clear hy
          go_wp2_with fail
          refine (reverse_any g cap n tl us a b _ HR2.out HZ.out hab hbn (by omega)).mono ?_
          rintro e w3 ⟨rfl, vs, hp1, hr1, hx1⟩
          have HU : Hid (vs.length = n ∧ vs.Perm ys ∧ RowU w3 g tl vs ∧ Ex (· = g) w w3) := ⟨by rw [hp1.length_eq]; exact HZ.out, hp1.trans HPM.out, hr1, HX2.out.trans hx1 (fun _ _ h => h) (fun _ _ h => h)⟩
          clear hp1 hr1 hx1
          go_wp2_with fail
          go_meet
          case rel => exact ⟨y, 1, vs, rfl, rfl, hyy.1, hyy.2, HU.out⟩
        · have h2' : (hh == 2) = false := by simpa using h2
          clear h2
          go_wp2_with fail
          go_meet
          case rel => exact ⟨x, hh, us, rfl, rfl, hax, hxb, HZ.out, HPM.out, HR2.out, HX2.out⟩
      case rest =>
      clear HZ HPM HR HX HR2 HX2 hhh hax hxb
      obtain ⟨y, hk, vs, rfl, rfl, hay, hyb, hz, hpm, hr, hx⟩ := hcut
      have HZ := Lib.hid hz
      have HPM := Lib.hid hpm
      have HR := Lib.hid hr
      have HX := Lib.hid hx
      clear hz hpm hr hx
      go_upto_region 15 with fail
      go_cut [68] from 19 to 133 (fun s wx => ∃ c : Bool, s = .bool c ∧ RowU wx g tl vs ∧ Ex (· = g) w wx)
      case first =>
        cases wb with
        | false =>
          go_wp2_with fail
          go_meet
          case rel => exact ⟨false, rfl, HR.out, HX.out⟩
        | true =>
          cases wp with
          | false =>
            go_wp2_with fail
            go_meet
            case rel => exact ⟨false, rfl, HR.out, HX.out⟩
          | true =>
            by_cases h1 : hk = 1
            · subst h1
              go_wp2_with fail
              go_meet
              case rel => exact ⟨true, rfl, HR.out, HX.out⟩
            · have h1' : (hk == 1) = false := by simpa using h1
              clear h1
              go_wp2_with fail
              go_meet
              case rel => exact ⟨false, rfl, HR.out, HX.out⟩
      case rest =>
      clear HR HX
      obtain ⟨c, rfl, hr, hx⟩ := hcut
      have HR := Lib.hid hr
      have HX := Lib.hid hx
      clear hr hx
      go_upto_if 68 with fail
      go_cut [] from 19 to 133 (fun wx => RowU wx g tl vs ∧ Ex (· = g) w wx)
      case first =>
        cases c with
        | false =>
          go_wp2_with fail
          go_meet
          case rel => exact ⟨HR.out, HX.out⟩
        | true =>
          go_wp2_with fail
          refine (partial_any g cap n tl vs a b _ HR.out HZ.out (by omega) hbn (by omega)).mono ?_
          rintro e w4 ⟨d, rfl, hx4⟩
          have HR4 := Lib.hid (HR.out.ex hx4 (S := fun _ => False) not_false)
          have HX4 := Lib.hid (HX.out.trans0 hx4)
          clear hx4
          cases d with
          | false =>
            go_wp2_with fail
            go_meet
            case rel => exact ⟨HR4.out, HX4.out⟩
          | true =>
            go_wp2
            refine bodyPost_ret (results_none rfl _ _ _) rfl ?_
            exact ⟨rfl, vs, HPM.out, HR4.out, HX4.out⟩
      case rest =>
      clear HR HX
      obtain ⟨hr, hx⟩ := hcut
      have HR := Lib.hid hr
      have HX := Lib.hid hx
      clear hr hx
      go_upto_region 17 with fail
      go_cut [87] from 19 to 133 (fun s wx => ∃ c : Bool, s = .bool c ∧ RowU wx g tl vs ∧ Ex (· = g) w wx)
      case first =>
        by_cases ha0 : a = 0
        · have hai : decide ((0 : Int) < (a : Int)) = false := by simp; omega
          have hai2 : decide (0 < a) = false := by simp; omega
          clear ha0
          go_quiet (fail)
          go_wp2_with fail
          go_meet
          case rel => exact ⟨_, rfl, HR.out.drew _, HX.out.drewN' _⟩
        · obtain ⟨k, hka⟩ : ∃ k, k + 1 = a := ⟨a - 1, by omega⟩
          have ek : (a : Int) - 1 = (k : Int) := by omega
          have ekw : IntKind.i64.wrap ((a : Int) - 1) = (k : Int) := by rw [ek, IntKind.wrap_i64]; omega
          have hai : (0 : Int) < (a : Int) := by omega
          have hai2 : 0 < a := by omega
          have hkn : (k : Int) < (n : Int) := by omega
          have hk0 : (0 : Int) ≤ (k : Int) := by omega
          have hyn : (y : Int) < (n : Int) := by omega
          have hy0 : (0 : Int) ≤ (y : Int) := by omega
          have hc1 := HR.out.cell (i := k) (by rw [HZ.out]; omega)
          have hc2 := HR.out.cell (i := y) (by rw [HZ.out]; omega)
          clear hka
          go_quiet ((go_at_call 183; exact Calls.quiet_of_same (less_any _ _ _)))
          go_wp2_with fail
          go_meet
          case rel => exact ⟨_, rfl, HR.out.drew _, HX.out.drewN' _⟩
      case rest =>
      clear HR HX
      obtain ⟨c, rfl, hr, hx⟩ := hcut
      have HR := Lib.hid hr
      have HX := Lib.hid hx
      clear hr hx
      cases c with
      | true =>
        go_wp2_with fail
        refine (partEq_any g cap n tl vs a b y _ HR.out HZ.out hbn (by omega) hay hyb).mono ?_
        rintro e w5 ⟨md, rfl, h1, h2, us2, hp1, hr1, hx1⟩
        have HU : Hid (us2.length = n ∧ us2.Perm ys ∧ RowU w5 g tl us2 ∧ Ex (· = g) w w5) := ⟨by rw [hp1.length_eq]; exact HZ.out, hp1.trans HPM.out, hr1, HX.out.trans hx1 (fun _ _ h => h) (fun _ _ h => h)⟩
        clear hp1 hr1 hx1
        go_wp2_with fail
        go_roundw
        case rel => exact ⟨md, b, m', wb, wp, us2, rfl, rfl, rfl, rfl, rfl, h2, hbn, by omega, hm4', HU.out⟩
        case measure => simp [intOf]; omega
      | false =>
        go_wp2_with fail
        refine (part_any g cap n tl vs a b y _ HR.out HZ.out hbn (by omega) hay hyb).mono ?_
        rintro e w5 ⟨md, ap, rfl, h1, h2, us2, hp1, hr1, hx1⟩
        have HZ5 : Hid (us2.length = n) := by show _ = _; rw [hp1.length_eq]; exact HZ.out
        have HP5 : Hid (us2.Perm ys) := hp1.trans HPM.out
        have HR5 := Lib.hid hr1
        have HX5 : Hid (Ex (· = g) w w5) := HX.out.trans hx1 (fun _ _ h => h) (fun _ _ h => h)
        obtain ⟨l1, hl1⟩ : ∃ l1, a + l1 = md := ⟨md - a, by omega⟩
        obtain ⟨l2, hl2⟩ : ∃ l2, md + l2 = b := ⟨b - md, by omega⟩
        have el1 : (md : Int) - (a : Int) = (l1 : Int) := by omega
        have el2 : (b : Int) - (md : Int) = (l2 : Int) := by omega
        have HL := Lib.hid (And.intro hl1 hl2)
        clear hp1 hr1 hx1 hl1 hl2
        by_cases hlr : l1 < l2
        · have hlri : (l1 : Int) < (l2 : Int) := by omega
          go_wp2_with fail
          refine (pdq_small g cap n tl us2 a md m' _ HR5.out HZ5.out h1 (by have := HL.out; omega) (by omega) (by omega)).mono ?_
          rintro e w6 ⟨rfl, us3, hp1, hr1, hx1⟩
          have HU : Hid (us3.length = n ∧ us3.Perm ys ∧ RowU w6 g tl us3 ∧ Ex (· = g) w w6) := ⟨by rw [hp1.length_eq]; exact HZ5.out, hp1.trans HP5.out, hr1, HX5.out.trans hx1 (fun _ _ h => h) (fun _ _ h => h)⟩
          clear hp1 hr1 hx1
          go_wp2_with fail
          go_roundw
          case rel => exact ⟨md + 1, b, m', _, ap, us3, by go_num, rfl, rfl, rfl, rfl, by omega, hbn, by omega, hm4', HU.out⟩
          case measure => simp [intOf]; omega
        · have hlri : (l2 : Int) ≤ (l1 : Int) := by omega
          obtain ⟨md1, hmd1⟩ : ∃ md1, md + 1 = md1 := ⟨_, rfl⟩
          have emd : (md : Int) + 1 = (md1 : Int) := by omega
          have HM := Lib.hid hmd1
          clear hmd1
          go_wp2_with fail
          refine (pdq_small g cap n tl us2 md1 b m' _ HR5.out HZ5.out (by have := HM.out; omega) (by have := HL.out; have := HM.out; omega) hbn (by omega)).mono ?_
          rintro e w6 ⟨rfl, us3, hp1, hr1, hx1⟩
          have HU : Hid (us3.length = n ∧ us3.Perm ys ∧ RowU w6 g tl us3 ∧ Ex (· = g) w w6) := ⟨by rw [hp1.length_eq]; exact HZ5.out, hp1.trans HP5.out, hr1, HX5.out.trans hx1 (fun _ _ h => h) (fun _ _ h => h)⟩
          clear hp1 hr1 hx1
          go_wp2_with fail
          go_roundw
          case rel => exact ⟨a, md, m', _, ap, us3, rfl, rfl, rfl, rfl, rfl, h1, by omega, by omega, hm4', HU.out⟩
          case measure => simp [intOf]; omega
end Go.Proofs.YtoglddndicmelaaGreat.So

namespace Go.Proofs.YtoglddndicmelaaGreat.So
open Go.RowKit Go.Proofs.YtoglddndicmelaaGreatB Go.Proofs.YtoglddndicmelaaGreat
set_option maxRecDepth 100000

theorem ret_bool {a b : Bool} (h : a = b) : Ending.returned (.bool a) = .returned (.bool b) := by rw [h]
theorem pdq_none (A : Option Addr) (cap : Nat) (lim : Int) (w : World) :
    Calls Tryz.prog 164 #[.slice A 0 cap, .int .i64 0, .int .i64 0, .int .i64 lim] w fun e w' => e = .returned (.tuple #[]) ∧ w' = w := by
  have HI : Hid (Calls Tryz.prog 177 #[.slice A 0 cap, .int .i64 0, .int .i64 0] w fun e w' => e = .returned (.tuple #[]) ∧ w' = w) := by
    show Calls _ _ _ _ _
    go_enter Tryz.func177, Tryz.ntmps177
    go_wp2
    go_loopw [6] (fun i wr => i = .int .i64 1 ∧ w = wr) (fun _ _ => 0)
    case atStart => exact ⟨rfl, rfl⟩
    case round =>
      obtain ⟨rfl, rfl⟩ := hrel
      go_wp2
      go_end0
      exact ⟨rfl, rfl⟩
  go_enter Tryz.func164, Tryz.ntmps164
  go_wp2
  go_loopw [1, 2, 3] (fun p q l wr => p = .int .i64 0 ∧ q = .int .i64 0 ∧ l = .int .i64 lim ∧ w = wr) (fun _ _ _ _ => 0)
  case atStart => exact ⟨rfl, rfl, rfl, rfl⟩
  case round =>
    obtain ⟨rfl, rfl, rfl, rfl⟩ := hrel
    go_wp2_with fail
    refine HI.out.mono ?_
    rintro e w1 ⟨rfl, rfl⟩
    go_wp2
    refine bodyPost_ret (results_none rfl _ _ _) rfl ?_
    exact ⟨rfl, rfl⟩

theorem sort_row (g cap n : Nat) (tl : List Value) (ys : List Int) (w : World) (h : RowU w g tl ys) (hn : ys.length = n) (hm : n ≤ 15) :
    Calls Tryz.prog 142 #[.slice (some ⟨g, 0, none⟩) n cap] w fun e w' => e = .returned (.tuple #[]) ∧ Srt g tl ys w w' := by
  have HC : Hid (∃ q : Int, (12 < n → q = 4) ∧ Calls Tryz.prog 165 #[.int .u64 n] w fun e w' => e = .returned (.int .i64 q) ∧ w' = w) := by
    have := Tryz.bits_Len (n : Int) w (by omega) (by omega)
    rw [Int.toNat_natCast] at this
    refine ⟨_, fun h12 => ?_, this⟩
    rcases (by omega : n = 13 ∨ n = 14 ∨ n = 15) with rfl | rfl | rfl <;> decide
  obtain ⟨q, hq, hcl⟩ := HC.out
  have HCL := Lib.hid hcl
  have HP : Hid (Calls Tryz.prog 164 #[.slice (some ⟨g, 0, none⟩) n cap, .int .i64 0, .int .i64 n, .int .i64 q] w fun e w' => e = .returned (.tuple #[]) ∧ Srt g tl ys w w') := by
    by_cases h12 : 12 < n
    · rw [hq h12]; exact pdq_any g cap n tl ys w h hn h12 hm
    · exact pdq_small g cap n tl ys 0 n q w h hn (by omega) (by omega) (Nat.le_refl _) (by omega)
  have hn0 : (0 : Int) ≤ (n : Int) := by omega
  clear h hq hcl HC
  go_enter Tryz.func142, Tryz.ntmps142
  go_wp2_with fail
  refine HCL.out.mono ?_
  rintro e w1 ⟨rfl, rfl⟩
  go_wp2_with fail
  refine HP.out.mono ?_
  rintro e w2 ⟨rfl, hs⟩
  go_wp2
  go_end0
  exact ⟨rfl, hs⟩
theorem sort_none (A : Option Addr) (cap : Nat) (w : World) :
    Calls Tryz.prog 142 #[.slice A 0 cap] w fun e w' => e = .returned (.tuple #[]) ∧ w' = w := by
  have HCL : Hid (∃ q : Int, Calls Tryz.prog 165 #[.int .u64 0] w fun e w' => e = .returned (.int .i64 q) ∧ w' = w) := ⟨_, Tryz.bits_Len 0 w (by omega) (by omega)⟩
  obtain ⟨q, hcl⟩ := HCL.out
  have HC := Lib.hid hcl
  clear hcl HCL
  go_enter Tryz.func142, Tryz.ntmps142
  go_wp2_with fail
  refine HC.out.mono ?_
  rintro e w1 ⟨rfl, rfl⟩
  go_wp2_with fail
  refine (pdq_none A cap q _).mono ?_
  rintro e w2 ⟨rfl, rfl⟩
  go_wp2
  go_end0
  exact ⟨rfl, rfl⟩
/-- an owned row, as a row and what stands behind it -/
theorem own_row {w : World} {B : Nat} {v : Value} {n : Nat} {ys : List Int} (h : w.ownsRow B 31 1 v n (ys.map (Value.int .u64))) (h0 : 0 < n) : ∃ g cap tl, v = .slice (some ⟨g, 0, none⟩) n cap ∧ B ≤ g ∧ RowU w g tl ys ∧ ys.length = n ∧ n ≤ cap ∧ cap ≤ maxLen ∧ n + tl.length = cap := by
  obtain ⟨hl, h⟩ := h
  rcases h with ⟨_, h⟩ | ⟨g, cap, cur, rfl, hB, hg, hn, hc, hs, ht⟩
  · omega
  · have hyn : ys.length = n := by simpa using hl
    refine ⟨g, cap, cur.toList.drop n, rfl, hB, ?_, hyn, hn, hc, ?_⟩
    · unfold RowU
      rw [hg, ← ht, Nat.mul_one, List.take_append_drop]
    · simp; omega
theorem row_own {w : World} {B g cap n : Nat} {tl : List Value} {zs : List Int} (h : RowU w g tl zs) (hB : B ≤ g) (hz : zs.length = n) (hc : n + tl.length = cap) (hm : cap ≤ maxLen) : w.ownsRow B 31 1 (.slice (some ⟨g, 0, none⟩) n cap) n (zs.map (Value.int .u64)) :=
  ⟨by simp [hz], .inr ⟨g, cap, _, rfl, hB, h, by omega, hm, by simp [hz, hc], by rw [Nat.mul_one, List.take_append_of_le_length (by simp [hz]), List.take_of_length_le (by simp [hz])]⟩⟩

theorem sort_own (B n : Nat) (v : Value) (ys : List Int) (w : World) (h : w.ownsRow B 31 1 v n (ys.map (Value.int .u64))) (hm : n ≤ 15) :
    Calls Tryz.prog 142 #[v] w fun e w' => e = .returned (.tuple #[]) ∧ (∃ zs : List Int, zs.Perm ys ∧ w'.ownsRow B 31 1 v n (zs.map (Value.int .u64))) ∧ Ex (fun b => v.ownBlock = some b) w w' := by
  by_cases h0 : n = 0
  · subst h0
    obtain ⟨A, cap, rfl, _⟩ := own_sl h
    refine (sort_none A cap w).mono ?_
    rintro e w' ⟨rfl, rfl⟩
    exact ⟨rfl, ⟨ys, List.Perm.refl _, h⟩, Ex.refl _ _⟩
  · obtain ⟨g, cap, tl, rfl, hB, hr, hyn, _, hc, hcap⟩ := own_row h (by omega)
    refine (sort_row g cap n tl ys w hr hyn hm).mono ?_
    rintro e w' ⟨rfl, zs, hp, hr', hx⟩
    exact ⟨rfl, ⟨zs, hp, row_own hr' hB (by rw [hp.length_eq]; exact hyn) hcap hc⟩, hx.to (fun i _ e => by subst e; rfl)⟩

theorem index_any (A : Option Addr) (n cap : Nat) (ys : List Int) (x : Int) (w : World) (h : Sl w 1 A n (ys.map (Value.int .u64))) :
    Calls Tryz.prog 140 #[.slice A n cap, .int .u64 x] w fun e w' => (∃ i : Int, e = .returned (.int .i64 i) ∧ (0 ≤ i ↔ x ∈ ys)) ∧ w' = w := by
  have hln : ys.length = n := by have := h.len; simpa using this
  have hmx := h.small
  go_enter Tryz.func140, Tryz.ntmps140
  go_wp2
  go_loop [8] (fun i => ∃ k : Nat, k ≤ n ∧ i = .int .i64 k ∧ ∀ j, j < k → ys.getD j 0 ≠ x) (fun i => n - (intOf i).toNat)
  case atStart => exact ⟨0, by omega, rfl, fun j h => by omega⟩
  case round =>
    obtain ⟨k, hk, rfl, hne⟩ := hrel
    by_cases hlt : k < n
    · obtain ⟨g, off, rfl, hrow⟩ := h.at_ (by omega)
      have hcell : w.cell? ⟨g, off + k, none⟩ = some (.int .u64 (ys.getD k 0)) := by
        have := hrow k (.int .u64 (ys.getD k 0)) (by simp [List.getD, hln, hlt])
        rwa [Addr.add_lit] at this
      have hki : (k : Int) < (n : Int) := by omega
      have hk0 : (0 : Int) ≤ (k : Int) := by omega
      have hmem : ys.getD k 0 ∈ ys := by
        rw [List.getD_eq_getElem?_getD, List.getElem?_eq_getElem (by omega)]; exact List.getElem_mem _
      have HNE := Lib.hid hne
      have HMEM := Lib.hid hmem
      obtain ⟨y, hy⟩ : ∃ y, y = ys.getD k 0 := ⟨_, rfl⟩
      rw [← hy] at hcell HMEM
      have HY := Lib.hid hy
      clear hne hmem hy hrow
      by_cases hxy : x = y
      · have HXY := Lib.hid hxy
        have hb : (x == y) = true := by simpa using hxy
        clear hxy
        go_wp2
        go_ret
        exact ⟨⟨k, rfl, ⟨fun _ => by rw [HXY.out]; exact HMEM.out, fun _ => by omega⟩⟩, rfl⟩
      · have HXY := Lib.hid hxy
        have hb : (x == y) = false := by simpa using hxy
        clear hxy
        go_wp2
        go_round
        case rel => exact ⟨k + 1, by omega, by go_num, fun j hj => by
          by_cases e : j = k
          · subst e; rw [← HY.out]; exact fun h => HXY.out h.symm
          · exact HNE.out j (by omega)⟩
        case measure => simp [intOf]; omega
    · go_wp2
      go_ret
      refine ⟨⟨-1, rfl, ⟨fun h => by omega, fun hx => ?_⟩⟩, rfl⟩
      obtain ⟨j, hj, e⟩ := List.getElem_of_mem hx
      exact absurd (by simp [List.getD, hj, e]) (hne j (by omega))
theorem contains_any (A : Option Addr) (n cap : Nat) (ys : List Int) (x : Int) (w : World) (h : Sl w 1 A n (ys.map (Value.int .u64))) :
    Calls Tryz.prog 97 #[.slice A n cap, .int .u64 x] w fun e w' => e = .returned (.bool (ys.contains x)) ∧ w' = w := by
  have HI := Lib.hid (index_any A n cap ys x w h)
  clear h
  go_enter Tryz.func97, Tryz.ntmps97
  go_wp2_with fail
  refine HI.out.mono ?_
  rintro e w' ⟨⟨i, rfl, hi⟩, rfl⟩
  have HH := Lib.hid hi
  clear hi
  go_wp2
  go_ret
  exact ⟨ret_bool (by rw [Bool.eq_iff_iff, decide_eq_true_eq, List.contains_iff_mem]; exact HH.out), rfl⟩
end Go.Proofs.YtoglddndicmelaaGreat.So

namespace Go.Proofs.YtoglddndicmelaaGreat.So
open Go.RowKit Go.Proofs.YtoglddndicmelaaGreatB Go.Proofs.YtoglddndicmelaaGreat
set_option maxRecDepth 100000

/-- the same numbers among the first ones -/
def Same (zs : List Int) (k : Nat) (ys : List Int) (m : Nat) : Prop := ∀ v, (∃ i, i < k ∧ yat zs i = v) ↔ (∃ i, i < m ∧ yat ys i = v)
theorem yat_set {zs : List Int} {i : Nat} (hi : i < zs.length) (x : Int) (j : Nat) : yat (zs.set i x) j = if j = i then x else yat zs j := by
  unfold yat
  by_cases e : j = i
  · subst e; simp [List.getD, hi]
  · rw [if_neg e]; simp only [List.getD, List.getElem?_set_ne (fun h => e h.symm)]
theorem Same.skip {zs ys : List Int} {k m : Nat} (h : Same zs k ys m) (hm : 0 < m) (e : yat ys m = yat ys (m - 1)) : Same zs k ys (m + 1) := fun v => by
  rw [h v]
  constructor
  · rintro ⟨i, h1, h2⟩; exact ⟨i, by omega, h2⟩
  · rintro ⟨i, h1, h2⟩
    by_cases hi : i = m
    · subst hi; exact ⟨i - 1, by omega, by rw [← e]; exact h2⟩
    · exact ⟨i, by omega, h2⟩
theorem Same.put {zs ys : List Int} {k m : Nat} (h : Same zs k ys m) (hk : k < zs.length) : Same (zs.set k (yat ys m)) (k + 1) ys (m + 1) := fun v => by
  constructor
  · rintro ⟨i, h1, h2⟩
    rw [yat_set hk] at h2
    by_cases e : i = k
    · rw [if_pos e] at h2; exact ⟨m, by omega, h2⟩
    · rw [if_neg e] at h2
      obtain ⟨j, h3, h4⟩ := (h v).1 ⟨i, by omega, h2⟩
      exact ⟨j, by omega, h4⟩
  · rintro ⟨i, h1, h2⟩
    by_cases e : i = m
    · subst e; exact ⟨k, by omega, by rw [yat_set hk, if_pos rfl]; exact h2⟩
    · obtain ⟨j, h3, h4⟩ := (h v).2 ⟨i, by omega, h2⟩
      exact ⟨j, by omega, by rw [yat_set hk, if_neg (by omega)]; exact h4⟩
theorem Same.mem {zs ys : List Int} {k : Nat} (h : Same zs k ys ys.length) (hk : k ≤ zs.length) (v : Int) : v ∈ zs.take k ↔ v ∈ ys := by
  have a : ∀ (l : List Int) (v : Int), v ∈ l ↔ ∃ i, i < l.length ∧ yat l i = v := fun l v => by
    rw [List.mem_iff_getElem]
    constructor
    · rintro ⟨i, h1, h2⟩; exact ⟨i, h1, by unfold yat; simp [List.getD, h1, h2]⟩
    · rintro ⟨i, h1, h2⟩; refine ⟨i, h1, ?_⟩; unfold yat at h2; simpa [List.getD, h1] using h2
  rw [a, a, ← h v]
  have e : (zs.take k).length = k := by rw [List.length_take]; omega
  rw [e]
  constructor
  · rintro ⟨i, h1, h2⟩; refine ⟨i, h1, ?_⟩; unfold yat at h2 ⊢; simpa [List.getD, List.getElem?_take, h1] using h2
  · rintro ⟨i, h1, h2⟩; refine ⟨i, h1, ?_⟩; unfold yat at h2 ⊢; simpa [List.getD, List.getElem?_take, h1] using h2

/-- what Compact leaves -/
def Cmp (g cap : Nat) (ys : List Int) (w : World) (e : Ending) (w' : World) : Prop := ∃ (k : Nat) (zs : List Int) (tl' : List Value), e = .returned (.slice (some ⟨g, 0, none⟩) k cap) ∧ RowU w' g tl' zs ∧ zs.length = k ∧ k + tl'.length = cap ∧ (∀ v, v ∈ zs ↔ v ∈ ys) ∧ Ex (· = g) w w'
set_option maxHeartbeats 8000000 in
theorem compact_row (g cap n : Nat) (tl : List Value) (ys : List Int) (w : World) (h : RowU w g tl ys) (hn : ys.length = n) (hm : n ≤ 1000) (hcap : n + tl.length = cap) :
    Calls Tryz.prog 143 #[.slice (some ⟨g, 0, none⟩) n cap] w (Cmp g cap ys w) := by
  have HR0 := Lib.hid h
  have HCAP := Lib.hid hcap
  have hzv : ∀ w, (zeroValue 31).run Tryz.prog w = .ok (.int .u64 0) w := fun w => by kernel_rfl
  have hnc : n ≤ cap := by omega
  clear h hcap
  by_cases h2 : n < 2
  · have h2' : (n : Int) < 2 := by omega
    go_enter Tryz.func143, Tryz.ntmps143
    go_wp2
    go_ret
    exact ⟨n, ys, tl, rfl, HR0.out, hn, HCAP.out, fun v => Iff.rfl, Ex.refl _ _⟩
  have h2' : ¬ (n : Int) < 2 := by omega
  go_enter Tryz.func143, Tryz.ntmps143
  go_wp2
  go_loopw [3] (fun i wr => ∃ k : Nat, i = .int .i64 k ∧ 1 ≤ k ∧ k ≤ n ∧ RowU wr g tl ys ∧ Ex (· = g) w wr) (fun i _ => (n - intOf i).toNat)
  case atStart => exact ⟨1, rfl, Nat.le_refl _, by omega, HR0.out, Ex.refl _ _⟩
  case round =>
    obtain ⟨k, rfl, hk1, hkn, hr, hx⟩ := hrel
    have HR := Lib.hid hr
    have HX := Lib.hid hx
    clear hr hx
    by_cases hlt : k < n
    · obtain ⟨q, hq⟩ : ∃ q, q + 1 = k := ⟨k - 1, by omega⟩
      have ek : (k : Int) - 1 = (q : Int) := by omega
      have ekw : IntKind.i64.wrap ((k : Int) - 1) = (q : Int) := by rw [ek, IntKind.wrap_i64]; omega
      have hki : (k : Int) < (n : Int) := by omega
      have hqi : (q : Int) < (n : Int) := by omega
      have hk0 : (0 : Int) ≤ (k : Int) := by omega
      have hq0 : (0 : Int) ≤ (q : Int) := by omega
      have hck := HR.out.cell (i := k) (by omega)
      have hcq := HR.out.cell (i := q) (by omega)
      have HQ := Lib.hid hq
      clear hq
      by_cases heq : yat ys k = yat ys q
      · have heb : (yat ys k == yat ys q) = true := by simpa using heq
        have HEQ := Lib.hid heq
        clear heq
        have hkc : k < cap := by omega
        have hkc2 : ¬ cap = k := by omega
        obtain ⟨m, hm'⟩ : ∃ m, k + m = n := ⟨n - k, by omega⟩
        have en : n - k = m := by omega
        have HM := Lib.hid hm'
        have hmn : m ≤ 1000 := by omega
        have hm0 : 0 < m := by omega
        clear hm'
        go_wp2
        go_quiet (fail)
        go_wp2
        go_loopw [3, 5] (fun x y wr => ∃ (p j : Nat) (zs : List Int), x = .int .i64 p ∧ y = .int .i64 j ∧ 1 ≤ j ∧ j ≤ m ∧ k ≤ p ∧ p + 1 ≤ k + j ∧ zs.length = n ∧ RowU wr g tl zs ∧ (∀ i, k + j ≤ i + 1 → yat zs i = yat ys i) ∧ Same zs p ys (k + j) ∧ Ex (· = g) w wr) (fun _ y _ => (m - intOf y).toNat)
        case atStart => exact ⟨k, 1, ys, rfl, rfl, Nat.le_refl _, by omega, Nat.le_refl _, by omega, hn, HR.out.drew _, fun _ _ => rfl, Same.skip (fun v => Iff.rfl) (by omega) (by rw [HEQ.out]; congr 1; have := HQ.out; omega), HX.out.drewN' _⟩
        case round =>
          obtain ⟨p, j, zs, rfl, rfl, hj1, hjm, hkp, hpj, hz, hr, hsame, hset, hx⟩ := hrel
          have HZ := Lib.hid hz
          have HR2 := Lib.hid hr
          have HX2 := Lib.hid hx
          have HSM := Lib.hid hsame
          have HST := Lib.hid hset
          clear hz hr hx hsame hset hck hcq HR HX
          by_cases hjlt : j < m
          · obtain ⟨q2, hq2⟩ : ∃ q2, q2 + 1 = j := ⟨j - 1, by omega⟩
            have ej : (j : Int) - 1 = (q2 : Int) := by omega
            have ejw : IntKind.i64.wrap ((j : Int) - 1) = (q2 : Int) := by rw [ej, IntKind.wrap_i64]; omega
            have hji : (j : Int) < (m : Int) := by omega
            have hqji : (q2 : Int) < (m : Int) := by omega
            have hj0 : (0 : Int) ≤ (j : Int) := by omega
            have hq20 : (0 : Int) ≤ (q2 : Int) := by omega
            have hpi : (p : Int) < (n : Int) := by have := HM.out; omega
            have hp0 : (0 : Int) ≤ (p : Int) := by omega
            have hc1 := HR2.out.cell (i := k + j) (by rw [HZ.out]; have := HM.out; omega)
            have hc2 := HR2.out.cell (i := k + q2) (by rw [HZ.out]; have := HM.out; omega)
            have hcp := HR2.out.cell (i := p) (by rw [HZ.out]; have := HM.out; omega)
            have hfp := HR2.out.frozen p
            have e1 := HSM.out (k + j) (by omega)
            have e2 := HSM.out (k + q2) (by omega)
            rw [e1] at hc1
            rw [e2] at hc2
            have HQ2 := Lib.hid hq2
            clear hq2 e1 e2
            by_cases hne : yat ys (k + j) = yat ys (k + q2)
            · have hneb : (yat ys (k + j) != yat ys (k + q2)) = false := by simpa using hne
              have HNE := Lib.hid hne
              clear hne
              go_wp2
              go_quiet (fail)
              go_wp2
              go_roundw
              case rel => exact ⟨p, j + 1, zs, rfl, by go_num, by omega, by omega, hkp, by omega, HZ.out, HR2.out.drew _, fun i hi => HSM.out i (by omega), HST.out.skip (by omega) (by rw [HNE.out]; congr 1; have := HQ2.out; omega), HX2.out.drewN' _⟩
              case measure => simp [intOf]; omega
            · have hneb : (yat ys (k + j) != yat ys (k + q2)) = true := by simpa using hne
              clear hne
              go_wp2
              go_quiet (fail)
              go_wp2
              go_roundw
              case rel => exact ⟨p + 1, j + 1, zs.set p (yat ys (k + j)), by go_num, by go_num, by omega, by omega, by omega, by omega, by rw [List.length_set]; exact HZ.out, (HR2.out.drew _).set (by rw [HZ.out]; have := HM.out; omega) _, fun i hi => by rw [yat_set (by rw [HZ.out]; have := HM.out; omega), if_neg (by omega)]; exact HSM.out i (by omega), HST.out.put (by rw [HZ.out]; have := HM.out; omega), (HX2.out.drewN' _).trans (Ex.setCell _ _ _) (fun _ _ h => h) (fun _ _ h => h)⟩
              case measure => simp [intOf]; omega
          · have hjm2 : ¬ (j : Int) < (m : Int) := by omega
            have hpn : p < n := by have := HM.out; omega
            have hpi : (p : Int) ≤ (n : Int) := by omega
            have hp0 : (0 : Int) ≤ (p : Int) := by omega
            have hpc : p < cap := by omega
            have hpc2 : ¬ cap = p := by omega
            have hpcI : (p : Int) ≤ (cap : Int) := by omega
            have HB : Hid (wr.heap[g]? = some (.cells (zs.map (Value.int .u64) ++ tl).toArray 31 (0, 0))) := HR2.out
            have HLEN : Hid ((zs.map (Value.int .u64) ++ tl).toArray.size = cap) := by show _ = _; simp [HZ.out, HCAP.out]
            have HTK : Hid ((zs.map (Value.int .u64) ++ tl).toArray.toList.take p = (zs.take p).map (Value.int .u64)) := by
              show _ = _
              rw [List.take_append_of_le_length (by rw [List.length_map, HZ.out]; omega), List.map_take]
            go_wp2_with (refine wpList_clear_row rfl (.tmp 56) 33 rfl 31 (.int .u64 0) Tryz.underlying33 hzv (by simp [Value.cells, Value.oneCell']) (by decide) g p (n - p) (cap - p) rfl (zs.map (Value.int .u64) ++ tl).toArray HB.out (by omega) (by rw [HLEN.out]; show p + (n - p) * 1 ≤ cap; omega) ?_)
            rw [HTK.out]
            go_ret
            refine ⟨p, zs.take p, (Builtin.zeroCells (Value.int .u64 0).cells (n - p)).toList ++ (zs.map (Value.int .u64) ++ tl).toArray.toList.drop (p + (n - p) * (Value.int .u64 0).cells.size), rfl, ?_, by rw [List.length_take, HZ.out]; omega, ?_, ?_, HX2.out.trans (ex_setRow _ _ _) (fun _ _ h => h) (fun _ _ h => h)⟩
            · unfold RowU
              rw [setRow_heap _ _ _ _ _ _ HB.out]
              simp [Value.cells]
            · have h1 := HLEN.out
              rw [List.length_append, zeroCells_list, List.length_drop]
              rw [List.size_toArray] at h1
              show p + ((n - p) * 1 + ((zs.map (Value.int .u64) ++ tl).length - (p + (n - p) * 1))) = cap
              rw [h1]; omega
            · intro v
              have hs := HST.out
              have e : k + j = ys.length := by rw [hn]; have := HM.out; omega
              rw [e] at hs
              exact hs.mem (by rw [HZ.out]; omega) v
      · have heb : (yat ys k == yat ys q) = false := by simpa using heq
        clear heq
        go_wp2
        go_quiet (fail)
        go_wp2
        go_roundw
        case rel => exact ⟨k + 1, by go_num, by omega, by omega, HR.out.drew _, HX.out.drewN' _⟩
        case measure => simp [intOf]; omega
    · go_wp2
      go_ret
      exact ⟨n, ys, tl, rfl, HR.out, hn, HCAP.out, fun v => Iff.rfl, HX.out⟩

theorem compact_own (B n : Nat) (v : Value) (ys : List Int) (w : World) (h : w.ownsRow B 31 1 v n (ys.map (Value.int .u64))) (hm : n ≤ 1000) :
    Calls Tryz.prog 143 #[v] w fun e w' => ∃ (v' : Value) (k : Nat) (zs : List Int), e = .returned v' ∧ w'.ownsRow B 31 1 v' k (zs.map (Value.int .u64)) ∧ (∀ x, x ∈ zs ↔ x ∈ ys) ∧ Ex (fun b => v.ownBlock = some b) w w' := by
  by_cases h0 : n = 0
  · subst h0
    have hys : ys = [] := by
      have := h.1
      simp at this
      exact this
    obtain ⟨A, cap, rfl, _⟩ := own_sl h
    have HO := Lib.hid h
    clear h
    go_enter Tryz.func143, Tryz.ntmps143
    go_wp2
    go_ret
    exact ⟨_, 0, ys, rfl, HO.out, fun _ => Iff.rfl, Ex.refl _ _⟩
  · obtain ⟨g, cap, tl, rfl, hB, hr, hyn, _, hc, hcap⟩ := own_row h (by omega)
    refine (compact_row g cap n tl ys w hr hyn hm hcap).mono ?_
    rintro e w' ⟨k, zs, tl', rfl, hr', hz, hk, hmem, hx⟩
    exact ⟨_, k, zs, rfl, row_own hr' hB hz hk hc, hmem, hx.to (fun i _ e => by subst e; rfl)⟩
end Go.Proofs.YtoglddndicmelaaGreat.So
