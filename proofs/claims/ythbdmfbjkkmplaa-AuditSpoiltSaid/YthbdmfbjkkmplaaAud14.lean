/- Contracts of layer 61: the document's Pad. Contracts of layer 61: the document's Sum. Contracts of layer 61: the document's first and Chain. -/
import Derived.Test.YthbdmfbjkkmplaaAud12
import Derived.Test.YthbdmfbjkkmplaaAud13
import Derived.Test.YthbdmfbjkkmplaaB9
import Derived.Test.YthbdmfbjkkmplaaAud6
namespace Go.Proofs.Ythbdmfbjkkmplaa
open Go.RowKit Go.Proofs.YthbdmfbjkkmplaaB Go.Proofs.Ythbdmfbjkkmplaa.Sha

theorem u8s_snoc (a : List Nat) (x : Nat) : u8s a ++ [.int .u8 x] = u8s (a ++ [x]) := by simp [u8s]
def rpad (b : List Nat) (j : Nat) : List Nat := b ++ 128 :: List.replicate j 0
def rlen (b : List Nat) (i : Nat) : List Nat := b ++ 128 :: (List.replicate (padN b.length) 0 ++ (lenB b.length).take i)
theorem rpad_succ (b : List Nat) (j : Nat) : rpad b (j + 1) = rpad b j ++ [0] := by simp [rpad, List.replicate_succ']
theorem rpad_0 (b : List Nat) : rpad b 0 = b ++ [128] := rfl
theorem rlen_0 (b : List Nat) : rlen b 0 = rpad b (padN b.length) := by simp [rlen, rpad]
theorem rlen_8 (b : List Nat) : rlen b 8 = pad b := by simp [rlen, pad, List.take_of_length_le (Nat.le_of_eq (lenB_len b.length))]
theorem rlen_succ (b : List Nat) {i : Nat} (hi : i < 8) : rlen b (i + 1) = rlen b i ++ [b.length * 8 / 256 ^ (7 - i) % 256] := by
  unfold rlen
  rw [List.take_succ_eq_append_getElem (by rw [lenB_len]; exact hi)]
  simp [lenB]
theorem padN_stop {n j : Nat} (hj : j < padN n) : (n + 1 + j) % 64 ≠ 56 := by unfold padN at hj; omega
theorem padN_at (n : Nat) : (n + 1 + padN n) % 64 = 56 := by unfold padN; omega
theorem padN_lt (n : Nat) : padN n < 64 := by unfold padN; omega

set_option maxRecDepth 100000 in
set_option maxHeartbeats 1000000 in
theorem rpad_any (A : Option Addr) (cap : Nat) (b : List Nat) (hL : b.length ≤ 1000000000) (w : World) (hs : Sl w 1 A b.length (u8s b)) (hnil : A = none → cap = 0) :
    Calls Try.prog 55 #[.slice A b.length cap] w fun e w' => ∃ v, e = .returned v ∧ w'.ownsRow w.heap.size 5 1 v (pad b).length (u8s (pad b)) ∧ Ex0 w w' := by
  obtain ⟨i0, hi0, hz0, hz1, hz2⟩ := info_parts infoU8
  obtain ⟨L, hLe⟩ : ∃ L, L = b.length := ⟨_, rfl⟩
  rw [← hLe] at hL hs ⊢
  have HS := Lib.hid hs
  have HN := Lib.hid hnil
  have HLE := Lib.hid hLe
  clear hs hnil hLe
  go_enter Try.func55, Try.ntmps55
  go_wp2_with (first | (refine wpList_append_sl rfl (.tmp 8) (.tmp 9) 58 rfl _ 5 i0 _ 1 1 Try.underlying58 hi0 hz0 hz1 hz2 rfl (by decide) _ _ _ rfl (own_empty (heap_alloc_new w _) w.heap.size (Nat.le_refl _)) A L cap (u8s b) rfl (HS.out.ex0 (Ex.alloc _ _)) HN.out (u8s_one _) (by unfold maxLen; omega) (by omega) (by simp) ?_; intro v1 w1 ho1 hg1 hb1; rw [Nat.zero_add, List.nil_append] at ho1; have HO1 := Lib.hid ho1; have HX1 : Hid (Ex0 w w1) := ex_of_new (Ex.alloc _ _) hg1 (fun b hb => by cases hb; exact Nat.le_refl _); clear ho1 hg1 hb1) | (refine wpList_append_sl rfl (.tmp 10) (.tmp 11) 58 rfl _ 5 i0 _ 1 1 Try.underlying58 hi0 hz0 hz1 hz2 rfl (by decide) _ _ _ rfl (own_ex HO1.out (Ex.alloc w1 (.cells #[.int .u8 128] 5)) (fun _ _ => id)) (some ⟨w1.heap.size, 0, none⟩) 1 1 [.int .u8 128] rfl (sl_block (heap_alloc_new w1 (.cells #[.int .u8 128] 5)) rfl (by decide)) (fun h => by cases h) (by simp [Value.oneCell']) (by unfold maxLen; omega) (by omega) (by have := HX1.out.size; simp; omega) ?_; intro v2 w2 ho2 hg2 hb2))
  obtain ⟨A2, c2, rfl⟩ := ownsRow_succ ho2
  have HO2 := Lib.hid ho2
  have HX2 : Hid (Ex0 w w2) := ex_of_new (HX1.out.alloc' _) hg2 (fun b hb => (HO1.out.lt b hb).1)
  clear ho2 hg2 hb2
  go_loopw [3] (fun v wr => ∃ j m A2 c2 : Nat, j ≤ padN L ∧ m = L + 1 + j ∧ v = .slice (some ⟨A2, 0, none⟩) m c2 ∧ wr.ownsRow w.heap.size 5 1 v m (u8s (rpad b j)) ∧ Ex0 w wr) (fun v _ => L + 1 + padN L - slLen v)
  case atStart =>
    refine ⟨0, L + 1, A2, c2, by omega, by omega, by simp, ?_, HX2.out⟩
    have := HO2.out
    simpa [u8s, rpad] using this
  case round =>
    obtain ⟨j, m, A2, c2, hj, hm, rfl, ho, hx⟩ := hrel
    have HO := Lib.hid ho
    have HX := Lib.hid hx
    have HM := Lib.hid hm
    have hpl := padN_lt L
    have hmb : m ≤ 1000000066 := by omega
    clear ho hx hm
    by_cases hlt : j < padN L
    · have hne : ¬ (m : Int) % 64 = 56 := by have := padN_stop hlt; have := HM.out; omega
      clear hpl
      go_wp2_with (refine wpList_append_sl rfl (.tmp 17) (.tmp 18) 58 rfl _ 5 i0 _ 1 1 Try.underlying58 hi0 hz0 hz1 hz2 rfl (by decide) _ _ _ rfl (own_ex HO.out (Ex.alloc wr (.cells #[.int .u8 0] 5)) (fun _ _ => id)) (some ⟨wr.heap.size, 0, none⟩) 1 1 [.int .u8 0] rfl (sl_block (heap_alloc_new wr (.cells #[.int .u8 0] 5)) rfl (by decide)) (fun h => by cases h) (by simp [Value.oneCell']) (by unfold maxLen; omega) (by omega) (by have := HX.out.size; simp; omega) ?_; intro v3 w3 ho3 hg3 hb3; obtain ⟨A3, c3, rfl⟩ := ownsRow_succ ho3; have HO3 := Lib.hid ho3; have HX3 : Hid (Ex0 w w3) := ex_of_new (HX.out.alloc' _) hg3 (fun b hb => (HO.out.lt b hb).1); clear ho3 hg3 hb3)
      go_roundw
      case rel =>
        refine ⟨j + 1, m + 1, A3, c3, by omega, by have := HM.out; omega, rfl, ?_, HX3.out⟩
        rw [rpad_succ, u8s_append]; exact HO3.out
      case measure => simp [slLen]; have := HM.out; omega
    · have hjp : j = padN L := by omega
      have heq : (m : Int) % 64 = 56 := by have := padN_at L; have := HM.out; omega
      have HO4 : Hid (wr.ownsRow w.heap.size 5 1 (.slice (some ⟨A2, 0, none⟩) m c2) m (u8s (rlen b 0))) := by
        have := HO.out
        rw [hjp] at this
        show World.ownsRow _ _ _ _ _ _ _
        rw [rlen_0, ← HLE.out]; exact this
      have HM2 : Hid (m = L + 1 + padN L) := by rw [← hjp]; exact HM.out
      clear HO HM hjp hpl hlt hj
      go_wp2_with fail
      go_loopw [3, 5, 6, 7] (fun v i _ _ w2 => ∃ k n A2 c2 : Nat, k ≤ 8 ∧ i = .int .i64 k ∧ n = m + k ∧ v = .slice (some ⟨A2, 0, none⟩) n c2 ∧ w2.ownsRow w.heap.size 5 1 v n (u8s (rlen b k)) ∧ Ex0 w w2) (fun _ i _ _ _ => 8 - (intOf i).toNat)
      case atStart => exact ⟨0, m, A2, c2, by omega, rfl, rfl, rfl, HO4.out, HX.out⟩
      case round =>
        obtain ⟨k, n, A3, c3, hk, rfl, hn, rfl, ho, hx⟩ := hrel
        have HOk := Lib.hid ho
        have HXk := Lib.hid hx
        have HNk := Lib.hid hn
        have hnb : n ≤ 1000000074 := by omega
        clear ho hx hn heq HO4 HX
        by_cases hlt : k < 8
        · have ik : (k : Int) < 8 := by omega
          go_wp2_with fail
          go_loopw [6, 7] (fun d i w3 => ∃ q : Nat, k ≤ q ∧ q ≤ 7 ∧ i = .int .i64 q ∧ d = .int .u64 ((256 ^ (q - k) : Nat) : Int) ∧ w3 = wr) (fun _ i _ => 7 - (intOf i).toNat)
          case atStart => exact ⟨k, by omega, by omega, rfl, by simp, rfl⟩
          case round =>
            obtain ⟨q, hkq, hq, rfl, rfl, rfl⟩ := hrel
            by_cases hq7 : q < 7
            · have iq : (q : Int) < 7 := by omega
              obtain ⟨d, hd⟩ : ∃ d, d = 256 ^ (q - k) := ⟨_, rfl⟩
              have hdb : d ≤ 281474976710656 := by rw [hd]; exact Nat.pow_le_pow_right (n := 256) (by decide) (by omega : q - k ≤ 6)
              have hd2 : d * 256 = 256 ^ (q + 1 - k) := by rw [hd, ← Nat.pow_succ]; congr 1; omega
              rw [← hd]
              have HD2 := Lib.hid hd2
              clear hd hd2
              go_wp2
              go_roundw
              case rel => exact ⟨q + 1, by omega, by omega, by go_num, by rw [← HD2.out]; go_num, by trivial⟩
              case measure => simp [intOf]; omega
            · have iq : ¬ (q : Int) < 7 := by omega
              obtain rfl : q = 7 := by omega
              obtain ⟨d, hd⟩ : ∃ d, d = 256 ^ (7 - k) := ⟨_, rfl⟩
              have hdb : d ≤ 72057594037927936 := by rw [hd]; exact Nat.pow_le_pow_right (n := 256) (by decide) (by omega : 7 - k ≤ 7)
              have hdp : 0 < d := by rw [hd]; exact Nat.pow_pos (by decide)
              rw [← hd]
              obtain ⟨y, hy⟩ : ∃ y, y = L * 8 / d % 256 := ⟨_, rfl⟩
              have hy2 : (L : Int) * 8 / (d : Int) % 256 = (y : Int) := by rw [hy]; simp
              have hyb : y < 256 := by rw [hy]; exact Nat.mod_lt _ (by decide)
              have HS2 : Hid (rlen b (k + 1) = rlen b k ++ [y]) := by
                show _ = _
                rw [rlen_succ b hlt, hy, hd, ← HLE.out]
              have hq0 : 0 ≤ (L : Int) * 8 / (d : Int) := by exact_mod_cast Nat.zero_le (L * 8 / d)
              clear hy hd
              go_wp2_with (refine wpList_append_sl rfl (.tmp 35) (.tmp 41) 58 rfl _ 5 i0 _ 1 1 Try.underlying58 hi0 hz0 hz1 hz2 rfl (by decide) _ _ _ rfl (own_ex HOk.out (Ex.alloc wr (.cells #[.int .u8 y] 5)) (fun _ _ => id)) (some ⟨wr.heap.size, 0, none⟩) 1 1 [.int .u8 y] rfl (sl_block (heap_alloc_new wr (.cells #[.int .u8 y] 5)) rfl (by decide)) (fun h => by cases h) (by simp [Value.oneCell']) (by unfold maxLen; omega) (by omega) (by have := HXk.out.size; simp; omega) ?_; intro v3 w3 ho3 hg3 hb3; obtain ⟨A4, c4, rfl⟩ := ownsRow_succ ho3; have HO3 := Lib.hid ho3; have HX3 : Hid (Ex0 w w3) := ex_of_new (HXk.out.alloc' _) hg3 (fun b hb => (HOk.out.lt b hb).1); clear ho3 hg3 hb3)
              go_roundw
              case rel =>
                refine ⟨k + 1, n + 1, A4, c4, by omega, by go_num, by have := HNk.out; omega, rfl, ?_, HX3.out⟩
                rw [HS2.out, u8s_append]; exact HO3.out
              case measure => simp [intOf]; omega
        · have ik : ¬ (k : Int) < 8 := by omega
          go_wp2
          go_ret
          refine ⟨_, rfl, ?_, HXk.out⟩
          have := HOk.out
          rw [show k = 8 by omega, rlen_8] at this
          rw [pad_len, ← HLE.out]
          have e : n = L + 9 + padN L := by have := HNk.out; have := HM2.out; omega
          rw [← e]; exact this
end Go.Proofs.Ythbdmfbjkkmplaa

namespace Go.Proofs.Ythbdmfbjkkmplaa
open Go.RowKit Go.Proofs.YthbdmfbjkkmplaaB Go.Proofs.Ythbdmfbjkkmplaa.Sha

/-- the bytes that are laid: the first words whole, of the next one the last m bytes -/
def outP (h : List Nat) (i m : Nat) : List Nat := (outB h).take (4 * i) ++ (List.replicate (4 - m) 0 ++ ((outB h).drop (4 * i + 4 - m)).take m) ++ List.replicate (28 - 4 * i) 0
theorem outP_len (h : List Nat) {i m : Nat} (hi : i < 8) (hm : m ≤ 4) : (outP h i m).length = 32 := by simp [outP, outB_len]; omega
theorem outP_0 (h : List Nat) {i : Nat} (hi : i < 8) : outP h i 0 = outK h (4 * i) := by
  simp only [outP, outK, List.take_zero, List.append_nil, Nat.sub_zero, List.append_assoc, List.replicate_append_replicate]
  congr 2; omega
theorem outB_get (h : List Nat) {j : Nat} (hj : j < 32) : (outB h)[j]? = some (h.getD (j / 4) 0 / 256 ^ (3 - j % 4) % 256) := by simp [outB, hj]
theorem outP_set (h : List Nat) {i m : Nat} (hi : i < 8) (hm : m < 4) : (outP h i m).set (4 * i + (3 - m)) (h.getD i 0 / 256 ^ m % 256) = outP h i (m + 1) := by
  apply List.ext_getElem?
  intro j
  rw [List.getElem?_set]
  have hl := outB_len h
  unfold outP
  by_cases hj : j < 32
  · by_cases h1 : j < 4 * i
    · rw [if_neg (by omega), List.getElem?_append_left (by simp [hl]; omega), List.getElem?_append_left (by simp [hl]; omega), List.getElem?_append_left (by simp [hl]; omega), List.getElem?_append_left (by simp [hl]; omega)]
    · by_cases h2 : j < 4 * i + 4
      · have ho := outB_get h hj
        obtain ⟨c, rfl⟩ : ∃ c, j = 4 * i + c := ⟨j - 4 * i, by omega⟩
        have hc : c < 4 := by omega
        rw [show (4 * i + c) / 4 = i by omega, show (4 * i + c) % 4 = c by omega] at ho
        have e : ∀ m', m' ≤ 4 → ((List.take (4 * i) (outB h) ++ (List.replicate (4 - m') 0 ++ List.take m' (List.drop (4 * i + 4 - m') (outB h))) ++ List.replicate (28 - 4 * i) 0))[4 * i + c]? = if c < 4 - m' then some 0 else (outB h)[4 * i + c]? := by
          intro m' hm'
          rw [List.getElem?_append_left (by simp [hl]; omega), List.getElem?_append_right (by simp [hl]; omega)]
          simp only [List.length_take, hl, show min (4 * i) 32 = 4 * i by omega, Nat.add_sub_cancel_left]
          by_cases h3 : c < 4 - m'
          · rw [if_pos h3, List.getElem?_append_left (by simpa using h3)]; simp [h3]
          · rw [if_neg h3, List.getElem?_append_right (by simp; omega)]
            simp only [List.length_replicate, List.getElem?_take, List.getElem?_drop]
            rw [if_pos (by omega)]
            congr 1; omega
        rw [e m (by omega), e (m + 1) (by omega)]
        by_cases h3 : c = 3 - m
        · rw [if_pos (by omega), if_pos (by simp [hl]; omega), if_neg (by omega), ho, show 3 - c = m by omega]
        · rw [if_neg (by omega)]
          by_cases h4 : c < 4 - (m + 1)
          · rw [if_pos (by omega), if_pos h4]
          · rw [if_neg (by omega), if_neg h4]
      · rw [if_neg (by omega), List.getElem?_append_right (by simp [hl]; omega), List.getElem?_append_right (by simp [hl]; omega)]
        congr 1
        simp only [List.length_append, List.length_take, List.length_replicate, List.length_drop, hl]
        omega
  · rw [if_neg (by omega), List.getElem?_eq_none (by simp [hl]; omega), List.getElem?_eq_none (by simp [hl]; omega)]
theorem outP_4 (h : List Nat) {i : Nat} (hi : i < 8) : outP h i 4 = outK h (4 * (i + 1)) := by
  simp only [outP, outK, Nat.sub_self, List.replicate_zero, List.nil_append]
  rw [show 4 * i + 4 - 4 = 4 * i by omega, ← List.take_add, show 4 * i + 4 = 4 * (i + 1) by omega, show 28 - 4 * i = 32 - 4 * (i + 1) by omega]

theorem splice_all (cur new : List Nat) (h : cur.length = new.length) : splice (u8s cur) 0 (u8s new) = u8s new := by
  simp [splice, u8s, h]

set_option maxRecDepth 100000 in
set_option maxHeartbeats 4000000 in
theorem rsum_any (A : Option Addr) (cap : Nat) (b : List Nat) (hb : ∀ x ∈ b, x < 256) (hL : b.length ≤ 1000000000) (w : World) (hs : Sl w 1 A b.length (u8s b)) (hnil : A = none → cap = 0) :
    Calls Try.prog 42 #[.slice A b.length cap] w fun e w' => e = .returned (.agg (u8s (sum b)).toArray) ∧ Ex0 w w' := by
  have HS := Lib.hid hs
  have HB := Lib.hid hb
  have HNIL := Lib.hid hnil
  clear hs hb hnil
  obtain ⟨L, hLe⟩ : ∃ L, L = b.length := ⟨_, rfl⟩
  rw [← hLe]
  have HLE := Lib.hid hLe
  rw [← hLe] at hL HS
  clear hLe
  have HZ64 : Hid (∀ v ∈ (u8s (List.replicate 64 0)).toArray, v.oneCell' = true) := by show ∀ v ∈ _, _; simpa using u8s_one (List.replicate 64 0)
  have HZ32 : Hid (∀ v ∈ (u8s (List.replicate 32 0)).toArray, v.oneCell' = true) := by show ∀ v ∈ _, _; simpa using u8s_one (List.replicate 32 0)
  go_enter Try.func42, Try.ntmps42
  iterate 6 go_step
  generalize hW : World.alloc w _ = W
  have h2 : W8 W w.heap.size 77 (List.replicate 32 0) := by rw [← hW]; exact heap_alloc_new w _
  have hx : Ex0 w W := by rw [← hW]; exact Ex.alloc _ _
  obtain ⟨b2, e2⟩ : ∃ b, b = w.heap.size := ⟨_, rfl⟩
  rw [← e2] at h2 ⊢
  have E2 := Lib.hid e2
  have H2 := Lib.hid h2
  have HX := Lib.hid hx
  clear hW e2 h2 hx
  obtain ⟨FA, hFA⟩ : ∃ FA, FA = (u32s h0).toArray := ⟨_, rfl⟩
  have hFs : FA.size = 8 := by rw [hFA]; rfl
  have hF1 : Hid (∀ v ∈ FA, v.oneCell' = true) := by show ∀ v ∈ FA, _; rw [hFA]; simpa using u32s_one h0
  have HFA := Lib.hid hFA
  clear hFA
  go_wp2_with (first | (refine (rfirst _).mono ?_; rintro e w1 ⟨rfl, hx1⟩; rw [← HFA.out]; have HX1 := Lib.hid hx1; clear hx1) | refine wpList_store_all rfl 85 (.tmp 3) (.tmp 11) rfl w1.heap.size rfl FA _ rfl 85 (heap_alloc_new _ _) (by rw [hFs]; rfl) hF1.out (by rw [hFs]; kernel_rfl) ?_)
  rw [World.setRow_alloc_new]
  have hx3 : Ex0 W (w1.alloc (.cells FA 85)) := HX1.out.alloc' _
  have h3 : W32 (w1.alloc (.cells FA 85)) w1.heap.size 85 (hashN (pad b) 0) := by show _ = _; rw [heap_alloc_new, HFA.out]; rfl
  obtain ⟨b3, e3⟩ : ∃ b, b = w1.heap.size := ⟨_, rfl⟩
  rw [← e3] at h3 ⊢
  have HE3 := Lib.hid e3
  clear e3
  rw [HLE.out]
  have hL2 := hL
  rw [HLE.out] at hL2
  refine (rpad_any A cap b hL2 _ ((HLE.out ▸ HS.out : Sl w 1 A b.length (u8s b)).ex0 (HX.out.trans0 hx3)) HNIL.out).mono ?_
  rintro e w2 ⟨v, rfl, ho, hx2⟩
  obtain ⟨N, hN⟩ : ∃ N, N = (pad b).length := ⟨_, rfl⟩
  rw [← hN] at ho
  have hN0 : 0 < N := by have := pad_len b; omega
  have hns : ∃ g cp, v = .slice (some ⟨g, 0, none⟩) N cp ∧ b3 < g ∧ N ≤ cp := by
    rcases ho.2 with ⟨rfl, h⟩ | ⟨g, cp, cur, rfl, hb, hgg, hn, hc, hs, ht⟩
    · have h1 := ho.1; rw [h] at h1; simp at h1; omega
    · exact ⟨g, cp, rfl, by simp at hb; have := HE3.out; omega, by omega⟩
  obtain ⟨g, cp, rfl, hg, hcp⟩ := hns
  obtain ⟨A4, cp', he4, hsl, hob, hnl⟩ := own_sl' ho
  cases he4
  obtain ⟨M, hM⟩ : ∃ M, M = N / 64 := ⟨_, rfl⟩
  have hNM : N = 64 * M := by have := pad_mod b; omega
  have hNL : N ≤ L + 72 := by have := pad_len b; unfold padN at this; rw [hN, this, HLE.out]; omega
  rw [← HLE.out]
  have hra : RowAt w2 ⟨g, 0, none⟩ (u8s (pad b)) := by
    obtain ⟨g', off, he, hr⟩ := hsl.at_ hN0
    cases he; exact hr
  have HRA := Lib.hid hra
  have HGL : Hid (g < w2.heap.size) := (ho.lt g rfl).2
  have HN := Lib.hid hN
  have HM := Lib.hid (show (pad b).length / 64 = M by rw [← hN, hM])
  have HG := Lib.hid hg
  have H3 := Lib.hid (h3.ex hx2 not_false)
  have HX2 := Lib.hid (hx3.trans0 hx2)
  have HNM := Lib.hid hNM
  clear hx3 h3 hL2 hN hM hsl hob hnl ho hx2 hg hNM hra hN0
  go_wp2_with fail
  go_loopw [5, 6] (fun t _ wr => ∃ j m : Nat, j ≤ M ∧ m = 64 * j ∧ t = .int .i64 m ∧ W32 wr b3 85 (hashN (pad b) j) ∧ Ex (· = b3) w2 wr) (fun t _ _ => N - (intOf t).toNat)
  case atStart => exact ⟨0, 0, by omega, rfl, rfl, H3.out, Ex.refl _ _⟩
  case round =>
    obtain ⟨j, m, hj, hm, rfl, hw, hx⟩ := hrel
    have HW := Lib.hid hw
    have HXR := Lib.hid hx
    have HMJ := Lib.hid hm
    have HJ := Lib.hid hj
    clear hw hx
    by_cases hlt : m < N
    · have hNM := HNM.out
      have hmN : m + 64 ≤ N := by omega
      have HJM : Hid (j < M) := by show j < M; omega
      clear hm hNM hj
      have HG2 : Hid (g < wr.heap.size) := Nat.lt_of_lt_of_le HGL.out HXR.out.size
      have imN : (m : Int) < (N : Int) := by omega
      obtain ⟨BA, hBA⟩ : ∃ BA, BA = ((pad b).drop m).take 64 := ⟨_, rfl⟩
      have hbl2 : BA.length = 64 := by rw [hBA, List.length_take, List.length_drop, ← HN.out]; omega
      have rg : RowAt wr ⟨g, m, none⟩ (u8s BA) := by
        intro i u hu
        have hi : i < 64 := by
          rcases Nat.lt_or_ge i 64 with h | h
          · exact h
          · rw [List.getElem?_eq_none (by rw [u8s_len, hbl2]; exact h)] at hu; cases hu
        have hu2 : (u8s (pad b))[m + i]? = some u := by
          rw [hBA, u8s_take, u8s_drop, List.getElem?_take, if_pos hi, List.getElem?_drop] at hu; exact hu
        have := HRA.out (m + i) u hu2
        rw [Addr.add_lit] at this ⊢
        rw [Nat.zero_add] at this
        exact HXR.out.cellS this (by have := HG.out; show ¬ g = b3; omega)
      have HBA := Lib.hid hBA
      have HBL := Lib.hid hbl2
      have HRG := Lib.hid rg
      clear hBA hbl2 rg
      have hmb : m ≤ 1000000072 := by omega
      have vm : IntKind.i64.wrap ((m : Int) + 64) = (m : Int) + 64 := by rw [IntKind.wrap_i64]; omega
      go_wp2_with (refine wpList_store_all rfl 89 (.tmp 6) (.tmp 20) rfl wr.heap.size rfl (u8s (List.replicate 64 0)).toArray _ rfl 89 (heap_alloc_new _ _) (by rfl) HZ64.out (by kernel_rfl) ?_)
      rw [World.setRow_alloc_new]
      generalize hW5 : World.alloc wr _ = W5
      have q6 : W8 W5 wr.heap.size 89 (List.replicate 64 0) := by rw [← hW5]; exact heap_alloc_new wr _
      have x6 : Ex0 wr W5 := by rw [← hW5]; exact Ex.alloc _ _
      obtain ⟨b6, e6⟩ : ∃ b, b = wr.heap.size := ⟨_, rfl⟩
      rw [← e6] at q6 ⊢
      have E6 := Lib.hid e6
      have Q6 := Lib.hid q6
      have X6 := Lib.hid x6
      have hfz := q6.frozen
      have HFZ := Lib.hid hfz
      clear hW5 e6 q6 x6 hfz
      have hsl6 : ∀ w', (Instr.sliceAt 89 (.pointer (some ⟨b6, 0, none⟩)) none none none).run Try.prog w' = .ok (.slice (some ⟨b6, 0, none⟩) 64 64) w' :=
        run_sliceAt_whole (P := Try.prog) Try.underlying89 (by kernel_rfl) b6 0 (by decide)
      have hslp : ∀ w', (Instr.sliceAt 58 (.slice (some ⟨g, 0, none⟩) N cp) (some (.int .i64 m)) (some (.int .i64 ((m : Int) + 64))) none).run Try.prog w' = .ok (.slice (some ⟨g, m, none⟩) 64 (cp - m)) w' := fun w' => by
        have := run_sliceAt_mid (P := Try.prog) (sz := 1) Try.underlying58 (by kernel_rfl) (some ⟨g, 0, none⟩) N cp m (m + 64) (by omega) (by omega) w'
        rw [if_neg (by omega), Nat.add_sub_cancel_left] at this
        simpa [Addr.add_lit] using this
      go_still_tail 6, (by kernel_rfl)
      change wpList _ _ _ _ _ W5.drew
      have hdr : Ex0 W5 W5.drew := Ex.drew _
      have hx5 : Ex0 wr W5.drew := X6.out.drew'
      have Q6d := Q6.out.ex hdr not_false
      have HRGd : RowAt W5.drew ⟨g, m, none⟩ (u8s BA) := fun j u hu => hx5.cellS (HRG.out j u hu) not_false
      refine wpList_copy_splice rfl (.tmp 21) (.tmp 26) 58 58 rfl 5 Try.underlying58 (by kernel_rfl) (some ⟨b6, 0, none⟩) (some ⟨g, m, none⟩) 64 64 64 (cp - m) rfl rfl b6 0 (u8s (List.replicate 64 0)) 89 Q6d (u8s BA) (by rw [u8s_len, HBL.out]; rfl) (fun _ => ⟨rfl, ⟨_, rfl, HRGd⟩⟩) (by rw [u8s_len, u8s_len, HBL.out]; simp) (u8s_one BA) b6 wr (by rw [E6.out]; exact hx5.below (Nat.le_refl _) (fun _ h => h.elim)) (Nat.le_refl _) ?_
      intro w7 hg7 hb7
      have HX7 : Hid (Ex0 wr w7) := by rw [E6.out] at hb7; exact Ex.ofBelow hb7
      have h7 : W8 w7 b6 89 BA := by
        have := hg7.out
        rw [splice_all _ _ (by rw [HBL.out]; simp)] at this
        exact this
      have HB7 := Lib.hid h7
      have HB3 := Lib.hid (HW.out.ex HX7.out not_false)
      have hhl := hashN_len (pad b) j
      obtain ⟨HA, hHA⟩ : ∃ A, A = (u32s (hashN (pad b) j)).toArray := ⟨_, rfl⟩
      obtain ⟨BV, hBV⟩ : ∃ A, A = (u8s BA).toArray := ⟨_, rfl⟩
      have hHs : HA.size = 8 := by rw [hHA]; simpa [u32s_len] using hhl
      have hBs : BV.size = 64 := by rw [hBV]; simpa [u8s_len] using HBL.out
      have hb3 : w7.heap[b3]? = some (.cells HA 85 (0, 0)) := by rw [hHA]; exact HB3.out
      have hb6 : w7.heap[b6]? = some (.cells BV 89 (0, 0)) := by rw [hBV]; exact h7
      have HHA := Lib.hid hHA
      have HBV := Lib.hid hBV
      have hBb : ∀ x ∈ BA, x < 256 := fun x hx => pad_lt HB.out x (by rw [HBA.out] at hx; exact List.mem_of_mem_drop (List.mem_of_mem_take hx))
      have HCO := Lib.hid (rcompress_any (hashN (pad b) j) BA hhl (hashN_lt _ _) HBL.out hBb)
      rw [← hHA, ← hBV] at HCO
      obtain ⟨CA, hCA⟩ : ∃ CA, CA = (u32s (compress (hashN (pad b) j) BA)).toArray := ⟨_, rfl⟩
      have hCs : CA.size = 8 := by rw [hCA]; simpa [u32s_len] using compress_len (hashN (pad b) j) BA hhl
      have hC1 : Hid (∀ v ∈ CA, v.oneCell' = true) := by show ∀ v ∈ CA, _; rw [hCA]; simpa using u32s_one (compress (hashN (pad b) j) BA)
      have HCA := Lib.hid hCA
      rw [← hCA] at HCO
      clear hHA hBV hCA hhl h7 hg7 hb7 hdr hx5 Q6d HRGd hsl6 hslp hBb
      go_wp2_with (first | refine wpList_load_row rfl 85 (.tmp 3) rfl b3 rfl 85 HA (0, 0) _ hb3 Try.underlying85 rfl (by rw [hHs]; kernel_rfl) ?_ | refine wpList_load_row rfl 89 (.tmp 6) rfl b6 rfl 89 BV (0, 0) _ hb6 Try.underlying89 rfl (by rw [hBs]; kernel_rfl) ?_ | (refine (HCO.out _).mono ?_; rintro e w8 ⟨rfl, hx8⟩; have HB3' := Lib.hid (HB3.out.ex hx8 not_false); have HX8 := Lib.hid (HX7.out.trans0 hx8); clear hx8) | refine wpList_store_all rfl 85 (.tmp 3) (.tmp 30) rfl b3 rfl CA _ rfl 85 HB3'.out (by rw [hCs]; simpa [u32s_len] using hashN_len (pad b) j) hC1.out (by rw [hCs]; kernel_rfl) ?_)
      go_roundw
      case rel =>
        have h2 := HMJ.out
        have h3 := HJM.out
        refine ⟨j + 1, m + 64, by omega, by omega, by go_num, ?_, ?_⟩
        · unfold W32
          rw [setRow_heap _ _ _ _ _ _ HB3'.out, HCA.out, show hashN (pad b) (j + 1) = compress (hashN (pad b) j) BA from by rw [HBA.out, h2]; rfl]
        · exact (HXR.out.trans0 HX8.out).trans (ex_setRow _ _ _) (fun _ _ h => h) (fun _ _ h => h)
      case measure => simp [intOf]; omega
    · have hj2 : j = M := by have := HNM.out; omega
      have imN : ¬ (m : Int) < (N : Int) := by omega
      obtain ⟨H, hH⟩ : ∃ H, H = hashN (pad b) j := ⟨_, rfl⟩
      rw [← hH] at HW
      have hHl : H.length = 8 := by rw [hH]; exact hashN_len _ _
      have HHb : Hid (∀ x ∈ H, x < 4294967296) := by show ∀ x ∈ H, _; rw [hH]; exact hashN_lt _ _
      have HSUM : Hid (sum b = outB H) := by show _ = _; unfold sum; rw [HM.out, ← hj2, ← hH]
      clear hH hm hj2 hj
      go_wp2_with (refine wpList_store_all rfl 77 (.tmp 7) (.tmp 31) rfl wr.heap.size rfl (u8s (List.replicate 32 0)).toArray _ rfl 77 (heap_alloc_new _ _) (by rfl) HZ32.out (by kernel_rfl) ?_)
      rw [World.setRow_alloc_new]
      generalize hW5 : World.alloc wr _ = W5
      have q5 : W8 W5 wr.heap.size 77 (outK H 0) := by rw [← hW5]; exact heap_alloc_new wr _
      have x5 : Ex0 wr W5 := by rw [← hW5]; exact Ex.alloc _ _
      obtain ⟨b5, e5⟩ : ∃ b, b = wr.heap.size := ⟨_, rfl⟩
      rw [← e5] at q5 ⊢
      have H35 := Lib.hid (HW.out.ex x5 not_false)
      have HNE : Hid (b3 ≠ b5) := by have := HW.out.lt; show b3 ≠ b5; omega
      have H25 := ((H2.out.ex HX2.out not_false).ex HXR.out (by have := H2.out.lt; have := HX1.out.size; rw [HE3.out]; omega))
      have HNE2 : Hid (b2 ≠ b5) := by have := H25.lt; show b2 ≠ b5; omega
      have H25 := Lib.hid (H25.ex x5 not_false)
      have E5 := Lib.hid e5
      have Q5 := Lib.hid q5
      have X5 := Lib.hid x5
      clear hW5 q5 x5 e5
      go_loopw [8, 9, 10] (fun i _ _ w6 => ∃ k : Nat, k ≤ 8 ∧ i = .int .i64 k ∧ W8 w6 b5 77 (outK H (4 * k)) ∧ Ex (· = b5) W5 w6) (fun i _ _ _ => 8 - (intOf i).toNat)
      case atStart => exact ⟨0, by omega, rfl, Q5.out, Ex.refl _ _⟩
      case round =>
        obtain ⟨k, hk, rfl, hv, hxr⟩ := hrel
        have HV := Lib.hid hv
        have HX6 := Lib.hid hxr
        clear hv hxr
        by_cases hlt : k < 8
        · have ik : (k : Int) < 8 := by omega
          have ch := (H35.out.ex HX6.out HNE.out).cell (j := k) (by omega)
          obtain ⟨xh, hxh⟩ : ∃ x, x = H.getD k 0 := ⟨_, rfl⟩
          rw [← hxh] at ch
          have hxb : xh < 4294967296 := by rw [hxh]; exact getD_lt HHb.out (by decide) k
          have HXH := Lib.hid hxh
          clear hxh
          obtain ⟨wo, rfl⟩ : ∃ wo : World, wo = wr := ⟨_, rfl⟩
          go_wp2_with fail
          go_loopw [9, 10] (fun x d w7 => ∃ q : Nat, q ≤ 4 ∧ d = .int .i64 (3 - (q : Int)) ∧ x = .int .u32 ((xh / 256 ^ q : Nat) : Int) ∧ W8 w7 b5 77 (outP H k q) ∧ Ex (· = b5) wo w7) (fun _ d _ => (intOf d + 1).toNat)
          case atStart => exact ⟨0, by omega, rfl, by simp, by rw [outP_0 H hlt]; exact HV.out, Ex.refl _ _⟩
          case round =>
            obtain ⟨q, hq, rfl, rfl, hv, hxr⟩ := hrel
            have HV7 := Lib.hid hv
            have HX7 := Lib.hid hxr
            clear hv hxr
            obtain ⟨y, hy⟩ : ∃ y, y = xh / 256 ^ q := ⟨_, rfl⟩
            have hyb : y < 4294967296 := by rw [hy]; exact div_lt hxb
            rw [← hy]
            have HY := Lib.hid hy
            clear hy
            by_cases hlq : q < 4
            · obtain ⟨m', hm'⟩ : ∃ m', m' = 4 * k + (3 - q) := ⟨_, rfl⟩
              have em : (4 : Int) * (k : Int) + (3 - (q : Int)) = (m' : Int) := by omega
              have im : (m' : Int) < 32 := by omega
              have iq : (q : Int) ≤ 3 := by omega
              have iq0 : (0 : Int) ≤ 3 - (q : Int) := by omega
              have ck := HV7.out.cell (j := m') (by rw [outP_len H hlt hq]; omega)
              have fk := HV7.out.frozen m'
              have HS7 := outP_set H hlt hlq
              rw [← hm', ← HXH.out, ← HY.out] at HS7
              have HS7 := Lib.hid HS7
              clear hm'
              go_wp2
              go_roundw
              case rel =>
                refine ⟨q + 1, by omega, by go_num, ?_, ?_, HX7.out.trans (Ex.setCell _ _ _) (fun _ _ h => h) (fun _ _ h => h)⟩
                · rw [Nat.pow_succ, ← Nat.div_div_eq_div_mul, ← HY.out]; simp
                · rw [← HS7.out]
                  simpa using HV7.out.set m' (y % 256)
              case measure => simp [intOf]; omega
            · obtain rfl : q = 4 := by omega
              have H4 : Hid (W8 wr b5 77 (outK H (4 * (k + 1)))) := by show W8 _ _ _ _; rw [← outP_4 H hlt]; exact HV7.out
              go_wp2
              go_roundw
              case rel => exact ⟨k + 1, by omega, by go_num, H4.out, HX6.out.trans HX7.out (fun _ _ h => h) (fun _ _ h => h)⟩
              case measure => simp [intOf]; omega
        · have ik : ¬ (k : Int) < 8 := by omega
          have HO6 : Hid (W8 wr b5 77 (outB H)) := by
            have := HV.out
            rw [show k = 8 by omega, show 4 * 8 = 32 from rfl, outK_all] at this
            exact this
          have HHB2 := Lib.hid (H25.out.ex HX6.out HNE2.out)
          obtain ⟨CA, hCA⟩ : ∃ A, A = (u8s (outB H)).toArray := ⟨_, rfl⟩
          have h9 : wr.heap[b5]? = some (.cells CA 77 (0, 0)) := by rw [hCA]; exact HO6.out
          have hsz : CA.size = 32 := by rw [hCA]; simpa [u8s_len] using outB_len H
          have H1C : Hid (∀ v ∈ CA, v.oneCell' = true) := by show ∀ v ∈ CA, _; rw [hCA]; simpa using u8s_one (outB H)
          have HCA := Lib.hid hCA
          clear hCA
          go_wp2_with (first | refine wpList_load_row rfl 77 (.tmp 7) rfl b5 rfl 77 CA (0, 0) _ h9 Try.underlying77 rfl (by rw [hsz]; kernel_rfl) ?_ | refine wpList_store_all rfl 77 (.tmp 2) (.tmp 53) rfl b2 rfl CA _ rfl 77 HHB2.out (by rw [hsz]; rfl) H1C.out (by rw [hsz]; kernel_rfl) ?_)
          refine bodyPost_ret (results_cell_row rfl _ _ b2 _ _ _ _ rfl (setRow_heap _ _ _ _ _ _ HHB2.out) Try.underlying77 rfl (by rw [hsz]; kernel_rfl)) rfl ?_
          refine ⟨by rw [HCA.out, HSUM.out], ?_⟩
          have q1 : Ex0 w w2 := HX.out.trans0 HX2.out
          have q2 : Ex0 w _ := q1.trans HXR.out (fun _ _ h => h) (fun i hi h => by rw [HE3.out] at h; have := HX.out.size; have := HX1.out.size; omega)
          have q3 := q2.trans0 X5.out
          have q4 : Ex0 w _ := q3.trans HX6.out (fun _ _ h => h) (fun i hi h => by rw [E5.out] at h; have := q2.size; omega)
          exact q4.trans (ex_setRow _ _ _) (fun _ _ h => h) (fun i hi h => by rw [E2.out] at h; omega)
end Go.Proofs.Ythbdmfbjkkmplaa

namespace Go.Proofs.Ythbdmfbjkkmplaa
open Go.RowKit Go.Proofs.YthbdmfbjkkmplaaB Go.Proofs.Ythbdmfbjkkmplaa.Sha

def rowK (k : List Nat) (i : Nat) : List Nat := k.take i ++ List.replicate (16 - i) 0
theorem rowK_len {k : List Nat} (hk : 16 ≤ k.length) {i : Nat} (hi : i ≤ 16) : (rowK k i).length = 16 := by simp [rowK]; omega
theorem rowK_set {k : List Nat} (hk : 16 ≤ k.length) {i : Nat} (hi : i < 16) : (rowK k i).set i (k.getD i 0) = rowK k (i + 1) := by
  unfold rowK
  have hl : (k.take i).length = i := by simp; omega
  rw [List.set_append_right _ _ (by omega), hl, Nat.sub_self, show 16 - i = (16 - (i + 1)) + 1 by omega, List.replicate_succ, List.set_cons_zero, List.take_succ_eq_append_getElem (by omega), List.append_assoc]
  simp [List.getD_eq_getElem?_getD, List.getElem?_eq_getElem (by omega : i < k.length)]
theorem rowK_16 (k : List Nat) : rowK k 16 = k.take 16 := by simp [rowK]

set_option maxRecDepth 100000 in
set_option maxHeartbeats 1000000 in
theorem first04 (k : List Nat) (hk : k.length = 32) (w : World) :
    Calls Try.prog 41 #[.agg (u8s k).toArray] w fun e w' => e = .returned (.agg (u8s (k.take 16)).toArray) ∧ Ex0 w w' := by
  obtain ⟨KA, hKA⟩ : ∃ KA, KA = (u8s k).toArray := ⟨_, rfl⟩
  rw [← hKA]
  have HKA := Lib.hid hKA
  clear hKA
  have HZ16 : Hid (∀ v ∈ (u8s (List.replicate 16 0)).toArray, v.oneCell' = true) := by show ∀ v ∈ _, _; simpa using u8s_one (List.replicate 16 0)
  go_enter Try.func41, Try.ntmps41
  iterate 9 go_step
  generalize hW : World.alloc (World.alloc w _) _ = W
  have h0 : W8 W w.heap.size 77 k := by rw [← hW]; subst HKA; exact heap_alloc2_old w _ _
  have h1 : W8 W (w.heap.size + 1) 28 (List.replicate 16 0) := by rw [← hW]; exact heap_alloc2_new w _ _
  have hx : Ex0 w W := by rw [← hW]; exact (Ex.alloc _ _).alloc' _
  have hws : W.heap.size = w.heap.size + 2 := by rw [← hW]; simp
  obtain ⟨b0, e0⟩ : ∃ b, b = w.heap.size := ⟨_, rfl⟩
  obtain ⟨b1, e1⟩ : ∃ b, b = w.heap.size + 1 := ⟨_, rfl⟩
  rw [← e1] at h1
  rw [← e0] at h0
  rw [← e1, ← e0]
  have H0 := Lib.hid h0
  have H1 := Lib.hid h1
  have HX := Lib.hid hx
  have HWS := Lib.hid hws
  have E0 := Lib.hid e0
  have E1 := Lib.hid e1
  clear hW h0 h1 hx hws e0 e1
  go_wp2_with (refine wpList_store_all rfl 28 (.tmp 3) (.tmp 5) rfl W.heap.size rfl (u8s (List.replicate 16 0)).toArray _ rfl 28 (heap_alloc_new _ _) (by rfl) HZ16.out (by kernel_rfl) ?_)
  rw [World.setRow_alloc_new]
  generalize hW5 : World.alloc W _ = W5
  have q5 : W8 W5 W.heap.size 28 (rowK k 0) := by rw [← hW5]; exact heap_alloc_new W _
  have x5 : Ex0 W W5 := by rw [← hW5]; exact Ex.alloc _ _
  obtain ⟨b3, e3⟩ : ∃ b, b = W.heap.size := ⟨_, rfl⟩
  rw [← e3] at q5 ⊢
  have H0 := Lib.hid (H0.out.ex x5 not_false)
  have H1 := Lib.hid (H1.out.ex x5 not_false)
  have Q5 := Lib.hid q5
  have X5 := Lib.hid x5
  have E3 := Lib.hid e3
  clear hW5 q5 x5 e3
  go_loopw [4] (fun i w6 => ∃ j : Nat, j ≤ 16 ∧ i = .int .i64 j ∧ W8 w6 b3 28 (rowK k j) ∧ Ex (· = b3) W5 w6) (fun i _ => 16 - (intOf i).toNat)
  case atStart => exact ⟨0, by omega, rfl, Q5.out, Ex.refl _ _⟩
  case round =>
    obtain ⟨j, hj, rfl, hv, hxr⟩ := hrel
    have HV := Lib.hid hv
    have HX6 := Lib.hid hxr
    clear hv hxr
    by_cases hlt : j < 16
    · have ij : (j : Int) < 16 := by omega
      have ij2 : (j : Int) < 32 := by omega
      have ck := (H0.out.ex HX6.out (by have := E0.out; have := E3.out; have := HWS.out; omega)).cell (j := j) (by omega)
      have cj := HV.out.cell (j := j) (by rw [rowK_len (by omega) hj]; exact hlt)
      have fj := HV.out.frozen j
      have HS := Lib.hid (rowK_set (k := k) (by omega) hlt)
      obtain ⟨x, hx⟩ : ∃ x, x = k.getD j 0 := ⟨_, rfl⟩
      rw [← hx] at ck HS
      clear hx
      go_wp2
      go_roundw
      case rel =>
        refine ⟨j + 1, by omega, by go_num, ?_, HX6.out.trans (Ex.setCell _ _ _) (fun _ _ h => h) (fun _ _ h => h)⟩
        rw [← HS.out]; exact HV.out.set j x
      case measure => simp [intOf]; omega
    · have ij : ¬ (j : Int) < 16 := by omega
      have HO6 : Hid (W8 wr b3 28 (k.take 16)) := by
        have := HV.out
        rw [show j = 16 by omega, rowK_16] at this
        exact this
      have HHB2 := Lib.hid (H1.out.ex HX6.out (by have := E1.out; have := E3.out; have := HWS.out; omega))
      obtain ⟨CA, hCA⟩ : ∃ A, A = (u8s (k.take 16)).toArray := ⟨_, rfl⟩
      have h9 : wr.heap[b3]? = some (.cells CA 28 (0, 0)) := by rw [hCA]; exact HO6.out
      have hsz : CA.size = 16 := by rw [hCA]; simp [u8s_len, hk]
      have H1C : Hid (∀ v ∈ CA, v.oneCell' = true) := by show ∀ v ∈ CA, _; rw [hCA]; simpa using u8s_one (k.take 16)
      have HCA := Lib.hid hCA
      clear hCA
      go_wp2_with (first | refine wpList_load_row rfl 28 (.tmp 3) rfl b3 rfl 28 CA (0, 0) _ h9 Try.underlying28 rfl (by rw [hsz]; kernel_rfl) ?_ | refine wpList_store_all rfl 28 (.tmp 2) (.tmp 15) rfl b1 rfl CA _ rfl 28 HHB2.out (by rw [hsz]; rfl) H1C.out (by rw [hsz]; kernel_rfl) ?_)
      refine bodyPost_ret (results_cell_row rfl _ _ b1 _ _ _ _ rfl (setRow_heap _ _ _ _ _ _ HHB2.out) Try.underlying28 rfl (by rw [hsz]; kernel_rfl)) rfl ?_
      refine ⟨by rw [HCA.out], ?_⟩
      have q1 : Ex0 w W5 := HX.out.trans0 X5.out
      have q2 : Ex0 w _ := q1.trans HX6.out (fun _ _ h => h) (fun i hi h => by have := E3.out; have := HX.out.size; omega)
      exact q2.trans (ex_setRow _ _ _) (fun _ _ h => h) (fun i hi h => by have := E1.out; omega)

set_option maxRecDepth 100000 in
set_option maxHeartbeats 1000000 in
theorem rchain_any (pr : List Nat) (hpl : pr.length = 16) (hpb : ∀ x ∈ pr, x < 256) (A : Option Addr) (cap : Nat) (b : List Nat) (hb : ∀ x ∈ b, x < 256) (hL : b.length ≤ 900000000) (w : World) (hs : Sl w 1 A b.length (u8s b)) (hnil : A = none → cap = 0) :
    Calls Try.prog 28 #[.agg (u8s pr).toArray, .slice A b.length cap] w fun e w' => e = .returned (.agg (u8s (chain pr b)).toArray) ∧ Ex0 w w' := by
  obtain ⟨i0, hi0, hz0, hz1, hz2⟩ := info_parts infoU8
  obtain ⟨PA, hPA⟩ : ∃ PA, PA = (u8s pr).toArray := ⟨_, rfl⟩
  rw [← hPA]
  obtain ⟨L, hLe⟩ : ∃ L, L = b.length := ⟨_, rfl⟩
  rw [← hLe]
  have HPA := Lib.hid hPA
  have HLE := Lib.hid hLe
  rw [← hLe] at hs
  have HS := Lib.hid hs
  have HPB := Lib.hid hpb
  have HB := Lib.hid hb
  have HNIL := Lib.hid hnil
  rw [← hLe] at hL
  clear hPA hLe hs hpb hb hnil
  go_enter Try.func28, Try.ntmps28
  iterate 9 go_step
  generalize hW : World.alloc (World.alloc w _) _ = W
  have h0 : W8 W w.heap.size 28 pr := by rw [← hW]; subst HPA; exact heap_alloc2_old w _ _
  have h1 : W8 W (w.heap.size + 1) 28 (List.replicate 16 0) := by rw [← hW]; exact heap_alloc2_new w _ _
  have hx : Ex0 w W := by rw [← hW]; exact (Ex.alloc _ _).alloc' _
  obtain ⟨b0, e0⟩ : ∃ b, b = w.heap.size := ⟨_, rfl⟩
  obtain ⟨b1, e1⟩ : ∃ b, b = w.heap.size + 1 := ⟨_, rfl⟩
  rw [← e1] at h1
  rw [← e0] at h0
  rw [← e1, ← e0]
  have H0 := Lib.hid h0
  have H1 := Lib.hid h1
  have HX := Lib.hid hx
  have E0 := Lib.hid e0
  have E1 := Lib.hid e1
  clear hW h0 h1 hx e0 e1
  go_wp2_with fail
  go_loopw [5, 6] (fun v i w2 => ∃ (k : Nat) (v5 : Value), k ≤ 16 ∧ i = .int .i64 k ∧ v5 = v ∧ w2.ownsRow W.heap.size 5 1 v k (u8s (pr.take k)) ∧ Ex0 W w2) (fun _ i _ => 16 - (intOf i).toNat)
  case atStart => exact ⟨0, _, by omega, rfl, rfl, ⟨by simp [u8s], .inl ⟨rfl, rfl⟩⟩, Ex.refl _ _⟩
  case round =>
    obtain ⟨k, v5, hk, rfl, rfl, ho, hx⟩ := hrel
    have HO := Lib.hid ho
    have HXk := Lib.hid hx
    clear ho hx
    by_cases hlt : k < 16
    · have ik : (k : Int) < 16 := by omega
      have ck := (H0.out.ex HXk.out not_false).cell (j := k) (by omega)
      obtain ⟨x, hx⟩ : ∃ x, x = pr.getD k 0 := ⟨_, rfl⟩
      rw [← hx] at ck
      have HS2 : Hid (pr.take (k + 1) = pr.take k ++ [x]) := by
        show _ = _
        rw [hx, List.take_succ_eq_append_getElem (by omega)]
        simp [List.getD_eq_getElem?_getD, List.getElem?_eq_getElem (by omega : k < pr.length)]
      clear hx
      go_wp2_with (refine wpList_append_sl rfl (.tmp 11) (.tmp 15) 58 rfl _ 5 i0 _ 1 1 Try.underlying58 hi0 hz0 hz1 hz2 rfl (by decide) _ _ _ rfl (own_ex HO.out (Ex.alloc wr (.cells #[.int .u8 x] 5)) (fun _ _ => id)) (some ⟨wr.heap.size, 0, none⟩) 1 1 [.int .u8 x] rfl (sl_block (heap_alloc_new wr (.cells #[.int .u8 x] 5)) rfl (by decide)) (fun h => by cases h) (by simp [Value.oneCell']) (by unfold maxLen; omega) (by omega) (by have := HXk.out.size; simp; omega) ?_; intro v3 w3 ho3 hg3 hb3; have HO3 := Lib.hid ho3; have HX3 : Hid (Ex0 W w3) := ex_of_new (HXk.out.alloc' _) hg3 (fun b hb => (HO.out.lt b hb).1); clear ho3 hg3 hb3)
      go_roundw
      case rel =>
        refine ⟨k + 1, _, by omega, by go_num, rfl, ?_, HX3.out⟩
        rw [HS2.out, u8s_append]; exact HO3.out
      case measure => simp [intOf]; omega
    · have ik : ¬ (k : Int) < 16 := by omega
      have hk16 : pr.take k = pr := List.take_of_length_le (by omega)
      have HO4 : Hid (wr.ownsRow W.heap.size 5 1 v5 16 (u8s pr)) := by
        have := HO.out
        rw [hk16, show k = 16 by omega] at this; exact this
      clear hk16 HO
      go_wp2_with (refine wpList_append_sl rfl (.tmp 17) (.tmp 18) 58 rfl _ 5 i0 _ 1 1 Try.underlying58 hi0 hz0 hz1 hz2 rfl (by decide) _ _ _ rfl HO4.out A L cap (u8s b) rfl ((HS.out.ex0 HX.out).ex0 HXk.out) HNIL.out (u8s_one _) (by unfold maxLen; omega) (by omega) (HXk.out.size) ?_; intro v3 w3 ho3 hg3 hb3; have HX3 : Hid (Ex0 W w3) := ex_of_new HXk.out hg3 (fun b hb => (HO4.out.lt b hb).1); rw [← u8s_append] at ho3; obtain ⟨A1, cap1, rfl, hsl1, _, hnl1⟩ := own_sl' ho3; have HSL := Lib.hid hsl1; have HNL := Lib.hid hnl1; clear ho3 hg3 hb3 hsl1 hnl1)
      obtain ⟨tx, htx⟩ : ∃ tx, tx = pr ++ b := ⟨_, rfl⟩
      have hlx : 16 + L = tx.length := by rw [htx, List.length_append, HLE.out]; omega
      rw [hlx]
      rw [hlx, ← htx] at HSL
      have htl : tx.length ≤ 1000000000 := by omega
      have HTX := Lib.hid htx
      clear htx hlx
      refine (rsum_any A1 cap1 tx (fun x hx => by
        rw [HTX.out] at hx
        rcases List.mem_append.1 hx with h | h
        · exact HPB.out x h
        · exact HB.out x h) htl _ HSL.out HNL.out).mono ?_
      rintro e w4 ⟨rfl, hx4⟩
      have HX4 := Lib.hid (HX3.out.trans0 hx4)
      clear hx4
      go_wp2_with fail
      refine (first04 (sum tx) (sum_len _) _).mono ?_
      rintro e w5 ⟨rfl, hx5⟩
      have HX5 := Lib.hid (HX4.out.trans0 hx5)
      clear hx5
      obtain ⟨CA, hCA⟩ : ∃ CA, CA = (u8s ((sum tx).take 16)).toArray := ⟨_, rfl⟩
      rw [← hCA]
      have hsz : CA.size = 16 := by rw [hCA]; simp [u8s_len, sum_len]
      have H1C : Hid (∀ v ∈ CA, v.oneCell' = true) := by show ∀ v ∈ CA, _; rw [hCA]; simpa using u8s_one ((sum tx).take 16)
      have HCA := Lib.hid hCA
      have HE := Lib.hid (H1.out.ex HX5.out not_false)
      clear hCA
      go_wp2_with (refine wpList_store_all rfl 28 (.tmp 4) (.tmp 21) rfl b1 rfl CA _ rfl 28 HE.out (by rw [hsz]; rfl) H1C.out (by rw [hsz]; kernel_rfl) ?_)
      refine bodyPost_ret (results_cell_row rfl _ _ b1 _ _ _ _ rfl (setRow_heap _ _ _ _ _ _ HE.out) Try.underlying28 rfl (by rw [hsz]; kernel_rfl)) rfl ?_
      exact ⟨by rw [HCA.out, HTX.out]; rfl, (HX.out.trans0 HX5.out).trans (ex_setRow _ _ _) (fun _ _ h => h) (fun i hi h => by have := E1.out; omega)⟩
end Go.Proofs.Ythbdmfbjkkmplaa
