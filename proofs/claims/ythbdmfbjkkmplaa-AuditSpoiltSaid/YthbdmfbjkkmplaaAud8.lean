/- Contracts of layer 61: the document's primes, and numbers in digits. Contracts of layer 61: numbers in digits, as the document multiplies and compares them. Contracts of layer 61: the document's roots. -/
import Derived.Test.YthbdmfbjkkmplaaAud6
import Derived.Test.YthbdmfbjkkmplaaAud7
import Derived.RangeFuncBox
namespace Go.Proofs.Ythbdmfbjkkmplaa
open Go.RowKit Go.Proofs.YthbdmfbjkkmplaaB Go.Proofs.Ythbdmfbjkkmplaa.Sha

theorem primeB_step {n i : Nat} (hn : 2 ≤ n) (h : ∀ j, 2 ≤ j → j < i → n % j ≠ 0) (hi : n ≤ i) : primeB n = true := by
  simp only [primeB, Bool.and_eq_true, decide_eq_true_eq, List.all_eq_true, List.mem_range, Bool.or_eq_true, bne_iff_ne, ne_eq]
  refine ⟨by omega, fun j hj => ?_⟩
  by_cases h2 : j < 2
  · exact .inl h2
  · exact .inr (h j (by omega) (by omega))
theorem primeB_not {n i : Nat} (hi : 2 ≤ i) (hn : i < n) (h : n % i = 0) : primeB n = false := by
  cases hp : primeB n
  · rfl
  · simp only [primeB, Bool.and_eq_true, decide_eq_true_eq, List.all_eq_true, List.mem_range, Bool.or_eq_true, bne_iff_ne, ne_eq] at hp
    rcases hp.2 i hn with h1 | h1
    · omega
    · exact absurd h h1

set_option maxHeartbeats 1000000 in
theorem prime_any (n : Nat) (h2 : 2 ≤ n) (hn : n ≤ 100000) (w : World) :
    Calls Try.prog 65 #[.int .i64 n] w fun e w' => e = .returned (.bool (primeB n)) ∧ w' = w := by
  go_enter Try.func65, Try.ntmps65
  go_wp2_with fail
  go_loopw [3] (fun i wr => ∃ k : Nat, 2 ≤ k ∧ k ≤ n ∧ i = .int .i64 k ∧ (∀ j, 2 ≤ j → j < k → n % j ≠ 0) ∧ wr = w) (fun i _ => n - (intOf i).toNat)
  case atStart => exact ⟨2, by omega, h2, rfl, fun j h1 h2 => by omega, rfl⟩
  case round =>
    obtain ⟨k, hk2, hk, rfl, hj, rfl⟩ := hrel
    have HJ := Lib.hid hj
    clear hj
    by_cases hlt : k < n
    · by_cases hm : n % k = 0
      · have im : (n : Int) % (k : Int) = 0 := by omega
        have HP := Lib.hid (primeB_not hk2 hlt hm)
        clear hm
        go_wp2
        go_ret
        exact ⟨ret_bool HP.out.symm, rfl⟩
      · have im : ¬ (n : Int) % (k : Int) = 0 := by omega
        have HM := Lib.hid hm
        clear hm
        go_wp2
        go_roundw
        case rel =>
          refine ⟨k + 1, by omega, by omega, by go_num, fun j h1 h2 => ?_, by trivial⟩
          by_cases e : j = k
          · subst e; exact HM.out
          · exact HJ.out j h1 (by omega)
        case measure => simp [intOf]; omega
    · have i1 : (1 : Int) < (n : Int) := by omega
      have HP := Lib.hid (primeB_step h2 HJ.out (by omega))
      go_wp2
      go_ret
      exact ⟨ret_bool HP.out.symm, rfl⟩

def i64s (l : List Nat) : List Value := l.map fun (x : Nat) => .int .i64 x
def u64s (l : List Nat) : List Value := l.map fun (x : Nat) => .int .u64 x
theorem i64s_append (a b : List Nat) : i64s (a ++ b) = i64s a ++ i64s b := by simp [i64s]
theorem i64s_len (a : List Nat) : (i64s a).length = a.length := by simp [i64s]
theorem u64s_len (a : List Nat) : (u64s a).length = a.length := by simp [u64s]
theorem i64s_one (l : List Nat) : ∀ u ∈ i64s l, u.oneCell' = true := by
  intro u hu
  obtain ⟨x, _, rfl⟩ := List.mem_map.1 hu
  rfl
theorem u64s_one (l : List Nat) : ∀ u ∈ u64s l, u.oneCell' = true := by
  intro u hu
  obtain ⟨x, _, rfl⟩ := List.mem_map.1 hu
  rfl
theorem u64s_get {l : List Nat} {i : Nat} (h : i < l.length) : (u64s l)[i]? = some (.int .u64 (l.getD i 0 : Nat)) := by
  simp [u64s, List.getElem?_eq_getElem h, List.getD_eq_getElem?_getD]
theorem i64s_get {l : List Nat} {i : Nat} (h : i < l.length) : (i64s l)[i]? = some (.int .i64 (l.getD i 0 : Nat)) := by
  simp [i64s, List.getElem?_eq_getElem h, List.getD_eq_getElem?_getD]
theorem infoI64 : (Try.prog.info? 3).map (fun i => (i.zero, i.size, i.bytes)) = some (some (.int .i64 0), 1, 8) := by kernel_rfl
theorem infoU64 : (Try.prog.info? 92).map (fun i => (i.zero, i.size, i.bytes)) = some (some (.int .u64 0), 1, 8) := by kernel_rfl

theorem primesBelow_succ (i : Nat) : primesBelow (i + 1) = if primeB i = true then primesBelow i ++ [i] else primesBelow i := by
  unfold primesBelow
  rw [List.range_succ, List.filter_append]
  cases h : primeB i <;> simp [h]
theorem primesBelow_prefix {i j : Nat} (h : i ≤ j) : primesBelow i <+: primesBelow j := by
  induction j with
  | zero => obtain rfl : i = 0 := by omega
            exact List.prefix_rfl
  | succ j ih =>
    by_cases e : i = j + 1
    · subst e; exact List.prefix_rfl
    · refine (ih (by omega)).trans ?_
      rw [primesBelow_succ]
      split
      · exact List.prefix_append _ _
      · exact List.prefix_rfl
theorem primesBelow_take {i : Nat} (h : i ≤ 312) : primesBelow i = pl.take (primesBelow i).length := by
  rw [← pl_eq]; exact (List.prefix_iff_eq_take.1 (primesBelow_prefix h))
theorem primesBelow_lt {i n : Nat} (hi : i ≤ 312) (hn : n ≤ 64) (h : (primesBelow i).length < n) : i < 312 := by
  by_cases e : i = 312
  · subst e; rw [pl_eq, pl_len] at h; omega
  · omega

set_option maxRecDepth 100000 in
set_option maxHeartbeats 1000000 in
theorem primes_any (n : Nat) (hn : n ≤ 64) (w : World) :
    Calls Try.prog 60 #[.int .i64 n] w fun e w' => ∃ v, e = .returned v ∧ w'.ownsRow w.heap.size 3 1 v n (i64s (pl.take n)) ∧ Ex0 w w' := by
  obtain ⟨i0, hi0, hz0, hz1, hz2⟩ := info_parts infoI64
  go_enter Try.func60, Try.ntmps60
  go_wp2_with fail
  go_loopw [3, 4] (fun v i wr => ∃ k A cap : Nat, 2 ≤ k ∧ k ≤ 312 ∧ i = .int .i64 k ∧ v = .slice (some ⟨A, 0, none⟩) (primesBelow k).length cap ∧ (primesBelow k).length ≤ n ∧ wr.ownsRow w.heap.size 3 1 v (primesBelow k).length (i64s (primesBelow k)) ∧ Ex0 w wr) (fun _ i _ => 312 - (intOf i).toNat)
  case atStart => exact ⟨2, w.heap.size, 0, by omega, by omega, rfl, rfl, Nat.zero_le _, own_empty (heap_alloc_new _ _) _ (Nat.le_refl _), Ex.alloc _ _⟩
  case round =>
    obtain ⟨k, A, cap, hk2, hk, rfl, rfl, hl, ho, hx⟩ := hrel
    have HO := Lib.hid ho
    have HX := Lib.hid hx
    clear ho hx
    obtain ⟨l, hle⟩ : ∃ l, l = (primesBelow k).length := ⟨_, rfl⟩
    rw [← hle] at hl HO ⊢
    have HLE := Lib.hid hle
    clear hle
    by_cases hlt : l < n
    · have hk3 := primesBelow_lt hk hn (by rw [← HLE.out]; exact hlt)
      cases hp : primeB k
      all_goals
        have HP := Lib.hid hp
        clear hp
      · go_wp2_with (refine (prime_any k hk2 (by omega) _).mono ?_; rintro e w3 ⟨rfl, rfl⟩; rw [HP.out])
        go_roundw
        case rel =>
          have e : primesBelow (k + 1) = primesBelow k := by rw [primesBelow_succ, HP.out]; rfl
          refine ⟨k + 1, A, cap, by omega, by omega, by go_num, by rw [e, ← HLE.out], by rw [e, ← HLE.out]; exact hl, by rw [e, ← HLE.out]; exact HO.out, HX.out⟩
        case measure => simp [intOf]; omega
      · have hbnd : l + 1 ≤ 64 := by omega
        go_wp2_with fail
        refine (prime_any k hk2 (by omega) _).mono ?_
        rintro e w3 ⟨rfl, rfl⟩
        rw [HP.out]
        dsimp only
        iterate 15 go_step
        refine wpList_append_sl rfl (.tmp 14) (.tmp 16) 97 rfl _ 3 i0 _ 1 8 Try.underlying97 hi0 hz0 hz1 hz2 rfl (by decide) _ _ _ rfl (own_ex HO.out (Ex.alloc w3 (.cells #[.int .i64 k] 3)) (fun _ _ => id)) (some ⟨w3.heap.size, 0, none⟩) 1 1 [.int .i64 k] rfl (sl_block (heap_alloc_new w3 (.cells #[.int .i64 k] 3)) rfl (by decide)) (fun h => by cases h) (by simp [Value.oneCell']) (by unfold maxLen; omega) (by omega) (by have := HX.out.size; simp; omega) ?_
        intro v2 w4 ho4 hg4 hb4
        obtain ⟨A2, cap2, rfl⟩ := ownsRow_succ ho4
        have HO4 := Lib.hid ho4
        have HG4 := Lib.hid hg4
        clear ho4 hg4 hb4
        dsimp only [Act.put]
        go_wp2_with fail
        go_roundw
        case rel =>
          have e : primesBelow (k + 1) = primesBelow k ++ [k] := by rw [primesBelow_succ, HP.out]; rfl
          have e2 : (primesBelow (k + 1)).length = l + 1 := by rw [e, List.length_append, ← HLE.out]; rfl
          refine ⟨k + 1, A2, cap2, by omega, by omega, by go_num, by rw [e2], by rw [e2]; omega, ?_, ?_⟩
          · rw [e2, e, i64s_append]; exact HO4.out
          · exact ex_of_new (HX.out.alloc' _) HG4.out (fun b hb => (HO.out.lt b hb).1)
        case measure => simp [intOf]; omega
    · obtain rfl : l = n := by omega
      go_wp2
      go_ret
      refine ⟨_, rfl, ?_, HX.out⟩
      have := HO.out
      rw [primesBelow_take hk, ← HLE.out] at this
      exact this
end Go.Proofs.Ythbdmfbjkkmplaa

namespace Go.Proofs.Ythbdmfbjkkmplaa
open Go.RowKit Go.Proofs.YthbdmfbjkkmplaaB Go.Proofs.Ythbdmfbjkkmplaa.Sha

/-- a block of numbers of 64 bits -/
def W64 (w : World) (b : Nat) (t : TypeId) (l : List Nat) : Prop := w.heap[b]? = some (.cells (u64s l).toArray t (0, 0))
section
variable {w w' : World} {b : Nat} {t : TypeId} {l : List Nat}
theorem W64.lt (h : W64 w b t l) : b < w.heap.size := (Array.getElem?_eq_some_iff.1 h).1
theorem W64.ex {S : Nat → Prop} (h : W64 w b t l) (hx : Ex S w w') (hS : ¬ S b) : W64 w' b t l := (hx.block b h.lt hS).trans h
theorem W64.cell (h : W64 w b t l) {j : Nat} (hj : j < l.length) : w.cell? ⟨b, j, none⟩ = some (.int .u64 (l.getD j 0 : Nat)) := by
  rw [cell_of_row w b j _ _ _ h]; simpa using u64s_get hj
theorem W64.frozen (h : W64 w b t l) (j : Nat) : w.frozen? ⟨b, j, none⟩ = false := frozen_of_row w b j _ _ h
theorem W64.set (h : W64 w b t l) (j x : Nat) : W64 (w.setCell ⟨b, j, none⟩ (.int .u64 x)) b t (l.set j x) := by
  unfold W64
  rw [heap_setCell_same w b j _ t _ h]
  congr 2
  apply Array.ext'
  simp [u64s, List.map_set]
theorem W64.row (h : W64 w b t l) : RowAt w ⟨b, 0, none⟩ (u64s l) := by
  intro j u hu
  rw [Addr.add_lit, cell_of_row w b _ _ _ _ h]
  simpa using hu
end
theorem made64 (n : Nat) : madeCells (#[.int .u64 0] : Array Value) n = (u64s (List.replicate n 0)).toArray := by
  apply Array.ext'
  simp only [madeCells, u64s, List.map_replicate]
  apply List.ext_getElem
  · simp
  · intro i h1 h2
    simp [Nat.mod_one]
theorem run_make64 (N : Nat) (hN : N ≤ 1000) (w : World) : (Instr.makeSlice 102 (.int .i64 N) (.int .i64 N)).run Try.prog w = .ok (.slice (some ⟨w.heap.size, 0, none⟩) N N) (w.alloc (.cells (u64s (List.replicate N 0)).toArray 92)) := by
  obtain ⟨i, hi, hz, h1, h2⟩ := info_parts infoU64
  have := run_make (P := Try.prog) w 102 92 i _ Try.underlying102 hi hz .i64 .i64 N N (by omega) (by omega) (by rw [h2]; omega) (by omega)
  rw [this]
  simp only [Int.toNat_natCast, h1, Nat.mul_one]
  rw [← made64]; rfl
theorem row64 {w : World} {g o : Nat} {a : List Nat} (h : RowAt w ⟨g, o, none⟩ (u64s a)) {i : Nat} (hi : i < a.length) : w.cell? ⟨g, o + i, none⟩ = some (.int .u64 (a.getD i 0 : Nat)) := by
  have := h i _ (u64s_get hi)
  rwa [Addr.add_lit] at this

theorem wrap64 (n : Int) : IntKind.u64.wrap n = n % 18446744073709551616 := by simp [IntKind.wrap, IntKind.bits, IntKind.signed]
theorem x_int (o a b c : Nat) : IntKind.u64.wrap (IntKind.u64.wrap ((o : Int) + IntKind.u64.wrap ((a : Int) * b)) + c) = (((o + a * b + c) % 18446744073709551616 : Nat) : Int) := by
  simp only [wrap64]
  rw [Int.add_emod_emod, Int.emod_add_emod]
  simp

set_option maxRecDepth 100000 in
set_option maxHeartbeats 2000000 in
theorem times_any (ga oa ca gb ob cb : Nat) (a b : List Nat) (ha : a.length ≤ 100) (hb : b.length ≤ 100) (w : World) (hra : RowAt w ⟨ga, oa, none⟩ (u64s a)) (hrb : RowAt w ⟨gb, ob, none⟩ (u64s b)) (hla : ga < w.heap.size) (hlb : gb < w.heap.size) :
    Calls Try.prog 66 #[.slice (some ⟨ga, oa, none⟩) a.length ca, .slice (some ⟨gb, ob, none⟩) b.length cb] w fun e w' => ∃ g, e = .returned (.slice (some ⟨g, 0, none⟩) (timesN a b).length (timesN a b).length) ∧ w.heap.size ≤ g ∧ W64 w' g 92 (timesN a b) ∧ Ex0 w w' := by
  rw [timesN_len]
  obtain ⟨n, hn⟩ : ∃ n, n = a.length := ⟨_, rfl⟩
  obtain ⟨m, hm⟩ : ∃ m, m = b.length := ⟨_, rfl⟩
  rw [← hn, ← hm]
  rw [← hn] at ha
  rw [← hm] at hb
  obtain ⟨N, hNe⟩ : ∃ N, N = n + m := ⟨_, rfl⟩
  rw [← hNe]
  have eN : (n : Int) + (m : Int) = (N : Int) := by omega
  have hmk := run_make64 N (by omega)
  have HRA := Lib.hid hra
  have HRB := Lib.hid hrb
  have HN := Lib.hid (And.intro hn (And.intro hm hNe))
  clear hra hrb hn hm hNe
  go_enter Try.func66, Try.ntmps66
  go_wp2_with fail
  have h0 : W64 (w.alloc (.cells (u64s (List.replicate N 0)).toArray 92)) w.heap.size 92 (outS a b 0) := by
    rw [outS, ← HN.out.1, ← HN.out.2.1, ← HN.out.2.2]; exact heap_alloc_new _ _
  have hx : Ex0 w (w.alloc (.cells (u64s (List.replicate N 0)).toArray 92)) := Ex.alloc _ _
  obtain ⟨g, hg⟩ : ∃ g, g = w.heap.size := ⟨_, rfl⟩
  rw [← hg] at h0 hla hlb ⊢
  generalize w.alloc (.cells (u64s (List.replicate N 0)).toArray 92) = W at h0 hx ⊢
  have H0 := Lib.hid h0
  have HX := Lib.hid hx
  have HG := Lib.hid hg
  have HLA := Lib.hid (show ga ≠ g by omega)
  have HLB := Lib.hid (show gb ≠ g by omega)
  clear h0 hx hg hla hlb hmk
  go_loopw [6, 7, 8, 9] (fun i _ _ _ wr => ∃ k : Nat, k ≤ n ∧ i = .int .i64 k ∧ W64 wr g 92 (outS a b k) ∧ Ex (· = g) W wr) (fun i _ _ _ _ => n - (intOf i).toNat)
  case atStart => exact ⟨0, by omega, rfl, H0.out, Ex.refl _ _⟩
  case round =>
    obtain ⟨i, hi, rfl, hw, hxr⟩ := hrel
    have HW := Lib.hid hw
    have HXR := Lib.hid hxr
    clear hw hxr
    by_cases hlt : i < n
    · go_wp2_with fail
      go_loopw [7, 8, 9] (fun c k _ w2 => ∃ k0 : Nat, k0 ≤ m ∧ k = .int .i64 k0 ∧ c = .int .u64 ((inS a b (outS a b i) i k0).2 : Nat) ∧ W64 w2 g 92 (inS a b (outS a b i) i k0).1 ∧ Ex (· = g) wr w2) (fun _ k _ _ => m - (intOf k).toNat)
      case atStart => exact ⟨0, by omega, rfl, rfl, HW.out, Ex.refl _ _⟩
      case round =>
        obtain ⟨k, hk, rfl, rfl, hv, hxs⟩ := hrel
        have HV := Lib.hid hv
        have HXS := Lib.hid hxs
        clear hv hxs
        by_cases hlk : k < m
        · obtain ⟨q, hq⟩ : ∃ q, q = i + k := ⟨_, rfl⟩
          have eq : (i : Int) + (k : Int) = (q : Int) := by omega
          have hqN : q < N := by have := HN.out; omega
          have hlen : (inS a b (outS a b i) i k).1.length = N := by rw [inS_len, outS_len]; have := HN.out; omega
          have co := HV.out.cell (j := q) (by omega)
          have fo := HV.out.frozen q
          have xw : Ex0 w wr := (HX.out.trans HXR.out (fun _ _ h => h) (fun i hi h => by rw [HG.out] at h; omega)).trans HXS.out (fun _ _ h => h) (fun i hi h => by rw [HG.out] at h; omega)
          have ca := xw.cellS (row64 HRA.out (i := i) (by rw [← HN.out.1]; exact hlt)) not_false
          have cb := xw.cellS (row64 HRB.out (i := k) (by rw [← HN.out.2.1]; exact hlk)) not_false
          obtain ⟨xo, hxo⟩ : ∃ x, x = (inS a b (outS a b i) i k).1.getD q 0 := ⟨_, rfl⟩
          obtain ⟨xa, hxa⟩ : ∃ x, x = a.getD i 0 := ⟨_, rfl⟩
          obtain ⟨xb, hxb⟩ : ∃ x, x = b.getD k 0 := ⟨_, rfl⟩
          obtain ⟨xc, hxc⟩ : ∃ x, x = (inS a b (outS a b i) i k).2 := ⟨_, rfl⟩
          rw [← hxo] at co
          rw [← hxa] at ca
          rw [← hxb] at cb
          rw [← hxc]
          have HS : Hid (inS a b (outS a b i) i (k + 1) = ((inS a b (outS a b i) i k).1.set q ((xo + xa * xb + xc) % 18446744073709551616 % 65536), (xo + xa * xb + xc) % 18446744073709551616 / 65536)) := by
            show _ = _
            simp only [inS, ← hq, ← hxo, ← hxa, ← hxb, ← hxc]
          have ik : (k : Int) < m := by omega
          have ii : (i : Int) < n := by omega
          have iq : (q : Int) < N := by omega
          clear hq hlen xw hxo hxa hxb hxc
          go_wp2_with fail
          go_quiet (fail)
          rw [x_int]
          obtain ⟨X, hX⟩ : ∃ X, X = (xo + xa * xb + xc) % 18446744073709551616 := ⟨_, rfl⟩
          rw [← hX] at HS ⊢
          have hXl : X < 18446744073709551616 := by rw [hX]; exact Nat.mod_lt _ (by decide)
          have hdq : Ex0 wr (wr.drewN nq) := (Ex.refl _ _).drewN' _
          have co := hdq.cellS co not_false
          have HVd := Lib.hid (HV.out.ex hdq not_false)
          have fo := HVd.out.frozen q
          have HDQ := Lib.hid hdq
          clear hX
          generalize IntKind.u64.wrap ((xo : Int) + IntKind.u64.wrap ((xa : Int) * xb)) = Y1
          generalize IntKind.u64.wrap ((xa : Int) * xb) = Y2
          generalize wr.drewN nq = wd at *
          clear hdq
          go_wp2
          go_roundw
          case rel =>
            refine ⟨k + 1, by omega, by go_num, ?_, ?_, ?_⟩
            · rw [HS.out]; simp
            · rw [HS.out]
              simpa using HVd.out.set q (X % 65536)
            · exact (HXS.out.trans0 HDQ.out).trans (Ex.setCell _ _ _) (fun _ _ h => h) (fun _ _ h => h)
          case measure => simp [intOf]; omega
        · obtain rfl : k = m := by omega
          obtain ⟨q, hq⟩ : ∃ q, q = i + k := ⟨_, rfl⟩
          have eq : (i : Int) + (k : Int) = (q : Int) := by omega
          have hqN : q < N := by have := HN.out; omega
          have hlen : (inS a b (outS a b i) i k).1.length = N := by rw [inS_len, outS_len]; have := HN.out; omega
          have co := HV.out.cell (j := q) (by omega)
          have fo := HV.out.frozen q
          obtain ⟨xc, hxc⟩ : ∃ x, x = (inS a b (outS a b i) i k).2 := ⟨_, rfl⟩
          rw [← hxc]
          have HS : Hid (outS a b (i + 1) = (inS a b (outS a b i) i k).1.set q xc) := by
            show _ = _
            simp only [outS, hxc, hq, HN.out.2.1]
          have iq : (q : Int) < N := by omega
          clear hq hlen hxc
          go_wp2
          go_roundw
          case rel =>
            refine ⟨i + 1, by omega, by go_num, ?_, ?_⟩
            · rw [HS.out]; exact HV.out.set q xc
            · exact (HXR.out.trans HXS.out (fun _ _ h => h) (fun _ _ h => h)).trans (Ex.setCell _ _ _) (fun _ _ h => h) (fun _ _ h => h)
          case measure => simp [intOf]; omega
    · obtain rfl : i = n := by omega
      go_wp2
      go_ret
      refine ⟨g, rfl, by rw [HG.out]; exact Nat.le_refl _, ?_, HX.out.trans HXR.out (fun _ _ h => h) (fun j hj h => by rw [HG.out] at h; omega)⟩
      have := HW.out
      rw [HN.out.1] at this
      exact this
end Go.Proofs.Ythbdmfbjkkmplaa

namespace Go.Proofs.Ythbdmfbjkkmplaa
open Go.RowKit Go.Proofs.YthbdmfbjkkmplaaB Go.Proofs.Ythbdmfbjkkmplaa.Sha

theorem getD_out {l : List Nat} {i : Nat} (h : l.length ≤ i) : l.getD i 0 = 0 := by rw [List.getD_eq_getElem?_getD, List.getElem?_eq_none h]; rfl

set_option maxRecDepth 100000 in
set_option maxHeartbeats 2000000 in
theorem above_any (ga oa ca gb ob cb : Nat) (a b : List Nat) (ha : a.length ≤ 100) (hb : b.length ≤ 100) (w : World) (hra : RowAt w ⟨ga, oa, none⟩ (u64s a)) (hrb : RowAt w ⟨gb, ob, none⟩ (u64s b)) :
    Calls Try.prog 67 #[.slice (some ⟨ga, oa, none⟩) a.length ca, .slice (some ⟨gb, ob, none⟩) b.length cb] w fun e w' => e = .returned (.bool (aboveN a b)) ∧ w' = w := by
  obtain ⟨n, hn⟩ : ∃ n, n = a.length := ⟨_, rfl⟩
  obtain ⟨m, hm⟩ : ∃ m, m = b.length := ⟨_, rfl⟩
  rw [← hn, ← hm]
  rw [← hn] at ha
  rw [← hm] at hb
  obtain ⟨N, hN⟩ : ∃ N, N = max n m := ⟨_, rfl⟩
  have HRA := Lib.hid hra
  have HRB := Lib.hid hrb
  have HAB : Hid (aboveN a b = abS a b N) := by show _ = _; unfold aboveN; rw [hN, hn, hm]
  have HNN := Lib.hid hn
  have HMM := Lib.hid hm
  have hcase : (n < m ∧ N = m) ∨ (m ≤ n ∧ N = n) := by omega
  clear hra hrb hn hm hN
  go_enter Try.func67, Try.ntmps67
  have hN100 : N ≤ 100 := by omega
  rcases hcase with ⟨hnm, rfl⟩ | ⟨hnm, rfl⟩
  · go_wp2_with fail
    go_loopw [4, 6, 7, 8] (fun _ i _ _ wr => ∃ k : Nat, k ≤ N ∧ i = .int .i64 ((k : Int) - 1) ∧ abS a b N = abS a b k ∧ wr = w) (fun _ i _ _ _ => (intOf i + 1).toNat)
    case atStart => exact ⟨N, Nat.le_refl _, rfl, rfl, rfl⟩
    case round =>
      obtain ⟨k, hk, rfl, habs, rfl⟩ := hrel
      have HABS := Lib.hid habs
      clear habs
      cases k with
      | zero =>
        go_wp2
        go_ret
        exact ⟨ret_bool (by rw [HAB.out, HABS.out]; rfl), rfl⟩
      | succ i =>
        have e1 : ((i + 1 : Nat) : Int) - 1 = (i : Int) := by omega
        rw [e1]
        have hS : abS a b (i + 1) = if a.getD i 0 = b.getD i 0 then abS a b i else decide (b.getD i 0 < a.getD i 0) := rfl
        obtain ⟨x, hx⟩ : ∃ x, x = a.getD i 0 := ⟨_, rfl⟩
        obtain ⟨y, hy⟩ : ∃ y, y = b.getD i 0 := ⟨_, rfl⟩
        rw [← hx, ← hy] at hS
        have HS := Lib.hid hS
        have hX : i < n → wr.cell? ⟨ga, oa + i, none⟩ = some (.int .u64 x) := fun h => by rw [hx]; exact row64 HRA.out (by rw [← HNN.out]; exact h)
        have hX0 : ¬ i < n → x = 0 := fun h => by rw [hx]; exact getD_out (by rw [← HNN.out]; omega)
        have hY : i < N → wr.cell? ⟨gb, ob + i, none⟩ = some (.int .u64 y) := fun h => by rw [hy]; exact row64 HRB.out (by rw [← HMM.out]; exact h)
        have hY0 : ¬ i < N → y = 0 := fun h => by rw [hy]; exact getD_out (by rw [← HMM.out]; omega)
        have HX := Lib.hid hX
        have HX0 := Lib.hid hX0
        have HY := Lib.hid hY
        have HY0 := Lib.hid hY0
        clear hS hx hy hX hX0 hY hY0 e1
        have iN : (i : Int) < 100 := by omega
        by_cases hA : i < n <;> by_cases hB : i < N <;> try (exfalso; omega)
        all_goals
          first
            | have cx := HX.out hA
            | (have cx := HX0.out hA; subst cx)
          first
            | have cy := HY.out hB
            | (have cy := HY0.out hB; subst cy)
          first | (by_cases hxy : x = y) | (by_cases hxy : x = 0) | (by_cases hxy : (0 : Nat) = y) | (by_cases hxy : (0 : Nat) = 0)
          · have HXY := Lib.hid hxy
            go_wp2
            go_roundw
            case rel => exact ⟨i, by omega, rfl, by rw [HABS.out, HS.out, if_pos HXY.out], by trivial⟩
            case measure => simp [intOf] <;> omega
          · have HXY := Lib.hid hxy
            first
              | exact absurd rfl hxy
              | (go_wp2
                 go_ret
                 exact ⟨ret_bool (by rw [HAB.out, HABS.out, HS.out, if_neg HXY.out] <;> simp), rfl⟩)
  · go_wp2_with fail
    go_loopw [4, 6, 7, 8] (fun _ i _ _ wr => ∃ k : Nat, k ≤ N ∧ i = .int .i64 ((k : Int) - 1) ∧ abS a b N = abS a b k ∧ wr = w) (fun _ i _ _ _ => (intOf i + 1).toNat)
    case atStart => exact ⟨N, Nat.le_refl _, rfl, rfl, rfl⟩
    case round =>
      obtain ⟨k, hk, rfl, habs, rfl⟩ := hrel
      have HABS := Lib.hid habs
      clear habs
      cases k with
      | zero =>
        go_wp2
        go_ret
        exact ⟨ret_bool (by rw [HAB.out, HABS.out]; rfl), rfl⟩
      | succ i =>
        have e1 : ((i + 1 : Nat) : Int) - 1 = (i : Int) := by omega
        rw [e1]
        have hS : abS a b (i + 1) = if a.getD i 0 = b.getD i 0 then abS a b i else decide (b.getD i 0 < a.getD i 0) := rfl
        obtain ⟨x, hx⟩ : ∃ x, x = a.getD i 0 := ⟨_, rfl⟩
        obtain ⟨y, hy⟩ : ∃ y, y = b.getD i 0 := ⟨_, rfl⟩
        rw [← hx, ← hy] at hS
        have HS := Lib.hid hS
        have hX : i < N → wr.cell? ⟨ga, oa + i, none⟩ = some (.int .u64 x) := fun h => by rw [hx]; exact row64 HRA.out (by rw [← HNN.out]; exact h)
        have hX0 : ¬ i < N → x = 0 := fun h => by rw [hx]; exact getD_out (by rw [← HNN.out]; omega)
        have hY : i < m → wr.cell? ⟨gb, ob + i, none⟩ = some (.int .u64 y) := fun h => by rw [hy]; exact row64 HRB.out (by rw [← HMM.out]; exact h)
        have hY0 : ¬ i < m → y = 0 := fun h => by rw [hy]; exact getD_out (by rw [← HMM.out]; omega)
        have HX := Lib.hid hX
        have HX0 := Lib.hid hX0
        have HY := Lib.hid hY
        have HY0 := Lib.hid hY0
        clear hS hx hy hX hX0 hY hY0 e1
        have iN : (i : Int) < 100 := by omega
        by_cases hA : i < N <;> by_cases hB : i < m <;> try (exfalso; omega)
        all_goals
          first
            | have cx := HX.out hA
            | (have cx := HX0.out hA; subst cx)
          first
            | have cy := HY.out hB
            | (have cy := HY0.out hB; subst cy)
          first | (by_cases hxy : x = y) | (by_cases hxy : x = 0) | (by_cases hxy : (0 : Nat) = y) | (by_cases hxy : (0 : Nat) = 0)
          · have HXY := Lib.hid hxy
            go_wp2
            go_roundw
            case rel => exact ⟨i, by omega, rfl, by rw [HABS.out, HS.out, if_pos HXY.out], by trivial⟩
            case measure => simp [intOf] <;> omega
          · have HXY := Lib.hid hxy
            first
              | exact absurd rfl hxy
              | (go_wp2
                 go_ret
                 exact ⟨ret_bool (by rw [HAB.out, HABS.out, HS.out, if_neg HXY.out] <;> simp), rfl⟩)
end Go.Proofs.Ythbdmfbjkkmplaa
