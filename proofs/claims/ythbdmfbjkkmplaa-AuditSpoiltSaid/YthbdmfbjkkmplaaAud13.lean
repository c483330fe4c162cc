/- Contracts of layer 61: the document's Compress. -/
import Derived.Test.YthbdmfbjkkmplaaAud12
import Derived.Test.YthbdmfbjkkmplaaAud1
namespace Go.Proofs.Ythbdmfbjkkmplaa
open Go.RowKit Go.Proofs.YthbdmfbjkkmplaaB Go.Proofs.Ythbdmfbjkkmplaa.Sha

theorem rturn_any (x n : Nat) (hx : x < 4294967296) (hn : n ∈ [2, 6, 7, 11, 13, 17, 18, 19, 22, 25]) (w : World) :
    Calls Try.prog 62 #[.int .u32 x, .int .u64 n] w fun e w' => e = .returned (.int .u32 (rotr x n)) ∧ w' = w := by
  simp only [List.mem_cons, List.not_mem_nil, or_false] at hn
  rcases hn with rfl | rfl | rfl | rfl | rfl | rfl | rfl | rfl | rfl | rfl
  all_goals
    go_enter Try.func62, Try.ntmps62
    go_wp2
    go_ret
    refine ⟨ret_int ?_, rfl⟩
    simp [rotr]
    omega

/-- the first i bytes of a word -/
def partW (blk : List Nat) (t : Nat) : Nat → Nat
  | 0 => 0
  | i + 1 => (partW blk t i * 256 + blk.getD (4 * t + i) 0) % 4294967296
theorem partW_4 {blk : List Nat} (hb : ∀ x ∈ blk, x < 256) (t : Nat) : partW blk t 4 = word4 blk t := by
  have h : ∀ j, blk.getD j 0 < 256 := fun j => getD_lt hb (by decide) j
  have h0 := h (4 * t); have h1 := h (4 * t + 1); have h2 := h (4 * t + 2); have h3 := h (4 * t + 3)
  simp only [partW, word4, Nat.add_zero]
  omega
def wpart (blk : List Nat) (t i : Nat) : List Nat := (wrow blk t).set t (partW blk t i)
theorem wpart_len (blk : List Nat) {t : Nat} (i : Nat) (ht : t ≤ 64) : (wpart blk t i).length = 64 := by simp [wpart, wrow_len blk ht]
theorem wpart_0 (blk : List Nat) {t : Nat} (ht : t < 64) : wpart blk t 0 = wrow blk t := by
  unfold wpart partW wrow
  rw [List.set_append_right _ _ (by rw [sched_len]; exact Nat.le_refl _), sched_len, Nat.sub_self, show 64 - t = (64 - (t + 1)) + 1 by omega, List.replicate_succ, List.set_cons_zero]
theorem wpart_get (blk : List Nat) {t : Nat} (i : Nat) (ht : t < 64) : (wpart blk t i).getD t 0 = partW blk t i := by
  unfold wpart
  rw [List.getD_eq_getElem?_getD, List.getElem?_set_self (by rw [wrow_len blk (by omega)]; exact ht)]; rfl
theorem wpart_set (blk : List Nat) (t i : Nat) : (wpart blk t i).set t ((partW blk t i * 256 + blk.getD (4 * t + i) 0) % 4294967296) = wpart blk t (i + 1) := by
  unfold wpart; rw [List.set_set]; rfl
theorem wpart_4 {blk : List Nat} (hb : ∀ x ∈ blk, x < 256) {t : Nat} (ht : t < 16) : wpart blk t 4 = wrow blk (t + 1) := by
  have := wrow_set blk (k := t) (by omega)
  rw [if_pos ht, ← partW_4 hb] at this
  exact this

theorem sub32 {x : Nat} (h : x < 4294967296) : ((4294967295 : Int) - (x : Int)) % 4294967296 = ((4294967295 - x : Nat) : Int) := by omega
theorem r1_int {x4 x5 x6 : Nat} (x7 kk ww : Nat) (h4 : x4 < 4294967296) (h5 : x5 < 4294967296) (h6 : x6 < 4294967296) :
    (((x7 : Int) + bits .xor .u32 (bits .xor .u32 (rotr x4 6 : Nat) (rotr x4 11 : Nat)) (rotr x4 25 : Nat) +
      bits .xor .u32 (bits .and .u32 x4 x5) (bits .and .u32 ((4294967295 - (x4 : Int)) % 4294967296) x6) + kk) % 4294967296 + ww) % 4294967296 = ((t1N x4 x5 x6 x7 kk ww : Nat) : Int) := by
  rw [sub32 h4, and32 h4 h5, and32 (by omega) h6, xor32 (and_lt h4) (and_lt (by omega)), xor32 (rotr_lt _ _) (rotr_lt _ _), xor32 (xor_lt (rotr_lt _ _) (rotr_lt _ _)) (rotr_lt _ _)]
  unfold t1N ep1 chf
  simp
set_option maxRecDepth 100000 in
set_option maxHeartbeats 4000000 in
theorem rcompress_any (h blk : List Nat) (hh : h.length = 8) (hl : ∀ x ∈ h, x < 4294967296) (hb : blk.length = 64) (hbl : ∀ x ∈ blk, x < 256) (w : World) :
    Calls Try.prog 56 #[.agg (u32s h).toArray, .agg (u8s blk).toArray] w fun e w' => e = .returned (.agg (u32s (compress h blk)).toArray) ∧ Ex0 w w' := by
  obtain ⟨HA, hHA⟩ : ∃ HA, HA = (u32s h).toArray := ⟨_, rfl⟩
  obtain ⟨BA, hBA⟩ : ∃ BA, BA = (u8s blk).toArray := ⟨_, rfl⟩
  rw [← hHA, ← hBA]
  have HHA := Lib.hid hHA
  have HBA := Lib.hid hBA
  have HL := Lib.hid hl
  have HBL := Lib.hid hbl
  clear hHA hBA hl hbl
  have HZ1 : Hid (∀ v ∈ (u32s (List.replicate 64 0)).toArray, v.oneCell' = true) := by show ∀ v ∈ _, _; simpa using u32s_one (List.replicate 64 0)
  go_enter Try.func56, Try.ntmps56
  iterate 12 go_step
  generalize hW : World.alloc (World.alloc (World.alloc w _) _) _ = W0
  have h0 : W32 W0 w.heap.size 85 h := by rw [← hW]; subst HHA; exact (alloc3 w _ _ _).1
  have h1 : W8 W0 (w.heap.size + 1) 89 blk := by rw [← hW]; subst HBA; exact (alloc3 w _ _ _).2.1
  have h2 : W32 W0 (w.heap.size + 1 + 1) 85 [0, 0, 0, 0, 0, 0, 0, 0] := by rw [← hW]; exact (alloc3 w _ _ _).2.2.1
  have hx : Ex0 w W0 := by rw [← hW]; exact ((Ex.alloc _ _).alloc' _).alloc' _
  have hsz : W0.heap.size = w.heap.size + 3 := by rw [← hW]; exact (alloc3 w _ _ _).2.2.2
  obtain ⟨b0, e0⟩ : ∃ b, b = w.heap.size := ⟨_, rfl⟩
  obtain ⟨b1, e1⟩ : ∃ b, b = w.heap.size + 1 := ⟨_, rfl⟩
  obtain ⟨b2, e2⟩ : ∃ b, b = w.heap.size + 1 + 1 := ⟨_, rfl⟩
  rw [← e2] at h2
  rw [← e1] at h1
  rw [← e0] at h0
  rw [← e2, ← e1, ← e0]
  have E0 := Lib.hid e0
  have E1 := Lib.hid e1
  have E2 := Lib.hid e2
  have HS0 := Lib.hid hsz
  clear hW e0 e1 e2 hsz
  go_wp2_with (refine wpList_store_all rfl 93 (.tmp 5) (.tmp 19) rfl W0.heap.size rfl (u32s (List.replicate 64 0)).toArray _ rfl 93 (heap_alloc_new _ _) (by rfl) HZ1.out (by kernel_rfl) ?_)
  rw [World.setRow_alloc_new]
  generalize hW : World.alloc W0 _ = W
  have h3 : W32 W W0.heap.size 93 (wrow blk 0) := by rw [← hW]; exact heap_alloc_new W0 _
  have hx0 : Ex0 W0 W := by rw [← hW]; exact Ex.alloc _ _
  obtain ⟨b3, e3⟩ : ∃ b, b = W0.heap.size := ⟨_, rfl⟩
  rw [← e3] at h3 ⊢
  have E3 : Hid (b3 = w.heap.size + 3) := e3.trans HS0.out
  have H0 := Lib.hid (h0.ex hx0 not_false)
  have H1 := Lib.hid (h1.ex hx0 not_false)
  have H2 := Lib.hid (h2.ex hx0 not_false)
  have H3 := Lib.hid h3
  have HX := Lib.hid (hx.trans0 hx0)
  clear e3 h0 h1 h2 h3 hx hW hx0
  go_loopw [6, 7] (fun t _ wr => ∃ k : Nat, k ≤ 16 ∧ t = .int .i64 k ∧ W32 wr b3 93 (wrow blk k) ∧ Ex (· = b3) W wr) (fun t _ _ => 16 - (intOf t).toNat)
  case atStart => exact ⟨0, by omega, rfl, H3.out, Ex.refl _ _⟩
  case round =>
    obtain ⟨t, ht, rfl, hw, hxr⟩ := hrel
    have HW := Lib.hid hw
    have HXR := Lib.hid hxr
    clear hw hxr
    by_cases hlt : t < 16
    · have it16 : (t : Int) < 16 := by omega
      go_wp2_with fail
      go_loopw [7] (fun s wr2 => ∃ i : Nat, i ≤ 4 ∧ s = .int .i64 i ∧ W32 wr2 b3 93 (wpart blk t i) ∧ Ex (· = b3) wr wr2) (fun s _ => 4 - (intOf s).toNat)
      case atStart => exact ⟨0, by omega, rfl, by rw [wpart_0 blk (by omega)]; exact HW.out, Ex.refl _ _⟩
      case round =>
        obtain ⟨i, hi, rfl, hv, hxs⟩ := hrel
        have HV := Lib.hid hv
        have HXS := Lib.hid hxs
        clear hv hxs
        by_cases hli : i < 4
        · obtain ⟨m, hm⟩ : ∃ m, m = 4 * t + i := ⟨_, rfl⟩
          have em : (4 : Int) * (t : Int) + (i : Int) = (m : Int) := by omega
          have hm64 : m < 64 := by omega
          have ct := HV.out.cell (j := t) (by rw [wpart_len blk i (by omega)]; omega)
          rw [wpart_get blk i (by omega)] at ct
          have ft := HV.out.frozen t
          have cb := (((H1.out.ex HXR.out (by rw [E1.out, E3.out]; omega)).ex HXS.out (by rw [E1.out, E3.out]; omega))).cell (j := m) (by omega)
          have HS := Lib.hid (wpart_set blk t i)
          obtain ⟨x, hx⟩ : ∃ x, x = partW blk t i := ⟨_, rfl⟩
          obtain ⟨y, hy⟩ : ∃ y, y = blk.getD m 0 := ⟨_, rfl⟩
          have hyb : y < 256 := by rw [hy]; exact getD_lt HBL.out (by decide) m
          rw [← hx] at ct
          rw [← hy] at cb
          rw [← hx, ← hm, ← hy] at HS
          have v4 : IntKind.i64.wrap (4 * (t : Int)) = 4 * (t : Int) := by rw [IntKind.wrap_i64]; omega
          have vt : IntKind.i64.wrap (t : Int) = (t : Int) := by rw [IntKind.wrap_i64]; omega
          have vm : IntKind.i64.wrap (m : Int) = (m : Int) := by rw [IntKind.wrap_i64]; omega
          have it : (t : Int) < 64 := by omega
          have im : (m : Int) < 64 := by omega
          clear hm hx hy
          go_wp2_with fail
          go_still_tail 14, (by kernel_rfl)
          change wpList _ _ _ _ _ wr.drew
          have hdd : Ex0 wr wr.drew := Ex.drew _
          have ctd := hdd.cellS ct not_false
          have HVd := Lib.hid (HV.out.ex hdd not_false)
          have ftd := HVd.out.frozen t
          have HDD := Lib.hid hdd
          generalize wr.drew = wd at *
          clear ct ft cb hdd
          go_wp2
          go_roundw
          case rel =>
            refine ⟨i + 1, by omega, by go_num, ?_, (HXS.out.trans0 HDD.out).trans (Ex.setCell _ _ _) (fun _ _ h => h) (fun _ _ h => h)⟩
            rw [← HS.out]
            have := HVd.out.set t ((x * 256 + y) % 4294967296)
            simpa using this
          case measure => simp [intOf] <;> omega
        · obtain rfl : i = 4 := by omega
          have hw4 := HV.out
          rw [wpart_4 HBL.out hlt] at hw4
          have HW4 := Lib.hid hw4
          clear hw4
          go_wp2
          go_roundw
          case rel => exact ⟨t + 1, by omega, by go_num, HW4.out, HXR.out.trans HXS.out (fun _ _ h => h) (fun _ _ h => h)⟩
          case measure => simp [intOf] <;> omega
    · have it16 : ¬ (t : Int) < 16 := by omega
      have hw16 := HW.out
      rw [show t = 16 by omega] at hw16
      have HW := Lib.hid hw16
      clear hw16
      go_wp2_with fail
      go_loopw [8, 9, 10] (fun i _ _ w2 => ∃ k : Nat, 16 ≤ k ∧ k ≤ 64 ∧ i = .int .i64 k ∧ W32 w2 b3 93 (wrow blk k) ∧ Ex (· = b3) W w2) (fun i _ _ _ => 64 - (intOf i).toNat)
      case atStart => exact ⟨16, by omega, by omega, rfl, HW.out, HXR.out⟩
      case round =>
        obtain ⟨k, hk16', hk, rfl, hw, hxr⟩ := hrel
        have HW := Lib.hid hw
        have HXR := Lib.hid hxr
        clear hw hxr
        by_cases hlt : k < 64
        · have hk15 : (k : Int) - 15 = ((k - 15 : Nat) : Int) := by omega
          have hk2 : (k : Int) - 2 = ((k - 2 : Nat) : Int) := by omega
          have hk16 : (k : Int) - 16 = ((k - 16 : Nat) : Int) := by omega
          have hk7 : (k : Int) - 7 = ((k - 7 : Nat) : Int) := by omega
          obtain ⟨a15, ha15⟩ : ∃ a, a = k - 15 := ⟨_, rfl⟩
          obtain ⟨a2, ha2⟩ : ∃ a, a = k - 2 := ⟨_, rfl⟩
          obtain ⟨a16, ha16⟩ : ∃ a, a = k - 16 := ⟨_, rfl⟩
          obtain ⟨a7, ha7⟩ : ∃ a, a = k - 7 := ⟨_, rfl⟩
          rw [← ha15] at hk15
          rw [← ha2] at hk2
          rw [← ha16] at hk16
          rw [← ha7] at hk7
          have l15 : a15 < 64 := by omega
          have l2 : a2 < 64 := by omega
          have l16 : a16 < 64 := by omega
          have l7 : a7 < 64 := by omega
          have hwl := wrow_len blk hk
          have c15 := HW.out.cell (j := a15) (by omega)
          have c2 := HW.out.cell (j := a2) (by omega)
          have c16 := HW.out.cell (j := a16) (by omega)
          have c7 := HW.out.cell (j := a7) (by omega)
          have hwlt := sched_lt HBL.out k
          have hg : ∀ i, i < k → ∃ x : Nat, (wrow blk k).getD i 0 = x ∧ x < 4294967296 ∧ (sched blk k).getD i 0 = x := fun i hi => ⟨_, wrow_get blk hi, getD_lt hwlt (by decide) i, rfl⟩
          obtain ⟨x15, g15, t15, s15⟩ := hg a15 (by omega)
          obtain ⟨x2, g2, t2, s2⟩ := hg a2 (by omega)
          obtain ⟨x16, g16, t16, s16⟩ := hg a16 (by omega)
          obtain ⟨x7, g7, t7, s7⟩ := hg a7 (by omega)
          rw [g15] at c15
          rw [g2] at c2
          rw [g16] at c16
          rw [g7] at c7
          have HN : Hid (nextW (sched blk k) = (x16 + x7 + sg0 x15 + sg1 x2) % 4294967296) := by
            show _ = _
            unfold nextW
            rw [sched_len, ← ha16, ← ha7, ← ha15, ← ha2, s16, s7, s15, s2]
          have hck := HW.out.cell (j := k) (by omega)
          have hfk := HW.out.frozen k
          have TT := Lib.hid (And.intro t15 (And.intro t2 (And.intro t16 t7)))
          clear hg hwlt g15 g2 g16 g7 s15 s2 s16 s7 t15 t2 t16 t7 ha15 ha2 ha16 ha7 hwl
          have v16 : IntKind.i64.wrap (a16 : Int) = (a16 : Int) := by rw [IntKind.wrap_i64]; omega
          have v7 : IntKind.i64.wrap (a7 : Int) = (a7 : Int) := by rw [IntKind.wrap_i64]; omega
          have vk : IntKind.i64.wrap (k : Int) = (k : Int) := by rw [IntKind.wrap_i64]; omega
          have i16 : (a16 : Int) < 64 := by omega
          have i7 : (a7 : Int) < 64 := by omega
          have ik : (k : Int) < 64 := by omega
          go_wp2_with fail
          go_still_tail 29, (by kernel_rfl)
          still_call (rturn_any x15 7 TT.out.1 (by decide) _)
          repeat still_step
          still_call (rturn_any x15 18 TT.out.1 (by decide) _)
          repeat still_step
          still_call (rturn_any x2 17 TT.out.2.1 (by decide) _)
          repeat still_step
          still_call (rturn_any x2 19 TT.out.2.1 (by decide) _)
          repeat still_step
          refine wpStill_nil ?_
          change wpList _ _ _ _ _ wr.drew
          have hdd : Ex0 wr wr.drew := Ex.drew _
          have hckd := hdd.cellS hck not_false
          have hfkd := (HW.out.ex hdd not_false).frozen k
          have HDD := Lib.hid hdd
          generalize wr.drew = wd at *
          clear hdd hck hfk c16 c7 c15 c2
          go_wp2
          go_roundw
          case rel =>
            refine ⟨k + 1, by omega, by omega, by go_num, ?_, ?_⟩
            · have := (HW.out.ex HDD.out not_false).set k (nextW (sched blk k))
              rw [← wrow_set blk hlt, if_neg (by omega : ¬ k < 16), HN.out]
              rw [HN.out] at this
              rw [show (x15 : Int) / 8 % 4294967296 = (x15 : Int) / 8 by have := TT.out.1; omega, show (x2 : Int) / 1024 % 4294967296 = (x2 : Int) / 1024 by have := TT.out.2.1; omega, next_int _ _ TT.out.1 TT.out.2.1]; exact this
            · exact (HXR.out.trans0 HDD.out).trans (Ex.setCell _ _ _) (fun _ _ h => h) (fun _ _ h => h)
          case measure => simp [intOf] <;> omega
        · have ik64 : ¬ (k : Int) < 64 := by omega
          have hw64 := HW.out
          rw [show k = 64 by omega] at hw64
          have HW := Lib.hid hw64
          clear hw64
          have HB0 := Lib.hid (H0.out.ex HXR.out (by rw [E0.out, E3.out]; omega))
          have HB2 := Lib.hid (H2.out.ex HXR.out (by rw [E2.out, E3.out]; omega))
          have HXW : Hid (Ex0 w wr) := HX.out.trans HXR.out (fun _ _ h => h) (fun i hi h => by rw [E3.out] at h; omega)
          go_wp2_with fail
          refine (rrounds _).mono ?_
          rintro e w2 ⟨rfl, hx2⟩
          have HB0 := Lib.hid (HB0.out.ex hx2 not_false)
          have HB2 := Lib.hid (HB2.out.ex hx2 not_false)
          have HW := Lib.hid (HW.out.ex hx2 not_false)
          have HXW := Lib.hid (HXW.out.trans0 hx2)
          have HKS := Lib.hid hx2.size
          have HW4S := Lib.hid (show b3 < w2.heap.size from HW.out.lt)
          clear hx2
          obtain ⟨KA, hKA⟩ : ∃ KA, KA = (u32s ks).toArray := ⟨_, rfl⟩
          rw [← hKA]
          have hKs : KA.size = 64 := by rw [hKA]; rfl
          have hK1 : Hid (∀ v ∈ KA, v.oneCell' = true) := by show ∀ v ∈ KA, _; rw [hKA]; simpa using u32s_one ks
          have HKA := Lib.hid hKA
          have hHA : HA.size = 8 := by rw [HHA.out]; simpa [u32s_len] using hh
          have H1A : Hid (∀ v ∈ HA, v.oneCell' = true) := by show ∀ v ∈ HA, _; rw [HHA.out]; simpa using u32s_one h
          clear hKA
          go_wp2_with (first | (refine wpList_store_all rfl 93 (.tmp 11) (.tmp 83) rfl w2.heap.size rfl KA _ rfl 93 (heap_alloc_new _ _) (by rw [hKs]; rfl) hK1.out (by rw [hKs]; kernel_rfl) ?_; rw [World.setRow_alloc_new]; obtain ⟨Wk, hWk⟩ : ∃ W, W = w2.alloc (.cells KA 93) := ⟨_, rfl⟩; rw [← hWk]; have hbk : W32 Wk w2.heap.size 93 ks := (by unfold W32; rw [hWk, heap_alloc_new, HKA.out]); have hxk : Ex0 w2 Wk := (by rw [hWk]; exact Ex.alloc _ _); have HBK := Lib.hid hbk; have HXK := Lib.hid hxk; have hb0 : Wk.heap[b0]? = some (.cells HA 85 (0, 0)) := (by rw [HHA.out]; exact HB0.out.ex hxk not_false); clear hWk hbk hxk) | refine wpList_load_row rfl 85 (.tmp 2) rfl b0 rfl 85 HA (0, 0) _ hb0 Try.underlying85 rfl (by rw [hHA]; kernel_rfl) ?_ | (refine wpList_store_all rfl 85 (.tmp 12) (.tmp 84) rfl Wk.heap.size rfl HA _ rfl 85 (heap_alloc_new _ _) (by rw [hHA]; rfl) H1A.out (by rw [hHA]; kernel_rfl) ?_; rw [World.setRow_alloc_new]; obtain ⟨Wv, hWv⟩ : ∃ W, W = Wk.alloc (.cells HA 85) := ⟨_, rfl⟩; rw [← hWv]; have hbv : W32 Wv Wk.heap.size 85 (rnds h (sched blk 64) 0) := (by unfold W32; rw [hWv, heap_alloc_new, HHA.out]; rfl); have hxv : Ex0 Wk Wv := (by rw [hWv]; exact Ex.alloc _ _); have HBV := Lib.hid hbv; have HXV := Lib.hid hxv; clear hWv hbv hxv))
          obtain ⟨b11, e11⟩ : ∃ b, b = w2.heap.size := ⟨_, rfl⟩
          obtain ⟨b12, e12⟩ : ∃ b, b = Wk.heap.size := ⟨_, rfl⟩
          rw [← e11] at HBK ⊢
          rw [← e12] at HBV ⊢
          have E11 := Lib.hid e11
          have E12 := Lib.hid e12
          clear e11 e12 hb0
          have HW := Lib.hid ((HW.out.ex HXK.out not_false).ex HXV.out not_false)
          have HB0 := Lib.hid ((HB0.out.ex HXK.out not_false).ex HXV.out not_false)
          have HB2 := Lib.hid ((HB2.out.ex HXK.out not_false).ex HXV.out not_false)
          have HXW := Lib.hid ((HXW.out.trans0 HXK.out).trans0 HXV.out)
          have HKL := Lib.hid HBK.out.lt
          have HBK := Lib.hid (HBK.out.ex HXV.out not_false)
          have HNE : Hid (b3 ≠ b12 ∧ b11 ≠ b12 ∧ b0 ≠ b12 ∧ b2 ≠ b12) := by
            have h1 := HX.out.size
            have h2 := HXR.out.size
            have h3 := HXK.out.size
            have q0 := E0.out
            have q2 := E2.out
            have q3 := E3.out
            have q11 := E11.out
            have q12 := E12.out
            have q4 := HW4S.out
            have q5 := HKS.out
            have q6 := HKL.out
            exact ⟨by omega, by omega, by omega, by omega⟩
          have HNB : Hid (w.heap.size ≤ b12) := by
            have h1 := HX.out.size
            have h2 := HXR.out.size
            have h3 := HXK.out.size
            have q0 := E0.out
            have q2 := E2.out
            have q3 := E3.out
            have q11 := E11.out
            have q12 := E12.out
            have q4 := HW4S.out
            have q5 := HKS.out
            have q6 := HKL.out
            show w.heap.size ≤ b12
            omega
          go_loopw [13, 14, 15, 16, 17] (fun i _ _ _ _ w5 => ∃ k : Nat, k ≤ 64 ∧ i = .int .i64 k ∧ W32 w5 b12 85 (rnds h (sched blk 64) k) ∧ Ex (· = b12) Wv w5) (fun i _ _ _ _ _ => 64 - (intOf i).toNat)
          case atStart => exact ⟨0, by omega, rfl, HBV.out, Ex.refl _ _⟩
          case round =>
            obtain ⟨k, hk, rfl, hv, hxr⟩ := hrel
            have HV := Lib.hid hv
            have HXS := Lib.hid hxr
            clear hv hxr
            by_cases hlt : k < 64
            · have hVl : (rnds h (sched blk 64) k).length = 8 := rnds_len h _ hh k
              have hVb := rnds_lt (ws := sched blk 64) HL.out k
              have hg : ∀ i, i < 8 → ∃ x : Nat, (rnds h (sched blk 64) k).getD i 0 = x ∧ x < 4294967296 ∧ wr.cell? ⟨b12, i, none⟩ = some (.int .u32 x) := fun i hi => ⟨_, rfl, getD_lt hVb (by decide) i, HV.out.cell (by omega)⟩
              obtain ⟨x0, g0, t0, c0⟩ := hg 0 (by omega)
              obtain ⟨x1, g1, t1, c1⟩ := hg 1 (by omega)
              obtain ⟨x2, g2, t2, c2⟩ := hg 2 (by omega)
              obtain ⟨x3, g3, t3, c3⟩ := hg 3 (by omega)
              obtain ⟨x4, g4, t4, c4⟩ := hg 4 (by omega)
              obtain ⟨x5, g5, t5, c5⟩ := hg 5 (by omega)
              obtain ⟨x6, g6, t6, c6⟩ := hg 6 (by omega)
              obtain ⟨x7, g7, t7, c7⟩ := hg 7 (by omega)
              obtain ⟨kk, gk, tk⟩ : ∃ x : Nat, ks.getD k 0 = x ∧ x < 4294967296 := ⟨_, rfl, getD_lt (by decide : ∀ x ∈ ks, x < 4294967296) (by decide) k⟩
              obtain ⟨ww, gw, tw⟩ : ∃ x : Nat, (sched blk 64).getD k 0 = x ∧ x < 4294967296 := ⟨_, rfl, getD_lt (sched_lt HBL.out 64) (by decide) k⟩
              have hcw := (HW.out.ex HXS.out HNE.out.1).cell (j := k) (by rw [wrow_len blk (by omega)]; exact hlt)
              rw [wrow_get blk hlt, gw] at hcw
              have hck := (HBK.out.ex HXS.out HNE.out.2.1).cell (j := k) hlt
              rw [gk] at hck
              have HR : Hid (rnds h (sched blk 64) (k + 1) = rnd [x0, x1, x2, x3, x4, x5, x6, x7] kk ww) := by
                show _ = _
                simp only [rnds, gk, gw, rnd, g0, g1, g2, g3, g4, g5, g6, g7]
                rfl
              have ik : (k : Int) < 64 := by omega
              have TT := Lib.hid (And.intro t0 (And.intro t1 (And.intro t2 (And.intro t3 (And.intro t4 (And.intro t5 (And.intro t6 (And.intro t7 (And.intro tk tw)))))))))
              clear hg hVb g0 g1 g2 g3 g4 g5 g6 g7 gk gw t0 t1 t2 t3 t4 t5 t6 t7 tk tw
              have R6 := Lib.hid (show ∀ w, Calls Try.prog 62 #[.int .u32 x4, .int .u64 6] w fun e w' => e = .returned (.int .u32 (rotr x4 6)) ∧ w' = w from fun w => rturn_any x4 6 TT.out.2.2.2.2.1 (by decide) w)
              have R11 := Lib.hid (show ∀ w, Calls Try.prog 62 #[.int .u32 x4, .int .u64 11] w fun e w' => e = .returned (.int .u32 (rotr x4 11)) ∧ w' = w from fun w => rturn_any x4 11 TT.out.2.2.2.2.1 (by decide) w)
              have R25 := Lib.hid (show ∀ w, Calls Try.prog 62 #[.int .u32 x4, .int .u64 25] w fun e w' => e = .returned (.int .u32 (rotr x4 25)) ∧ w' = w from fun w => rturn_any x4 25 TT.out.2.2.2.2.1 (by decide) w)
              have R2 := Lib.hid (show ∀ w, Calls Try.prog 62 #[.int .u32 x0, .int .u64 2] w fun e w' => e = .returned (.int .u32 (rotr x0 2)) ∧ w' = w from fun w => rturn_any x0 2 TT.out.1 (by decide) w)
              have R13 := Lib.hid (show ∀ w, Calls Try.prog 62 #[.int .u32 x0, .int .u64 13] w fun e w' => e = .returned (.int .u32 (rotr x0 13)) ∧ w' = w from fun w => rturn_any x0 13 TT.out.1 (by decide) w)
              have R22 := Lib.hid (show ∀ w, Calls Try.prog 62 #[.int .u32 x0, .int .u64 22] w fun e w' => e = .returned (.int .u32 (rotr x0 22)) ∧ w' = w from fun w => rturn_any x0 22 TT.out.1 (by decide) w)
              go_wp2_with fail
              go_quiet ((go_at_call 62; (first | (with_reducible exact Calls.quiet_of_same (R6.out _)) | (with_reducible exact Calls.quiet_of_same (R11.out _)) | (with_reducible exact Calls.quiet_of_same (R25.out _)))))
              rw [r1_int x7 kk ww TT.out.2.2.2.2.1 TT.out.2.2.2.2.2.1 TT.out.2.2.2.2.2.2.1]
              generalize hT1 : t1N x4 x5 x6 x7 kk ww = T1
              have HT1 := Lib.hid hT1
              clear hT1
              have hx3 : Ex0 wr (wr.drewN nq) := (Ex.refl _ _).drewN' _
              have d0 := hx3.cellS c0 not_false
              have d1 := hx3.cellS c1 not_false
              have d2 := hx3.cellS c2 not_false
              have d3 := hx3.cellS c3 not_false
              have d4 := hx3.cellS c4 not_false
              have d5 := hx3.cellS c5 not_false
              have d6 := hx3.cellS c6 not_false
              have HV3 := Lib.hid (HV.out.ex hx3 not_false)
              have HX3 := Lib.hid hx3
              generalize wr.drewN nq = wq at *
              clear hx3 c0 c1 c2 c3 c4 c5 c6 c7 hcw hck
              go_wp2_with fail
              go_quiet ((go_at_call 62; (first | (with_reducible exact Calls.quiet_of_same (R2.out _)) | (with_reducible exact Calls.quiet_of_same (R13.out _)) | (with_reducible exact Calls.quiet_of_same (R22.out _)))))
              rw [t2_int TT.out.1 TT.out.2.1 TT.out.2.2.1]
              generalize hT2 : t2N x0 x1 x2 = T2
              have HT2 := Lib.hid hT2
              clear hT2
              have hx4 : Ex0 wq (wq.drewN nq) := (Ex.refl _ _).drewN' _
              have c0 := hx4.cellS d0 not_false
              have c1 := hx4.cellS d1 not_false
              have c2 := hx4.cellS d2 not_false
              have c3 := hx4.cellS d3 not_false
              have c4 := hx4.cellS d4 not_false
              have c5 := hx4.cellS d5 not_false
              have c6 := hx4.cellS d6 not_false
              have HV4 := Lib.hid (HV3.out.ex hx4 not_false)
              have HX4 := Lib.hid (HX3.out.trans0 hx4)
              generalize wq.drewN nq = wd at *
              clear hx4 d0 d1 d2 d3 d4 d5 d6
              go_wp2_with (refine wpList_store_all rfl 85 (.tmp 12) (.tmp 166) rfl b12 rfl _ (u32s (rnds h (sched blk 64) k)).toArray rfl 85 HV4.out (by simp [u32s_len, hVl]) (by simp [Value.oneCell']) (by kernel_rfl) ?_)
              go_roundw
              case rel =>
                refine ⟨k + 1, by omega, by go_num, ?_, ?_⟩
                · unfold W32
                  rw [setRow_heap _ _ _ _ _ _ HV4.out, HR.out]
                  have hr : rnd [x0, x1, x2, x3, x4, x5, x6, x7] kk ww = [(T1 + T2) % 4294967296, x0, x1, x2, (x3 + T1) % 4294967296, x4, x5, x6] := by
                    rw [← HT1.out, ← HT2.out]; simp [rnd, t1N, t2N]
                  rw [hr]
                  simp [u32s]
                · exact (HXS.out.trans0 HX4.out).trans (ex_setRow _ _ _) (fun _ _ h => h) (fun _ _ h => h)
              case measure => simp [intOf] <;> omega
            · have ik : ¬ (k : Int) < 64 := by omega
              have H5 : W32 wr b12 85 (addN h (rnds h (sched blk 64) 64) 0) := by
                have := HV.out
                rw [show k = 64 by omega] at this; exact this
              have H5 := Lib.hid H5
              have HB0' := Lib.hid (HB0.out.ex HXS.out HNE.out.2.2.1)
              have HB2' := Lib.hid (HB2.out.ex HXS.out HNE.out.2.2.2)
              go_wp2_with fail
              go_loopw [18] (fun i w5 => ∃ k : Nat, k ≤ 8 ∧ i = .int .i64 k ∧ W32 w5 b12 85 (addN h (rnds h (sched blk 64) 64) k) ∧ Ex (· = b12) wr w5) (fun i _ => 8 - (intOf i).toNat)
              case atStart => exact ⟨0, by omega, rfl, H5.out, Ex.refl _ _⟩
              case round =>
                obtain ⟨k, hk, rfl, hv, hxr⟩ := hrel
                have HV5 := Lib.hid hv
                have HX5 := Lib.hid hxr
                clear hv hxr
                by_cases hlt : k < 8
                · have hvl := rnds_len h (sched blk 64) hh 64
                  have ce := HV5.out.cell (j := k) (by rw [addN_len hh hvl (by omega)]; exact hlt)
                  rw [addN_get hh hvl hlt] at ce
                  have fe := HV5.out.frozen k
                  have ch := (HB0'.out.ex HX5.out HNE.out.2.2.1).cell (j := k) (by omega)
                  have HS5 := Lib.hid (addN_set hh hvl hlt)
                  obtain ⟨xe, hxe⟩ : ∃ x, x = (rnds h (sched blk 64) 64).getD k 0 := ⟨_, rfl⟩
                  obtain ⟨xh, hxh⟩ : ∃ x, x = h.getD k 0 := ⟨_, rfl⟩
                  rw [← hxe, ← hxh] at HS5
                  rw [← hxe] at ce
                  rw [← hxh] at ch
                  have vk : IntKind.i64.wrap (k : Int) = (k : Int) := by rw [IntKind.wrap_i64]; omega
                  have ik : (k : Int) < 8 := by omega
                  clear hxe hxh
                  go_wp2_with fail
                  go_still_tail 9, (by kernel_rfl)
                  change wpList _ _ _ _ _ wr.drew
                  have hdd : Ex0 wr wr.drew := (Ex.refl _ _).drew'
                  have ced := hdd.cellS ce not_false
                  have HVd := Lib.hid (HV5.out.ex hdd not_false)
                  have fed := HVd.out.frozen k
                  have HDD := Lib.hid hdd
                  generalize wr.drew = wd at *
                  clear hdd ce fe ch
                  go_wp2
                  go_roundw
                  case rel =>
                    refine ⟨k + 1, by omega, by go_num, ?_, ?_⟩
                    · rw [← HS5.out]
                      have := HVd.out.set k ((xe + xh) % 4294967296)
                      simpa using this
                    · exact (HX5.out.trans0 HDD.out).trans (Ex.setCell _ _ _) (fun _ _ h => h) (fun _ _ h => h)
                  case measure => simp [intOf] <;> omega
                · have ik : ¬ (k : Int) < 8 := by omega
                  have hvl := rnds_len h (sched blk 64) hh 64
                  have H9 : Hid (W32 wr b12 85 (compress h blk)) := by
                    have := HV5.out
                    rw [show k = 8 by omega, addN_all hh hvl] at this
                    exact this
                  have HL9 := Lib.hid (compress_len h blk hh)
                  have HH2 := Lib.hid (HB2'.out.ex HX5.out HNE.out.2.2.2)
                  obtain ⟨CA, hCA⟩ : ∃ A, A = (u32s (compress h blk)).toArray := ⟨_, rfl⟩
                  have h9 : wr.heap[b12]? = some (.cells CA 85 (0, 0)) := by rw [hCA]; exact H9.out
                  have hsz : CA.size = 8 := by rw [hCA]; simpa [u32s_len] using HL9.out
                  have H1C : Hid (∀ v ∈ CA, v.oneCell' = true) := by show ∀ v ∈ CA, _; rw [hCA]; simpa using u32s_one (compress h blk)
                  have HCA := Lib.hid hCA
                  clear hCA
                  go_wp2_with (first | refine wpList_load_row rfl 85 (.tmp 12) rfl b12 rfl 85 CA (0, 0) _ h9 Try.underlying85 rfl (by rw [hsz]; kernel_rfl) ?_ | refine wpList_store_all rfl 85 (.tmp 4) (.tmp 180) rfl b2 rfl CA _ rfl 85 HH2.out (by rw [hsz]; rfl) H1C.out (by rw [hsz]; kernel_rfl) ?_)
                  refine bodyPost_ret (results_cell_row rfl _ _ b2 _ _ _ _ rfl (setRow_heap _ _ _ _ _ _ HH2.out) Try.underlying85 rfl (by rw [hsz]; kernel_rfl)) rfl ?_
                  refine ⟨by rw [HCA.out], ?_⟩
                  have q1 : Ex0 w _ := HXW.out
                  have q4 : Ex0 w _ := q1.trans HXS.out (fun _ _ h => h) (fun i hi h => by have := HNB.out; omega)
                  have q5 : Ex0 w _ := q4.trans HX5.out (fun _ _ h => h) (fun i hi h => by have := HNB.out; omega)
                  exact q5.trans (ex_setRow _ _ _) (fun _ _ h => h) (fun i hi h => by rw [E2.out] at h; omega)
end Go.Proofs.Ythbdmfbjkkmplaa
