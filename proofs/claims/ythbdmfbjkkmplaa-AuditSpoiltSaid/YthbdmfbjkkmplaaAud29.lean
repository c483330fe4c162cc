/- Contracts of layer 61: the document's Leaves. -/
import Derived.Test.YthbdmfbjkkmplaaAud26
import Derived.Test.YthbdmfbjkkmplaaAud28
namespace Go.Proofs.Ythbdmfbjkkmplaa
open Go.RowKit Go.Proofs.YthbdmfbjkkmplaaB Go.Proofs.Ythbdmfbjkkmplaa.Sha

def z32 : List Nat := List.replicate 32 0
theorem z32_ok : z32.length = 32 ∧ ∀ x ∈ z32, x < 256 := ⟨by simp [z32], fun x hx => by have := List.eq_of_mem_replicate hx; subst this; decide⟩
def leafN (f : Nat → List Nat) (n m : Nat) : List (List Nat) := (List.range m).map fun i => leafS (i / n) (i % n) (f i)
theorem leafN_len (f : Nat → List Nat) (n m : Nat) : (leafN f n m).length = m := by simp [leafN]
theorem leafN_succ (f : Nat → List Nat) (n m : Nat) : leafN f n (m + 1) = leafN f n m ++ [leafS (m / n) (m % n) (f m)] := by simp [leafN, List.range_succ]
theorem leafN_ok (f : Nat → List Nat) (n m : Nat) : AllB 16 (leafN f n m) := by
  intro x hx
  obtain ⟨i, _, rfl⟩ := List.mem_map.1 hx
  exact ⟨leafS_len _ _ _, leafS_lt _ _ _⟩
theorem divmod {a n b : Nat} (h : b < n) : (a * n + b) / n = a ∧ (a * n + b) % n = b := by
  constructor
  · rw [Nat.mul_comm, Nat.mul_add_div (by omega), Nat.div_eq_of_lt h, Nat.add_zero]
  · rw [Nat.mul_comm, Nat.mul_add_mod, Nat.mod_eq_of_lt h]
/-- the blocks of a disk -/
def blkAt (bl : List (List Nat)) (i : Nat) : List Nat := bl.getD i z32
theorem blkAt_ok {bl : List (List Nat)} (h : AllB 32 bl) (i : Nat) : (blkAt bl i).length = 32 ∧ ∀ x ∈ blkAt bl i, x < 256 := by
  unfold blkAt
  rcases Nat.lt_or_ge i bl.length with hi | hi
  · rw [List.getD_eq_getElem?_getD, List.getElem?_eq_getElem hi]; exact h _ (List.getElem_mem hi)
  · rw [List.getD_eq_getElem?_getD, List.getElem?_eq_none hi]; exact z32_ok
theorem mul_bound {v n a : Nat} (h : a < v) (hv : v ≤ 8) (hn : n ≤ 256) : a * n + n ≤ v * n ∧ a * n ≤ 2048 := by
  have h1 : (a + 1) * n ≤ v * n := Nat.mul_le_mul_right _ h
  have h2 : v * n ≤ 8 * 256 := Nat.mul_le_mul hv hn
  rw [Nat.succ_mul] at h1
  omega

set_option maxRecDepth 100000 in
set_option maxHeartbeats 2000000 in
theorem rleaves_any (v n : Nat) (hv : v ≤ 8) (hn : n ≤ 256) (bl : List (List Nat)) (hbl : AllB 32 bl) (hL : bl.length ≤ 100000) (A : Option Addr) (cap : Nat) (w : World) (hs : Sl w 32 A bl.length (rowN 32 bl)) :
    Calls Try.prog 16 #[.int .i64 v, .int .i64 n, .slice A bl.length cap] w fun e w' => ∃ v', e = .returned v' ∧ w'.ownsRow w.heap.size 28 16 v' (v * n) (rowN 16 (leafN (blkAt bl) n (v * n))) ∧ Ex0 w w' := by
  obtain ⟨i0, hi0, hz0, hz1, hz2⟩ := info_parts infoSum
  have HS := Lib.hid hs
  have HBL := Lib.hid hbl
  obtain ⟨L, hLe⟩ : ∃ L, L = bl.length := ⟨_, rfl⟩
  rw [← hLe] at hL HS ⊢
  have HLE := Lib.hid hLe
  clear hs hbl hLe
  go_enter Try.func16, Try.ntmps16
  go_wp2_with fail
  go_loopw [7, 8, 9, 10, 11] (fun ov va _ _ _ wr => ∃ (a : Nat) (v5 : Value), a ≤ v ∧ va = .int .i64 a ∧ v5 = ov ∧ wr.ownsRow w.heap.size 28 16 v5 (a * n) (rowN 16 (leafN (blkAt bl) n (a * n))) ∧ Ex0 w wr) (fun _ va _ _ _ _ => v - (intOf va).toNat)
  case atStart => exact ⟨0, _, by omega, rfl, rfl, ⟨by simp [rowN, leafN], .inl ⟨rfl, by simp⟩⟩, Ex.refl _ _⟩
  case round =>
    obtain ⟨a, v5, ha, rfl, rfl, ho, hx⟩ := hrel
    have HO := Lib.hid ho
    have HX := Lib.hid hx
    clear ho hx
    by_cases hlt : a < v
    · have iav : (a : Int) < (v : Int) := by omega
      have hmb := mul_bound hlt hv hn
      obtain ⟨na, hna⟩ : ∃ na, na = a * n := ⟨_, rfl⟩
      rw [← hna] at hmb HO
      have ena : (a : Int) * (n : Int) = (na : Int) := by rw [hna]; simp
      have hnb : na ≤ 2048 := hmb.2
      have HNA := Lib.hid hna
      have ha8 : a < 8 := by omega
      clear hna hmb
      obtain ⟨wo, rfl⟩ : ∃ wo : World, wo = wr := ⟨_, rfl⟩
      go_wp2_with fail
      go_loopw [7, 9, 10, 11] (fun ov vb _ _ wr => ∃ (b : Nat) (v5 : Value), b ≤ n ∧ vb = .int .i64 b ∧ v5 = ov ∧ wr.ownsRow w.heap.size 28 16 v5 (na + b) (rowN 16 (leafN (blkAt bl) n (na + b))) ∧ Ex0 w wr) (fun _ vb _ _ _ => n - (intOf vb).toNat)
      case atStart => exact ⟨0, _, by omega, rfl, rfl, HO.out, HX.out⟩
      case round =>
        obtain ⟨b, v6, hb, rfl, rfl, ho, hx⟩ := hrel
        have HOb := Lib.hid ho
        have HXb := Lib.hid hx
        clear ho hx
        by_cases hlb : b < n
        · have ibn : (b : Int) < (n : Int) := by omega
          obtain ⟨i, hi⟩ : ∃ i, i = na + b := ⟨_, rfl⟩
          have ei : (na : Int) + (b : Int) = (i : Int) := by omega
          have hib : i ≤ 2304 := by omega
          have HDM := divmod (a := a) hlb
          rw [← HNA.out, ← hi] at HDM
          have hbk := blkAt_ok HBL.out i
          obtain ⟨B, hB⟩ : ∃ B, B = blkAt bl i := ⟨_, rfl⟩
          rw [← hB] at hbk
          have HLS : Hid (leafN (blkAt bl) n (i + 1) = leafN (blkAt bl) n i ++ [leafS a b B]) := by
            show _ = _
            rw [leafN_succ, HDM.1, HDM.2, hB]
          rw [← hi] at HOb
          have HI := Lib.hid hi
          have HLF : Hid (∀ w', Calls Try.prog 14 #[.int .i64 a, .int .i64 b, .agg (u8s B).toArray] w' fun e w'' => e = .returned (.agg (u8s (leafS a b B)).toArray) ∧ Ex0 w' w'') := fun w' => rleaf61_any a b (by omega) (by omega) B hbk.1 hbk.2 w'
          obtain ⟨VL, hVL⟩ : ∃ V, V = (u8s (leafS a b B)).toArray := ⟨_, rfl⟩
          rw [← hVL] at HLF
          have hvs : VL.size = 16 := by rw [hVL]; simp [u8s_len, leafS_len]
          have H1V : Hid (∀ u ∈ VL.toList, u.oneCell' = true) := by show ∀ u ∈ _, _; rw [hVL]; exact u8s_one _
          have hf := sum_fold VL hvs
          have HVL := Lib.hid hVL
          by_cases hiL : i < L
          · have iiL : (i : Int) < (L : Int) := by omega
            obtain ⟨g, off, hA, hr⟩ := (HS.out.ex0 HXb.out).elemN (by decide) HLE.out (i := i) hiL (by
              have := hbk.1; rw [hB] at this; unfold blkAt at this
              have e : bl.getD i z32 = bl.getD i [] := by simp [List.getD_eq_getElem?_getD, List.getElem?_eq_getElem (show i < bl.length by rw [← HLE.out]; exact hiL)]
              rw [← e]; exact this)
            have e : bl.getD i [] = B := by
              rw [hB]; unfold blkAt
              simp [List.getD_eq_getElem?_getD, List.getElem?_eq_getElem (show i < bl.length by rw [← HLE.out]; exact hiL)]
            rw [e] at hr
            subst hA
            have hBs : (u8s B).length = 32 := by rw [u8s_len]; exact hbk.1
            obtain ⟨BS, hBS⟩ : ∃ V, V = (u8s B).toArray := ⟨_, rfl⟩
            have hbs : u8s B = BS.toList := by rw [hBS]
            rw [hbs] at hr hBs
            rw [Array.length_toList] at hBs
            rw [← hBS] at HLF
            have H1B : Hid (∀ u ∈ BS, u.oneCell' = true) := by show ∀ u ∈ _, _; rw [hBS]; simpa using u8s_one B
            have HR := Lib.hid hr
            clear hr e hbs hBS hB hVL HDM hbk hi
            go_wp2_with (first | refine wpList_load_at rfl 24 (.tmp 33) rfl ⟨g, off + i * 32, none⟩ rfl BS.toList _ (HR.out.ex (Ex.alloc _ _) not_false) Try.underlying24 rfl (by rw [Array.length_toList, hBs]; kernel_rfl) ?_ | (refine wpList_store_all rfl 24 (.tmp 10) (.tmp 34) rfl wr.heap.size rfl BS _ rfl 24 (heap_alloc_new _ _) (by rw [hBs]; rfl) H1B.out (by rw [hBs]; kernel_rfl) ?_; rw [World.setRow_alloc_new]) | refine wpList_load_row rfl 24 (.tmp 10) rfl wr.heap.size rfl 24 BS (0, 0) _ (heap_alloc_new _ _) Try.underlying24 rfl (by rw [hBs]; kernel_rfl) ?_ | (refine (HLF.out _).mono ?_; rintro e w3 ⟨rfl, hx3⟩; have HX3 : Hid (Ex0 w w3) := ((HXb.out.alloc' _).trans0 hx3); have HO3 : Hid (w3.ownsRow w.heap.size 28 16 v6 i _) := (own_ex (own_ex HOb.out (Ex.alloc wr (.cells BS 24)) (fun _ _ => id)) hx3 (fun _ _ => id)); clear hx3) | (refine wpList_append_sl rfl (.tmp 35) (.tmp 40) 37 rfl _ 28 i0 _ 16 16 Try.underlying37 hi0 hz0 hz1 hz2 rfl (by decide) _ _ _ rfl (own_ex HO3.out (Ex.alloc w3 (.cells VL 28)) (fun _ _ => id)) (some ⟨w3.heap.size, 0, none⟩) 1 1 VL.toList rfl (sl_block (heap_alloc_new w3 (.cells VL 28)) (by simp [hvs]) (by decide)) (fun h => by cases h) H1V.out (by unfold maxLen; omega) (by omega) (by have := HX3.out.size; simp; omega) ?_; intro v7 w7 ho7 hg7 hb7; have HX7 : Hid (Ex0 w w7) := ex_of_new (HX3.out.alloc' _) hg7 (fun b hb => (HO3.out.lt b hb).1); have HO7 := Lib.hid ho7; clear ho7 hg7 hb7))
            go_roundw
            case rel =>
              refine ⟨b + 1, _, by omega, by go_num, rfl, ?_, HX7.out⟩
              have e1 : na + (b + 1) = i + 1 := by have := HI.out; omega
              rw [e1, HLS.out, rowN_append, rowN_single, encN_eq (leafS_len _ _ _), show u8s (leafS a b B) = VL.toList by rw [HVL.out]]
              exact HO7.out
            case measure => simp [intOf]; omega
          · have iiL : ¬ (i : Int) < (L : Int) := by omega
            have e : B = z32 := by
              rw [hB]; unfold blkAt
              rw [List.getD_eq_getElem?_getD, List.getElem?_eq_none (by rw [← HLE.out]; omega)]; rfl
            subst e
            have hbz : (u8s z32).toArray.size = 32 := by simp [u8s_len, z32]
            obtain ⟨ZB, hZB⟩ : ∃ V, V = (u8s z32).toArray := ⟨_, rfl⟩
            have HLF2 : Hid (∀ w', Calls Try.prog 14 #[.int .i64 a, .int .i64 b, .agg ZB] w' fun e w'' => e = .returned (.agg VL) ∧ Ex0 w' w'') := by rw [hZB]; exact HLF.out
            rw [← hZB] at hbz
            have HZB := Lib.hid hZB
            clear hB hVL HDM hbk hi hZB
            have hla : ∀ w0 : World, (w0.alloc (.cells (u8s z32).toArray 24)) = w0.alloc (.cells ZB 24) := fun w0 => by rw [HZB.out]
            have HLA := Lib.hid hla
            clear hla
            go_wp2_with (first | (refine wpList_load_row rfl 24 (.tmp 10) rfl wr.heap.size rfl 24 ZB (0, 0) _ (by rw [HZB.out]; exact heap_alloc_new _ _) Try.underlying24 rfl (by rw [hbz]; kernel_rfl) ?_; change wpList _ _ _ _ _ (wr.alloc (.cells (u8s z32).toArray 24)); rw [HLA.out]) | (refine (HLF2.out _).mono ?_; rintro e w3 ⟨rfl, hx3⟩; have HX3 : Hid (Ex0 w w3) := ((HXb.out.alloc' _).trans0 hx3); have HO3 : Hid (w3.ownsRow w.heap.size 28 16 v6 i _) := (own_ex (own_ex HOb.out (Ex.alloc wr (.cells ZB 24)) (fun _ _ => id)) hx3 (fun _ _ => id)); clear hx3) | (refine wpList_append_sl rfl (.tmp 35) (.tmp 40) 37 rfl _ 28 i0 _ 16 16 Try.underlying37 hi0 hz0 hz1 hz2 rfl (by decide) _ _ _ rfl (own_ex HO3.out (Ex.alloc w3 (.cells VL 28)) (fun _ _ => id)) (some ⟨w3.heap.size, 0, none⟩) 1 1 VL.toList rfl (sl_block (heap_alloc_new w3 (.cells VL 28)) (by simp [hvs]) (by decide)) (fun h => by cases h) H1V.out (by unfold maxLen; omega) (by omega) (by have := HX3.out.size; simp; omega) ?_; intro v7 w7 ho7 hg7 hb7; have HX7 : Hid (Ex0 w w7) := ex_of_new (HX3.out.alloc' _) hg7 (fun b hb => (HO3.out.lt b hb).1); have HO7 := Lib.hid ho7; clear ho7 hg7 hb7))
            go_roundw
            case rel =>
              refine ⟨b + 1, _, by omega, by go_num, rfl, ?_, HX7.out⟩
              have e1 : na + (b + 1) = i + 1 := by have := HI.out; omega
              rw [e1, HLS.out, rowN_append, rowN_single, encN_eq (leafS_len _ _ _), show u8s (leafS a b z32) = VL.toList by rw [HVL.out]]
              exact HO7.out
            case measure => simp [intOf]; omega
        · have ibn : ¬ (b : Int) < (n : Int) := by omega
          have HMS : Hid (na + n = (a + 1) * n) := by have := HNA.out; show _ = _; rw [Nat.succ_mul, this]
          go_wp2_with fail
          go_roundw
          case rel =>
            refine ⟨a + 1, _, by omega, by go_num, rfl, ?_, HXb.out⟩
            have h := HOb.out
            rw [show b = n by omega, HMS.out] at h
            exact h
          case measure => simp [intOf]; omega
    · have iav : ¬ (a : Int) < (v : Int) := by omega
      go_wp2_with fail
      go_ret
      refine ⟨_, rfl, ?_, HX.out⟩
      have h := HO.out
      rw [show a = v by omega] at h
      exact h
end Go.Proofs.Ythbdmfbjkkmplaa
