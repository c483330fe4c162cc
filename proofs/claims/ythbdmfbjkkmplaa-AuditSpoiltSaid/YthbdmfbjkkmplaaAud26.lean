/- Contracts of layer 61: merkle's Proof. -/
import Derived.Test.YthbdmfbjkkmplaaAud25
import Derived.Test.YthbdmfbjkkmplaaAud8
import Derived.Test.YthbdmfbjkkmplaaB9
namespace Go.Proofs.Ythbdmfbjkkmplaa
open Go.RowKit Go.Proofs.YthbdmfbjkkmplaaB Go.Proofs.Ythbdmfbjkkmplaa.Sha

theorem reverse_nil (w : World) :
    Calls Try.prog 44 #[.slice none 0 0] w fun e w' => e = .returned (.tuple #[]) ∧ w = w' := by
  go_enter Try.func44, Try.ntmps44
  go_wp2_with fail
  go_loopw [2, 3] (fun i j wr => i = .int .i64 0 ∧ j = .int .i64 (-1) ∧ wr = w) (fun _ _ _ => 0)
  case atStart => exact ⟨rfl, rfl, rfl⟩
  case round =>
    obtain ⟨rfl, rfl, rfl⟩ := hrel
    go_wp2_with fail
    go_end0
    exact ⟨rfl, rfl⟩
theorem TreeAt.cells {w : World} {b : Nat} {l : List (List Nat)} (h : TreeAt w b l) (h2 : 2 ≤ l.length) : ∃ b1 b2, w.cell? ⟨b, 17, none⟩ = some (.pointer (some ⟨b1, 0, none⟩)) ∧ w.cell? ⟨b, 18, none⟩ = some (.pointer (some ⟨b2, 0, none⟩)) ∧
    TreeAt w b1 (l.take (cutN l.length)) ∧ TreeAt w b2 (l.drop (cutN l.length)) := by
  have hp := h.pos
  cases h with
  | one b x h => simp at h2
  | two b b1 b2 l h2 h hl hr =>
    have hs := treeS_len hp
    refine ⟨b1, b2, ?_, ?_, hl, hr⟩
    · rw [cell_of_row _ _ _ _ _ _ h]; simp [partC, u8s_len, hs]
    · rw [cell_of_row _ _ _ _ _ _ h]; simp [partC, u8s_len, hs]
theorem infoSum : (Try.prog.info? 28).map (fun i => (i.zero, i.size, i.bytes)) = some (some (.agg (u8s (List.replicate 16 0)).toArray), 16, 16) := by kernel_rfl

theorem sum_fold (C : Array Value) (h : C.size = 16) : Array.foldl (fun (cs : Array Value) (x : Value × Nat) => cs.setIfInBounds x.snd x.fst)
      #[.int .u8 0, .int .u8 0, .int .u8 0, .int .u8 0, .int .u8 0, .int .u8 0, .int .u8 0, .int .u8 0, .int .u8 0, .int .u8 0, .int .u8 0, .int .u8 0, .int .u8 0, .int .u8 0, .int .u8 0, .int .u8 0] C.zipIdx 0 16 = C := by
  rw [fold_lay _ C 16 h.symm (by rw [h]; simp), h]
  apply Array.ext'
  simp

set_option maxRecDepth 100000 in
set_option maxHeartbeats 6000000 in
theorem proof_any (bt : Nat) (l : List (List Nat)) (i : Nat) (hi : i < l.length) (hL : l.length ≤ 65536) (w : World) (h : Rooted w bt l) :
    Calls Try.prog 33 #[.pointer (some ⟨bt, 0, none⟩), .int .i64 i] w fun e w' => ∃ A cap, e = .returned (.tuple #[.slice A (proofS l i).length cap, .bool true]) ∧ (proofS l i).length ≤ cap ∧ Sl w' 16 A (proofS l i).length (rowN 16 (proofS l i)) ∧ (A = none → cap = 0) ∧ AllB 16 (proofS l i) ∧ (∀ k, Bl A k → w.heap.size ≤ k) ∧ Ex0 w w' := by
  obtain ⟨i0, hi0, hz0, hz1, hz2⟩ := info_parts infoSum
  have HR := Lib.hid h
  have HLEN := Lib.hid (len_any bt l w h)
  obtain ⟨b, h1, h2⟩ := h
  have HRT := Lib.hid (root_ptr bt b w h1)
  have HT := Lib.hid h2
  obtain ⟨N, hN⟩ : ∃ N, N = l.length := ⟨_, rfl⟩
  rw [← hN] at hi hL HLEN
  have HN := Lib.hid hN
  have iiN : (i : Int) < (N : Int) := by omega
  have ii0 : ¬ (i : Int) < 0 := by omega
  clear h1 h2 hN
  go_enter Try.func33, Try.ntmps33
  go_wp2_with (first | (refine HLEN.out.mono ?_; rintro e w2 ⟨rfl, rfl⟩) | (refine HRT.out.mono ?_; rintro e w2 ⟨rfl, rfl⟩))
  go_loopw [1, 6, 7] (fun iv v p wr => ∃ (i' b' : Nat) (A : Option Addr) (cap : Nat) (l' acc : List (List Nat)), iv = .int .i64 i' ∧ v = .slice A acc.length cap ∧ p = .pointer (some ⟨b', 0, none⟩) ∧ TreeAt w b' l' ∧ wr.ownsRow w.heap.size 28 16 v acc.length (rowN 16 acc) ∧ proofS l i = proofS l' i' ++ acc.reverse ∧ i' < l'.length ∧ acc.length + l'.length ≤ N ∧ AllB 16 acc ∧ Ex0 w wr) (fun _ v _ _ => N - slLen v)
  case atStart => exact ⟨i, b, none, 0, l, [], rfl, rfl, rfl, HT.out, ⟨by simp [rowN], .inl ⟨rfl, rfl⟩⟩, by simp, by rw [← HN.out]; exact hi, by rw [HN.out]; simp, AllB.nil, Ex.refl _ _⟩
  case round =>
    obtain ⟨i', b', A, cap, l', acc, rfl, rfl, rfl, ht, ho, hpf, hil, hac, hall, hx⟩ := hrel
    have HT := Lib.hid ht
    have HO := Lib.hid ho
    have HPF := Lib.hid hpf
    have HAL := Lib.hid hall
    have HX := Lib.hid hx
    have hnum := (ht.ex0 hx).num
    obtain ⟨n', hn'⟩ : ∃ n', n' = l'.length := ⟨_, rfl⟩
    rw [← hn'] at hnum hil hac
    have HN' := Lib.hid hn'
    obtain ⟨na, hna⟩ : ∃ na, na = acc.length := ⟨_, rfl⟩
    rw [← hna] at HO hac ⊢
    have HNA := Lib.hid hna
    clear ht ho hpf hall hx hna
    by_cases h2 : 2 ≤ n'
    · have hc1 := cutN_pos h2
      have hc2 := cutN_lt h2
      have in1 : (1 : Int) < (n' : Int) := by omega
      obtain ⟨b1, b2, c17, c18, ht1, ht2⟩ := HT.out.cells (by rw [← HN'.out]; exact h2)
      have HC17 := Lib.hid c17
      have HC18 := Lib.hid c18
      have c17 := HX.out.cellS c17 not_false
      have c18 := HX.out.cellS c18 not_false
      rw [← hn'] at ht1 ht2
      obtain ⟨k, hk⟩ : ∃ k, k = cutN n' := ⟨_, rfl⟩
      rw [← hk] at hc1 hc2 ht1 ht2
      have hnl0 := ht1.num
      have hnl := (ht1.ex0 HX.out).num
      have lT : (l'.take k).length = k := by rw [List.length_take, ← HN'.out, Nat.min_eq_left (by omega)]
      have lD : (l'.drop k).length = n' - k := by rw [List.length_drop, ← HN'.out]
      rw [lT] at hnl hnl0
      have HNL0 := Lib.hid hnl0
      have hr1 := (ht1.ex0 HX.out).row
      have hr2 := (ht2.ex0 HX.out).row
      have hp1 : (treeS (l'.take k)).length = 16 ∧ ∀ x ∈ treeS (l'.take k), x < 256 := ⟨treeS_len (by rw [lT]; omega), treeS_lt (by rw [lT]; omega)⟩
      have hp2 : (treeS (l'.drop k)).length = 16 ∧ ∀ x ∈ treeS (l'.drop k), x < 256 := ⟨treeS_len (by rw [lD]; omega), treeS_lt (by rw [lD]; omega)⟩
      have HPL : Hid (i' < k → proofS l' i' = proofS (l'.take k) i' ++ [treeS (l'.drop k)]) := fun h => by
        have := proofS_left (l := l') (by rw [← HN'.out]; exact h2) (i := i') (by rw [← HN'.out, ← hk]; exact h)
        rw [← HN'.out, ← hk] at this; exact this
      have HPR : Hid (¬ i' < k → proofS l' i' = proofS (l'.drop k) (i' - k) ++ [treeS (l'.take k)]) := fun h => by
        have := proofS_right (l := l') (by rw [← HN'.out]; exact h2) (i := i') (by rw [← HN'.out, ← hk]; exact h)
        rw [← HN'.out, ← hk] at this; exact this
      obtain ⟨T1, hT1⟩ : ∃ T, T = treeS (l'.take k) := ⟨_, rfl⟩
      obtain ⟨T2, hT2⟩ : ∃ T, T = treeS (l'.drop k) := ⟨_, rfl⟩
      rw [← hT1] at hr1 hp1 HPR
      rw [← hT2] at hr2 hp2 HPL
      have h1s : (u8s T1).length = 16 := by rw [u8s_len]; exact hp1.1
      have h2s : (u8s T2).length = 16 := by rw [u8s_len]; exact hp2.1
      have HTT := Lib.hid (And.intro ht1 ht2)
      have HRR := Lib.hid (And.intro hr1 hr2)
      have HPP := Lib.hid (And.intro hp1 hp2)
      have HLL := Lib.hid (And.intro lT lD)
      obtain ⟨V1, hV1⟩ : ∃ V, V = (u8s T1).toArray := ⟨_, rfl⟩
      obtain ⟨V2, hV2⟩ : ∃ V, V = (u8s T2).toArray := ⟨_, rfl⟩
      have hv1 : u8s T1 = V1.toList := by rw [hV1]
      have hv2 : u8s T2 = V2.toList := by rw [hV2]
      rw [hv1] at HRR h1s
      rw [hv2] at HRR h2s
      rw [Array.length_toList] at h1s h2s
      have H11 : Hid (∀ u ∈ V1.toList, u.oneCell' = true) := by rw [← hv1]; exact u8s_one T1
      have H12 : Hid (∀ u ∈ V2.toList, u.oneCell' = true) := by rw [← hv2]; exact u8s_one T2
      have hf1 := sum_fold V1 h1s
      have hf2 := sum_fold V2 h2s
      clear hv1 hv2
      have HVV := Lib.hid (And.intro hV1 hV2)
      clear ht1 ht2 hr1 hr2 hp1 hp2 lT lD hT1 hT2 hV1 hV2 hk hn' hnl0
      by_cases hik : i' < k
      · have iik : (i' : Int) < (k : Int) := by omega
        go_wp2_with (first | refine wpList_load_at rfl 28 (.tmp 38) rfl ⟨b2, 0, none⟩ rfl V2.toList _ HRR.out.2 Try.underlying28 rfl (by rw [Array.length_toList, h2s]; kernel_rfl) ?_ | (refine wpList_append_sl rfl (.tmp 32) (.tmp 40) 37 rfl _ 28 i0 _ 16 16 Try.underlying37 hi0 hz0 hz1 hz2 rfl (by decide) _ _ _ rfl (own_ex HO.out (Ex.alloc wr (.cells V2 28)) (fun _ _ => id)) (some ⟨wr.heap.size, 0, none⟩) 1 1 V2.toList rfl (sl_block (heap_alloc_new wr (.cells V2 28)) (by simp [h2s]) (by decide)) (fun h => by cases h) H12.out (by unfold maxLen; omega) (by omega) (by have := HX.out.size; simp; omega) ?_; intro v3 w3 ho3 hg3 hb3; have HX3 : Hid (Ex0 w w3) := ex_of_new (HX.out.alloc' _) hg3 (fun b hb => (HO.out.lt b hb).1); obtain ⟨A3, c3, rfl, _, _, _⟩ := own_sl' ho3; have HO3 := Lib.hid ho3; have d17 := HX3.out.cellS HC17.out not_false; clear ho3 hg3 hb3))
        refine ⟨⟨i', b1, A3, c3, l'.take k, acc ++ [T2], rfl, by rw [List.length_append, ← HNA.out]; rfl, rfl, HTT.out.1, ?_, ?_, by rw [HLL.out.1]; exact hik, by rw [List.length_append, HLL.out.1, ← HNA.out]; simp; omega, HAL.out.append (AllB.single HPP.out.2.1 HPP.out.2.2), HX3.out⟩, by simp only [slLen]; omega⟩
        · rw [List.length_append, ← HNA.out, rowN_append, rowN_single, encN_eq HPP.out.2.1, show u8s T2 = V2.toList by rw [HVV.out.2]]; exact HO3.out
        · rw [HPF.out, HPL.out hik]; simp
      · have iik : ¬ (i' : Int) < (k : Int) := by omega
        have e2 : (i' : Int) - (k : Int) = ((i' - k : Nat) : Int) := by omega
        go_wp2_with (first | refine wpList_load_at rfl 28 (.tmp 52) rfl ⟨b1, 0, none⟩ rfl V1.toList _ HRR.out.1 Try.underlying28 rfl (by rw [Array.length_toList, h1s]; kernel_rfl) ?_ | (refine wpList_append_sl rfl (.tmp 46) (.tmp 54) 37 rfl _ 28 i0 _ 16 16 Try.underlying37 hi0 hz0 hz1 hz2 rfl (by decide) _ _ _ rfl (own_ex HO.out (Ex.alloc wr (.cells V1 28)) (fun _ _ => id)) (some ⟨wr.heap.size, 0, none⟩) 1 1 V1.toList rfl (sl_block (heap_alloc_new wr (.cells V1 28)) (by simp [h1s]) (by decide)) (fun h => by cases h) H11.out (by unfold maxLen; omega) (by omega) (by have := HX.out.size; simp; omega) ?_; intro v3 w3 ho3 hg3 hb3; have HX3 : Hid (Ex0 w w3) := ex_of_new (HX.out.alloc' _) hg3 (fun b hb => (HO.out.lt b hb).1); obtain ⟨A3, c3, rfl, _, _, _⟩ := own_sl' ho3; have HO3 := Lib.hid ho3; have d17 := HX3.out.cellS HC17.out not_false; have d18 := HX3.out.cellS HC18.out not_false; have dnl := HX3.out.cellS HNL0.out not_false; clear ho3 hg3 hb3))
        refine ⟨⟨i' - k, b2, A3, c3, l'.drop k, acc ++ [T1], rfl, by rw [List.length_append, ← HNA.out]; rfl, rfl, HTT.out.2, ?_, ?_, by rw [HLL.out.2]; omega, by rw [List.length_append, HLL.out.2, ← HNA.out]; simp; omega, HAL.out.append (AllB.single HPP.out.1.1 HPP.out.1.2), HX3.out⟩, by simp only [slLen]; omega⟩
        · rw [List.length_append, ← HNA.out, rowN_append, rowN_single, encN_eq HPP.out.1.1, show u8s T1 = V1.toList by rw [HVV.out.1]]; exact HO3.out
        · rw [HPF.out, HPR.out hik]; simp
    · have in1 : ¬ (1 : Int) < (n' : Int) := by omega
      have HPE : Hid (proofS l i = acc.reverse) := by
        show _ = _
        rw [HPF.out, proofS_one (by rw [← HN'.out]; omega), List.nil_append]
      clear hn'
      have hna2 : na ≤ 65536 := by omega
      rcases HO.out.2 with ⟨hv, h0⟩ | ⟨g, cp, cur, hv, hg, hgg, hn1, hc, hcs, ht⟩
      · cases hv
        go_wp2_with (refine (reverse_nil _).mono ?_; rintro e w5 ⟨rfl, rfl⟩)
        go_ret2
        have hl0 : acc = [] := List.eq_nil_of_length_eq_zero (by rw [← HNA.out])
        have hp0 : proofS l i = [] := by rw [HPE.out, hl0]; rfl
        rw [hp0]
        exact ⟨none, 0, rfl, Nat.le_refl _, ⟨by simp [rowN], by simp, fun h => by simp at h⟩, fun _ => rfl, AllB.nil, (fun k hk => by cases hk), HX.out⟩
      · cases hv
        have hrow : wr.heap[g]? = some (.cells (rowN 16 acc ++ cur.toList.drop (na * 16)).toArray 28 (0, 0)) := by
          rw [hgg, ← ht, List.take_append_drop]
        have HREV := Lib.hid (reverse_any g cap acc _ _ wr hrow (by rw [← HNA.out]; omega) HAL.out)
        rw [← HNA.out] at HREV
        have HCP := Lib.hid hn1
        have HGG := Lib.hid hg
        clear hgg hc hcs ht hrow hg
        go_wp2_with (refine HREV.out.mono ?_; rintro e w5 ⟨rfl, hg5, hx5⟩; have HG5 := Lib.hid hg5; have HX5 := Lib.hid hx5; clear hg5 hx5)
        go_ret2
        have hpl : (proofS l i).length = na := by rw [HPE.out, List.length_reverse, HNA.out]
        rw [hpl]
        refine ⟨some ⟨g, 0, none⟩, cap, rfl, HCP.out, ?_, (fun h => by cases h), by rw [HPE.out]; exact fun x hx => HAL.out x (List.mem_reverse.1 hx), (fun k hk => by cases hk; exact HGG.out), HX.out.trans HX5.out (fun _ _ h => h) (fun i hi h => by have := HGG.out; omega)⟩
        refine ⟨by rw [rowN_len, hpl], by omega, fun _ => ⟨g, 0, rfl, fun q u hu => ?_⟩⟩
        rw [Addr.add_lit, cell_of_row _ _ _ _ _ _ HG5.out]
        rw [HPE.out] at hu
        have hq : q < (rowN 16 acc.reverse).length := (List.getElem?_eq_some_iff.1 hu).1
        simpa [List.getElem?_append_left hq] using hu
end Go.Proofs.Ythbdmfbjkkmplaa
