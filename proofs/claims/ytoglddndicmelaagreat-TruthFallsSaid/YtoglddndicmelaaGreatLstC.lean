/- Layer 54: what a step of a line shows. Layer 54: Read. Layer 54: New. Layer 54: of no list there is nothing. -/
import Derived.Test.YtoglddndicmelaaGreatLstB
namespace Go.Proofs.YtoglddndicmelaaGreat.Tr
open Go.RowKit Go.Proofs.YtoglddndicmelaaGreatB Go.Proofs.YtoglddndicmelaaGreat
set_option maxRecDepth 100000

set_option maxHeartbeats 1000000 in
theorem read1_any (x : Wr) (br vol blk lo hi : Int) (p q : Nat) (w : World) (hp : RowAt w ⟨p, 0, none⟩ [.int .i64 br, .int .i64 vol, .int .i64 blk]) (h1 : w.cell? ⟨q, 1, none⟩ = some (.int .u64 lo)) (h2 : w.cell? ⟨q, 2, none⟩ = some (.int .u64 hi)) :
    Calls Tryz.prog 53 #[.agg x.cells.toArray, .pointer (some ⟨p, 0, none⟩), .pointer (some ⟨q, 0, none⟩)] w fun e w' => e = .returned (.bool (onB vol blk ⟨br, lo, hi⟩ x)) ∧ Ex0 w w' := by
  obtain ⟨n, b, v, k, d⟩ := x
  have hlp : p < w.heap.size := World.block_lt_of_cell? _ _ (hp 0 _ rfl)
  have hlq : q < w.heap.size := World.block_lt_of_cell? _ _ h1
  have hon : onB vol blk ⟨br, lo, hi⟩ ⟨n, b, v, k, d⟩ = ((b == br && (v == vol && k == blk)) && (decide (lo < n) && decide (n ≤ hi))) := by unfold onB; simp [Bool.and_assoc]
  rw [hon]
  clear hon
  have hC0 : ((Wr.mk n b v k d).cells.toArray)[0]? = some (.int .u64 n) := rfl
  have hC1 : ((Wr.mk n b v k d).cells.toArray)[1]? = some (.int .i64 b) := rfl
  have hC2 : ((Wr.mk n b v k d).cells.toArray)[2]? = some (.int .i64 v) := rfl
  have hC3 : ((Wr.mk n b v k d).cells.toArray)[3]? = some (.int .i64 k) := rfl
  obtain ⟨C, hC⟩ : ∃ C, (Wr.mk n b v k d).cells.toArray = C := ⟨_, rfl⟩
  rw [hC] at hC0 hC1 hC2 hC3 ⊢
  clear hC
  have hp0 : w.cell? ⟨p, 0, none⟩ = some (.int .i64 br) := hp 0 _ rfl
  have hp1 : w.cell? ⟨p, 1, none⟩ = some (.int .i64 vol) := hp 1 _ rfl
  have hp2 : w.cell? ⟨p, 2, none⟩ = some (.int .i64 blk) := hp 2 _ rfl
  clear hp
  have hw : ∃ wb, w.alloc (.cells C 139) = wb ∧ wb.heap[w.heap.size]? = some (.cells C 139 (0, 0)) ∧ Ex0 w wb := ⟨_, rfl, heap_alloc_new _ _, Ex.alloc _ _⟩
  obtain ⟨wb, hwb, hbb, hxb⟩ := hw
  have hq0 : wb.cell? ⟨p, 0, none⟩ = some (.int .i64 br) := hxb.cellS hp0 not_false
  have hq1 : wb.cell? ⟨p, 1, none⟩ = some (.int .i64 vol) := hxb.cellS hp1 not_false
  have hq2 : wb.cell? ⟨p, 2, none⟩ = some (.int .i64 blk) := hxb.cellS hp2 not_false
  have hs1 : wb.cell? ⟨q, 1, none⟩ = some (.int .u64 lo) := hxb.cellS h1 not_false
  have hs2 : wb.cell? ⟨q, 2, none⟩ = some (.int .u64 hi) := hxb.cellS h2 not_false
  have c0 : wb.cell? ⟨w.heap.size, 0, none⟩ = some (.int .u64 n) := by rw [cell_of_row _ _ _ _ _ _ hbb]; exact hC0
  have c1 : wb.cell? ⟨w.heap.size, 1, none⟩ = some (.int .i64 b) := by rw [cell_of_row _ _ _ _ _ _ hbb]; exact hC1
  have c2 : wb.cell? ⟨w.heap.size, 2, none⟩ = some (.int .i64 v) := by rw [cell_of_row _ _ _ _ _ _ hbb]; exact hC2
  have c3 : wb.cell? ⟨w.heap.size, 3, none⟩ = some (.int .i64 k) := by rw [cell_of_row _ _ _ _ _ _ hbb]; exact hC3
  have hlb : w.heap.size < wb.heap.size := (Array.getElem?_eq_some_iff.1 hbb).1
  have hlp' : p < wb.heap.size := Nat.lt_of_lt_of_le hlp hxb.size
  have hlq' : q < wb.heap.size := Nat.lt_of_lt_of_le hlq hxb.size
  have HXB := Lib.hid hxb
  have HWB := Lib.hid hwb
  clear hC0 hC1 hC2 hC3 hp0 hp1 hp2 h1 h2 hbb hxb hwb
  go_enter Tryz.func53, Tryz.ntmps53
  iterate 5 go_step
  rw [HWB.out]
  by_cases e1 : b = br
  · subst e1
    by_cases e2 : v = vol
    · subst e2
      by_cases e3 : k = blk
      · subst e3
        by_cases e4 : lo < n
        · have E4 := Lib.hid (decide_eq_true e4)
          by_cases e5 : n ≤ hi
          · have E5 := Lib.hid (decide_eq_true e5)
            go_wp2
            go_ret
            exact ⟨ret_bool (by first | (rw [E4.out, E5.out]; simp) | (rw [E5.out]) | (simp [E4.out, E5.out])), HXB.out⟩
          · have E5 := Lib.hid (decide_eq_false e5)
            go_wp2
            go_ret
            exact ⟨ret_bool (by first | (rw [E4.out, E5.out]; simp) | (rw [E5.out]) | (simp [E4.out, E5.out])), HXB.out⟩
        · have E4 := Lib.hid (decide_eq_false e4)
          go_wp2
          go_ret
          exact ⟨ret_bool (by first | (rw [E4.out]; simp) | (simp [E4.out])), HXB.out⟩
      · go_wp2
        go_ret
        exact ⟨ret_bool (by simp [e3]), HXB.out⟩
    · go_wp2
      go_ret
      exact ⟨ret_bool (by simp [e2]), HXB.out⟩
  · go_wp2
    go_ret
    exact ⟨ret_bool (by simp [e1]), HXB.out⟩
end Go.Proofs.YtoglddndicmelaaGreat.Tr

namespace Go.Proofs.YtoglddndicmelaaGreat.Tr
open Go.RowKit Go.Proofs.YtoglddndicmelaaGreatB Go.Proofs.YtoglddndicmelaaGreat
set_option maxRecDepth 100000

theorem filt_last {α : Type} (p : α → Bool) (l : List α) (i : Nat) (hi : i < l.length) (h : p l[i] = true) (hl : ∀ j (hj : j < l.length), i < j → p l[j] = false) : (l.filter p).getLast? = some l[i] := by
  have e : l = l.take i ++ l[i] :: l.drop (i + 1) := by rw [← List.drop_eq_getElem_cons hi, List.take_append_drop]
  have hd : (l.drop (i + 1)).filter p = [] := by
    rw [List.filter_eq_nil_iff]
    intro x hx
    obtain ⟨j, hj, rfl⟩ := List.getElem_of_mem hx
    rw [List.getElem_drop]
    rw [List.length_drop] at hj
    rw [hl (i + 1 + j) (by omega) (by omega)]; simp
  conv => lhs; rw [e]
  rw [List.filter_append, List.filter_cons, if_pos h, hd]
  simp
theorem filt_none {α : Type} (p : α → Bool) (l : List α) (hl : ∀ j (hj : j < l.length), p l[j] = false) : (l.filter p).getLast? = none := by
  have hd : l.filter p = [] := by
    rw [List.filter_eq_nil_iff]
    intro x hx
    obtain ⟨j, hj, rfl⟩ := List.getElem_of_mem hx
    rw [hl j hj]; simp
  rw [hd]; rfl
theorem shownL_drop (ws : List Wr) (vol blk : Int) : ∀ (k : Nat) (l : List Stp), (∀ j (hj : j < l.length), j < k → (ws.filter (onB vol blk l[j])).getLast? = none) → shownL ws vol blk l = shownL ws vol blk (l.drop k) := by
  intro k
  induction k with
  | zero => intro l _; rfl
  | succ k ih =>
    intro l h
    cases l with
    | nil => rfl
    | cons a l =>
      have h0 := h 0 (by simp) (by omega)
      rw [List.drop_succ_cons, ← ih l (fun j hj hk => by have := h (j + 1) (by simp; omega) (by omega); simpa using this)]
      simp only [List.getElem_cons_zero] at h0
      show (match (ws.filter (onB vol blk a)).getLast? with | some x => some x | none => shownL ws vol blk l) = shownL ws vol blk l
      rw [h0]
theorem shownL_at (ws : List Wr) (vol blk : Int) (l : List Stp) (k : Nat) (hk : k < l.length) (x : Wr) (h0 : ∀ j (hj : j < l.length), j < k → (ws.filter (onB vol blk l[j])).getLast? = none) (hx : (ws.filter (onB vol blk l[k])).getLast? = some x) : shownL ws vol blk l = some x := by
  rw [shownL_drop ws vol blk k l h0, List.drop_eq_getElem_cons hk]
  unfold shownL
  rw [hx]
theorem shownL_end (ws : List Wr) (vol blk : Int) (l : List Stp) (h0 : ∀ j (hj : j < l.length), (ws.filter (onB vol blk l[j])).getLast? = none) : shownL ws vol blk l = none := by
  rw [shownL_drop ws vol blk l.length l (fun j hj _ => h0 j hj), List.drop_length]; rfl
def Z32 : Array Value := (encN 32 z32).toArray
theorem Z32_len : Z32.size = 32 := rfl
theorem Z32_one : ∀ v ∈ Z32, v.oneCell' = true := by
  intro v hv
  exact encN_one 32 z32 v (by simpa [Z32] using hv)
set_option maxHeartbeats 4000000 in
theorem tread_any (L : LstP) (s : TS) (id m vol blk : Int) (w : World) (h : LstAt w L s) (hI : Inv s) (hlen : s.tab.length ≤ 900) :
    Calls Tryz.prog 21 #[.pointer (some ⟨L.p, 0, none⟩), .int .i64 id, .int .u64 m, .int .i64 vol, .int .i64 blk] w fun e w' => e = .returned (.tuple #[.agg (encN 32 (s.readD id m vol blk)).toArray, .int .i64 (s.readE id m vol blk)]) ∧ Ex0 w w' := by
  have HL := Lib.hid h
  have HI := Lib.hid hI
  have hlp := h.lt
  have HQ : Hid (∀ r w', s.readE id m vol blk = r → r ≠ 0 → Ex0 w w' → (Ending.returned (.tuple #[.agg Z32, .int .i64 r]) = .returned (.tuple #[.agg (encN 32 (s.readD id m vol blk)).toArray, .int .i64 (s.readE id m vol blk)])) ∧ Ex0 w w') := fun r w' e h0 hx => by
    refine ⟨?_, hx⟩
    unfold TS.readD Z32; rw [e, if_neg h0]
  obtain ⟨wa, hwa⟩ : ∃ wa, w.alloc (.cells #[.int .u8 0, .int .u8 0, .int .u8 0, .int .u8 0, .int .u8 0, .int .u8 0, .int .u8 0, .int .u8 0, .int .u8 0, .int .u8 0, .int .u8 0, .int .u8 0, .int .u8 0, .int .u8 0, .int .u8 0, .int .u8 0, .int .u8 0, .int .u8 0, .int .u8 0, .int .u8 0, .int .u8 0, .int .u8 0, .int .u8 0, .int .u8 0, .int .u8 0, .int .u8 0, .int .u8 0, .int .u8 0, .int .u8 0, .int .u8 0, .int .u8 0, .int .u8 0] 49) = wa := ⟨_, rfl⟩
  have HZ : Hid (wa.heap[w.heap.size]? = some (.cells Z32 49 (0, 0))) := by show _ = _; rw [← hwa]; exact heap_alloc_new _ _
  have HXA : Hid (Ex0 w wa) := by show Ex0 _ _; rw [← hwa]; exact Ex.alloc _ _
  have HWA := Lib.hid hwa
  clear h hI hwa
  have HTH := Lib.hid (there_any L s vol blk wa (HL.out.ex0 HXA.out))
  obtain ⟨th, hth⟩ : ∃ th, s.there vol blk = th := ⟨_, rfl⟩
  rw [hth] at HTH
  have HTE := Lib.hid hth
  clear hth
  go_enter Tryz.func21, Tryz.ntmps21
  iterate 5 go_step
  rw [HWA.out]
  go_wp2_with fail
  refine HTH.out.mono ?_
  rintro e w1 ⟨rfl, rfl⟩
  cases th with
  | false =>
    have HE : Hid (s.readE id m vol blk = 2) := by show _ = _; unfold TS.readE; rw [if_pos HTE.out]
    go_wp2_with (refine wpList_store_all rfl 49 (.tmp 10) (.tmp 27) rfl w.heap.size rfl Z32 _ rfl 49 HZ.out rfl Z32_one (by kernel_rfl) ?_; rw [setRow_self _ _ _ _ _ HZ.out])
    refine bodyPost_ret (results_row_tmp rfl _ _ w.heap.size _ _ _ _ rfl HZ.out Tryz.underlying49 rfl (by kernel_rfl) (.int .i64 2) rfl) rfl ?_
    exact HQ.out 2 _ HE.out (by decide) HXA.out
  | true =>
    have HNT : Hid (¬ s.there vol blk = false) := by show ¬ _; rw [HTE.out]; simp
    have hlp1 := (HL.out.ex0 HXA.out).lt
    have hc10 : w1.cell? ⟨L.p, 10, none⟩ = some (.pointer (some ⟨L.P.pf, 0, none⟩)) := (HL.out.ex0 HXA.out).cell rfl
    go_wp2_with fail
    cases hln : lineB s.fs id m with
    | false =>
      have HE : Hid (s.readE id m vol blk = 4) := by
        show _ = _; unfold TS.readE; rw [if_neg HNT.out, if_pos]
        unfold lineB at hln
        rw [Bool.and_eq_false_iff] at hln
        exact hln.imp (fun h => h) (fun h => by simpa using h)
      refine (line_no L.P.pf s.fs id m w1 (HL.out.ex0 HXA.out).law.fs hln).mono ?_
      rintro e w2 ⟨rfl, hx2⟩
      have HZ2 : Hid (w2.heap[w.heap.size]? = some (.cells Z32 49 (0, 0))) := (hx2.block _ (Array.getElem?_eq_some_iff.1 HZ.out).1 not_false).trans HZ.out
      have HX2 := Lib.hid (HXA.out.trans0 hx2)
      clear hx2 hc10 hlp1
      go_wp2_with (refine wpList_store_all rfl 49 (.tmp 10) (.tmp 41) rfl w.heap.size rfl Z32 _ rfl 49 HZ2.out rfl Z32_one (by kernel_rfl) ?_; rw [setRow_self _ _ _ _ _ HZ2.out])
      refine bodyPost_ret (results_row_tmp rfl _ _ w.heap.size _ _ _ _ rfl HZ2.out Tryz.underlying49 rfl (by kernel_rfl) (.int .i64 4) rfl) rfl ?_
      exact HQ.out 4 _ HE.out (by decide) HX2.out
    | true =>
      have HNA : Hid (¬ (alive s.fs id = false ∨ m < numF s.fs id)) := by
        unfold lineB at hln
        rw [Bool.and_eq_true] at hln
        show ¬ _
        rw [hln.1]
        have := hln.2
        simpa using this
      refine (line_yes L.P.pf s.fs id m w1 (HL.out.ex0 HXA.out).law.fs HI.out.fs hln).mono ?_
      rintro e w2 ⟨v2, rfl, ho2, hx2⟩
      obtain ⟨LN, hLN⟩ : ∃ LN, lineF s.fs id.toNat m = LN := ⟨_, rfl⟩
      have hll : LN.length ≤ 65536 := by rw [← hLN]; exact lineF_len HI.out.fs _ _
      rw [hLN] at ho2
      obtain ⟨A, cap, rfl, hsl, hbl⟩ := own_sl ho2
      have HSL := Lib.hid hsl
      have HZ2 : Hid (w2.heap[w.heap.size]? = some (.cells Z32 49 (0, 0))) := (hx2.block _ (Array.getElem?_eq_some_iff.1 HZ.out).1 not_false).trans HZ.out
      have HX2 := Lib.hid (HXA.out.trans0 hx2)
      have HLN := Lib.hid hLN
      have HBL : Hid (∀ b, Bl A b → b ≠ w.heap.size) := fun b hb e => by
        have h1 := (ho2.lt b (by rw [hbl]; exact hb)).1
        have h2 := (Array.getElem?_eq_some_iff.1 HZ.out).1
        omega
      clear hx2 hc10 hlp1 hln ho2 hsl hLN hbl
      go_wp2_with fail
      have HL2 := Lib.hid (HL.out.ex0 (HX2.out.trans0 (Ex.drew w2)))
      have hS : (fun w' : World => RowAt w' ⟨L.p, 5, none⟩ L.P.cells ∧ w'.cell? ⟨L.p, 2, none⟩ = some (.int .i64 s.now)) w2.drew := ⟨HL2.out.lawRow, HL2.out.cell rfl⟩
      have HXD : Hid (Ex0 w2 w2.drew) := Ex.drew w2
      refine wp_region_takes (fun w' : World => RowAt w' ⟨L.p, 5, none⟩ L.P.cells ∧ w'.cell? ⟨L.p, 2, none⟩ = some (.int .i64 s.now)) (by kernel_rfl) ?_
      simp only [List.length_cons, List.length_nil]
      have hlp2 := HL2.out.lt
      generalize w2.drew = wd at *
      refine' wpAnyH_do 0 rfl (by kernel_rfl) (fun _ _ _ _ h => h) (by rfl) (by assumption) ⟨_, fun w' hS => ?_, ?_⟩
      rotate_left
      · ((try dsimp only at hS); go_split_ands; go_simp; try (with_reducible rfl))
      simp only [Act.put, List.setIfInBounds_toArray, List.set_cons_zero, List.set_cons_succ]
      refine' wpAnyH_do 1 rfl (by kernel_rfl) (fun _ _ _ _ h => h) (by rfl) (by assumption) ⟨_, fun w' hS => ?_, ?_⟩
      rotate_left
      · ((try dsimp only at hS); go_split_ands; go_simp; try (with_reducible rfl))
      simp only [Act.put, List.setIfInBounds_toArray, List.set_cons_zero, List.set_cons_succ]
      refine' wpAnyH_do 2 rfl (by kernel_rfl) (fun _ _ _ _ h => h) (by rfl) (by assumption) ⟨_, fun w' hS => ?_, ?_⟩
      rotate_left
      · ((try dsimp only at hS); go_split_ands; go_simp; try (with_reducible rfl))
      simp only [Act.put, List.setIfInBounds_toArray, List.set_cons_zero, List.set_cons_succ]
      refine' wpAnyH_do 3 rfl (by kernel_rfl) (fun _ _ _ _ h => h) (by rfl) (by assumption) ⟨_, fun w' hS => exec_load_at 123 (.tmp 45) rfl ⟨L.p, 5, none⟩ rfl _ _ hS.1 Tryz.underlying123 rfl (by kernel_rfl), ?_⟩
      simp only [Act.put, List.setIfInBounds_toArray, List.set_cons_zero, List.set_cons_succ]
      refine' wpAnyH_do 4 rfl (by kernel_rfl) (fun _ _ _ _ h => h) (by rfl) (by assumption) ⟨_, fun w' hS => ?_, ?_⟩
      rotate_left
      · ((try dsimp only at hS); go_split_ands; go_simp; try (with_reducible rfl))
      simp only [Act.put, List.setIfInBounds_toArray, List.set_cons_zero, List.set_cons_succ]
      refine' wpAnyH_do 5 rfl (by kernel_rfl) (fun _ _ _ _ h => h) (by rfl) (by assumption) ⟨_, fun w' hS => ?_, ?_⟩
      rotate_left
      · ((try dsimp only at hS); go_split_ands; go_simp; try (with_reducible rfl))
      simp only [Act.put, List.setIfInBounds_toArray, List.set_cons_zero, List.set_cons_succ]
      refine' wpAnyH_do 6 rfl (by kernel_rfl) (fun _ _ _ _ h => h) (by rfl) (by assumption) ⟨_, fun w' hS => ?_, ?_⟩
      rotate_left
      · ((try dsimp only at hS); go_split_ands; go_simp; try (with_reducible rfl))
      simp only [Act.put, List.setIfInBounds_toArray, List.set_cons_zero, List.set_cons_succ]
      refine' wpAnyH_do 7 rfl (by kernel_rfl) (fun _ _ _ _ h => h) (by rfl) (by assumption) ⟨_, fun w' hS => ?_, ?_⟩
      rotate_left
      · ((try dsimp only at hS); go_split_ands; go_simp; try (with_reducible rfl))
      simp only [Act.put, List.setIfInBounds_toArray, List.set_cons_zero, List.set_cons_succ]
      refine' wpAnyH_do 8 rfl (by kernel_rfl) (fun _ _ _ _ h => h) (by rfl) (by assumption) ⟨_, fun w' hS => ?_, ?_⟩
      rotate_left
      · ((try dsimp only at hS); go_split_ands; go_simp; try (with_reducible rfl))
      simp only [Act.put, List.setIfInBounds_toArray, List.set_cons_zero, List.set_cons_succ]
      refine wpAnyH_eff 9 rfl (by kernel_rfl) (by rfl) (fun K hK => ?_)
      have HKK := Lib.hid hK
      clear hK
      go_simp
      obtain ⟨hs, hhs⟩ : ∃ hs, s.has m = hs := ⟨_, rfl⟩
      have HH := Lib.hid (has_any L.P s.rules s.tab s.holds s.fs m s.now wd HL2.out.law (lawOk_of HI.out))
      have hq : hasP s.rules s.tab s.holds s.fs m s.now = hs := hhs
      rw [hq] at HH
      have HHS := Lib.hid hhs
      clear hhs hq
      refine HH.out.mono ?_
      rintro e w3 ⟨rfl, hx3⟩
      have hS3 : (fun w' : World => RowAt w' ⟨L.p, 5, none⟩ L.P.cells ∧ w'.cell? ⟨L.p, 2, none⟩ = some (.int .i64 s.now)) w3 := ⟨hS.1.ex hx3 not_false, hx3.cellS hS.2 not_false⟩
      have HX23 := Lib.hid (HXD.out.trans0 hx3)
      have HX3 := Lib.hid (HX2.out.trans0 HX23.out)
      clear hS hx3 HXD HL2 HH hlp2
      dsimp only
      refine HKK.out _ _ hS3 ?_
      clear HKK K
      (try simp only [Act.put, List.setIfInBounds_toArray, List.set_cons_zero, List.set_cons_succ])
      have hS := hS3
      clear hS3
      refine' wpAnyH_do 10 rfl (by kernel_rfl) (fun _ _ _ _ h => h) (by rfl) (by assumption) ⟨_, fun w' hS => ?_, ?_⟩
      rotate_left
      · ((try dsimp only at hS); go_split_ands; go_simp; try (with_reducible rfl))
      simp only [Act.put, List.setIfInBounds_toArray, List.set_cons_zero, List.set_cons_succ]
      refine wpAnyH_done (by kernel_rfl) ?_ _
      clear hS
      have HZ3 : Hid (w3.heap[w.heap.size]? = some (.cells Z32 49 (0, 0))) := (HX23.out.block _ (Array.getElem?_eq_some_iff.1 HZ2.out).1 not_false).trans HZ2.out
      cases hs with
      | false =>
        have HE : Hid (s.readE id m vol blk = 10) := by show _ = _; unfold TS.readE; rw [if_neg HNT.out, if_neg HNA.out, if_pos HHS.out]
        go_wp2_with (refine wpList_store_all rfl 49 (.tmp 10) (.tmp 54) rfl w.heap.size rfl Z32 _ rfl 49 HZ3.out rfl Z32_one (by kernel_rfl) ?_; rw [setRow_self _ _ _ _ _ HZ3.out])
        refine bodyPost_ret (results_row_tmp rfl _ _ w.heap.size _ _ _ _ rfl HZ3.out Tryz.underlying49 rfl (by kernel_rfl) (.int .i64 10) rfl) rfl ?_
        exact HQ.out 10 _ HE.out (by decide) HX3.out
      | true =>
        have HE : Hid (s.readE id m vol blk = 0) := by show _ = _; unfold TS.readE; rw [if_neg HNT.out, if_neg HNA.out, if_neg (by rw [HHS.out]; simp)]
        have HS3 := Lib.hid (HSL.out.ex0 HX23.out)
        go_wp2_with fail
        go_loopw [57] (fun i wr => ∃ k : Nat, k ≤ LN.length ∧ i = .int .i64 k ∧ Ex0 w3 wr ∧ ∀ j (hj : j < LN.length), j < k → (s.ws.filter (onB vol blk LN[j])).getLast? = none) (fun i _ => LN.length - (intOf i).toNat)
        case atStart => exact ⟨0, by omega, rfl, Ex.refl _ _, fun j _ h => by omega⟩
        case round =>
          rename World => wo
          obtain ⟨k, hk, rfl, hxr, hno⟩ := hrel
          have HXR := Lib.hid hxr
          have HNO := Lib.hid hno
          by_cases hlt : k < LN.length
          · obtain ⟨g, off, hl, rfl, hrow⟩ := (HS3.out.ex0 hxr).row Stp.length (by omega) hlt
            have hk0 : (0 : Int) ≤ (k : Int) := by omega
            have hk1 : (k : Int) < (LN.length : Int) := by omega
            obtain ⟨st, hst⟩ : ∃ st, LN[k] = st := ⟨_, rfl⟩
            rw [hst] at hrow
            have HST := Lib.hid hst
            obtain ⟨b0, b1, b2⟩ := st
            unfold Stp.cells at hrow
            have hLr := HL.out.ex0 (HX3.out.trans0 hxr)
            obtain ⟨AW, cw, hwv, hsw, _⟩ := own_sl hLr.ws
            have hc4 : wo.cell? ⟨L.p, 4, none⟩ = some (.slice AW s.ws.length cw) := by rw [← hwv]; exact hLr.cell rfl
            have hlpr := hLr.lt
            have HSW := Lib.hid hsw
            have hwl : s.ws.length ≤ 900 := by have := congrArg List.length HI.out.ws; simp at this; omega
            clear hxr hno hst hLr hwv hsw
            go_wp2_with (first | refine wpList_load_at rfl 137 (.tmp 59) rfl _ rfl _ _ hrow Tryz.underlying137 rfl (by kernel_rfl) ?_ | fail)
            obtain ⟨wq, hwq⟩ : ∃ wq, (wo.alloc (.cells #[.int .i64 b0, .int .u64 b1, .int .u64 b2] 137)).alloc (.cells #[.int .i64 b0, .int .i64 vol, .int .i64 blk] 59) = wq := ⟨_, rfl⟩
            have hq1 : wq.heap[wo.heap.size]? = some (.cells #[.int .i64 b0, .int .u64 b1, .int .u64 b2] 137 (0, 0)) := by rw [← hwq]; exact heap_alloc2_old _ _ _
            have hq2 : wq.heap[wo.heap.size + 1]? = some (.cells #[.int .i64 b0, .int .i64 vol, .int .i64 blk] 59 (0, 0)) := by rw [← hwq]; exact heap_alloc2_new _ _ _
            have hxq : Ex0 wo wq := by rw [← hwq]; exact (Ex.alloc _ _).alloc' _
            rw [hwq]
            have HQ1 := Lib.hid hq1
            have HQ2 := Lib.hid hq2
            have HXQ := Lib.hid hxq
            clear hwq hq1 hq2 hxq hc4 hlpr hrow
            go_loopw [18] (fun i wx => ∃ c : Nat, c ≤ s.ws.length ∧ i = .int .i64 ((c : Int) - 1) ∧ Ex0 wq wx ∧ ∀ j (hj : j < s.ws.length), c ≤ j → onB vol blk LN[k] s.ws[j] = false) (fun i _ => (intOf i + 1).toNat)
            case atStart => exact ⟨s.ws.length, by omega, by go_num, Ex.refl _ _, fun j h1 h2 => by omega⟩
            case round =>
              obtain ⟨c, hc, rfl, hxx, hnx⟩ := hrel
              have HXX := Lib.hid hxx
              have HNX := Lib.hid hnx
              have hLx := HL.out.ex0 (HX3.out.trans0 (HXR.out.trans0 (HXQ.out.trans0 hxx)))
              by_cases hc0 : c = 0
              · subst hc0
                clear hxx hnx hLx
                go_wp2
                go_roundw
                case rel =>
                  repeat apply Exists.intro
                  refine ⟨⟨k + 1, by omega, by go_num, HXR.out.trans0 (HXQ.out.trans0 HXX.out), fun j hj hjk => ?_⟩, rfl⟩
                  by_cases e : j < k
                  · exact HNO.out j hj e
                  · have e2 : j = k := by omega
                    subst e2
                    exact filt_none _ _ (fun t ht => HNX.out t ht (by omega))
                case measure => simp [intOf]; omega
              · obtain ⟨t, rfl⟩ : ∃ t, c = t + 1 := ⟨c - 1, by omega⟩
                have e : ((t + 1 : Nat) : Int) - 1 = (t : Int) := by omega
                rw [e]
                have ht0 : (0 : Int) ≤ (t : Int) := by omega
                have ht1 : (t : Int) < (s.ws.length : Int) := by omega
                have htl : t < s.ws.length := by omega
                obtain ⟨AW', cw', hwv', hsw', _⟩ := own_sl hLx.ws
                obtain ⟨gw, ow, hwl', rfl, hrw⟩ := hsw'.row Wr.length (by omega) htl
                have hc4 : wr.cell? ⟨L.p, 4, none⟩ = some (.slice (some ⟨gw, ow, none⟩) s.ws.length cw') := by rw [← hwv']; exact hLx.cell rfl
                have hlpx := hLx.lt
                have hlx := hxx.size
                have hq1x : wr.heap[wo.heap.size]? = some (.cells #[.int .i64 b0, .int .u64 b1, .int .u64 b2] 137 (0, 0)) := (hxx.block _ (Array.getElem?_eq_some_iff.1 HQ1.out).1 not_false).trans HQ1.out
                have hq2x : wr.heap[wo.heap.size + 1]? = some (.cells #[.int .i64 b0, .int .i64 vol, .int .i64 blk] 59 (0, 0)) := (hxx.block _ (Array.getElem?_eq_some_iff.1 HQ2.out).1 not_false).trans HQ2.out
                obtain ⟨x, hx⟩ : ∃ x, s.ws[t] = x := ⟨_, rfl⟩
                rw [hx] at hrw
                have HWX := Lib.hid hx
                have HR1 := Lib.hid (read1_any x b0 vol blk b1 b2 (wo.heap.size + 1) wo.heap.size wr (fun j u hu => by rw [add_row, cell_of_row _ _ _ _ _ _ hq2x, Nat.zero_add]; simpa using hu) (by rw [cell_of_row _ _ _ _ _ _ hq1x]; rfl) (by rw [cell_of_row _ _ _ _ _ _ hq1x]; rfl))
                obtain ⟨on, hon⟩ : ∃ on, onB vol blk ⟨b0, b1, b2⟩ x = on := ⟨_, rfl⟩
                rw [hon] at HR1
                have HON := Lib.hid hon
                have hrl : x.cells.length = 36 := Wr.length x
                have HRW := Lib.hid hrw
                have HWV := Lib.hid hwv'
                clear hon hx hq1x hq2x hsw' hxx hnx hLx hwv' e hc0
                go_wp2_with (first | refine wpList_load_at rfl 139 (.tmp 83) rfl _ rfl _ _ HRW.out Tryz.underlying139 rfl (by rw [hrl]; kernel_rfl) ?_ | fail)
                refine HR1.out.mono ?_
                rintro e w5 ⟨rfl, hx5⟩
                have HX5 := Lib.hid (HXX.out.trans0 hx5)
                have HX55 := Lib.hid hx5
                clear hc4 hlpx hlx hx5
                cases on with
                | false =>
                  go_wp2
                  go_roundw
                  case rel =>
                    refine ⟨t, by omega, by go_num, HX5.out, fun j hj hjt => ?_⟩
                    by_cases e : j = t
                    · subst e
                      have h1 := HST.out
                      have h2 := HWX.out
                      rw [h1, h2]; exact HON.out
                    · exact HNX.out j hj (by omega)
                  case measure => simp [intOf]
                | true =>
                  have hL5 := HL.out.ex0 (HX3.out.trans0 (HXR.out.trans0 (HXQ.out.trans0 HX5.out)))
                  have hc4 : w5.cell? ⟨L.p, 4, none⟩ = some (.slice (some ⟨gw, ow, none⟩) s.ws.length cw') := by rw [← HWV.out]; exact hL5.cell rfl
                  have hlpx := hL5.lt
                  have hrd : RowAt w5 ⟨gw, ow + t * 36 + 4, none⟩ (encN 32 x.data) := fun j u hu => by
                    have := (HRW.out.ex HX55.out not_false) (4 + j) u (by obtain ⟨_, _, _, _, _⟩ := x; rw [wr_cells]; rw [List.getElem?_append_right (by simp)]; simpa using hu)
                    rw [add_row] at this ⊢
                    rw [← this]; congr 2; omega
                  have HRD := Lib.hid hrd
                  have HZ5 : Hid (w5.heap[w.heap.size]? = some (.cells Z32 49 (0, 0))) := ((HXR.out.trans0 (HXQ.out.trans0 HX5.out)).block _ (Array.getElem?_eq_some_iff.1 HZ3.out).1 not_false).trans HZ3.out
                  obtain ⟨DA, hDA⟩ : ∃ DA, (encN 32 x.data).toArray = DA := ⟨_, rfl⟩
                  have HDA := Lib.hid hDA
                  have HDL : Hid (DA.size = 32) := by show _ = _; rw [← hDA, List.size_toArray, encN_len]
                  have HDO : Hid (∀ v ∈ DA, v.oneCell' = true) := by
                    show ∀ v ∈ DA, _
                    rw [← hDA]; intro v hv; exact encN_one 32 x.data v (by simpa using hv)
                  have HDD : Hid (s.readD id m vol blk = x.data) := by
                    show _ = _
                    unfold TS.readD TS.shown
                    rw [HE.out, if_pos rfl, HLN.out, shownL_at s.ws vol blk LN k hlt x (fun j hj hjk => HNO.out j hj hjk) ?_]
                    have h1 := HST.out
                    rw [h1]
                    have := filt_last (onB vol blk ⟨b0, b1, b2⟩) s.ws t htl (by rw [HWX.out]; exact HON.out) (fun j hj hjt => by have := HNX.out j hj (by omega); rw [h1] at this; exact this)
                    rw [this, HWX.out]
                  clear hL5 hrd hDA
                  go_wp2_with (first | (refine wpList_load_at rfl 49 (.tmp 92) rfl _ rfl _ _ HRD.out Tryz.underlying49 rfl (by rw [encN_len]; kernel_rfl) ?_; rw [HDA.out]) | (refine wpList_store_all rfl 49 (.tmp 10) (.tmp 93) rfl w.heap.size rfl DA _ rfl 49 HZ5.out HDL.out.symm HDO.out (by rw [HDL.out]; kernel_rfl) ?_))
                  refine bodyPost_ret (results_row_tmp rfl _ _ w.heap.size _ _ _ _ rfl (setRow_heap _ _ _ _ _ _ HZ5.out) Tryz.underlying49 rfl (by rw [HDL.out]; kernel_rfl) (.int .i64 0) rfl) rfl ?_
                  refine ⟨by rw [HDD.out, HE.out, HDA.out], (HX3.out.trans0 (HXR.out.trans0 (HXQ.out.trans0 HX5.out))).trans (ex_setRow _ _ _) (fun _ _ h => h) (fun i hi h => by have h' : i = w.heap.size := h; omega)⟩
          · have hkn : k = LN.length := by omega
            subst hkn
            have HZ5 : Hid (wo.heap[w.heap.size]? = some (.cells Z32 49 (0, 0))) := (hxr.block _ (Array.getElem?_eq_some_iff.1 HZ3.out).1 not_false).trans HZ3.out
            have HDD : Hid (s.readD id m vol blk = z32) := by
              show _ = _
              unfold TS.readD TS.shown
              rw [HE.out, if_pos rfl, HLN.out, shownL_end s.ws vol blk LN (fun j hj => HNO.out j hj hj)]
            clear hxr hno
            go_wp2_with (refine wpList_store_all rfl 49 (.tmp 10) (.tmp 95) rfl w.heap.size rfl Z32 _ rfl 49 HZ5.out rfl Z32_one (by kernel_rfl) ?_; rw [setRow_self _ _ _ _ _ HZ5.out])
            refine bodyPost_ret (results_row_tmp rfl _ _ w.heap.size _ _ _ _ rfl HZ5.out Tryz.underlying49 rfl (by kernel_rfl) (.int .i64 0) rfl) rfl ?_
            exact ⟨by rw [HDD.out, HE.out]; rfl, HX3.out.trans0 HXR.out⟩
end Go.Proofs.YtoglddndicmelaaGreat.Tr

namespace Go.Proofs.YtoglddndicmelaaGreat.Tr
open Go.RowKit Go.Proofs.YtoglddndicmelaaGreatB Go.Proofs.YtoglddndicmelaaGreat
set_option maxRecDepth 100000

/-- a list without writes -/
def TS.init (vols blocks : Int) (rs : List Rul) : TS := ⟨vols, blocks, 0, 0, [], [], [], fs0, rs⟩
/-- which setups may be -/
def mayS (vols blocks : Int) (n : Nat) (rs : List Rul) : Bool := decide (1 ≤ vols) && (decide (vols ≤ 8) && (decide (1 ≤ blocks) && (decide (blocks ≤ 256) && (decide (n ≤ 16) && rightsB rs))))
theorem inv_init {vols blocks : Int} {n : Nat} {rs : List Rul} (h : mayS vols blocks n rs = true) (hn : rs.length = n) : Inv (TS.init vols blocks rs) := by
  simp only [mayS, Bool.and_eq_true, decide_eq_true_eq] at h
  obtain ⟨h1, h2, h3, h4, h5, h6⟩ := h
  refine ⟨⟨Int.le_refl 0, Int.natCast_nonneg 1073741824⟩, ⟨Int.le_refl 0, Int.natCast_nonneg 65535⟩, ⟨List.Pairwise.nil, fun x hx => (by cases hx), Nat.zero_le _⟩, fun x hx => (by cases hx), fun x hx => (by cases hx), fok0, fun i => ?_, Nat.zero_le _, fun p hp => (by cases hp), List.Pairwise.nil, rfl, fun x hx => (by cases hx), ⟨by show rs.length ≤ 16; omega, ?_⟩, ⟨h1, h2, h3, h4⟩⟩
  · have := fok0.nu_rng i
    have e : tg fs0 i = tw0 := fok0.dead i (by
      by_cases hi : i < 16
      · rw [tg_get (by simpa [fs0] using hi)]; simp only [fs0, List.getElem_replicate]; rfl
      · rw [tg_out (by simp [fs0]; omega)]; rfl)
    show (tg fs0 i).nu ≤ 0
    rw [e]; decide
  · unfold rightsB at h6
    exact List.all_eq_true.1 h6
theorem aut_comp (A : Option Addr) (n cap : Nat) (rs : List Rul) (w : World) (hm : n ≤ 9223372036854775807) (hs : n ≤ 16 → Sl w 3 A n (rs.flatMap Rul.cells)) :
    Calls Tryz.prog 42 #[.slice A n cap] w fun e w' => ∃ A' n' c' nev nevs E, e = .returned (.tuple #[aut (.slice A' n' c') nev nevs, .int .i64 E]) ∧ Ex0 w w' ∧ (E = 0 → (n ≤ 16 ∧ rightsB rs = true) ∧ AutC w' (w.heap.size + 2) w'.heap.size rs (.slice A' n' c') nev nevs) ∧ (E ≠ 0 → ¬ (n ≤ 16 ∧ rightsB rs = true)) := by
  by_cases h : 16 < n
  · refine (compile_full A n cap w h hm).mono ?_
    rintro e w1 ⟨rfl, hx⟩
    exact ⟨_, _, _, _, _, 6, rfl, hx, fun h => (by cases h), fun _ h' => (by omega)⟩
  · refine (compile_any A n cap rs w (hs (by omega)) (by omega)).mono ?_
    rintro e w1 ⟨h1, h2⟩
    cases hr : rightsB rs with
    | false =>
      obtain ⟨rfl, hx⟩ := h1 hr
      exact ⟨_, _, _, _, _, 3, rfl, hx, fun h => (by cases h), fun _ h' => (by cases h'.2)⟩
    | true =>
      obtain ⟨v, nev, nevs, rfl, ha, hx⟩ := h2 hr
      obtain ⟨ks, _, hk, _⟩ := ha.keep
      obtain ⟨A', c', rfl, _⟩ := own_sl hk
      exact ⟨A', _, c', nev, nevs, 0, rfl, hx, fun _ => ⟨⟨by omega, rfl⟩, ha⟩, fun h => absurd rfl h⟩
theorem mayS_no {vols blocks : Int} {n : Nat} {rs : List Rul} (h : vols < 1 ∨ 8 < vols ∨ blocks < 1 ∨ 256 < blocks ∨ ¬ (n ≤ 16 ∧ rightsB rs = true)) : mayS vols blocks n rs = false := by
  rw [← Bool.not_eq_true]
  intro h'
  simp only [mayS, Bool.and_eq_true, decide_eq_true_eq] at h'
  obtain ⟨h1, h2, h3, h4, h5, h6⟩ := h'
  rcases h with h | h | h | h | h
  · omega
  · omega
  · omega
  · omega
  · exact h ⟨h5, h6⟩
/-- what New gives -/
def NewPost (vols blocks : Int) (n : Nat) (rs : List Rul) (w : World) (e : Ending) (w' : World) : Prop :=
  Ex0 w w' ∧ (mayS vols blocks n rs = false → e = .returned (.pointer none)) ∧
      (mayS vols blocks n rs = true → ∃ L : LstP, e = .returned (.pointer (some ⟨L.p, 0, none⟩)) ∧ LstAt w' L (TS.init vols blocks rs) ∧ Fr w.heap.size L.F)
theorem newPost_no {vols blocks : Int} {n : Nat} {rs : List Rul} {w w' : World} (hx : Ex0 w w') (h : vols < 1 ∨ 8 < vols ∨ blocks < 1 ∨ 256 < blocks ∨ ¬ (n ≤ 16 ∧ rightsB rs = true)) : NewPost vols blocks n rs w (.returned (.pointer none)) w' :=
  ⟨hx, fun _ => rfl, fun h' => by rw [mayS_no h] at h'; cases h'⟩
set_option maxHeartbeats 4000000 in
theorem tnew_any (C : Array Value) (vols blocks : Int) (A : Option Addr) (n cap : Nat) (rs : List Rul) (w : World) (_ : C.size = 38) (h2 : C[2]? = some (.int .i64 vols)) (h3 : C[3]? = some (.int .i64 blocks)) (h36 : C[36]? = some (.slice A n cap)) (hm : n ≤ 9223372036854775807) (hs : n ≤ 16 → Sl w 3 A n (rs.flatMap Rul.cells)) :
    Calls Tryz.prog 14 #[.agg C] w (NewPost vols blocks n rs w) := by
  obtain ⟨wa, hwa⟩ : ∃ wa, w.alloc (.cells C 26) = wa := ⟨_, rfl⟩
  have hB : wa.heap[w.heap.size]? = some (.cells C 26 (0, 0)) := by rw [← hwa]; exact heap_alloc_new _ _
  have HXA : Hid (Ex0 w wa) := by show Ex0 _ _; rw [← hwa]; exact Ex.alloc _ _
  have HWA := Lib.hid hwa
  have HB := Lib.hid hB
  have hlb : w.heap.size < wa.heap.size := (Array.getElem?_eq_some_iff.1 hB).1
  have c36 : wa.cell? ⟨w.heap.size, 36, none⟩ = some (.slice A n cap) := by rw [cell_of_row _ _ _ _ _ _ hB]; exact h36
  have H2 := Lib.hid h2
  have H3 := Lib.hid h3
  have HCM := Lib.hid (aut_comp A n cap rs wa hm (fun h => (hs h).ex0 HXA.out))
  clear hwa hB h2 h3 h36 hs
  go_enter Tryz.func14, Tryz.ntmps14
  iterate 5 go_step
  rw [HWA.out]
  go_wp2_with fail
  refine HCM.out.mono ?_
  rintro e w1 ⟨A', n', c', nev, nevs, E, rfl, hx1, hE0, hE1⟩
  have HX1 := Lib.hid (HXA.out.trans0 hx1)
  have HB1 : Hid (w1.heap[w.heap.size]? = some (.cells C 26 (0, 0))) := (hx1.block _ hlb id).trans HB.out
  have HE0 := Lib.hid hE0
  have HE1 := Lib.hid hE1
  have hl1 : w.heap.size < w1.heap.size := (Array.getElem?_eq_some_iff.1 HB1.out).1
  have g2 : w1.cell? ⟨w.heap.size, 2, none⟩ = some (.int .i64 vols) := by rw [cell_of_row _ _ _ _ _ _ HB1.out]; exact H2.out
  have g3 : w1.cell? ⟨w.heap.size, 3, none⟩ = some (.int .i64 blocks) := by rw [cell_of_row _ _ _ _ _ _ HB1.out]; exact H3.out
  clear hx1 hE0 hE1 c36 hlb
  unfold aut
  by_cases q1 : vols < 1
  · have Q := Lib.hid q1
    go_wp2
    go_ret
    exact newPost_no (HX1.out.alloc' _) (.inl Q.out)
  by_cases q2 : 8 < vols
  · have Q := Lib.hid q2
    go_wp2
    go_ret
    exact newPost_no (HX1.out.alloc' _) (.inr (.inl Q.out))
  by_cases q3 : blocks < 1
  · have Q := Lib.hid q3
    go_wp2
    go_ret
    exact newPost_no (HX1.out.alloc' _) (.inr (.inr (.inl Q.out)))
  by_cases q4 : 256 < blocks
  · have Q := Lib.hid q4
    go_wp2
    go_ret
    exact newPost_no (HX1.out.alloc' _) (.inr (.inr (.inr (.inl Q.out))))
  by_cases q5 : E = 0
  · subst q5
    have HAC := Lib.hid (HE0.out rfl).2
    have HMAY : Hid (mayS vols blocks n rs = true) := by
      show _ = _
      obtain ⟨h1, h2⟩ := (HE0.out rfl).1
      unfold mayS
      rw [h2]
      simp; omega
    go_wp2_with fail
    obtain ⟨wb, hwb⟩ : ∃ wb, w1.alloc (.cells #[.slice A' n' c', .int .i64 nev, .bool nevs] 115) = wb := ⟨_, rfl⟩
    have hbb : wb.heap[w1.heap.size]? = some (.cells #[.slice A' n' c', .int .i64 nev, .bool nevs] 115 (0, 0)) := by rw [← hwb]; exact heap_alloc_new _ _
    have hxb : Ex0 w1 wb := by rw [← hwb]; exact Ex.alloc _ _
    rw [hwb]
    have HXB := Lib.hid hxb
    have HBB := Lib.hid hbb
    have hS : (fun w' : World => w'.cell? ⟨w.heap.size, 2, none⟩ = some (.int .i64 vols) ∧ w'.cell? ⟨w.heap.size, 3, none⟩ = some (.int .i64 blocks) ∧ RowAt w' ⟨w1.heap.size, 0, none⟩ [.slice A' n' c', .int .i64 nev, .bool nevs]) wb.drew := by
      refine ⟨(hxb.trans0 (Ex.drew wb)).cellS g2 not_false, (hxb.trans0 (Ex.drew wb)).cellS g3 not_false, fun j u hu => ?_⟩
      rw [add_row, cell_of_row (w := wb.drew) _ _ _ _ _ hbb, Nat.zero_add]
      simpa using hu
    have HXD : Hid (Ex0 w1 wb.drew) := hxb.trans0 (Ex.drew wb)
    refine wp_region_takes (fun w' : World => w'.cell? ⟨w.heap.size, 2, none⟩ = some (.int .i64 vols) ∧ w'.cell? ⟨w.heap.size, 3, none⟩ = some (.int .i64 blocks) ∧ RowAt w' ⟨w1.heap.size, 0, none⟩ [.slice A' n' c', .int .i64 nev, .bool nevs]) (by kernel_rfl) ?_
    simp only [List.length_cons, List.length_nil]
    generalize wb.drew = wd at *
    clear hwb hbb hxb g2 g3 HXB HBB
    have HKEEP : Hid (∀ w2 w3 : World, (w2.cell? ⟨w.heap.size, 2, none⟩ = some (.int .i64 vols) ∧ w2.cell? ⟨w.heap.size, 3, none⟩ = some (.int .i64 blocks) ∧ RowAt w2 ⟨w1.heap.size, 0, none⟩ [.slice A' n' c', .int .i64 nev, .bool nevs]) → Ex0 w2 w3 → (w3.cell? ⟨w.heap.size, 2, none⟩ = some (.int .i64 vols) ∧ w3.cell? ⟨w.heap.size, 3, none⟩ = some (.int .i64 blocks) ∧ RowAt w3 ⟨w1.heap.size, 0, none⟩ [.slice A' n' c', .int .i64 nev, .bool nevs])) :=
      fun w2 w3 h hx => ⟨hx.cellS h.1 not_false, hx.cellS h.2.1 not_false, h.2.2.ex hx not_false⟩
    refine' wpAnyH_do 0 rfl (by kernel_rfl) (fun _ _ _ _ h => h) (by rfl) (by assumption) ⟨_, fun w' hS => ?_, ?_⟩
    rotate_left
    · ((try dsimp only at hS); go_split_ands; go_simp; try (with_reducible rfl))
    simp only [Act.put, List.setIfInBounds_toArray, List.set_cons_zero, List.set_cons_succ]
    refine' wpAnyH_do 1 rfl (by kernel_rfl) (fun _ _ _ _ h => h) (by rfl) (by assumption) ⟨_, fun w' hS => ?_, ?_⟩
    rotate_left
    · ((try dsimp only at hS); go_split_ands; go_simp; try (with_reducible rfl))
    simp only [Act.put, List.setIfInBounds_toArray, List.set_cons_zero, List.set_cons_succ]
    refine' wpAnyH_do 2 rfl (by kernel_rfl) (fun _ _ _ _ h => h) (by rfl) (by assumption) ⟨_, fun w' hS => ?_, ?_⟩
    rotate_left
    · ((try dsimp only at hS); go_split_ands; go_simp; try (with_reducible rfl))
    simp only [Act.put, List.setIfInBounds_toArray, List.set_cons_zero, List.set_cons_succ]
    refine' wpAnyH_do 3 rfl (by kernel_rfl) (fun _ _ _ _ h => h) (by rfl) (by assumption) ⟨_, fun w' hS => ?_, ?_⟩
    rotate_left
    · ((try dsimp only at hS); go_split_ands; go_simp; try (with_reducible rfl))
    simp only [Act.put, List.setIfInBounds_toArray, List.set_cons_zero, List.set_cons_succ]
    refine' wpAnyH_do 5 rfl (by kernel_rfl) (fun _ _ _ _ h => h) (by rfl) (by assumption) ⟨_, fun w' hS => exec_load_at 115 (.tmp 3) rfl ⟨w1.heap.size, 0, none⟩ rfl _ _ hS.2.2 Tryz.underlying115 rfl (by kernel_rfl), ?_⟩
    simp only [Act.put, List.setIfInBounds_toArray, List.set_cons_zero, List.set_cons_succ]
    refine wpAnyH_eff 4 rfl (by kernel_rfl) (by rfl) (fun K hK => ?_)
    have HKK := Lib.hid hK
    clear hK
    go_simp
    refine (Mo.new_any wd).mono ?_
    rintro e w2 ⟨rfl, htb, hx2⟩
    have hS2 := HKEEP.out _ _ hS hx2
    have HTB := Lib.hid htb
    have HX2 := Lib.hid hx2
    clear hS htb hx2
    dsimp only
    refine HKK.out _ _ hS2 ?_
    clear HKK K
    (try simp only [Act.put, List.setIfInBounds_toArray, List.set_cons_zero, List.set_cons_succ])
    have hS := hS2
    clear hS2
    refine wpAnyH_eff 6 rfl (by kernel_rfl) (by rfl) (fun K hK => ?_)
    have HKK := Lib.hid hK
    clear hK
    go_simp
    refine (Ho.new_any w2).mono ?_
    rintro e w3 ⟨rfl, hbk, hx3⟩
    have hS2 := HKEEP.out _ _ hS hx3
    have HBK := Lib.hid hbk
    have HX3 := Lib.hid hx3
    clear hS hbk hx3
    dsimp only
    refine HKK.out _ _ hS2 ?_
    clear HKK K
    (try simp only [Act.put, List.setIfInBounds_toArray, List.set_cons_zero, List.set_cons_succ])
    have hS := hS2
    clear hS2
    refine wpAnyH_eff 7 rfl (by kernel_rfl) (by rfl) (fun K hK => ?_)
    have HKK := Lib.hid hK
    clear hK
    go_simp
    refine (fnew_any w3).mono ?_
    rintro e w4 ⟨rfl, hfo, hx4⟩
    have hS2 := HKEEP.out _ _ hS hx4
    have HFO := Lib.hid hfo
    have HX4 := Lib.hid hx4
    clear hS hfo hx4
    dsimp only
    refine HKK.out _ _ hS2 ?_
    clear HKK K
    (try simp only [Act.put, List.setIfInBounds_toArray, List.set_cons_zero, List.set_cons_succ])
    have hS := hS2
    clear hS2
    refine' wpAnyH_do 8 rfl (by kernel_rfl) (fun _ _ _ _ h => h) (by rfl) (by assumption) ⟨_, fun w' hS => ?_, ?_⟩
    rotate_left
    · ((try dsimp only at hS); go_split_ands; go_simp; try (with_reducible rfl))
    simp only [Act.put, List.setIfInBounds_toArray, List.set_cons_zero, List.set_cons_succ]
    refine' wpAnyH_do 9 rfl (by kernel_rfl) (fun _ _ _ _ h => h) (by rfl) (by assumption) ⟨_, fun w' hS => ?_, ?_⟩
    rotate_left
    · ((try dsimp only at hS); go_split_ands; go_simp; try (with_reducible rfl))
    simp only [Act.put, List.setIfInBounds_toArray, List.set_cons_zero, List.set_cons_succ]
    refine wpAnyH_eff 10 rfl (by kernel_rfl) (by rfl) (fun K hK => ?_)
    have HKK := Lib.hid hK
    clear hK
    go_simp
    have HXF : Hid (Ex0 w1 w4) := HXD.out.trans0 (HX2.out.trans0 (HX3.out.trans0 HX4.out))
    have hA11 : (w4.alloc (.cells #[.int .i64 vols, .int .i64 blocks, .int .i64 0, .int .u64 0, .slice none 0 0, .pointer (some ⟨wd.heap.size, 0, none⟩), .slice A' n' c', .int .i64 nev, .bool nevs, .pointer (some ⟨w2.heap.size, 0, none⟩), .pointer (some ⟨w3.heap.size, 0, none⟩)] 126)).heap[w4.heap.size]? = some (.cells #[.int .i64 vols, .int .i64 blocks, .int .i64 0, .int .u64 0, .slice none 0 0, .pointer (some ⟨wd.heap.size, 0, none⟩), .slice A' n' c', .int .i64 nev, .bool nevs, .pointer (some ⟨w2.heap.size, 0, none⟩), .pointer (some ⟨w3.heap.size, 0, none⟩)] 126 (0, 0)) := heap_alloc_new _ _
    have hxe := Ex.alloc w4 (.cells #[.int .i64 vols, .int .i64 blocks, .int .i64 0, .int .u64 0, .slice none 0 0, .pointer (some ⟨wd.heap.size, 0, none⟩), .slice A' n' c', .int .i64 nev, .bool nevs, .pointer (some ⟨w2.heap.size, 0, none⟩), .pointer (some ⟨w3.heap.size, 0, none⟩)] 126)
    generalize w4.alloc (.cells #[.int .i64 vols, .int .i64 blocks, .int .i64 0, .int .u64 0, .slice none 0 0, .pointer (some ⟨wd.heap.size, 0, none⟩), .slice A' n' c', .int .i64 nev, .bool nevs, .pointer (some ⟨w2.heap.size, 0, none⟩), .pointer (some ⟨w3.heap.size, 0, none⟩)] 126) = w5 at *
    have HXE := Lib.hid hxe
    have HAA := Lib.hid hA11
    have hS2 := HKEEP.out _ _ hS hxe
    clear hS hxe hA11
    refine HKK.out _ _ hS2 ?_
    clear HKK K
    (try simp only [Act.put, List.setIfInBounds_toArray, List.set_cons_zero, List.set_cons_succ])
    have hS := hS2
    clear hS2
    refine' wpAnyH_do 11 rfl (by kernel_rfl) (fun _ _ _ _ h => h) (by rfl) (by assumption) ⟨_, fun w' hS => ?_, ?_⟩
    rotate_left
    · ((try dsimp only at hS); go_split_ands; go_simp; try (with_reducible rfl))
    simp only [Act.put, List.setIfInBounds_toArray, List.set_cons_zero, List.set_cons_succ]
    refine wpAnyH_done (by kernel_rfl) ?_ _
    clear hS
    go_wp2
    go_ret
    have z1 : w.heap.size ≤ w1.heap.size := HX1.out.size
    have z2 : w1.heap.size ≤ wd.heap.size := HXD.out.size
    have z3 : wd.heap.size ≤ w2.heap.size := HX2.out.size
    have z4 : w2.heap.size ≤ w3.heap.size := HX3.out.size
    have z5 : w3.heap.size ≤ w4.heap.size := HX4.out.size
    refine ⟨HX1.out.trans0 (HXF.out.trans0 HXE.out), fun h => (by rw [HMAY.out] at h; cases h), fun _ => ⟨⟨w4.heap.size, .slice none 0 0, ⟨wd.heap.size, .slice none 0 0, w2.heap.size, .slice none 0 0, w3.heap.size, _, _, A', n', c', nev, nevs⟩⟩, rfl, ⟨HAA.out, World.ownsRow_nil _ _ _ _, ⟨(HTB.out.ex0 (HX3.out.trans0 (HX4.out.trans0 HXE.out))), HBK.out.ex0 (HX4.out.trans0 HXE.out), HFO.out.ex0 HXE.out, HAC.out.ex (HXF.out.trans0 HXE.out) (fun _ _ _ => id)⟩⟩, fun b hb => ?_⟩⟩
    rcases hb with h | h | h | h | h | h | h
    · have h' : b = w4.heap.size := h; omega
    · cases h
    · have h' : b = wd.heap.size := h; omega
    · cases h
    · have h' : b = w2.heap.size := h; omega
    · cases h
    · have h' : b = w3.heap.size := h; omega
  · have Q := Lib.hid q5
    have q5' : (E == 0) = false := by simpa using q5
    have q5'' : (E != 0) = true := by simpa using q5
    go_wp2
    go_ret
    exact newPost_no (HX1.out.alloc' _) (.inr (.inr (.inr (.inr (HE1.out Q.out)))))
end Go.Proofs.YtoglddndicmelaaGreat.Tr

namespace Go.Proofs.YtoglddndicmelaaGreat.Tr
open Go.RowKit Go.Proofs.YtoglddndicmelaaGreatB Go.Proofs.YtoglddndicmelaaGreat
set_option maxRecDepth 100000

theorem skip_nil (t : Int) (w : World) :
    Calls Tryz.prog 30 #[.pointer none, .int .u64 t] w fun e w' => e = .returned (.tuple #[]) ∧ Ex0 w w' := by
  go_enter Tryz.func30, Tryz.ntmps30
  go_wp2
  go_end0
  exact ⟨rfl, Ex.refl _ _⟩
theorem write_nil (C : Array Value) (w : World) :
    Calls Tryz.prog 23 #[.pointer none, .agg C] w fun e w' => e = .returned (.tuple #[.int .u64 0, .int .i64 1]) ∧ Ex0 w w' := by
  go_enter Tryz.func23, Tryz.ntmps23
  go_wp2
  go_ret2
  exact ⟨rfl, Ex.alloc _ _⟩
theorem fork_nil (n m : Int) (w : World) :
    Calls Tryz.prog 25 #[.pointer none, .int .i64 n, .int .u64 m] w fun e w' => e = .returned (.tuple #[.int .i64 0, .int .i64 1]) ∧ Ex0 w w' := by
  go_enter Tryz.func25, Tryz.ntmps25
  go_wp2
  go_ret2
  exact ⟨rfl, Ex.refl _ _⟩
theorem hold_nil (a b c : Int) (w : World) :
    Calls Tryz.prog 27 #[.pointer none, .int .i64 a, .int .i64 b, .int .i64 c] w fun e w' => e = .returned (.tuple #[.int .u64 0, .int .i64 1]) ∧ Ex0 w w' := by
  go_enter Tryz.func27, Tryz.ntmps27
  go_wp2
  go_ret2
  exact ⟨rfl, Ex.refl _ _⟩
theorem tick_nil (n : Int) (w : World) :
    Calls Tryz.prog 26 #[.pointer none, .int .i64 n] w fun e w' => e = .returned (.int .i64 1) ∧ Ex0 w w' := by
  go_enter Tryz.func26, Tryz.ntmps26
  go_wp2
  go_ret
  exact ⟨rfl, Ex.refl _ _⟩
theorem mark_nil (w : World) :
    Calls Tryz.prog 31 #[.pointer none] w fun e w' => e = .returned (.int .u64 0) ∧ Ex0 w w' := by
  go_enter Tryz.func31, Tryz.ntmps31
  go_wp2
  go_ret
  exact ⟨rfl, Ex.refl _ _⟩
theorem drop_nil (n : Int) (w : World) :
    Calls Tryz.prog 32 #[.pointer none, .int .i64 n] w fun e w' => e = .returned (.int .i64 1) ∧ Ex0 w w' := by
  go_enter Tryz.func32, Tryz.ntmps32
  go_wp2
  go_ret
  exact ⟨rfl, Ex.refl _ _⟩
theorem lift_nil (n : Int) (w : World) :
    Calls Tryz.prog 29 #[.pointer none, .int .u64 n] w fun e w' => e = .returned (.int .i64 1) ∧ Ex0 w w' := by
  go_enter Tryz.func29, Tryz.ntmps29
  go_wp2
  go_ret
  exact ⟨rfl, Ex.refl _ _⟩
theorem promised_nil (w : World) :
    Calls Tryz.prog 17 #[.pointer none] w fun e w' => e = .returned (.slice none 0 0) ∧ Ex0 w w' := by
  go_enter Tryz.func17, Tryz.ntmps17
  go_wp2
  go_ret
  exact ⟨rfl, Ex.refl _ _⟩
theorem top_nil (w : World) :
    Calls Tryz.prog 16 #[.pointer none] w fun e w' => e = .returned (.int .u64 0) ∧ Ex0 w w' := by
  go_enter Tryz.func16, Tryz.ntmps16
  go_wp2
  go_ret
  exact ⟨rfl, Ex.refl _ _⟩
set_option maxHeartbeats 1000000 in
theorem read_nil54 (id m vol blk : Int) (w : World) :
    Calls Tryz.prog 21 #[.pointer none, .int .i64 id, .int .u64 m, .int .i64 vol, .int .i64 blk] w fun e w' => e = .returned (.tuple #[.agg Z32, .int .i64 1]) ∧ Ex0 w w' := by
  obtain ⟨wa, hwa⟩ : ∃ wa, w.alloc (.cells #[.int .u8 0, .int .u8 0, .int .u8 0, .int .u8 0, .int .u8 0, .int .u8 0, .int .u8 0, .int .u8 0, .int .u8 0, .int .u8 0, .int .u8 0, .int .u8 0, .int .u8 0, .int .u8 0, .int .u8 0, .int .u8 0, .int .u8 0, .int .u8 0, .int .u8 0, .int .u8 0, .int .u8 0, .int .u8 0, .int .u8 0, .int .u8 0, .int .u8 0, .int .u8 0, .int .u8 0, .int .u8 0, .int .u8 0, .int .u8 0, .int .u8 0, .int .u8 0] 49) = wa := ⟨_, rfl⟩
  have HZ : Hid (wa.heap[w.heap.size]? = some (.cells Z32 49 (0, 0))) := by show _ = _; rw [← hwa]; exact heap_alloc_new _ _
  have HXA : Hid (Ex0 w wa) := by show Ex0 _ _; rw [← hwa]; exact Ex.alloc _ _
  have HWA := Lib.hid hwa
  clear hwa
  go_enter Tryz.func21, Tryz.ntmps21
  iterate 5 go_step
  rw [HWA.out]
  go_wp2_with (refine wpList_store_all rfl 49 (.tmp 10) (.tmp 21) rfl w.heap.size rfl Z32 _ rfl 49 HZ.out rfl Z32_one (by kernel_rfl) ?_; rw [setRow_self _ _ _ _ _ HZ.out])
  refine bodyPost_ret (results_row_tmp rfl _ _ w.heap.size _ _ _ _ rfl HZ.out Tryz.underlying49 rfl (by kernel_rfl) (.int .i64 1) rfl) rfl ?_
  exact ⟨rfl, HXA.out⟩
end Go.Proofs.YtoglddndicmelaaGreat.Tr
