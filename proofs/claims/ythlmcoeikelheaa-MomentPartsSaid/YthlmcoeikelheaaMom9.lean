/- Contracts of layer 28: the document's Release. -/
import Derived.Test.YthlmcoeikelheaaMom8
namespace Go.Proofs.Ythlmcoeikelheaa
open Go.RowKit Go.Proofs.YthlmcoeikelheaaB Go.Shelf

theorem map_set_same {β : Type} (f : It → β) (l : List It) (i : Nat) (x' : It) (h : i < l.length) (he : f x' = f l[i]) : (l.set i x').map f = l.map f := by
  rw [List.map_set, he]
  apply List.ext_getElem (by simp)
  intro j h1 h2
  rw [List.getElem_set]
  split
  · rename_i e; subst e; simp
  · rfl

set_option maxRecDepth 100000 in
set_option maxHeartbeats 4000000 in
theorem rrelease_any (p : Nat) (d : DocV) (l : List It) (num : Int) (w : World) (hD : DocAt w p d l) (hk : TabOk l) :
    Calls Try.prog 37 #[.pointer (some ⟨p, 0, none⟩), .int .u64 num] w (DocPost p d (relL num l) (relE num l) w) := by
  obtain ⟨ib, hib, hzb0, hzb1, hzb2⟩ := info_parts infoB
  have hn := hk.len
  go_enter Try.func37, Try.ntmps37
  go_wp2_with fail
  refine (rfind_any p d l num _ hD hk).mono ?_
  rintro e w1 ⟨rfl, hx⟩
  have hD1 := Lib.hid (hD.ex0 hx)
  have HX := Lib.hid hx
  have HD := Lib.hid hD
  clear hD hx
  rcases idxI_cases num l with ⟨hh, hi⟩ | ⟨hh, hi⟩
  · have HH := Lib.hid hh
    rw [hi]
    clear hh hi
    go_wp2
    go_ret
    have e0 : relE num l = 4 := by unfold relE; rw [HH.out]; rfl
    rw [show relL num l = l by unfold relL; rw [e0]; rfl, e0]
    exact docPost_same HD.out HX.out
  · rw [hi]
    obtain ⟨hlo, _⟩ := has_get hk.srt hh
    obtain ⟨n0, n1, n2⟩ := hD1.out.cells
    have hpl := hD1.out.lt
    have hfz : w1.frozen? ⟨p, 2, none⟩ = false := frozen_of_row w1 p 2 _ _ hD1.out.blk
    obtain ⟨g, off, hA, hg, hc⟩ := hD1.out.sO.one hlo
    rw [hA] at n2
    rw [← gt_get hlo] at hc
    have hrl : relE num l = if (gt l (lo num l)).out then 7 else if lo num l + 1 = l.length then 12 else 0 := by unfold relE; rw [hh]; rfl
    have hll : relL num l = if relE num l = 0 then l.set (lo num l) ⟨(gt l (lo num l)).num, (gt l (lo num l)).min, true⟩ else l := rfl
    have hm1 := map_set_same (fun x : It => Value.int .u64 x.num) l (lo num l) ⟨(gt l (lo num l)).num, (gt l (lo num l)).min, true⟩ hlo (by rw [gt_get hlo])
    have hm2 := map_set_same (fun x : It => Value.int .i64 x.min) l (lo num l) ⟨(gt l (lo num l)).num, (gt l (lo num l)).min, true⟩ hlo (by rw [gt_get hlo])
    have hm3 : (l.set (lo num l) ⟨(gt l (lo num l)).num, (gt l (lo num l)).min, true⟩).map (fun x : It => Value.bool x.out) = (l.map fun x : It => Value.bool x.out).set (lo num l) (.bool true) := by rw [List.map_set]
    have HRL := Lib.hid hrl
    have HLL := Lib.hid hll
    have HM1 := Lib.hid hm1
    have HM2 := Lib.hid hm2
    have HM3 := Lib.hid hm3
    have HA := Lib.hid hA
    have hi0 : (0 : Int) ≤ (lo num l : Int) := Int.natCast_nonneg _
    have hi1 : (lo num l : Int) < (l.length : Int) := by omega
    have hi2 : ¬ ((lo num l : Int) < 0) := by omega
    clear hrl hll hh hi hm1 hm2 hm3 hA
    generalize gt l (lo num l) = x at *
    generalize lo num l = i at *
    obtain ⟨x1, x2, x3⟩ := x
    dsimp only at hc
    cases x3 with
    | true =>
      go_wp2
      go_ret
      have e0 : relE num l = 7 := by rw [HRL.out]; rfl
      rw [show relL num l = l by rw [HLL.out, e0]; rfl, e0]
      exact docPost_same HD.out HX.out
    | false =>
      by_cases hlast : i + 1 = l.length
      · have heq : ((i : Int) == (l.length : Int) - 1) = true := by simp; omega
        have HLA := Lib.hid hlast
        clear hlast
        go_wp2
        go_ret
        have e0 : relE num l = 12 := by rw [HRL.out]; simp [HLA.out]
        rw [show relL num l = l by rw [HLL.out, e0]; rfl, e0]
        exact docPost_same HD.out HX.out
      · have heq : ((i : Int) == (l.length : Int) - 1) = false := by rw [beq_eq_false_iff_ne]; omega
        have HLA := Lib.hid hlast
        clear hlast
        have D0 := Lib.hid (Doc3.of hD1.out)
        go_wp2_with (at_builtin; refine wpList_append_sl rfl (.tmp 27) (.tmp 31) 30 rfl w1.heap.size 4 ib _ 1 1 Try.underlying30 hib hzb0 hzb1 hzb2 rfl (by decide) _ 0 [] rfl (own_empty (heap_alloc_new _ _) _ (by simp)) (some ⟨g, off, none⟩) l.length d.cO (l.map (fun x : It => Value.bool x.out)) rfl (by rw [← HA.out]; exact (D0.out.s2.ex0 (Ex.alloc _ _))) (fun h => by cases h) (one_map _ _ (fun _ => rfl)) (by unfold maxLen; omega) (by omega) (by simp) ?_)
        intro v1 w2 ho hg2 hat
        have hx2 : Ex0 w1 w2 := ex_of_new (Ex.alloc _ _) hg2 (by intro b hb; simp [Value.ownBlock] at hb; omega)
        obtain ⟨g1, cap1, rfl, hgle, hglt⟩ := ho.form (by omega)
        obtain ⟨A', cap', hve, hsl, hbl, hcp⟩ := own_sl' ho
        simp only [Value.slice.injEq, true_and] at hve
        obtain ⟨rfl, rfl⟩ := hve
        have hne : g1 ≠ p := by omega
        have D1 := Lib.hid (D0.out.set2 hx2 hsl (fun b hb => ho.lt b (by rw [hbl]; exact hb)) hcp (own_cap ho))
        have ho' := own_ex ho (Ex.setCell w2 ⟨p, 2, none⟩ (.slice (some ⟨g1, 0, none⟩) l.length cap1)) (fun b hb e => hne (by simp [Value.ownBlock] at hb; rw [hb]; exact e))
        have hst := ho'.stored i (.bool true)
        rw [← HM3.out] at hst
        have hcell : w2.cell? ⟨g1, i, none⟩ = some (.bool false) := by
          rw [ho.cellAt i (by omega), List.getElem?_map, List.getElem?_eq_getElem hlo]
          have := (hD1.out.sO.one hlo)
          obtain ⟨ga, oa, hAa, _, hca⟩ := this
          rw [HA.out] at hAa
          cases hAa
          rw [hc] at hca
          simpa using hca.symm
        have hfr : w2.frozen? ⟨g1, i, none⟩ = false := ho.frozenAt i
        obtain ⟨m0, m1, m2, f0, f1, f2⟩ := (D0.out.ex0 hx2).cells
        have hpl2 := (D0.out.ex0 hx2).lt
        have HST := Lib.hid hst.1
        have HX2 := Lib.hid hx2
        have HGT := Lib.hid (show w1.heap.size ≤ g1 from hgle)
        clear ho ho' hst hx2 hg2 hat hsl hbl hcp
        go_wp2
        go_ret
        have e0 : relE num l = 0 := by rw [HRL.out]; simp [HLA.out]
        have eL : relL num l = l.set i ⟨x1, x2, true⟩ := by rw [HLL.out, e0]; rfl
        rw [eL, e0]
        have hX := Ex.setCell (w2.setCell ⟨p, 2, none⟩ (.slice (some ⟨g1, 0, none⟩) l.length cap1)) ⟨g1, i, none⟩ (.bool true)
        have hlt0 : ∀ b, (Bl d.N b ∨ Bl d.M b) → b ≠ g1 := fun b hb e => by
          have h9 := HGT.out
          rcases hb with hb | hb
          · have := (hD1.out.ap b (.inl hb)).2; omega
          · have := (hD1.out.ap b (.inr (.inl hb))).2; omega
        obtain ⟨A3, cap3, hv3, hsl3, _, _⟩ := own_sl' HST.out
        simp only [Value.slice.injEq, true_and] at hv3
        obtain ⟨rfl, rfl⟩ := hv3
        refine ⟨⟨d.N, d.M, some ⟨g1, 0, none⟩, d.cN, d.cM, cap1⟩, rfl, ?_, ?_, ?_⟩
        · refine ⟨?_, ?_, ?_, ?_, D1.out.e0, D1.out.e1, D1.out.e2, ?_, by rw [List.length_set]; exact D1.out.k0, by rw [List.length_set]; exact D1.out.k1, by rw [List.length_set]; exact D1.out.k2⟩
          · rw [List.length_set]; exact (hX.block p D1.out.lt (fun e => hne e.symm)).trans D1.out.blk
          · rw [List.length_set, HM1.out]; exact D1.out.s0.ex hX (fun b hb => hlt0 b (.inl hb))
          · rw [List.length_set, HM2.out]; exact D1.out.s1.ex hX (fun b hb => hlt0 b (.inr hb))
          · rw [List.length_set]; exact hsl3
          · intro b hb
            have hs9 := hX.size
            rcases hb with hb | hb | hb
            · exact ⟨(D1.out.a0 b hb).1, Nat.lt_of_lt_of_le (D1.out.a0 b hb).2 hs9⟩
            · exact ⟨(D1.out.a1 b hb).1, Nat.lt_of_lt_of_le (D1.out.a1 b hb).2 hs9⟩
            · exact ⟨(D1.out.a2 b hb).1, Nat.lt_of_lt_of_le (D1.out.a2 b hb).2 hs9⟩
        · intro b hb
          rcases hb with hb | hb | hb
          · exact .inl (.inl hb)
          · exact .inl (.inr (.inl hb))
          · right
            have e : g1 = b := by simpa [Bl] using hb
            subst e
            exact Nat.le_trans HX.out.size HGT.out
        · have hw2 : w.heap.size ≤ g1 := Nat.le_trans HX.out.size HGT.out
          have hall : Ex0 w w2 := HX.out.trans0 HX2.out
          have h3 := (hall.trans (Ex.setCell w2 ⟨p, 2, none⟩ (.slice (some ⟨g1, 0, none⟩) l.length cap1)) (U := fun b => b = p) (fun _ _ h => h.elim) (fun _ _ h => h))
          exact h3.trans hX (fun _ _ h => h) (fun b hb h => by simp at h; omega)
end Go.Proofs.Ythlmcoeikelheaa
