/- Layer 54: the document's Hold. -/
import Derived.Test.YtoglddndicmelaaGreatRlF
namespace Go.Proofs.YtoglddndicmelaaGreat.Mo
open Go.RowKit Go.Proofs.YtoglddndicmelaaGreatB Go.Proofs.YtoglddndicmelaaGreat
set_option maxRecDepth 100000
/-- as DocPost, and the numbers lie where they lay -/
def DocPostN (p : Nat) (d : DocV) (l' : List It) (r : Int) (w : World) (e : Ending) (w' : World) : Prop :=
  ∃ d', e = .returned (.int .i64 r) ∧ d'.N = d.N ∧ d'.cN = d.cN ∧ DocAt w' p d' l' ∧ (∀ b, Bld d' b → Bld d b ∨ w.heap.size ≤ b) ∧ Ex (· = p) w w'
theorem docPostN_same {p : Nat} {d : DocV} {l : List It} {r : Int} {w w' : World} (hD : DocAt w p d l) (hx : Ex0 w w') : DocPostN p d l r w (.returned (.int .i64 r)) w' :=
  ⟨d, rfl, rfl, rfl, hD.ex0 hx, fun _ hb => .inl hb, hx.to (fun _ _ hh => hh.elim)⟩
set_option maxRecDepth 100000 in
set_option maxHeartbeats 4000000 in
theorem rrelN_any (p : Nat) (d : DocV) (l : List It) (num : Int) (w : World) (hD : DocAt w p d l) (hk : TabOk l) :
    Calls Tryz.prog 131 #[.pointer (some ⟨p, 0, none⟩), .int .u64 num] w (DocPostN p d (relL num l) (relE num l) w) := by
  obtain ⟨ib, hib, hzb0, hzb1, hzb2⟩ := info_parts infoB
  have hn := hk.len
  go_enter Tryz.func131, Tryz.ntmps131
  go_wp2_with fail
  refine (rfind_any p d l num _ hD hk).mono ?_
  rintro e w1 ⟨rfl, hx⟩
  have hD1 := Lib.hid (hD.ex0 hx)
  have HX := Lib.hid hx
  have HD := Lib.hid hD
  clear hD hx
  rcases idxI_cases num l with ⟨hh, hi⟩ | ⟨hh, hi⟩
  · have HH := Lib.hid hh
    rw [hi]
    clear hh hi
    go_wp2
    go_ret
    have e0 : relE num l = 4 := by unfold relE; rw [HH.out]; rfl
    rw [show relL num l = l by unfold relL; rw [e0]; rfl, e0]
    exact docPostN_same HD.out HX.out
  · rw [hi]
    obtain ⟨hlo, _⟩ := has_get hk.srt hh
    obtain ⟨n0, n1, n2⟩ := hD1.out.cells
    have hpl := hD1.out.lt
    have hfz : w1.frozen? ⟨p, 2, none⟩ = false := frozen_of_row w1 p 2 _ _ hD1.out.blk
    obtain ⟨g, off, hA, hg, hc⟩ := hD1.out.sO.one hlo
    rw [hA] at n2
    rw [← gt_get hlo] at hc
    have hrl : relE num l = if (gt l (lo num l)).out then 7 else if lo num l + 1 = l.length then 12 else 0 := by unfold relE; rw [hh]; rfl
    have hll : relL num l = if relE num l = 0 then l.set (lo num l) ⟨(gt l (lo num l)).num, (gt l (lo num l)).min, true⟩ else l := rfl
    have hm1 := map_set_same (fun x : It => Value.int .u64 x.num) l (lo num l) ⟨(gt l (lo num l)).num, (gt l (lo num l)).min, true⟩ hlo (by rw [gt_get hlo])
    have hm2 := map_set_same (fun x : It => Value.int .i64 x.min) l (lo num l) ⟨(gt l (lo num l)).num, (gt l (lo num l)).min, true⟩ hlo (by rw [gt_get hlo])
    have hm3 : (l.set (lo num l) ⟨(gt l (lo num l)).num, (gt l (lo num l)).min, true⟩).map (fun x : It => Value.bool x.out) = (l.map fun x : It => Value.bool x.out).set (lo num l) (.bool true) := by rw [List.map_set]
    have HRL := Lib.hid hrl
    have HLL := Lib.hid hll
    have HM1 := Lib.hid hm1
    have HM2 := Lib.hid hm2
    have HM3 := Lib.hid hm3
    have HA := Lib.hid hA
    have hi0 : (0 : Int) ≤ (lo num l : Int) := Int.natCast_nonneg _
    have hi1 : (lo num l : Int) < (l.length : Int) := by omega
    have hi2 : ¬ ((lo num l : Int) < 0) := by omega
    clear hrl hll hh hi hm1 hm2 hm3 hA
    generalize gt l (lo num l) = x at *
    generalize lo num l = i at *
    obtain ⟨x1, x2, x3⟩ := x
    dsimp only at hc
    cases x3 with
    | true =>
      go_wp2
      go_ret
      have e0 : relE num l = 7 := by rw [HRL.out]; rfl
      rw [show relL num l = l by rw [HLL.out, e0]; rfl, e0]
      exact docPostN_same HD.out HX.out
    | false =>
      by_cases hlast : i + 1 = l.length
      · have heq : ((i : Int) == (l.length : Int) - 1) = true := by simp; omega
        have HLA := Lib.hid hlast
        clear hlast
        go_wp2
        go_ret
        have e0 : relE num l = 12 := by rw [HRL.out]; simp [HLA.out]
        rw [show relL num l = l by rw [HLL.out, e0]; rfl, e0]
        exact docPostN_same HD.out HX.out
      · have heq : ((i : Int) == (l.length : Int) - 1) = false := by rw [beq_eq_false_iff_ne]; omega
        have HLA := Lib.hid hlast
        clear hlast
        have D0 := Lib.hid (Doc3.of hD1.out)
        go_wp2_with (at_builtin; refine wpList_append_sl rfl (.tmp 27) (.tmp 31) 77 rfl w1.heap.size 4 ib _ 1 1 Tryz.underlying77 hib hzb0 hzb1 hzb2 rfl (by decide) _ 0 [] rfl (own_empty (heap_alloc_new _ _) _ (by simp)) (some ⟨g, off, none⟩) l.length d.cO (l.map (fun x : It => Value.bool x.out)) rfl (by rw [← HA.out]; exact (D0.out.s2.ex0 (Ex.alloc _ _))) (fun h => by cases h) (one_map _ _ (fun _ => rfl)) (by unfold maxLen; omega) (by omega) (by simp) ?_)
        intro v1 w2 ho hg2 hat
        have hx2 : Ex0 w1 w2 := ex_of_new (Ex.alloc _ _) hg2 (by intro b hb; simp [Value.ownBlock] at hb; omega)
        obtain ⟨g1, cap1, rfl, hgle, hglt⟩ := ho.form (by omega)
        obtain ⟨A', cap', hve, hsl, hbl, hcp⟩ := own_sl' ho
        simp only [Value.slice.injEq, true_and] at hve
        obtain ⟨rfl, rfl⟩ := hve
        have hne : g1 ≠ p := by omega
        have D1 := Lib.hid (D0.out.set2 hx2 hsl (fun b hb => ho.lt b (by rw [hbl]; exact hb)) hcp (own_cap ho))
        have ho' := own_ex ho (Ex.setCell w2 ⟨p, 2, none⟩ (.slice (some ⟨g1, 0, none⟩) l.length cap1)) (fun b hb e => hne (by simp [Value.ownBlock] at hb; rw [hb]; exact e))
        have hst := ho'.stored i (.bool true)
        rw [← HM3.out] at hst
        have hcell : w2.cell? ⟨g1, i, none⟩ = some (.bool false) := by
          rw [ho.cellAt i (by omega), List.getElem?_map, List.getElem?_eq_getElem hlo]
          have := (hD1.out.sO.one hlo)
          obtain ⟨ga, oa, hAa, _, hca⟩ := this
          rw [HA.out] at hAa
          cases hAa
          rw [hc] at hca
          simpa using hca.symm
        have hfr : w2.frozen? ⟨g1, i, none⟩ = false := ho.frozenAt i
        obtain ⟨m0, m1, m2, f0, f1, f2⟩ := (D0.out.ex0 hx2).cells
        have hpl2 := (D0.out.ex0 hx2).lt
        have HST := Lib.hid hst.1
        have HX2 := Lib.hid hx2
        have HGT := Lib.hid (show w1.heap.size ≤ g1 from hgle)
        clear ho ho' hst hx2 hg2 hat hsl hbl hcp
        go_wp2
        go_ret
        have e0 : relE num l = 0 := by rw [HRL.out]; simp [HLA.out]
        have eL : relL num l = l.set i ⟨x1, x2, true⟩ := by rw [HLL.out, e0]; rfl
        rw [eL, e0]
        have hX := Ex.setCell (w2.setCell ⟨p, 2, none⟩ (.slice (some ⟨g1, 0, none⟩) l.length cap1)) ⟨g1, i, none⟩ (.bool true)
        have hlt0 : ∀ b, (Bl d.N b ∨ Bl d.M b) → b ≠ g1 := fun b hb e => by
          have h9 := HGT.out
          rcases hb with hb | hb
          · have := (hD1.out.ap b (.inl hb)).2; omega
          · have := (hD1.out.ap b (.inr (.inl hb))).2; omega
        obtain ⟨A3, cap3, hv3, hsl3, _, _⟩ := own_sl' HST.out
        simp only [Value.slice.injEq, true_and] at hv3
        obtain ⟨rfl, rfl⟩ := hv3
        refine ⟨⟨d.N, d.M, some ⟨g1, 0, none⟩, d.cN, d.cM, cap1⟩, rfl, rfl, rfl, ?_, ?_, ?_⟩
        · refine ⟨?_, ?_, ?_, ?_, D1.out.e0, D1.out.e1, D1.out.e2, ?_, by rw [List.length_set]; exact D1.out.k0, by rw [List.length_set]; exact D1.out.k1, by rw [List.length_set]; exact D1.out.k2⟩
          · rw [List.length_set]; exact (hX.block p D1.out.lt (fun e => hne e.symm)).trans D1.out.blk
          · rw [List.length_set, HM1.out]; exact D1.out.s0.ex hX (fun b hb => hlt0 b (.inl hb))
          · rw [List.length_set, HM2.out]; exact D1.out.s1.ex hX (fun b hb => hlt0 b (.inr hb))
          · rw [List.length_set]; exact hsl3
          · intro b hb
            have hs9 := hX.size
            rcases hb with hb | hb | hb
            · exact ⟨(D1.out.a0 b hb).1, Nat.lt_of_lt_of_le (D1.out.a0 b hb).2 hs9⟩
            · exact ⟨(D1.out.a1 b hb).1, Nat.lt_of_lt_of_le (D1.out.a1 b hb).2 hs9⟩
            · exact ⟨(D1.out.a2 b hb).1, Nat.lt_of_lt_of_le (D1.out.a2 b hb).2 hs9⟩
        · intro b hb
          rcases hb with hb | hb | hb
          · exact .inl (.inl hb)
          · exact .inl (.inr (.inl hb))
          · right
            have e : g1 = b := by simpa [Bl] using hb
            subst e
            exact Nat.le_trans HX.out.size HGT.out
        · have hw2 : w.heap.size ≤ g1 := Nat.le_trans HX.out.size HGT.out
          have hall : Ex0 w w2 := HX.out.trans0 HX2.out
          have h3 := (hall.trans (Ex.setCell w2 ⟨p, 2, none⟩ (.slice (some ⟨g1, 0, none⟩) l.length cap1)) (U := fun b => b = p) (fun _ _ h => h.elim) (fun _ _ h => h))
          exact h3.trans hX (fun _ _ h => h) (fun b hb h => by simp at h; omega)
end Go.Proofs.YtoglddndicmelaaGreat.Mo
namespace Go.Proofs.YtoglddndicmelaaGreat.Tr
open Go.RowKit Go.Proofs.YtoglddndicmelaaGreatB Go.Proofs.YtoglddndicmelaaGreat
set_option maxRecDepth 100000

theorem has_all {s : TS} {x : Mo.It} (hx : x ∈ s.tab) : s.all.contains x.num = s.has x.num := by
  rw [Bool.eq_iff_iff, List.contains_iff_mem]
  unfold TS.all
  simp only [List.mem_map, List.mem_filter]
  constructor
  · rintro ⟨y, ⟨hy, hc⟩, e⟩
    rw [← e]; exact hc
  · intro hc; exact ⟨x, ⟨hx, hc⟩, rfl⟩
/-- those of the first j that the document releases -/
def relK (s : TS) (j : Nat) : List Int := ((s.tab.take j).filter fun x => !s.has x.num).map (·.num)
theorem relK_snoc (s : TS) (j : Nat) (hj : j < s.tab.length) : relK s (j + 1) = relK s j ++ (if s.has s.tab[j].num then [] else [s.tab[j].num]) := by
  unfold relK
  rw [List.take_succ_eq_append_getElem hj, List.filter_append, List.map_append]
  cases h : s.has s.tab[j].num <;> simp [h]
theorem relK_end (s : TS) : relK s s.tab.length = relAs s := by unfold relK relAs; rw [List.take_length]
theorem outs_len (ns : List Int) (l : List Mo.It) : (outs ns l).length = l.length := by unfold outs; rw [List.length_map]
theorem outs_num (ns : List Int) (l : List Mo.It) (j : Nat) (hj : j < l.length) (hj' : j < (outs ns l).length) : (outs ns l)[j].num = l[j].num := by simp [outs]
theorem contains_take (l : List Int) (num : Int) (t : Nat) (h : t < l.length) : (l.take (t + 1)).contains num = ((l.take t).contains num || (l[t] == num)) := by
  rw [List.take_succ_eq_append_getElem h, Bool.eq_iff_iff, List.contains_iff_mem, List.mem_append, List.mem_singleton, Bool.or_eq_true, List.contains_iff_mem, beq_iff_eq]
  exact or_congr Iff.rfl eq_comm
/-- the state while the document releases -/
def relS (s : TS) (ns : List Int) : TS := { s with tab := outs ns s.tab }
def atD (D : RLstP) (d : Mo.DocV) : RLstP := { D with P := { D.P with d := d } }
theorem rrel_step {D : RLstP} {s : TS} {ns : List Int} {d : Mo.DocV} {num : Int} {w : World} (h : RLstAt w (atD D d) (relS s ns)) (hI : Inv s) (hn : num ∈ relAs s) :
    Calls Tryz.prog 131 #[.pointer (some ⟨D.P.pt, 0, none⟩), .int .u64 num] w fun e w' => ∃ k d', e = .returned (.int .i64 k) ∧ d'.N = d.N ∧ d'.cN = d.cN ∧ RLstAt w' (atD D d') (relS s (ns ++ [num])) ∧ Ex (· = D.P.pt) w w' ∧ ∀ b, Mo.Bld d' b → Mo.Bld d b ∨ w.heap.size ≤ b := by
  obtain ⟨hh, hl⟩ := relAs_mem hI hn
  refine (Mo.rrelN_any D.P.pt d (outs ns s.tab) num w h.law.tab (outs_ok hI.tab ns)).mono ?_
  rintro e w' ⟨d', rfl, n1, n2, hd, hb, hx⟩
  rw [relL_outs (outs_ok hI.tab ns) (outs_has hh) (outs_last hl), outs_outs] at hd
  exact ⟨_, d', rfl, n1, n2, h.table hd hx hb, hx, hb⟩
theorem relS_nil (s : TS) : relS s [] = s := by unfold relS; rw [outs_nil]
theorem relS_end {s : TS} (hI : Inv s) : relS s (relAs s) = s.rel := by
  have := rel_outs (relAs_ok hI)
  unfold relS; rw [this]; rfl
theorem relAs_in {s : TS} {x : Mo.It} (hx : x ∈ s.tab) (h : s.has x.num = false) : x.num ∈ relAs s := by
  unfold relAs
  exact List.mem_map.2 ⟨x, List.mem_filter.2 ⟨hx, by rw [h]; rfl⟩, rfl⟩
/-- what holds while the document releases -/
def RelD (D : RLstP) (s : TS) (w1 : World) (j : Nat) (wr : World) : Prop :=
  ∃ d, RLstAt wr (atD D d) (relS s (relK s j)) ∧ Ex (· = D.P.pt) w1 wr ∧ ∀ b, Mo.Bld d b → Mo.Bld D.P.d b ∨ w1.heap.size ≤ b
theorem RelD.start {D : RLstP} {s : TS} {w1 : World} (h : RLstAt w1 D s) : RelD D s w1 0 w1 := ⟨D.P.d, by rw [show relK s 0 = [] by unfold relK; rfl, relS_nil]; exact h, Ex.refl _ _, fun _ h => .inl h⟩
theorem RelD.keep {D : RLstP} {s : TS} {w1 wr w' : World} {j : Nat} (h : RelD D s w1 j wr) (hx : Ex0 wr w') (hj : j < s.tab.length) (hh : s.has s.tab[j].num = true) : RelD D s w1 (j + 1) w' := by
  obtain ⟨d, h1, h2, h3⟩ := h
  refine ⟨d, ?_, h2.trans hx (fun _ _ h => h) (fun _ _ h => h.elim), h3⟩
  rw [relK_snoc s j hj, hh]
  simp only [if_true, List.append_nil]
  exact h1.ex0 hx
theorem RelD.step {D : RLstP} {s : TS} {w1 wr wd : World} {j : Nat} (h : RelD D s w1 j wr) (hx : Ex0 wr wd) (hI : Inv s) (hj : j < s.tab.length) (hh : s.has s.tab[j].num = false) :
    Calls Tryz.prog 131 #[.pointer (some ⟨D.P.pt, 0, none⟩), .int .u64 s.tab[j].num] wd fun e w' => ∃ k, e = .returned (.int .i64 k) ∧ RelD D s w1 (j + 1) w' ∧ Ex (· = D.P.pt) wd w' ∧ ∀ u, wd.cell? ⟨D.P.pt, 0, none⟩ = some u → w'.cell? ⟨D.P.pt, 0, none⟩ = some u := by
  obtain ⟨d, h1, h2, h3⟩ := h
  have hx2 := h2.trans hx (fun _ _ h => h) (fun _ _ h => h.elim)
  refine (rrel_step (h1.ex0 hx) hI (relAs_in (List.getElem_mem hj) hh)).mono ?_
  rintro e w' ⟨k, d', rfl, n1, n2, h4, h5, h6⟩
  refine ⟨k, rfl, ⟨d', ?_, hx2.trans h5 (fun _ _ h => h) (fun _ _ h => h), fun b hb => ?_⟩, h5, fun u hu => ?_⟩
  · rw [relK_snoc s j hj, hh]; exact h4
  · rcases h6 b hb with h | h
    · exact h3 b h
    · exact .inr (Nat.le_trans hx2.size h)
  · have a1 : wd.cell? ⟨D.P.pt, 0, none⟩ = some (.slice d.N (outs (relK s j) s.tab).length d.cN) := (h1.ex0 hx).law.tab.cells.1
    have a2 : w'.cell? ⟨D.P.pt, 0, none⟩ = some (.slice d'.N (outs (relK s j ++ [s.tab[j].num]) s.tab).length d'.cN) := h4.law.tab.cells.1
    rw [outs_len] at a1 a2
    rw [a2, n1, n2, ← a1, hu]
theorem nw_atD {w : World} {D : RLstP} {d : Mo.DocV} (h : ∀ b, Mo.Bld d b → Mo.Bld D.P.d b ∨ w.heap.size ≤ b) : Nw w D.G (atD D d).G := fun b hb => by
  rcases hb with hb | hb | hb | hb | hb
  · exact .inl (.inl hb)
  · exact .inl (.inr (.inl hb))
  · exact (h b hb).imp (fun h => .inr (.inr (.inl h))) id
  · exact .inl (.inr (.inr (.inr (.inl hb))))
  · exact .inl (.inr (.inr (.inr (.inr hb))))
end Go.Proofs.YtoglddndicmelaaGreat.Tr
