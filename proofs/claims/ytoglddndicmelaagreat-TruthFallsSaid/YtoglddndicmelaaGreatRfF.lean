/- Contracts of layer 38: the document's Has. -/
import Derived.Test.YtoglddndicmelaaGreatRfE
namespace Go.Proofs.YtoglddndicmelaaGreat.Tr
open Go.RowKit Go.Proofs.YtoglddndicmelaaGreatB Go.Proofs.YtoglddndicmelaaGreat
set_option maxRecDepth 100000

/-- is a moment promised, by the document's branches -/
def hasD (rs : List Rul) (tab : List Mo.It) (hs : List Ho.Put) (bs : List Br) (num now : Int) : Bool :=
  Mo.has num tab && (!Mo.outB num tab && (Mo.lastN tab == num || (decide (now < tillI rs num tab) || (hs.any (fun p => Ho.isOver (Mo.minV num tab) now p && decide (num < p.num)) || bs.any (fun b => b.ba == num)))))
theorem hasD_P (rs : List Rul) (tab : List Mo.It) (hs : List Ho.Put) (fs : List Tw) (num now : Int) : hasD rs tab hs (brs fs) num now = hasP rs tab hs fs num now := rfl
theorem idx_at {l : List Mo.It} (hk : Mo.TabOk l) {k : Nat} (h : k < l.length) : Mo.has l[k].num l = true ∧ Mo.lo l[k].num l = k ∧ Mo.outB l[k].num l = l[k].out ∧ Mo.minV l[k].num l = l[k].min ∧ (Mo.lastN l == l[k].num) = decide (k + 1 = l.length) := by
  have h1 : Mo.has l[k].num l = true := has_mem.2 ⟨_, List.getElem_mem h, rfl⟩
  have h2 := Mo.lo_of_get hk.srt h
  refine ⟨h1, h2, outB_mem hk (List.getElem_mem h), by unfold Mo.minV; rw [if_pos h1, h2, Mo.gt_get h], ?_⟩
  unfold Mo.lastN
  rw [if_neg (by omega), Mo.gt_get (by omega)]
  rw [Bool.eq_iff_iff, beq_iff_eq, decide_eq_true_eq]
  constructor
  · intro e
    rcases Nat.lt_or_ge (k + 1) l.length with h3 | h3
    · have := (Mo.srt_get hk.srt h (by omega : l.length - 1 < l.length) (by omega)).1; omega
    · omega
  · intro e
    congr 2; omega
theorem foldl_max (xs : List Int) (j : Nat) (hj : j < xs.length) (s : Int) : (xs.take (j + 1)).foldl max s = max ((xs.take j).foldl max s) xs[j] := by
  rw [List.take_succ_eq_append_getElem hj, List.foldl_append]; rfl
set_option maxHeartbeats 8000000 in
theorem rhas_any (P : RLawP) (rs : List Rul) (tab : List Mo.It) (hs : List Ho.Put) (bs : List Br) (num now : Int) (w : World) (hL : RLawAt w P rs tab hs bs) (hK : Mo.TabOk tab) (hR : rs.length ≤ 16 ∧ ∀ r ∈ rs, rightB r = true) :
    Calls Tryz.prog 57 #[P.val rs.length hs.length, .int .u64 num, .int .i64 now] w fun e w' => e = .returned (.bool (hasD rs tab hs bs num now)) ∧ Ex0 w w' := by
  have hlen := hK.len
  have HL := Lib.hid hL
  have HKO := Lib.hid hK
  have HRR := Lib.hid hR
  obtain ⟨wa, hwa⟩ : ∃ wa, w.alloc (.cells #[.pointer (some ⟨P.pt, 0, none⟩), .slice P.R rs.length P.cR, .slice P.H hs.length P.cH, .pointer (some ⟨P.pf, 0, none⟩)] 46) = wa := ⟨_, rfl⟩
  have HB : Hid (wa.heap[w.heap.size]? = some (.cells #[.pointer (some ⟨P.pt, 0, none⟩), .slice P.R rs.length P.cR, .slice P.H hs.length P.cH, .pointer (some ⟨P.pf, 0, none⟩)] 46 (0, 0))) := by show _ = _; rw [← hwa]; exact heap_alloc_new _ _
  have HXA : Hid (Ex0 w wa) := by show Ex0 _ _; rw [← hwa]; exact Ex.alloc _ _
  have HWA := Lib.hid hwa
  have HC : Hid (∀ w', Ex0 wa w' → RowAt w' ⟨w.heap.size, 0, none⟩ [.pointer (some ⟨P.pt, 0, none⟩), .slice P.R rs.length P.cR, .slice P.H hs.length P.cH, .pointer (some ⟨P.pf, 0, none⟩)] ∧ w.heap.size < w'.heap.size) := fun w' hx => by
    have hb := (hx.block _ (Array.getElem?_eq_some_iff.1 HB.out).1 not_false).trans HB.out
    refine ⟨fun j u hu => ?_, (Array.getElem?_eq_some_iff.1 hb).1⟩
    rw [add_row, cell_of_row _ _ _ _ _ _ hb, Nat.zero_add]
    simpa using hu
  have HFI := Lib.hid (Mo.rfind_any P.pt P.d tab num wa (hL.ex0 HXA.out).tab hK)
  have c0 : wa.cell? ⟨w.heap.size, 0, none⟩ = some (.pointer (some ⟨P.pt, 0, none⟩)) := (HC.out wa (Ex.refl _ _)).1 0 _ rfl
  have hlb := (HC.out wa (Ex.refl _ _)).2
  clear hwa hL hK hR
  unfold RLawP.val
  by_cases hh : Mo.has num tab = true
  case neg =>
    have hh' : Mo.has num tab = false := by simpa using hh
    have HE : Hid (hasD rs tab hs bs num now = false) := by show _ = _; unfold hasD; rw [hh']; rfl
    have hi : Mo.idxI num tab = -1 := by unfold Mo.idxI; rw [if_neg hh]
    rw [hi] at HFI
    clear hh hh' hi
    go_enter Tryz.func57, Tryz.ntmps57
    iterate 5 go_step
    rw [HWA.out]
    go_wp2_with fail
    refine HFI.out.mono ?_
    rintro e w1 ⟨rfl, hx1⟩
    have HX1 := Lib.hid (HXA.out.trans0 hx1)
    clear hx1 c0 hlb
    go_wp2
    go_ret
    exact ⟨ret_bool HE.out.symm, HX1.out⟩
  obtain ⟨hk, hnk⟩ := Mo.has_get HKO.out.srt hh
  obtain ⟨k, hkk⟩ : ∃ k, Mo.lo num tab = k := ⟨_, rfl⟩
  have hi : Mo.idxI num tab = (k : Int) := by unfold Mo.idxI; rw [if_pos hh, hkk]
  rw [hi] at HFI
  subst hkk
  obtain ⟨k, hkk⟩ : ∃ k, Mo.lo num tab = k := ⟨_, rfl⟩
  rw [hkk] at hk HFI
  have hnk' : tab[k].num = num := by rw [← hnk]; congr 1; exact getElem_congr_idx hkk.symm
  have hfacts := idx_at HKO.out hk
  rw [hnk'] at hfacts
  obtain ⟨_, _, hout, hmin, hlast⟩ := hfacts
  have HENDS := Lib.hid (fun w1 (hx : Ex0 w w1) => rends_any P rs tab hs bs k w1 (HL.out.ex0 hx) HKO.out HRR.out hk)
  rw [hnk'] at HENDS
  obtain ⟨m, hm⟩ : ∃ m, tab[k].min = m := ⟨_, rfl⟩
  obtain ⟨o, ho⟩ : ∃ o, tab[k].out = o := ⟨_, rfl⟩
  rw [hm] at hmin HENDS
  rw [ho] at hout
  have HHD : Hid (hasD rs tab hs bs num now = (!o && (decide (k + 1 = tab.length) || (decide (now < (endsK rs rs.length num m tab).foldl max 0) || (hs.any (fun p => Ho.isOver m now p && decide (num < p.num)) || bs.any (fun b => b.ba == num)))))) := by
    show _ = _
    unfold hasD tillI endsL endsK
    rw [hh, hout, hlast, hmin, List.take_length, Bool.true_and]
  have HTAB : Hid (∀ w', Ex0 w w' → ∃ gO oO gM oM, w'.cell? ⟨P.pt, 2, none⟩ = some (.slice (some ⟨gO, oO, none⟩) tab.length P.d.cO) ∧ w'.cell? ⟨gO, oO + k, none⟩ = some (.bool o) ∧ gO < w'.heap.size ∧ w'.cell? ⟨P.pt, 1, none⟩ = some (.slice (some ⟨gM, oM, none⟩) tab.length P.d.cM) ∧ w'.cell? ⟨gM, oM + k, none⟩ = some (.int .i64 m) ∧ gM < w'.heap.size ∧ (∃ N, w'.cell? ⟨P.pt, 0, none⟩ = some (.slice N tab.length P.d.cN)) ∧ P.pt < w'.heap.size) := fun w' hx => by
    have hT := (HL.out.ex0 hx).tab
    obtain ⟨n0, n1, n2⟩ := hT.cells
    obtain ⟨gO, oO, hO, hgO, hcO⟩ := hT.sO.one hk
    obtain ⟨gM, oM, hM, hgM, hcM⟩ := hT.sM.one hk
    rw [ho] at hcO
    rw [hm] at hcM
    exact ⟨gO, oO, gM, oM, by rw [← hO]; exact n2, hcO, hgO, by rw [← hM]; exact n1, hcM, hgM, ⟨_, n0⟩, hT.lt⟩
  have hk0 : (0 : Int) ≤ (k : Int) := by omega
  have hk1 : (k : Int) < (tab.length : Int) := by omega
  clear hh hnk hi hkk hnk' hout hmin hlast hm ho
  go_enter Tryz.func57, Tryz.ntmps57
  iterate 5 go_step
  rw [HWA.out]
  go_wp2_with fail
  refine HFI.out.mono ?_
  rintro e w1 ⟨rfl, hx1⟩
  have HX1 := Lib.hid hx1
  have HXW := Lib.hid (HXA.out.trans0 hx1)
  obtain ⟨gO, oO, gM, oM, t2, tO, hgO, t1, tM, hgM, ⟨N, t0⟩, hlpt⟩ := HTAB.out w1 HXW.out
  clear c0 hlb
  have hC := HC.out w1 hx1
  have c0 : w1.cell? ⟨w.heap.size, 0, none⟩ = some (.pointer (some ⟨P.pt, 0, none⟩)) := hC.1 0 _ rfl
  have hlb := hC.2
  have HROW := Lib.hid hC.1
  clear hx1 hC
  cases o with
  | true =>
    have HE : Hid (hasD rs tab hs bs num now = false) := by show _ = _; rw [HHD.out]; rfl
    go_wp2
    go_ret
    exact ⟨ret_bool HE.out.symm, HXW.out⟩
  | false =>
    by_cases hlast : k + 1 = tab.length
    · have HE : Hid (hasD rs tab hs bs num now = true) := by show _ = _; rw [HHD.out, decide_eq_true hlast]; rfl
      have hle : ((k : Int) == (tab.length : Int) - 1) = true := by rw [beq_iff_eq]; omega
      clear hlast
      go_wp2
      go_ret
      exact ⟨ret_bool HE.out.symm, HXW.out⟩
    · have HE : Hid (hasD rs tab hs bs num now = (decide (now < (endsK rs rs.length num m tab).foldl max 0) || (hs.any (fun p => Ho.isOver m now p && decide (num < p.num)) || bs.any (fun b => b.ba == num)))) := by show _ = _; rw [HHD.out, decide_eq_false hlast]; rfl
      have hle : ((k : Int) == (tab.length : Int) - 1) = false := by rw [beq_eq_false_iff_ne]; omega
      clear hlast HHD
      go_wp2_with (refine wpList_load_at rfl 46 (.tmp 3) rfl _ rfl _ _ HROW.out Tryz.underlying46 rfl (by kernel_rfl) ?_)
      refine (HENDS.out w1 HXW.out).mono ?_
      rintro e w2 ⟨v2, rfl, ho2, hx2⟩
      obtain ⟨xs, hxs⟩ : ∃ xs, endsK rs rs.length num m tab = xs := ⟨_, rfl⟩
      rw [hxs] at ho2 HE
      have HXL : Hid (xs.length ≤ 16) := by have := endsK_len rs rs.length num m tab; rw [hxs] at this; have := HRR.out.1; show _ ≤ _; omega
      obtain ⟨A2, c2, rfl, hsl2, _⟩ := own_sl ho2
      have HSL2 := Lib.hid hsl2
      have HX2 := Lib.hid (HX1.out.trans0 hx2)
      clear hxs ho2 hsl2 hx2 t2 tO hgO t1 tM hgM t0 hlpt c0 hlb HENDS HFI hle HROW
      go_wp2_with fail
      have hxl := HXL.out
      go_loopw [8, 10] (fun t i wr => ∃ j : Nat, j ≤ xs.length ∧ i = .int .i64 j ∧ t = .int .i64 ((xs.take j).foldl max 0) ∧ wr = w2) (fun _ i _ => xs.length - (intOf i).toNat)
      case atStart => exact ⟨0, Nat.zero_le _, rfl, rfl, rfl⟩
      case round =>
        obtain ⟨j, hj, rfl, rfl, rfl⟩ := hrel
        have hj0 : (0 : Int) ≤ (j : Int) := by omega
        by_cases hjl : j < xs.length
        · obtain ⟨g2, o2, hA2, hg2, hcx⟩ := HSL2.out.one hjl
          subst hA2
          have hj1 : (j : Int) < (xs.length : Int) := by omega
          have HFM := Lib.hid (foldl_max xs j hjl 0)
          obtain ⟨x, hx⟩ : ∃ x, xs[j] = x := ⟨_, rfl⟩
          rw [hx] at hcx HFM
          generalize (xs.take j).foldl max 0 = cur at HFM ⊢
          clear hx
          by_cases hgt : cur < x
          · have HFM' : Hid ((xs.take (j + 1)).foldl max 0 = x) := by show _ = _; rw [HFM.out, Int.max_def, if_pos (by omega)]
            go_wp2_with fail
            go_roundw
            case rel => exact ⟨j + 1, by omega, by go_num, by rw [HFM'.out], trivial⟩
            case measure => simp [intOf]; omega
          · have HFM' : Hid ((xs.take (j + 1)).foldl max 0 = cur) := by
              show _ = _
              rw [HFM.out, Int.max_def]
              split <;> omega
            go_wp2_with fail
            go_roundw
            case rel => exact ⟨j + 1, by omega, by go_num, by rw [HFM'.out], trivial⟩
            case measure => simp [intOf]; omega
        · have hjn : j = xs.length := by omega
          subst hjn
          rw [List.take_length]
          obtain ⟨till, htill⟩ : ∃ till, xs.foldl max 0 = till := ⟨_, rfl⟩
          rw [htill] at HE ⊢
          clear htill
          by_cases hnow : now < till
          · have HE' : Hid (hasD rs tab hs bs num now = true) := by show _ = _; rw [HE.out, decide_eq_true hnow]; rfl
            go_wp2
            go_ret
            exact ⟨ret_bool HE'.out.symm, HXA.out.trans0 HX2.out⟩
          · have HE' : Hid (hasD rs tab hs bs num now = (hs.any (fun p => Ho.isOver m now p && decide (num < p.num)) || bs.any (fun b => b.ba == num))) := by show _ = _; rw [HE.out, decide_eq_false hnow]; rfl
            clear HE
            have hhs := HL.out.hol.small
            go_wp2_with fail
            rename World => w3
            go_loopw [11] (fun i wr => ∃ j : Nat, j ≤ hs.length ∧ i = .int .i64 j ∧ Ex0 w3 wr ∧ ∀ t (ht : t < hs.length), t < j → (Ho.isOver m now hs[t] && decide (num < hs[t].num)) = false) (fun i _ => hs.length - (intOf i).toNat)
            case atStart => exact ⟨0, Nat.zero_le _, rfl, Ex.refl _ _, fun t _ h => by omega⟩
            case round =>
              obtain ⟨j, hj, rfl, hxj, hno⟩ := hrel
              have HXJ := Lib.hid (HX2.out.trans0 hxj)
              have HX3J := Lib.hid hxj
              have HNO := Lib.hid hno
              have hC := HC.out wr HXJ.out
              have c2 : wr.cell? ⟨w.heap.size, 2, none⟩ = some (.slice P.H hs.length P.cH) := by have := hC.1 2 _ rfl; rwa [add_row] at this
              have hlb := hC.2
              have hj0 : (0 : Int) ≤ (j : Int) := by omega
              by_cases hjl : j < hs.length
              · obtain ⟨gh, oh, _, hHA, hrow⟩ := (HL.out.ex0 (HXA.out.trans0 HXJ.out)).hol.row Ho.Put.len (by omega) hjl
                have hj1 : (j : Int) < (hs.length : Int) := by omega
                obtain ⟨pp, hpp⟩ : ∃ pp, hs[j] = pp := ⟨_, rfl⟩
                rw [hpp] at hrow
                have HPP := Lib.hid hpp
                have hlg : gh < wr.heap.size := World.block_lt_of_cell? _ _ (hrow 0 _ rfl)
                rw [hHA] at c2
                have HHA := Lib.hid hHA
                have HROWP := Lib.hid hrow
                obtain ⟨gO, oO, gM, oM, _, _, _, t1, tM, hgM, _, hlpt⟩ := HTAB.out wr (HXA.out.trans0 HXJ.out)
                have c0 : wr.cell? ⟨w.heap.size, 0, none⟩ = some (.pointer (some ⟨P.pt, 0, none⟩)) := hC.1 0 _ rfl
                have hr4 : wr.cell? ⟨gh, oh + j * 6 + 4, none⟩ = some (.int .u64 pp.num) := by have := hrow 4 _ rfl; rwa [add_row] at this
                have HRI := Lib.hid (fun w' => Ho.ris_any pp m now w')
                clear hxj hno hC hpp hrow hHA
                go_wp2_with fail
                have hS : (fun w' : World => w'.cell? ⟨w.heap.size, 2, none⟩ = some (.slice (some ⟨gh, oh, none⟩) hs.length P.cH) ∧ w'.cell? ⟨gh, oh + j * 6 + 4, none⟩ = some (.int .u64 pp.num) ∧ w'.cell? ⟨w.heap.size, 0, none⟩ = some (.pointer (some ⟨P.pt, 0, none⟩)) ∧ w'.cell? ⟨P.pt, 1, none⟩ = some (.slice (some ⟨gM, oM, none⟩) tab.length P.d.cM) ∧ w'.cell? ⟨gM, oM + k, none⟩ = some (.int .i64 m) ∧ RowAt w' ⟨gh, oh + j * 6, none⟩ pp.cells ∧ P.pt < w'.heap.size) wr.drew := ⟨c2, hr4, c0, t1, tM, HROWP.out, hlpt⟩
                have HXD : Hid (Ex0 wr wr.drew) := Ex.drew wr
                have KEEP : Hid (∀ w4, Ex0 wr w4 → (w4.cell? ⟨w.heap.size, 2, none⟩ = some (.slice (some ⟨gh, oh, none⟩) hs.length P.cH) ∧ w4.cell? ⟨gh, oh + j * 6 + 4, none⟩ = some (.int .u64 pp.num) ∧ w4.cell? ⟨w.heap.size, 0, none⟩ = some (.pointer (some ⟨P.pt, 0, none⟩)) ∧ w4.cell? ⟨P.pt, 1, none⟩ = some (.slice (some ⟨gM, oM, none⟩) tab.length P.d.cM) ∧ w4.cell? ⟨gM, oM + k, none⟩ = some (.int .i64 m) ∧ RowAt w4 ⟨gh, oh + j * 6, none⟩ pp.cells ∧ P.pt < w4.heap.size)) := fun w4 hx => ⟨hx.cellS c2 not_false, hx.cellS hr4 not_false, hx.cellS c0 not_false, hx.cellS t1 not_false, hx.cellS tM not_false, HROWP.out.ex hx not_false, Nat.lt_of_lt_of_le hlpt hx.size⟩
                refine wp_region_takes (fun w' : World => w'.cell? ⟨w.heap.size, 2, none⟩ = some (.slice (some ⟨gh, oh, none⟩) hs.length P.cH) ∧ w'.cell? ⟨gh, oh + j * 6 + 4, none⟩ = some (.int .u64 pp.num) ∧ w'.cell? ⟨w.heap.size, 0, none⟩ = some (.pointer (some ⟨P.pt, 0, none⟩)) ∧ w'.cell? ⟨P.pt, 1, none⟩ = some (.slice (some ⟨gM, oM, none⟩) tab.length P.d.cM) ∧ w'.cell? ⟨gM, oM + k, none⟩ = some (.int .i64 m) ∧ RowAt w' ⟨gh, oh + j * 6, none⟩ pp.cells ∧ P.pt < w'.heap.size) (by kernel_rfl) ?_
                simp only [List.length_cons, List.length_nil]
                generalize wr.drew = wd at *
                clear c0 c2 t1 tM hr4 hgM
                cases hlt : decide (num < pp.num) with
                | false =>
                  have HLT := Lib.hid hlt
                  refine' wpAnyH_do 0 rfl (by kernel_rfl) (fun _ _ _ _ h => h) (by rfl) (by assumption) ⟨_, fun w' hS => ?_, ?_⟩
                  rotate_left
                  · ((try dsimp only at hS); go_split_ands; go_simp; try (with_reducible rfl))
                  simp only [Act.put, List.setIfInBounds_toArray, List.set_cons_zero, List.set_cons_succ]
                  refine' wpAnyH_do 1 rfl (by kernel_rfl) (fun _ _ _ _ h => h) (by rfl) (by assumption) ⟨_, fun w' hS => ?_, ?_⟩
                  rotate_left
                  · ((try dsimp only at hS); go_split_ands; go_simp; try (with_reducible rfl))
                  simp only [Act.put, List.setIfInBounds_toArray, List.set_cons_zero, List.set_cons_succ]
                  refine' wpAnyH_do 2 rfl (by kernel_rfl) (fun _ _ _ _ h => h) (by rfl) (by assumption) ⟨_, fun w' hS => ?_, ?_⟩
                  rotate_left
                  · ((try dsimp only at hS); go_split_ands; go_simp; try (with_reducible rfl))
                  simp only [Act.put, List.setIfInBounds_toArray, List.set_cons_zero, List.set_cons_succ]
                  refine' wpAnyH_do 3 rfl (by kernel_rfl) (fun _ _ _ _ h => h) (by rfl) (by assumption) ⟨_, fun w' hS => ?_, ?_⟩
                  rotate_left
                  · ((try dsimp only at hS); go_split_ands; go_simp; try (with_reducible rfl))
                  simp only [Act.put, List.setIfInBounds_toArray, List.set_cons_zero, List.set_cons_succ]
                  refine' wpAnyH_do 4 rfl (by kernel_rfl) (fun _ _ _ _ h => h) (by rfl) (by assumption) ⟨_, fun w' hS => ?_, ?_⟩
                  rotate_left
                  · ((try dsimp only at hS); go_split_ands; go_simp; try (with_reducible rfl))
                  simp only [Act.put, List.setIfInBounds_toArray, List.set_cons_zero, List.set_cons_succ]
                  refine' wpAnyH_do 5 rfl (by kernel_rfl) (fun _ _ _ _ h => h) (by rfl) (by assumption) ⟨_, fun w' hS => ?_, ?_⟩
                  rotate_left
                  · ((try dsimp only at hS); go_split_ands; go_simp; try (with_reducible rfl))
                  simp only [Act.put, List.setIfInBounds_toArray, List.set_cons_zero, List.set_cons_succ]
                  refine' wpAnyH_do 6 rfl (by kernel_rfl) (fun _ _ _ _ h => h) (by rfl) (by assumption) ⟨_, fun w' hS => ?_, ?_⟩
                  rotate_left
                  · ((try dsimp only at hS); go_split_ands; go_simp; try (with_reducible rfl))
                  simp only [Act.put, List.setIfInBounds_toArray, List.set_cons_zero, List.set_cons_succ]
                  refine' wpAnyH_do 7 rfl (by kernel_rfl) (fun _ _ _ _ h => h) (by rfl) (by assumption) ⟨_, fun w' hS => ?_, ?_⟩
                  rotate_left
                  · ((try dsimp only at hS); go_split_ands; go_simp; try (with_reducible rfl))
                  simp only [Act.put, List.setIfInBounds_toArray, List.set_cons_zero, List.set_cons_succ]
                  refine' wpAnyH_do 8 rfl (by kernel_rfl) (fun _ _ _ _ h => h) (by rfl) (by assumption) ⟨_, fun w' hS => ?_, ?_⟩
                  rotate_left
                  · ((try dsimp only at hS); go_split_ands; go_simp; try (with_reducible rfl))
                  simp only [Act.put, List.setIfInBounds_toArray, List.set_cons_zero, List.set_cons_succ]
                  refine wpAnyH_pass 9 rfl (by kernel_rfl) (fun _ _ _ _ h => h) (by rfl) (by assumption) ?_
                  simp only [Act.put, List.setIfInBounds_toArray, List.set_cons_zero, List.set_cons_succ]
                  refine wpAnyH_pass 10 rfl (by kernel_rfl) (fun _ _ _ _ h => h) (by rfl) (by assumption) ?_
                  simp only [Act.put, List.setIfInBounds_toArray, List.set_cons_zero, List.set_cons_succ]
                  refine wpAnyH_pass 11 rfl (by kernel_rfl) (fun _ _ _ _ h => h) (by rfl) (by assumption) ?_
                  simp only [Act.put, List.setIfInBounds_toArray, List.set_cons_zero, List.set_cons_succ]
                  refine wpAnyH_pass 12 rfl (by kernel_rfl) (fun _ _ _ _ h => h) (by rfl) (by assumption) ?_
                  simp only [Act.put, List.setIfInBounds_toArray, List.set_cons_zero, List.set_cons_succ]
                  refine wpAnyH_pass 13 rfl (by kernel_rfl) (fun _ _ _ _ h => h) (by rfl) (by assumption) ?_
                  simp only [Act.put, List.setIfInBounds_toArray, List.set_cons_zero, List.set_cons_succ]
                  refine wpAnyH_pass 14 rfl (by kernel_rfl) (fun _ _ _ _ h => h) (by rfl) (by assumption) ?_
                  simp only [Act.put, List.setIfInBounds_toArray, List.set_cons_zero, List.set_cons_succ]
                  refine wpAnyH_pass 15 rfl (by kernel_rfl) (fun _ _ _ _ h => h) (by rfl) (by assumption) ?_
                  simp only [Act.put, List.setIfInBounds_toArray, List.set_cons_zero, List.set_cons_succ]
                  refine wpAnyH_pass 16 rfl (by kernel_rfl) (fun _ _ _ _ h => h) (by rfl) (by assumption) ?_
                  simp only [Act.put, List.setIfInBounds_toArray, List.set_cons_zero, List.set_cons_succ]
                  refine wpAnyH_pass 17 rfl (by kernel_rfl) (fun _ _ _ _ h => h) (by rfl) (by assumption) ?_
                  simp only [Act.put, List.setIfInBounds_toArray, List.set_cons_zero, List.set_cons_succ]
                  refine wpAnyH_pass 18 rfl (by kernel_rfl) (fun _ _ _ _ h => h) (by rfl) (by assumption) ?_
                  simp only [Act.put, List.setIfInBounds_toArray, List.set_cons_zero, List.set_cons_succ]
                  refine wpAnyH_pass 19 rfl (by kernel_rfl) (fun _ _ _ _ h => h) (by rfl) (by assumption) ?_
                  simp only [Act.put, List.setIfInBounds_toArray, List.set_cons_zero, List.set_cons_succ]
                  refine wpAnyH_pass 20 rfl (by kernel_rfl) (fun _ _ _ _ h => h) (by rfl) (by assumption) ?_
                  simp only [Act.put, List.setIfInBounds_toArray, List.set_cons_zero, List.set_cons_succ]
                  refine wpAnyH_pass 21 rfl (by kernel_rfl) (fun _ _ _ _ h => h) (by rfl) (by assumption) ?_
                  simp only [Act.put, List.setIfInBounds_toArray, List.set_cons_zero, List.set_cons_succ]
                  refine wpAnyH_pass 22 rfl (by kernel_rfl) (fun _ _ _ _ h => h) (by rfl) (by assumption) ?_
                  simp only [Act.put, List.setIfInBounds_toArray, List.set_cons_zero, List.set_cons_succ]
                  refine wpAnyH_pass 23 rfl (by kernel_rfl) (fun _ _ _ _ h => h) (by rfl) (by assumption) ?_
                  simp only [Act.put, List.setIfInBounds_toArray, List.set_cons_zero, List.set_cons_succ]
                  refine' wpAnyH_do 24 rfl (by kernel_rfl) (fun _ _ _ _ h => h) (by rfl) (by assumption) ⟨_, fun w' hS => ?_, ?_⟩
                  rotate_left
                  · ((try dsimp only at hS); go_split_ands; go_simp; try (with_reducible rfl))
                  simp only [Act.put, List.setIfInBounds_toArray, List.set_cons_zero, List.set_cons_succ]
                  refine wpAnyH_done (by kernel_rfl) ?_ _
                  clear hS hlt hlb hlg hlpt
                  go_wp2_with fail
                  go_roundw
                  case rel =>
                    refine ⟨j + 1, by omega, by go_num, HX3J.out.trans0 HXD.out, fun t ht htj => ?_⟩
                    by_cases e : t = j
                    · subst e
                      have h8 := HPP.out
                      rw [h8, HLT.out, Bool.and_false]
                    · exact HNO.out t ht (by omega)
                  case measure => simp [intOf]; omega
                | true =>
                  have HLT := Lib.hid hlt
                  refine' wpAnyH_do 0 rfl (by kernel_rfl) (fun _ _ _ _ h => h) (by rfl) (by assumption) ⟨_, fun w' hS => ?_, ?_⟩
                  rotate_left
                  · ((try dsimp only at hS); go_split_ands; go_simp; try (with_reducible rfl))
                  simp only [Act.put, List.setIfInBounds_toArray, List.set_cons_zero, List.set_cons_succ]
                  refine' wpAnyH_do 1 rfl (by kernel_rfl) (fun _ _ _ _ h => h) (by rfl) (by assumption) ⟨_, fun w' hS => ?_, ?_⟩
                  rotate_left
                  · ((try dsimp only at hS); go_split_ands; go_simp; try (with_reducible rfl))
                  simp only [Act.put, List.setIfInBounds_toArray, List.set_cons_zero, List.set_cons_succ]
                  refine' wpAnyH_do 2 rfl (by kernel_rfl) (fun _ _ _ _ h => h) (by rfl) (by assumption) ⟨_, fun w' hS => ?_, ?_⟩
                  rotate_left
                  · ((try dsimp only at hS); go_split_ands; go_simp; try (with_reducible rfl))
                  simp only [Act.put, List.setIfInBounds_toArray, List.set_cons_zero, List.set_cons_succ]
                  refine' wpAnyH_do 3 rfl (by kernel_rfl) (fun _ _ _ _ h => h) (by rfl) (by assumption) ⟨_, fun w' hS => ?_, ?_⟩
                  rotate_left
                  · ((try dsimp only at hS); go_split_ands; go_simp; try (with_reducible rfl))
                  simp only [Act.put, List.setIfInBounds_toArray, List.set_cons_zero, List.set_cons_succ]
                  refine' wpAnyH_do 4 rfl (by kernel_rfl) (fun _ _ _ _ h => h) (by rfl) (by assumption) ⟨_, fun w' hS => ?_, ?_⟩
                  rotate_left
                  · ((try dsimp only at hS); go_split_ands; go_simp; try (with_reducible rfl))
                  simp only [Act.put, List.setIfInBounds_toArray, List.set_cons_zero, List.set_cons_succ]
                  refine' wpAnyH_do 5 rfl (by kernel_rfl) (fun _ _ _ _ h => h) (by rfl) (by assumption) ⟨_, fun w' hS => ?_, ?_⟩
                  rotate_left
                  · ((try dsimp only at hS); go_split_ands; go_simp; try (with_reducible rfl))
                  simp only [Act.put, List.setIfInBounds_toArray, List.set_cons_zero, List.set_cons_succ]
                  refine' wpAnyH_do 6 rfl (by kernel_rfl) (fun _ _ _ _ h => h) (by rfl) (by assumption) ⟨_, fun w' hS => ?_, ?_⟩
                  rotate_left
                  · ((try dsimp only at hS); go_split_ands; go_simp; try (with_reducible rfl))
                  simp only [Act.put, List.setIfInBounds_toArray, List.set_cons_zero, List.set_cons_succ]
                  refine' wpAnyH_do 7 rfl (by kernel_rfl) (fun _ _ _ _ h => h) (by rfl) (by assumption) ⟨_, fun w' hS => ?_, ?_⟩
                  rotate_left
                  · ((try dsimp only at hS); go_split_ands; go_simp; try (with_reducible rfl))
                  simp only [Act.put, List.setIfInBounds_toArray, List.set_cons_zero, List.set_cons_succ]
                  refine' wpAnyH_do 8 rfl (by kernel_rfl) (fun _ _ _ _ h => h) (by rfl) (by assumption) ⟨_, fun w' hS => ?_, ?_⟩
                  rotate_left
                  · ((try dsimp only at hS); go_split_ands; go_simp; try (with_reducible rfl))
                  simp only [Act.put, List.setIfInBounds_toArray, List.set_cons_zero, List.set_cons_succ]
                  refine' wpAnyH_do 9 rfl (by kernel_rfl) (fun _ _ _ _ h => h) (by rfl) (by assumption) ⟨_, fun w' hS => ?_, ?_⟩
                  rotate_left
                  · ((try dsimp only at hS); go_split_ands; go_simp; try (with_reducible rfl))
                  simp only [Act.put, List.setIfInBounds_toArray, List.set_cons_zero, List.set_cons_succ]
                  refine' wpAnyH_do 10 rfl (by kernel_rfl) (fun _ _ _ _ h => h) (by rfl) (by assumption) ⟨_, fun w' hS => ?_, ?_⟩
                  rotate_left
                  · ((try dsimp only at hS); go_split_ands; go_simp; try (with_reducible rfl))
                  simp only [Act.put, List.setIfInBounds_toArray, List.set_cons_zero, List.set_cons_succ]
                  refine' wpAnyH_do 11 rfl (by kernel_rfl) (fun _ _ _ _ h => h) (by rfl) (by assumption) ⟨_, fun w' hS => ?_, ?_⟩
                  rotate_left
                  · ((try dsimp only at hS); go_split_ands; go_simp; try (with_reducible rfl))
                  simp only [Act.put, List.setIfInBounds_toArray, List.set_cons_zero, List.set_cons_succ]
                  refine' wpAnyH_do 12 rfl (by kernel_rfl) (fun _ _ _ _ h => h) (by rfl) (by assumption) ⟨_, fun w' hS => ?_, ?_⟩
                  rotate_left
                  · ((try dsimp only at hS); go_split_ands; go_simp; try (with_reducible rfl))
                  simp only [Act.put, List.setIfInBounds_toArray, List.set_cons_zero, List.set_cons_succ]
                  refine' wpAnyH_do 13 rfl (by kernel_rfl) (fun _ _ _ _ h => h) (by rfl) (by assumption) ⟨_, fun w' hS => exec_load_at 192 (.tmp 80) rfl ⟨gh, oh + j * 6, none⟩ rfl _ _ hS.2.2.2.2.2.1 Tryz.underlying192 rfl (by kernel_rfl), ?_⟩
                  simp only [Act.put, List.setIfInBounds_toArray, List.set_cons_zero, List.set_cons_succ]
                  refine' wpAnyH_do 14 rfl (by kernel_rfl) (fun _ _ _ _ h => h) (by rfl) (by assumption) ⟨_, fun w' hS => ?_, ?_⟩
                  rotate_left
                  · ((try dsimp only at hS); go_split_ands; go_simp; try (with_reducible rfl))
                  simp only [Act.put, List.setIfInBounds_toArray, List.set_cons_zero, List.set_cons_succ]
                  refine' wpAnyH_do 15 rfl (by kernel_rfl) (fun _ _ _ _ h => h) (by rfl) (by assumption) ⟨_, fun w' hS => ?_, ?_⟩
                  rotate_left
                  · ((try dsimp only at hS); go_split_ands; go_simp; try (with_reducible rfl))
                  simp only [Act.put, List.setIfInBounds_toArray, List.set_cons_zero, List.set_cons_succ]
                  refine' wpAnyH_do 16 rfl (by kernel_rfl) (fun _ _ _ _ h => h) (by rfl) (by assumption) ⟨_, fun w' hS => ?_, ?_⟩
                  rotate_left
                  · ((try dsimp only at hS); go_split_ands; go_simp; try (with_reducible rfl))
                  simp only [Act.put, List.setIfInBounds_toArray, List.set_cons_zero, List.set_cons_succ]
                  refine' wpAnyH_do 17 rfl (by kernel_rfl) (fun _ _ _ _ h => h) (by rfl) (by assumption) ⟨_, fun w' hS => ?_, ?_⟩
                  rotate_left
                  · ((try dsimp only at hS); go_split_ands; go_simp; try (with_reducible rfl))
                  simp only [Act.put, List.setIfInBounds_toArray, List.set_cons_zero, List.set_cons_succ]
                  refine' wpAnyH_do 18 rfl (by kernel_rfl) (fun _ _ _ _ h => h) (by rfl) (by assumption) ⟨_, fun w' hS => ?_, ?_⟩
                  rotate_left
                  · ((try dsimp only at hS); go_split_ands; go_simp; try (with_reducible rfl))
                  simp only [Act.put, List.setIfInBounds_toArray, List.set_cons_zero, List.set_cons_succ]
                  refine' wpAnyH_do 19 rfl (by kernel_rfl) (fun _ _ _ _ h => h) (by rfl) (by assumption) ⟨_, fun w' hS => ?_, ?_⟩
                  rotate_left
                  · ((try dsimp only at hS); go_split_ands; go_simp; try (with_reducible rfl))
                  simp only [Act.put, List.setIfInBounds_toArray, List.set_cons_zero, List.set_cons_succ]
                  refine' wpAnyH_do 20 rfl (by kernel_rfl) (fun _ _ _ _ h => h) (by rfl) (by assumption) ⟨_, fun w' hS => ?_, ?_⟩
                  rotate_left
                  · ((try dsimp only at hS); go_split_ands; go_simp; try (with_reducible rfl))
                  simp only [Act.put, List.setIfInBounds_toArray, List.set_cons_zero, List.set_cons_succ]
                  refine' wpAnyH_do 21 rfl (by kernel_rfl) (fun _ _ _ _ h => h) (by rfl) (by assumption) ⟨_, fun w' hS => ?_, ?_⟩
                  rotate_left
                  · ((try dsimp only at hS); go_split_ands; go_simp; try (with_reducible rfl))
                  simp only [Act.put, List.setIfInBounds_toArray, List.set_cons_zero, List.set_cons_succ]
                  refine' wpAnyH_do 22 rfl (by kernel_rfl) (fun _ _ _ _ h => h) (by rfl) (by assumption) ⟨_, fun w' hS => ?_, ?_⟩
                  rotate_left
                  · ((try dsimp only at hS); go_split_ands; go_simp; try (with_reducible rfl))
                  simp only [Act.put, List.setIfInBounds_toArray, List.set_cons_zero, List.set_cons_succ]
                  refine wpAnyH_eff 23 rfl (by kernel_rfl) (by rfl) (fun K hK => ?_)
                  have HKK := Lib.hid hK
                  clear hK
                  go_simp
                  refine (HRI.out wd).mono ?_
                  rintro e w4 ⟨rfl, hx4⟩
                  have hS4 := KEEP.out w4 (HXD.out.trans0 hx4)
                  have HX4 := Lib.hid (HX3J.out.trans0 (HXD.out.trans0 hx4))
                  clear hS hx4 hlt
                  dsimp only
                  refine HKK.out _ _ hS4 ?_
                  clear HKK K
                  (try simp only [Act.put, List.setIfInBounds_toArray, List.set_cons_zero, List.set_cons_succ])
                  have hS := hS4
                  clear hS4
                  refine' wpAnyH_do 24 rfl (by kernel_rfl) (fun _ _ _ _ h => h) (by rfl) (by assumption) ⟨_, fun w' hS => ?_, ?_⟩
                  rotate_left
                  · ((try dsimp only at hS); go_split_ands; go_simp; try (with_reducible rfl))
                  simp only [Act.put, List.setIfInBounds_toArray, List.set_cons_zero, List.set_cons_succ]
                  refine wpAnyH_done (by kernel_rfl) ?_ _
                  clear hS hlb hlg hlpt
                  cases hov : Ho.isOver m now pp with
                  | false =>
                    have HOV := Lib.hid hov
                    clear hov
                    go_wp2_with fail
                    go_roundw
                    case rel =>
                      refine ⟨j + 1, by omega, by go_num, HX4.out, fun t ht htj => ?_⟩
                      by_cases e : t = j
                      · subst e
                        have h8 := HPP.out
                        rw [h8, HOV.out]; rfl
                      · exact HNO.out t ht (by omega)
                    case measure => simp [intOf]; omega
                  | true =>
                    have HEV : Hid (hasD rs tab hs bs num now = true) := by
                      show _ = _
                      have : hs.any (fun p => Ho.isOver m now p && decide (num < p.num)) = true := by
                        rw [List.any_eq_true]
                        exact ⟨hs[j], List.getElem_mem hjl, by have h8 := HPP.out; rw [h8, hov, HLT.out]; rfl⟩
                      rw [HE'.out, this]; rfl
                    clear hov
                    go_wp2
                    go_ret
                    exact ⟨ret_bool HEV.out.symm, HXA.out.trans0 (HX2.out.trans0 HX4.out)⟩
              · have HEB : Hid (hasD rs tab hs bs num now = bs.any (fun b => b.ba == num)) := by
                  show _ = _
                  have : hs.any (fun p => Ho.isOver m now p && decide (num < p.num)) = false := by
                    rw [List.any_eq_false]
                    intro p hp
                    obtain ⟨t, ht, rfl⟩ := List.getElem_of_mem hp
                    rw [HNO.out t ht (by omega)]; simp
                  rw [HE'.out, this]; rfl
                have c3 : wr.cell? ⟨w.heap.size, 3, none⟩ = some (.pointer (some ⟨P.pf, 0, none⟩)) := by have := hC.1 3 _ rfl; rwa [add_row] at this
                have hj1 : ¬ (j : Int) < (hs.length : Int) := by omega
                clear hC hxj hno HE'
                go_wp2_with fail
                refine (rfbases_any P.pf P.A P.cA bs wr (HL.out.ex0 (HXA.out.trans0 HXJ.out)).fs).mono ?_
                rintro e w4 ⟨v4, rfl, ys, ho4, hm4, hyl, hx4⟩
                obtain ⟨A4, c4, rfl, hsl4, _⟩ := own_sl ho4
                have HSL4 := Lib.hid hsl4
                have HM4 := Lib.hid hm4
                have HX4 := Lib.hid (HXJ.out.trans0 hx4)
                have hy16 : ys.length ≤ 16 := Nat.le_trans hyl HL.out.fs.len
                rw [List.take_length] at HM4
                clear ho4 hsl4 hm4 hx4 c2 c3 hlb hyl
                go_wp2_with fail
                go_loopw [13] (fun i wr => ∃ t : Nat, t ≤ ys.length ∧ i = .int .i64 t ∧ wr = w4 ∧ ∀ q (hq : q < ys.length), q < t → ys[q] ≠ num) (fun i _ => ys.length - (intOf i).toNat)
                case atStart => exact ⟨0, Nat.zero_le _, rfl, rfl, fun q _ h => by omega⟩
                case round =>
                  obtain ⟨t, ht, rfl, rfl, hnq⟩ := hrel
                  have HNQ := Lib.hid hnq
                  clear hnq
                  have ht0 : (0 : Int) ≤ (t : Int) := by omega
                  by_cases htl : t < ys.length
                  · obtain ⟨g5, o5, hA5, hg5, hcy⟩ := HSL4.out.one htl
                    subst hA5
                    have ht1 : (t : Int) < (ys.length : Int) := by omega
                    obtain ⟨y, hy⟩ : ∃ y, ys[t] = y := ⟨_, rfl⟩
                    rw [hy] at hcy
                    have HY := Lib.hid hy
                    clear hy
                    by_cases hyn : y = num
                    · have HEV : Hid (hasD rs tab hs bs num now = true) := by
                        show _ = _
                        rw [HEB.out, List.any_eq_true]
                        obtain ⟨b, hb, e⟩ := (HM4.out num).1 (by rw [← hyn, ← HY.out]; exact List.getElem_mem htl)
                        exact ⟨b, hb, by simpa using e⟩
                      have hyb : (y == num) = true := by simpa using hyn
                      go_wp2_with fail
                      go_ret
                      exact ⟨ret_bool HEV.out.symm, HXA.out.trans0 HX4.out⟩
                    · have hyb : (y == num) = false := by simpa using hyn
                      have HYN := Lib.hid hyn
                      go_wp2_with fail
                      go_roundw
                      case rel =>
                        refine ⟨t + 1, by omega, by go_num, trivial, fun q hq hqt => ?_⟩
                        by_cases e : q = t
                        · subst e; have h8 := HY.out; rw [h8]; exact HYN.out
                        · exact HNQ.out q hq (by omega)
                      case measure => simp [intOf]; omega
                  · have HEV : Hid (hasD rs tab hs bs num now = false) := by
                      show _ = _
                      rw [HEB.out, List.any_eq_false]
                      intro b hb
                      simp only [beq_iff_eq]
                      intro e
                      have hin := (HM4.out num).2 ⟨b, hb, e⟩
                      obtain ⟨q, hq, e2⟩ := List.getElem_of_mem hin
                      exact HNQ.out q hq (by omega) e2
                    have ht1 : ¬ (t : Int) < (ys.length : Int) := by omega
                    go_wp2_with fail
                    go_ret
                    exact ⟨ret_bool HEV.out.symm, HXA.out.trans0 HX4.out⟩
end Go.Proofs.YtoglddndicmelaaGreat.Tr
