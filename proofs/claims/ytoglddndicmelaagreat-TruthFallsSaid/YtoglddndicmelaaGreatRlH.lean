/- Layer 54: the document's Hold: the walk. -/
import Derived.Test.YtoglddndicmelaaGreatRlG
namespace Go.Proofs.YtoglddndicmelaaGreat.Tr
open Go.RowKit Go.Proofs.YtoglddndicmelaaGreatB Go.Proofs.YtoglddndicmelaaGreat
set_option maxRecDepth 100000

set_option maxHeartbeats 8000000 in
theorem rhold54_any (D : RLstP) (s : TS) (a b c : Int) (w : World) (h : RLstAt w D s) (hI : Inv s) :
    Calls Tryz.prog 88 #[.pointer (some ⟨D.p, 0, none⟩), .int .i64 a, .int .i64 b, .int .i64 c] w fun e w' => e = .returned (.tuple #[.int .u64 (s.holdN a b c), .int .i64 (s.holdE a b c)]) ∧ ROpP D (s.hold a b c) w w' := by
  have HPR := Lib.hid (rpromised_any D s w h hI)
  have ht := hI.top
  have hlen := hI.hlen
  have htl := hI.tab.len
  have HIV := Lib.hid hI
  have HL := Lib.hid h
  clear h hI
  go_enter Tryz.func88, Tryz.ntmps88
  go_wp2_with fail
  refine HPR.out.mono ?_
  rintro e w1 ⟨v, rfl, ho, hx1⟩
  obtain ⟨AK, cK, rfl, hslk, hbk⟩ := own_sl ho
  have HKB : Hid (∀ b, Bl AK b → w.heap.size ≤ b) := fun b hb => (ho.lt b (by rw [hbk]; exact hb)).1
  have HSK := Lib.hid hslk
  have HX1 := Lib.hid hx1
  have HL1 := Lib.hid (HL.out.ex0 hx1)
  have hal : s.all.length ≤ 1000 := by
    have : s.all.length ≤ s.tab.length := by unfold TS.all; rw [List.length_map]; exact List.length_filter_le _ _
    omega
  clear ho hslk hbk hx1 HPR
  go_wp2_with fail
  go_loopw [11] (fun i wr => ∃ j : Nat, j ≤ s.tab.length ∧ i = .int .i64 j ∧ RelD D s w1 j wr) (fun i _ => s.tab.length - (intOf i).toNat)
  case atStart => exact ⟨0, Nat.zero_le _, rfl, RelD.start HL1.out⟩
  case round =>
    obtain ⟨j, hj, rfl, hrd⟩ := hrel
    have HRD := Lib.hid hrd
    obtain ⟨d, hd1, hd2, hd3⟩ := hrd
    have HT : Mo.DocAt wr D.P.pt d (outs (relK s j) s.tab) := hd1.law.tab
    have t0 := HT.cells.1
    have c5 : wr.cell? ⟨D.p, 5, none⟩ = some (.pointer (some ⟨D.P.pt, 0, none⟩)) := hd1.cell rfl
    have hlp : D.p < wr.heap.size := hd1.lt
    have hlpt : D.P.pt < wr.heap.size := HT.lt
    have hol : (outs (relK s j) s.tab).length = s.tab.length := outs_len _ _
    rw [hol] at t0
    have hj0 : (0 : Int) ≤ (j : Int) := by omega
    by_cases hjl : j < s.tab.length
    · obtain ⟨gN, oN, hN, hgN, hcN⟩ := HT.sN.one (i := j) (by rw [hol]; exact hjl)
      have hj1 : (j : Int) < (s.tab.length : Int) := by omega
      rw [hN] at t0
      have hnum : (outs (relK s j) s.tab)[j].num = s.tab[j].num := outs_num _ _ j hjl _
      rw [hnum] at hcN
      have HHA := Lib.hid (has_all (List.getElem_mem hjl))
      have HKEEP : Hid (∀ w', Ex0 wr w' → s.has s.tab[j].num = true → RelD D s w1 (j + 1) w') := fun w' hx hh => HRD.out.keep hx hjl hh
      have HSTEP : Hid (∀ wd, Ex0 wr wd → s.has s.tab[j].num = false → Calls Tryz.prog 131 #[.pointer (some ⟨D.P.pt, 0, none⟩), .int .u64 s.tab[j].num] wd fun e w' => ∃ k, e = .returned (.int .i64 k) ∧ RelD D s w1 (j + 1) w' ∧ Ex (· = D.P.pt) wd w' ∧ ∀ u, wd.cell? ⟨D.P.pt, 0, none⟩ = some u → w'.cell? ⟨D.P.pt, 0, none⟩ = some u) := fun wd hx hh => HRD.out.step hx HIV.out hjl hh
      have HSKR : Hid (Sl wr 1 AK s.all.length (s.all.map (Value.int .u64))) := HSK.out.ex hd2 (fun b hb e => by have := HKB.out b hb; have := HL.out.mlt D.P.pt (.inr (.inl rfl)); subst e; omega)
      obtain ⟨num, hnm⟩ : ∃ num, s.tab[j].num = num := ⟨_, rfl⟩
      rw [hnm] at hcN HHA HKEEP HSTEP
      have HAP : Hid (¬ D.p = D.P.pt ∧ ¬ gN = D.P.pt) := by
        obtain ⟨y1, y2, _⟩ := hd1.tys
        exact ⟨y1.ne y2 (by decide), fun e => (HT.ap gN (.inl (by rw [hN]; rfl))).1 e⟩
      clear hd1 hd2 hd3 HT hN hol hnum hnm HRD HL1
      obtain ⟨al, hall⟩ : ∃ al, s.all = al := ⟨_, rfl⟩
      rw [hall] at HHA HSKR hal
      simp only [hall]
      clear hall
      rename World => wo
      go_wp2_with fail
      have C5 := Lib.hid c5
      have T0 := Lib.hid t0
      have CN := Lib.hid hcN
      clear c5 t0 hcN hlp hlpt hgN
      go_loopw [12, 13] (fun b i wr => ∃ t : Nat, t ≤ al.length ∧ i = .int .i64 t ∧ b = .bool ((al.take t).contains num) ∧ Ex0 wo wr) (fun _ i _ => al.length - (intOf i).toNat)
      case atStart => exact ⟨0, Nat.zero_le _, rfl, rfl, Ex.refl _ _⟩
      case round =>
        obtain ⟨t, htt, rfl, rfl, hxt⟩ := hrel
        have HXT := Lib.hid hxt
        have ht0 : (0 : Int) ≤ (t : Int) := by omega
        have c5 : wr.cell? ⟨D.p, 5, none⟩ = some (.pointer (some ⟨D.P.pt, 0, none⟩)) := hxt.cellS C5.out not_false
        have t0 : wr.cell? ⟨D.P.pt, 0, none⟩ = some (.slice (some ⟨gN, oN, none⟩) s.tab.length d.cN) := hxt.cellS T0.out not_false
        have hcN : wr.cell? ⟨gN, oN + j, none⟩ = some (.int .u64 num) := hxt.cellS CN.out not_false
        have hlp : D.p < wr.heap.size := World.block_lt_of_cell? _ _ c5
        have hlpt : D.P.pt < wr.heap.size := World.block_lt_of_cell? _ _ t0
        have hgN : gN < wr.heap.size := World.block_lt_of_cell? _ _ hcN
        by_cases htl2 : t < al.length
        · obtain ⟨gK, oK, hAK, hgK, hcK⟩ := (HSKR.out.ex0 hxt).one htl2
          subst hAK
          have ht1 : (t : Int) < (al.length : Int) := by omega
          have hct := contains_take al num t htl2
          obtain ⟨y, hy⟩ : ∃ y, al[t] = y := ⟨_, rfl⟩
          rw [hy] at hcK hct
          obtain ⟨q, hq⟩ : ∃ q, (al.take t).contains num = q := ⟨_, rfl⟩
          rw [hq] at hct ⊢
          have HCT := Lib.hid hct
          clear hct hy hq hxt
          cases q with
          | true =>
            have HC2 : Hid ((al.take (t + 1)).contains num = true) := HCT.out
            go_wp2_with fail
            go_quiet (fail)
            go_wp2
            go_roundw
            case rel => exact ⟨t + 1, by omega, by go_num, by rw [HC2.out], HXT.out.drewN' _⟩
            case measure => simp [intOf]; omega
          | false =>
            have HC2 : Hid ((al.take (t + 1)).contains num = (y == num)) := HCT.out
            cases hyb : (y == num) with
            | true =>
              have HC3 : Hid ((al.take (t + 1)).contains num = true) := by have := HC2.out; rw [hyb] at this; exact this
              go_wp2_with fail
              go_quiet (fail)
              go_wp2
              go_roundw
              case rel => exact ⟨t + 1, by omega, by go_num, by rw [HC3.out], HXT.out.drewN' _⟩
              case measure => simp [intOf]; omega
            | false =>
              have HC3 : Hid ((al.take (t + 1)).contains num = false) := by have := HC2.out; rw [hyb] at this; exact this
              go_wp2_with fail
              go_quiet (fail)
              go_wp2
              go_roundw
              case rel => exact ⟨t + 1, by omega, by go_num, by rw [HC3.out], HXT.out.drewN' _⟩
              case measure => simp [intOf]; omega
        · have htn : t = al.length := by omega
          subst htn
          rw [List.take_length, HHA.out]
          have ht1 : ¬ (al.length : Int) < (al.length : Int) := by omega
          cases hh : s.has num with
          | true =>
            have HREL : Hid (RelD D s w1 (j + 1) wr) := HKEEP.out wr hxt hh
            clear hxt
            go_wp2_with fail
            first
                | exact ⟨⟨j + 1, by omega, by go_num, HREL.out⟩, by simp [intOf]; omega⟩
                | (go_roundw; (case rel => (first | exact ⟨j + 1, by omega, by go_num, HREL.out⟩ | ((repeat apply Exists.intro); refine ⟨?_, rfl⟩; exact ⟨j + 1, by omega, by go_num, HREL.out⟩))); (case measure => (simp [intOf]; omega)))
          | false =>
            have HST := Lib.hid (HSTEP.out wr.drew (hxt.trans0 (Ex.drew wr)) hh)
            clear hxt
            go_wp2_with fail
            have hS : (fun w' : World => w'.cell? ⟨D.p, 5, none⟩ = some (.pointer (some ⟨D.P.pt, 0, none⟩)) ∧ w'.cell? ⟨D.P.pt, 0, none⟩ = some (.slice (some ⟨gN, oN, none⟩) s.tab.length d.cN) ∧ w'.cell? ⟨gN, oN + j, none⟩ = some (.int .u64 num) ∧ D.p < w'.heap.size ∧ D.P.pt < w'.heap.size ∧ gN < w'.heap.size) wr.drew := ⟨c5, t0, hcN, hlp, hlpt, hgN⟩
            refine wp_region_takes (fun w' : World => w'.cell? ⟨D.p, 5, none⟩ = some (.pointer (some ⟨D.P.pt, 0, none⟩)) ∧ w'.cell? ⟨D.P.pt, 0, none⟩ = some (.slice (some ⟨gN, oN, none⟩) s.tab.length d.cN) ∧ w'.cell? ⟨gN, oN + j, none⟩ = some (.int .u64 num) ∧ D.p < w'.heap.size ∧ D.P.pt < w'.heap.size ∧ gN < w'.heap.size) (by kernel_rfl) ?_
            simp only [List.length_cons, List.length_nil]
            generalize wr.drew = wd at *
            refine' wpAnyH_do 0 rfl (by kernel_rfl) (fun _ _ _ _ h => h) (by rfl) (by assumption) ⟨_, fun w' hS => ?_, ?_⟩
            rotate_left
            · ((try dsimp only at hS); go_split_ands; go_simp; try (with_reducible rfl))
            simp only [Act.put, List.setIfInBounds_toArray, List.set_cons_zero, List.set_cons_succ]
            refine' wpAnyH_do 1 rfl (by kernel_rfl) (fun _ _ _ _ h => h) (by rfl) (by assumption) ⟨_, fun w' hS => ?_, ?_⟩
            rotate_left
            · ((try dsimp only at hS); go_split_ands; go_simp; try (with_reducible rfl))
            simp only [Act.put, List.setIfInBounds_toArray, List.set_cons_zero, List.set_cons_succ]
            refine' wpAnyH_do 2 rfl (by kernel_rfl) (fun _ _ _ _ h => h) (by rfl) (by assumption) ⟨_, fun w' hS => ?_, ?_⟩
            rotate_left
            · ((try dsimp only at hS); go_split_ands; go_simp; try (with_reducible rfl))
            simp only [Act.put, List.setIfInBounds_toArray, List.set_cons_zero, List.set_cons_succ]
            refine' wpAnyH_do 3 rfl (by kernel_rfl) (fun _ _ _ _ h => h) (by rfl) (by assumption) ⟨_, fun w' hS => ?_, ?_⟩
            rotate_left
            · ((try dsimp only at hS); go_split_ands; go_simp; try (with_reducible rfl))
            simp only [Act.put, List.setIfInBounds_toArray, List.set_cons_zero, List.set_cons_succ]
            refine' wpAnyH_do 4 rfl (by kernel_rfl) (fun _ _ _ _ h => h) (by rfl) (by assumption) ⟨_, fun w' hS => ?_, ?_⟩
            rotate_left
            · ((try dsimp only at hS); go_split_ands; go_simp; try (with_reducible rfl))
            simp only [Act.put, List.setIfInBounds_toArray, List.set_cons_zero, List.set_cons_succ]
            refine' wpAnyH_do 5 rfl (by kernel_rfl) (fun _ _ _ _ h => h) (by rfl) (by assumption) ⟨_, fun w' hS => ?_, ?_⟩
            rotate_left
            · ((try dsimp only at hS); go_split_ands; go_simp; try (with_reducible rfl))
            simp only [Act.put, List.setIfInBounds_toArray, List.set_cons_zero, List.set_cons_succ]
            refine' wpAnyH_do 6 rfl (by kernel_rfl) (fun _ _ _ _ h => h) (by rfl) (by assumption) ⟨_, fun w' hS => ?_, ?_⟩
            rotate_left
            · ((try dsimp only at hS); go_split_ands; go_simp; try (with_reducible rfl))
            simp only [Act.put, List.setIfInBounds_toArray, List.set_cons_zero, List.set_cons_succ]
            refine' wpAnyH_do 7 rfl (by kernel_rfl) (fun _ _ _ _ h => h) (by rfl) (by assumption) ⟨_, fun w' hS => ?_, ?_⟩
            rotate_left
            · ((try dsimp only at hS); go_split_ands; go_simp; try (with_reducible rfl))
            simp only [Act.put, List.setIfInBounds_toArray, List.set_cons_zero, List.set_cons_succ]
            refine' wpAnyH_do 8 rfl (by kernel_rfl) (fun _ _ _ _ h => h) (by rfl) (by assumption) ⟨_, fun w' hS => ?_, ?_⟩
            rotate_left
            · ((try dsimp only at hS); go_split_ands; go_simp; try (with_reducible rfl))
            simp only [Act.put, List.setIfInBounds_toArray, List.set_cons_zero, List.set_cons_succ]
            refine' wpAnyH_do 9 rfl (by kernel_rfl) (fun _ _ _ _ h => h) (by rfl) (by assumption) ⟨_, fun w' hS => ?_, ?_⟩
            rotate_left
            · ((try dsimp only at hS); go_split_ands; go_simp; try (with_reducible rfl))
            simp only [Act.put, List.setIfInBounds_toArray, List.set_cons_zero, List.set_cons_succ]
            refine' wpAnyH_do 10 rfl (by kernel_rfl) (fun _ _ _ _ h => h) (by rfl) (by assumption) ⟨_, fun w' hS => ?_, ?_⟩
            rotate_left
            · ((try dsimp only at hS); go_split_ands; go_simp; try (with_reducible rfl))
            simp only [Act.put, List.setIfInBounds_toArray, List.set_cons_zero, List.set_cons_succ]
            refine' wpAnyH_do 11 rfl (by kernel_rfl) (fun _ _ _ _ h => h) (by rfl) (by assumption) ⟨_, fun w' hS => ?_, ?_⟩
            rotate_left
            · ((try dsimp only at hS); go_split_ands; go_simp; try (with_reducible rfl))
            simp only [Act.put, List.setIfInBounds_toArray, List.set_cons_zero, List.set_cons_succ]
            refine' wpAnyH_do 12 rfl (by kernel_rfl) (fun _ _ _ _ h => h) (by rfl) (by assumption) ⟨_, fun w' hS => ?_, ?_⟩
            rotate_left
            · ((try dsimp only at hS); go_split_ands; go_simp; try (with_reducible rfl))
            simp only [Act.put, List.setIfInBounds_toArray, List.set_cons_zero, List.set_cons_succ]
            refine' wpAnyH_do 13 rfl (by kernel_rfl) (fun _ _ _ _ h => h) (by rfl) (by assumption) ⟨_, fun w' hS => ?_, ?_⟩
            rotate_left
            · ((try dsimp only at hS); go_split_ands; go_simp; try (with_reducible rfl))
            simp only [Act.put, List.setIfInBounds_toArray, List.set_cons_zero, List.set_cons_succ]
            refine' wpAnyH_do 14 rfl (by kernel_rfl) (fun _ _ _ _ h => h) (by rfl) (by assumption) ⟨_, fun w' hS => ?_, ?_⟩
            rotate_left
            · ((try dsimp only at hS); go_split_ands; go_simp; try (with_reducible rfl))
            simp only [Act.put, List.setIfInBounds_toArray, List.set_cons_zero, List.set_cons_succ]
            refine' wpAnyH_do 15 rfl (by kernel_rfl) (fun _ _ _ _ h => h) (by rfl) (by assumption) ⟨_, fun w' hS => ?_, ?_⟩
            rotate_left
            · ((try dsimp only at hS); go_split_ands; go_simp; try (with_reducible rfl))
            simp only [Act.put, List.setIfInBounds_toArray, List.set_cons_zero, List.set_cons_succ]
            refine wpAnyH_eff 16 rfl (by kernel_rfl) (by rfl) (fun K hK => ?_)
            have HKK := Lib.hid hK
            clear hK
            go_simp
            refine HST.out.mono ?_
            rintro e w4 ⟨k, rfl, hr4, hx4, ht4⟩
            have HREL := Lib.hid hr4
            have hS4 : (fun w' : World => w'.cell? ⟨D.p, 5, none⟩ = some (.pointer (some ⟨D.P.pt, 0, none⟩)) ∧ w'.cell? ⟨D.P.pt, 0, none⟩ = some (.slice (some ⟨gN, oN, none⟩) s.tab.length d.cN) ∧ w'.cell? ⟨gN, oN + j, none⟩ = some (.int .u64 num) ∧ D.p < w'.heap.size ∧ D.P.pt < w'.heap.size ∧ gN < w'.heap.size) w4 := ⟨hx4.cellS hS.1 HAP.out.1, ht4 _ hS.2.1, hx4.cellS hS.2.2.1 HAP.out.2, Nat.lt_of_lt_of_le hS.2.2.2.1 hx4.size, Nat.lt_of_lt_of_le hS.2.2.2.2.1 hx4.size, Nat.lt_of_lt_of_le hS.2.2.2.2.2 hx4.size⟩
            clear hr4 ht4 hx4
            dsimp only
            refine HKK.out _ _ hS4 ?_
            clear HKK K
            (try simp only [Act.put, List.setIfInBounds_toArray, List.set_cons_zero, List.set_cons_succ])
            refine wpAnyH_done (by kernel_rfl) ?_ _
            clear hS hS4 c5 t0 hcN hlp hlpt hgN
            go_wp2_with fail
            first
                | exact ⟨⟨j + 1, by omega, by go_num, HREL.out⟩, by simp [intOf]; omega⟩
                | (go_roundw; (case rel => (first | exact ⟨j + 1, by omega, by go_num, HREL.out⟩ | ((repeat apply Exists.intro); refine ⟨?_, rfl⟩; exact ⟨j + 1, by omega, by go_num, HREL.out⟩))); (case measure => (simp [intOf]; omega)))
    · have hjn : j = s.tab.length := by omega
      subst hjn
      have hj1 : ¬ (s.tab.length : Int) < (s.tab.length : Int) := by omega
      obtain ⟨D1, hp1, HL2, HOP⟩ : ∃ D1 : RLstP, D1.p = D.p ∧ Hid (RLstAt wr D1 s.rel) ∧ Hid (∀ s'' w2, ROpP D1 s'' wr w2 → ROpP D s'' w w2) := by
        refine ⟨atD D d, rfl, ?_, fun s'' w2 k => ?_⟩
        · show RLstAt _ _ _
          rw [relK_end, relS_end HIV.out] at hd1
          exact hd1
        · refine ROpP.bind (D1 := atD D d) rfl ?_ ?_ rfl rfl (fun b hb => .inl hb) k
          · exact (HX1.out.to (fun _ _ h => h.elim)).trans hd2 (fun _ _ h => h) (fun _ _ e => .inr (.inl e))
          · exact nw_atD (fun b hb => (hd3 b hb).imp (fun h => h) (fun h => Nat.le_trans HX1.out.size h))
      rw [← hp1] at c5 hlp ⊢
      clear hd1 hd2 hd3 HT HRD HL1 HL hp1
      have c3 : wr.cell? ⟨D1.p, 3, none⟩ = some (.int .u64 s.top) := HL2.out.cell rfl
      obtain ⟨wq, hwq, hbq, hxq⟩ : ∃ wq, wr.alloc (.cells #[.int .u64 (s.top + 1), .int .i64 a, .int .i64 b, .int .i64 c] 151) = wq ∧ wq.heap[wr.heap.size]? = some (.cells #[.int .u64 (s.top + 1), .int .i64 a, .int .i64 b, .int .i64 c] 151 (0, 0)) ∧ Ex0 wr wq := ⟨_, rfl, heap_alloc_new _ _, Ex.alloc _ _⟩
      have HBQ := Lib.hid hbq
      have HXQ := Lib.hid hxq
      have HWQ := Lib.hid hwq
      have hw1 : IntKind.u64.wrap (s.top + 1) = s.top + 1 := by rw [IntKind.wrap_u64]; omega
      have HKP : Hid (∀ w', Ex0 wq w' → (fun w' : World => w'.cell? ⟨D1.p, 7, none⟩ = some (.slice D1.P.H s.holds.length D1.P.cH) ∧ RowAt w' ⟨wr.heap.size, 0, none⟩ [.int .u64 (s.top + 1), .int .i64 a, .int .i64 b, .int .i64 c] ∧ w'.cell? ⟨D1.p, 3, none⟩ = some (.int .u64 s.top) ∧ w'.cell? ⟨D1.p, 2, none⟩ = some (.int .i64 s.now) ∧ D1.p < w'.heap.size ∧ wr.heap.size < w'.heap.size) w') := fun w' hx => by
        have hb := (hx.block _ (Array.getElem?_eq_some_iff.1 HBQ.out).1 not_false).trans HBQ.out
        have hL := HL2.out.ex0 (HXQ.out.trans0 hx)
        refine ⟨hL.cell rfl, fun j u hu => ?_, hL.cell rfl, hL.cell rfl, hL.lt, (Array.getElem?_eq_some_iff.1 hb).1⟩
        rw [add_row, cell_of_row _ _ _ _ _ _ hb, Nat.zero_add]
        simpa using hu
      clear hwq hbq hxq
      go_wp2_with fail
      rw [HWQ.out]
      clear c5 t0 c3 hlp hlpt
      have hS := HKP.out wq.drew (Ex.drew wq)
      have HXD : Hid (Ex0 wq wq.drew) := Ex.drew wq
      refine wp_region_takes (fun w' : World => w'.cell? ⟨D1.p, 7, none⟩ = some (.slice D1.P.H s.holds.length D1.P.cH) ∧ RowAt w' ⟨wr.heap.size, 0, none⟩ [.int .u64 (s.top + 1), .int .i64 a, .int .i64 b, .int .i64 c] ∧ w'.cell? ⟨D1.p, 3, none⟩ = some (.int .u64 s.top) ∧ w'.cell? ⟨D1.p, 2, none⟩ = some (.int .i64 s.now) ∧ D1.p < w'.heap.size ∧ wr.heap.size < w'.heap.size) (by kernel_rfl) ?_
      simp only [List.length_cons, List.length_nil]
      generalize wq.drew = wd at *
      refine' wpAnyH_do 0 rfl (by kernel_rfl) (fun _ _ _ _ h => h) (by rfl) (by assumption) ⟨_, fun w' hS => ?_, ?_⟩
      rotate_left
      · ((try dsimp only at hS); go_split_ands; go_simp; try (with_reducible rfl))
      simp only [Act.put, List.setIfInBounds_toArray, List.set_cons_zero, List.set_cons_succ]
      refine' wpAnyH_do 1 rfl (by kernel_rfl) (fun _ _ _ _ h => h) (by rfl) (by assumption) ⟨_, fun w' hS => ?_, ?_⟩
      rotate_left
      · ((try dsimp only at hS); go_split_ands; go_simp; try (with_reducible rfl))
      simp only [Act.put, List.setIfInBounds_toArray, List.set_cons_zero, List.set_cons_succ]
      refine' wpAnyH_do 2 rfl (by kernel_rfl) (fun _ _ _ _ h => h) (by rfl) (by assumption) ⟨_, fun w' hS => ?_, ?_⟩
      rotate_left
      · ((try dsimp only at hS); go_split_ands; go_simp; try (with_reducible rfl))
      simp only [Act.put, List.setIfInBounds_toArray, List.set_cons_zero, List.set_cons_succ]
      refine' wpAnyH_do 3 rfl (by kernel_rfl) (fun _ _ _ _ h => h) (by rfl) (by assumption) ⟨_, fun w' hS => ?_, ?_⟩
      rotate_left
      · ((try dsimp only at hS); go_split_ands; go_simp; try (with_reducible rfl))
      simp only [Act.put, List.setIfInBounds_toArray, List.set_cons_zero, List.set_cons_succ]
      refine' wpAnyH_do 4 rfl (by kernel_rfl) (fun _ _ _ _ h => h) (by rfl) (by assumption) ⟨_, fun w' hS => ?_, ?_⟩
      rotate_left
      · ((try dsimp only at hS); go_split_ands; go_simp; try (with_reducible rfl))
      simp only [Act.put, List.setIfInBounds_toArray, List.set_cons_zero, List.set_cons_succ]
      refine' wpAnyH_do 5 rfl (by kernel_rfl) (fun _ _ _ _ h => h) (by rfl) (by assumption) ⟨_, fun w' hS => exec_load_at 151 (.tmp 14) rfl ⟨wr.heap.size, 0, none⟩ rfl _ _ hS.2.1 Tryz.underlying151 rfl (by kernel_rfl), ?_⟩
      simp only [Act.put, List.setIfInBounds_toArray, List.set_cons_zero, List.set_cons_succ]
      refine' wpAnyH_do 6 rfl (by kernel_rfl) (fun _ _ _ _ h => h) (by rfl) (by assumption) ⟨_, fun w' hS => ?_, ?_⟩
      rotate_left
      · ((try dsimp only at hS); go_split_ands; go_simp; try (with_reducible rfl))
      simp only [Act.put, List.setIfInBounds_toArray, List.set_cons_zero, List.set_cons_succ]
      refine' wpAnyH_do 7 rfl (by kernel_rfl) (fun _ _ _ _ h => h) (by rfl) (by assumption) ⟨_, fun w' hS => ?_, ?_⟩
      rotate_left
      · ((try dsimp only at hS); go_split_ands; go_simp; try (with_reducible rfl))
      simp only [Act.put, List.setIfInBounds_toArray, List.set_cons_zero, List.set_cons_succ]
      refine' wpAnyH_do 8 rfl (by kernel_rfl) (fun _ _ _ _ h => h) (by rfl) (by assumption) ⟨_, fun w' hS => ?_, ?_⟩
      rotate_left
      · ((try dsimp only at hS); go_split_ands; go_simp; try (with_reducible rfl))
      simp only [Act.put, List.setIfInBounds_toArray, List.set_cons_zero, List.set_cons_succ]
      refine' wpAnyH_do 9 rfl (by kernel_rfl) (fun _ _ _ _ h => h) (by rfl) (by assumption) ⟨_, fun w' hS => ?_, ?_⟩
      rotate_left
      · ((try dsimp only at hS); go_split_ands; go_simp; try (with_reducible rfl))
      simp only [Act.put, List.setIfInBounds_toArray, List.set_cons_zero, List.set_cons_succ]
      refine' wpAnyH_do 10 rfl (by kernel_rfl) (fun _ _ _ _ h => h) (by rfl) (by assumption) ⟨_, fun w' hS => ?_, ?_⟩
      rotate_left
      · ((try dsimp only at hS); go_split_ands; go_simp; try (with_reducible rfl))
      simp only [Act.put, List.setIfInBounds_toArray, List.set_cons_zero, List.set_cons_succ]
      refine' wpAnyH_do 11 rfl (by kernel_rfl) (fun _ _ _ _ h => h) (by rfl) (by assumption) ⟨_, fun w' hS => ?_, ?_⟩
      rotate_left
      · ((try dsimp only at hS); go_split_ands; go_simp; try (with_reducible rfl))
      simp only [Act.put, List.setIfInBounds_toArray, List.set_cons_zero, List.set_cons_succ]
      refine' wpAnyH_do 12 rfl (by kernel_rfl) (fun _ _ _ _ h => h) (by rfl) (by assumption) ⟨_, fun w' hS => ?_, ?_⟩
      rotate_left
      · ((try dsimp only at hS); go_split_ands; go_simp; try (with_reducible rfl))
      simp only [Act.put, List.setIfInBounds_toArray, List.set_cons_zero, List.set_cons_succ]
      refine' wpAnyH_do 13 rfl (by kernel_rfl) (fun _ _ _ _ h => h) (by rfl) (by assumption) ⟨_, fun w' hS => ?_, ?_⟩
      rotate_left
      · ((try dsimp only at hS); go_split_ands; go_simp; try (with_reducible rfl))
      simp only [Act.put, List.setIfInBounds_toArray, List.set_cons_zero, List.set_cons_succ]
      refine' wpAnyH_do 14 rfl (by kernel_rfl) (fun _ _ _ _ h => h) (by rfl) (by assumption) ⟨_, fun w' hS => ?_, ?_⟩
      rotate_left
      · ((try dsimp only at hS); go_split_ands; go_simp; try (with_reducible rfl))
      simp only [Act.put, List.setIfInBounds_toArray, List.set_cons_zero, List.set_cons_succ]
      refine wpAnyH_eff 15 rfl (by kernel_rfl) (by rfl) (fun K hK => ?_)
      have HKK := Lib.hid hK
      clear hK
      go_simp
      have hL4 := HL2.out.ex0 (HXQ.out.trans0 HXD.out)
      refine (Ho.radd_any D1.P.H D1.P.cH s.holds ⟨s.top + 1, a, b, c⟩ (s.top + 1) s.now wd hL4.law.hol (by omega) hL4.law.hlt hL4.law.hcap).mono ?_
      rintro e w3 ⟨H', cH', rfl, hsl, hbl, hc0, hx3⟩
      have hS3 := HKP.out w3 (HXD.out.trans0 hx3)
      have hbd : ∀ b, Bl H' b → Bl D1.P.H b ∨ (wr.heap.size ≤ b ∧ b < w3.heap.size) := fun b hb => (hbl b hb).imp (fun h => h) (fun h => ⟨Nat.le_trans (HXQ.out.trans0 HXD.out).size h.1, h.2⟩)
      have HBL := Lib.hid hbd
      have HSL := Lib.hid hsl
      have HC0 := Lib.hid hc0
      have HX3 := Lib.hid ((HXQ.out.trans0 HXD.out).trans0 hx3)
      have HL3 := Lib.hid (HL2.out.ex0 HX3.out)
      clear hL4 hsl hbl hbd hc0 hx3 hS HKP HXD HBQ HWQ
      dsimp only
      refine HKK.out _ _ hS3 ?_
      clear HKK K
      (try simp only [Act.put, List.setIfInBounds_toArray, List.set_cons_zero, List.set_cons_succ])
      refine' wpAnyH_do 16 rfl (by kernel_rfl) (fun _ _ _ _ h => h) (by rfl) (by assumption) ⟨_, fun w' hS => ?_, ?_⟩
      rotate_left
      · ((try dsimp only at hS); go_split_ands; go_simp; try (with_reducible rfl))
      simp only [Act.put, List.setIfInBounds_toArray, List.set_cons_zero, List.set_cons_succ]
      refine' wpAnyH_do 17 rfl (by kernel_rfl) (fun _ _ _ _ h => h) (by rfl) (by assumption) ⟨_, fun w' hS => ?_, ?_⟩
      rotate_left
      · ((try dsimp only at hS); go_split_ands; go_simp; try (with_reducible rfl))
      simp only [Act.put, List.setIfInBounds_toArray, List.set_cons_zero, List.set_cons_succ]
      refine' wpAnyH_do 18 rfl (by kernel_rfl) (fun _ _ _ _ h => h) (by rfl) (by assumption) ⟨_, fun w' hS => ?_, ?_⟩
      rotate_left
      · ((try dsimp only at hS); go_split_ands; go_simp; try (with_reducible rfl))
      simp only [Act.put, List.setIfInBounds_toArray, List.set_cons_zero, List.set_cons_succ]
      refine' wpAnyH_do 19 rfl (by kernel_rfl) (fun _ _ _ _ h => h) (by rfl) (by assumption) ⟨_, fun w' hS => ?_, ?_⟩
      rotate_left
      · ((try dsimp only at hS); go_split_ands; go_simp; try (with_reducible rfl))
      simp only [Act.put, List.setIfInBounds_toArray, List.set_cons_zero, List.set_cons_succ]
      refine' wpAnyH_do 20 rfl (by kernel_rfl) (fun _ _ _ _ h => h) (by rfl) (by assumption) ⟨_, fun w' hS => ?_, ?_⟩
      rotate_left
      · ((try dsimp only at hS); go_split_ands; go_simp; try (with_reducible rfl))
      simp only [Act.put, List.setIfInBounds_toArray, List.set_cons_zero, List.set_cons_succ]
      refine wpAnyH_done (by kernel_rfl) ?_ _
      clear hS3 HXQ
      obtain ⟨E, hE⟩ : ∃ E, Ho.addE ⟨s.top + 1, a, b, c⟩ (s.top + 1) s.now s.holds = E := ⟨_, rfl⟩
      have HE := Lib.hid hE
      rw [hE]
      clear hE
      have hlt3 := HL3.out.lt
      by_cases he : E = 0
      · subst he
        go_wp2_with fail
        refine (rtake_any D1 s.rel w3 HL3.out ht.1).mono ?_
        rintro e w4 ⟨rfl, hw4⟩
        have hnx : s.rel.next = s.next := rfl
        rw [hnx]
        by_cases hn : s.next = 0
        · rw [takeW_none (show s.rel.next = 0 from hn)] at hw4
          subst hw4
          have h14 : s.holdE a b c = 14 := by unfold TS.holdE; rw [if_pos HE.out, if_pos hn]
          have hN : s.holdN a b c = 0 := by unfold TS.holdN; rw [h14]; rfl
          have hst : s.hold a b c = s.rel := by unfold TS.hold; rw [h14]; rfl
          have H14 := Lib.hid h14
          have HNN := Lib.hid hN
          have HH := Lib.hid hst
          clear h14 hN hst
          rw [hn]
          go_wp2
          go_ret2
          refine ⟨ret_two HNN.out.symm H14.out.symm, HOP.out _ _ ?_⟩
          rw [HH.out]
          exact .same HL2.out HX3.out
        · rw [takeW_some (show ¬ s.rel.next = 0 from hn)] at hw4
          have hv : s.next = s.top + 1 := (next_pos hn).2
          have h0 : s.holdE a b c = 0 := by unfold TS.holdE; rw [if_pos HE.out, if_neg hn]
          have hN : s.holdN a b c = s.top + 1 := by unfold TS.holdN; rw [h0]; rfl
          have hst : s.hold a b c = { s.rel with top := s.top + 1, holds := Ho.addL ⟨s.top + 1, a, b, c⟩ (s.top + 1) s.now s.holds } := by unfold TS.hold Ho.addL; rw [h0, if_pos rfl, if_pos HE.out]
          have hne : (s.top + 1 == 0) = false := by simp; omega
          have HH := Lib.hid hst
          have H0 := Lib.hid h0
          have HNN := Lib.hid hN
          have HL4 : Hid (RLstAt w4 D1 { s.rel with top := s.top + 1 }) := by show RLstAt _ _ _; rw [hw4]; exact HL3.out.setC rfl rfl rfl rfl rfl rfl
          have hx4 : Ex (· = D1.p) w3 w4 := by rw [hw4]; exact Ex.setCell w3 ⟨D1.p, 3, none⟩ _
          have HX4 := Lib.hid hx4
          rw [hv]
          clear hw4 hv h0 hN hst hn hx4
          have k7 : w4.cell? ⟨D1.p, 7, none⟩ = some (.slice D1.P.H s.holds.length D1.P.cH) := HL4.out.cell rfl
          have k3 : w4.cell? ⟨D1.p, 3, none⟩ = some (.int .u64 (s.top + 1)) := HL4.out.cell rfl
          have f7 := HL4.out.frozen 7
          have hl2 := HL4.out.lt
          go_wp2
          go_ret2
          refine ⟨ret_two HNN.out.symm H0.out.symm, HOP.out _ _ ?_⟩
          rw [HH.out]
          have hsz1 := HX3.out.size
          have hsz2 := HX4.out.size
          have hap : ∀ b, Bl H' b → ¬ D1.M b ∧ b < w3.heap.size := fun b hb => by
            rcases HBL.out b hb with h | ⟨h1, h2⟩
            · exact HL3.out.ap b (.inl (.inr (.inr (.inl h))))
            · exact ⟨fun hm => by have := HL2.out.mlt b hm; omega, h2⟩
          refine ⟨{ D1 with P := { D1.P with H := H', cH := cH' } }, rfl, HL4.out.setHolds (HSL.out.ex HX4.out (fun b hb e => (hap b hb).1 (.inl e))) (fun b hb => ⟨(hap b hb).1, by have := (hap b hb).2; omega⟩) HC0.out, ?_, nw_holds (fun b hb => (HBL.out b hb).imp (fun h => h) (fun h => h.1)), rfl, rfl⟩
          exact ((HX3.out.to (fun _ _ h => h.elim)).trans HX4.out (fun _ _ h => h) (fun _ _ h => .inl h)).trans (Ex.setCell w4 ⟨D1.p, 7, none⟩ _) (fun _ _ h => h) (fun _ _ h => .inl h)
      · have h4' : s.holdE a b c = E := by unfold TS.holdE; rw [HE.out, if_neg he]
        have hN : s.holdN a b c = 0 := by unfold TS.holdN; rw [h4', if_neg he]
        have hst : s.hold a b c = s.rel := by unfold TS.hold; rw [h4', if_neg he]
        have hne : (E == 0) = false := by simpa using he
        have hne2 : (E != 0) = true := by simpa using he
        have H4 := Lib.hid h4'
        have HNN := Lib.hid hN
        have HH := Lib.hid hst
        clear h4' hN hst
        go_wp2
        go_ret2
        refine ⟨ret_two HNN.out.symm H4.out.symm, HOP.out _ _ ?_⟩
        rw [HH.out]
        exact .same HL2.out HX3.out
end Go.Proofs.YtoglddndicmelaaGreat.Tr
