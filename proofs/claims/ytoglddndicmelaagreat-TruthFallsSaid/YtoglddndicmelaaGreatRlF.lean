/- Layer 54: the document's Write. -/
import Derived.Test.YtoglddndicmelaaGreatRlE
namespace Go.Proofs.YtoglddndicmelaaGreat.Tr
open Go.RowKit Go.Proofs.YtoglddndicmelaaGreatB Go.Proofs.YtoglddndicmelaaGreat
set_option maxRecDepth 100000

theorem infoWt : (Tryz.prog.info? 90).map (fun i => (i.zero, i.size, i.bytes)) = some (some (.agg #[.int .u64 0, .int .i64 0, .int .i64 0, .int .i64 0, .int .u8 0, .int .u8 0, .int .u8 0, .int .u8 0, .int .u8 0, .int .u8 0, .int .u8 0, .int .u8 0, .int .u8 0, .int .u8 0, .int .u8 0, .int .u8 0, .int .u8 0, .int .u8 0, .int .u8 0, .int .u8 0, .int .u8 0, .int .u8 0, .int .u8 0, .int .u8 0, .int .u8 0, .int .u8 0, .int .u8 0, .int .u8 0, .int .u8 0, .int .u8 0, .int .u8 0, .int .u8 0, .int .u8 0, .int .u8 0, .int .u8 0, .int .u8 0]), 36, 64) := by kernel_rfl
theorem wrs_one (l : List Wr) : ∀ u ∈ l.flatMap Wr.cells, u.oneCell' = true := by
  intro u hu
  obtain ⟨x, _, h⟩ := List.mem_flatMap.1 hu
  exact wr_one x u h
/-- a write more -/
theorem RLstAt.setW {w : World} {D : RLstP} {s : TS} (h : RLstAt w D s) {A' : Option Addr} {c' : Nat} {ws' : List Wr} (hsl : Sl w 36 A' ws'.length (ws'.flatMap Wr.cells)) (hap : ∀ b, Bl A' b → ¬ D.M b ∧ b < w.heap.size) (hc : A' = none → c' = 0) :
    RLstAt (w.setCell ⟨D.p, 4, none⟩ (.slice A' ws'.length c')) { D with LA := A', cL := c' } { s with ws := ws' } := by
  obtain ⟨t1, t2, t3⟩ := h.tys
  have hx := Ex.setCell w ⟨D.p, 4, none⟩ (.slice A' ws'.length c')
  have hI : ∀ b, D.I b → ¬ b = D.p := fun b hb e => (h.ap b (.inl hb)).1 (.inl e)
  refine ⟨by rw [heap_setCell_same _ _ _ _ _ _ h.blk]; rfl, hsl.ex hx (fun b hb e => (hap b hb).1 (.inl e)), hc,
    ⟨h.law.tab.ex hx (t2.ne t1 (by decide)) (fun b hb => hI b (.inr (.inl hb))), h.law.rul.ex hx (fun b hb e => (h.ap b (.inr hb)).1 (.inl e)), h.law.hol.ex hx (fun b hb => hI b (.inr (.inr (.inl hb)))), fun b hb => Nat.lt_of_lt_of_le (h.law.hlt b hb) hx.size, h.law.hcap, h.law.fs.ex hx (t3.ne t1 (by decide)) (fun b hb => hI b (.inr (.inr (.inr hb))))⟩, fun b hb => ?_⟩
  have hold : ∀ b, (D.I b ∨ Bl D.P.R b) → ¬ D.M b ∧ b < (w.setCell ⟨D.p, 4, none⟩ (.slice A' ws'.length c')).heap.size := fun b hb => ⟨(h.ap b hb).1, Nat.lt_of_lt_of_le (h.ap b hb).2 hx.size⟩
  rcases hb with (hb | hb | hb | hb) | hb
  · exact ⟨(hap b hb).1, Nat.lt_of_lt_of_le (hap b hb).2 hx.size⟩
  · exact hold b (.inl (.inr (.inl hb)))
  · exact hold b (.inl (.inr (.inr (.inl hb))))
  · exact hold b (.inl (.inr (.inr (.inr hb))))
  · exact hold b (.inr hb)
theorem RLstAt.table {w w' : World} {D : RLstP} {s : TS} (h : RLstAt w D s) {d' : Mo.DocV} {tab' : List Mo.It} (hd : Mo.DocAt w' D.P.pt d' tab') (hx : Ex (· = D.P.pt) w w') (hA : ∀ b, Mo.Bld d' b → Mo.Bld D.P.d b ∨ w.heap.size ≤ b) :
    RLstAt w' { D with P := { D.P with d := d' } } { s with tab := tab' } := by
  obtain ⟨t1, t2, t3⟩ := h.tys
  have hI : ∀ b, D.I b → ¬ b = D.P.pt := fun b hb e => (h.ap b (.inl hb)).1 (.inr (.inl e))
  refine ⟨(hx.block _ h.lt (t1.ne t2 (by decide))).trans h.blk, h.ws.ex hx (fun b hb => hI b (.inl hb)), h.cap0,
    ⟨hd, h.law.rul.ex hx (fun b hb e => (h.ap b (.inr hb)).1 (.inr (.inl e))), h.law.hol.ex hx (fun b hb => hI b (.inr (.inr (.inl hb)))), fun b hb => Nat.lt_of_lt_of_le (h.law.hlt b hb) hx.size, h.law.hcap, h.law.fs.ex hx (t3.ne t2 (by decide)) (fun b hb => hI b (.inr (.inr (.inr hb))))⟩, fun b hb => ?_⟩
  have hold : ∀ b, (D.I b ∨ Bl D.P.R b) → ¬ D.M b ∧ b < w'.heap.size := fun b hb => ⟨(h.ap b hb).1, Nat.lt_of_lt_of_le (h.ap b hb).2 hx.size⟩
  rcases hb with (hb | hb | hb | hb) | hb
  · exact hold b (.inl (.inl hb))
  · rcases hA b hb with h' | h'
    · exact hold b (.inl (.inr (.inl h')))
    · exact ⟨fun hm => by have := h.mlt b hm; omega, (hd.ap b hb).2⟩
  · exact hold b (.inl (.inr (.inr (.inl hb))))
  · exact hold b (.inl (.inr (.inr (.inr hb))))
  · exact hold b (.inr hb)
set_option maxHeartbeats 4000000 in
theorem rwrite54_any (D : RLstP) (s : TS) (br vol blk : Int) (d : List Nat) (w : World) (h : RLstAt w D s) (hI : Inv s) (hlen : s.tab.length ≤ 900) :
    Calls Tryz.prog 91 #[.pointer (some ⟨D.p, 0, none⟩), .agg (wrC br vol blk d).toArray] w fun e w' => e = .returned (.tuple #[.int .u64 (s.writeN br vol blk), .int .i64 (s.writeE br vol blk)]) ∧ ROpP D (s.write br vol blk d) w w' := by
  have ht := hI.top
  have HL := Lib.hid h
  have HI := Lib.hid hI
  have hlp := h.lt
  clear h hI
  have HB : Hid (∀ r w', s.writeE br vol blk = r → r ≠ 0 → Ex0 w w' → s.writeN br vol blk = 0 ∧ s.writeE br vol blk = r ∧ ROpP D (s.write br vol blk d) w w') := fun r w' e h0 hx => by
    refine ⟨by unfold TS.writeN; rw [e, if_neg h0], e, ?_⟩
    have : s.write br vol blk d = s := by unfold TS.write; rw [e, if_neg h0]
    rw [this]; exact .same HL.out hx
  have HTH := fun w' (hx : Ex0 w w') => Lib.hid (rhere_any D s vol blk w' (HL.out.ex0 hx))
  obtain ⟨th, hth⟩ : ∃ th, s.there vol blk = th := ⟨_, rfl⟩
  obtain ⟨al, hal⟩ : ∃ al, alive s.fs br = al := ⟨_, rfl⟩
  have HAL := fun w' (hx : Ex0 w w') => Lib.hid (rfalive_any D.P.pf D.P.A D.P.cA (brs s.fs) br w' ((HL.out.ex0 hx).law.fs))
  rw [hth] at HTH
  rw [ralive_brs HI.out.fs, hal] at HAL
  have HTE := Lib.hid hth
  have HLE := Lib.hid hal
  clear hth hal
  have hCl : (wrC br vol blk d).toArray.size = 35 := by rw [List.size_toArray]; exact wrC_len br vol blk d
  obtain ⟨C, hC⟩ : ∃ C, (wrC br vol blk d).toArray = C := ⟨_, rfl⟩
  rw [hC] at hCl ⊢
  have HCE := Lib.hid hC
  clear hC
  obtain ⟨wa, hwa⟩ : ∃ wa, w.alloc (.cells C 63) = wa := ⟨_, rfl⟩
  have HBA : Hid (wa.heap[w.heap.size]? = some (.cells C 63 (0, 0))) := by show _ = _; rw [← hwa]; exact heap_alloc_new _ _
  have HXA : Hid (Ex0 w wa) := by show Ex0 _ _; rw [← hwa]; exact Ex.alloc _ _
  have HWA := Lib.hid hwa
  have HCC : Hid (∀ w' : World, w'.heap[w.heap.size]? = some (.cells C 63 (0, 0)) → RowAt w' ⟨w.heap.size, 0, none⟩ [.int .i64 br, .int .i64 vol, .int .i64 blk] ∧ RowAt w' ⟨w.heap.size, 3, none⟩ (encN 32 d) ∧ w.heap.size < w'.heap.size) := fun w' hb => by
    refine ⟨fun j u hu => ?_, fun j u hu => ?_, (Array.getElem?_eq_some_iff.1 hb).1⟩
    · rw [add_row, cell_of_row _ _ _ _ _ _ hb, ← HCE.out]
      rcases j with _ | _ | _ | j
      · exact hu
      · exact hu
      · exact hu
      · simp at hu
    · rw [add_row, cell_of_row _ _ _ _ _ _ hb, ← HCE.out]
      unfold wrC
      rw [show 3 + j = j + 3 by omega]
      simpa using hu
  clear hwa
  obtain ⟨hra, _, hlB⟩ := HCC.out wa HBA.out
  have b0 : wa.cell? ⟨w.heap.size, 0, none⟩ = some (.int .i64 br) := hra 0 _ rfl
  have b1 : wa.cell? ⟨w.heap.size, 1, none⟩ = some (.int .i64 vol) := hra 1 _ rfl
  have b2 : wa.cell? ⟨w.heap.size, 2, none⟩ = some (.int .i64 blk) := hra 2 _ rfl
  clear hra
  go_enter Tryz.func91, Tryz.ntmps91
  iterate 5 go_step
  rw [HWA.out]
  by_cases hn0 : br < 0
  · have HE : Hid (s.writeE br vol blk = 2) := by show _ = _; unfold TS.writeE; rw [if_pos (.inl hn0)]
    go_wp2
    go_ret2
    obtain ⟨h1, h2, h3⟩ := HB.out 2 _ HE.out (by decide) HXA.out
    exact ⟨ret_two h1.symm h2.symm, h3⟩
  have hn0' : decide (br < 0) = false := decide_eq_false (by omega)
  by_cases hn1 : 15 < br
  · have HE : Hid (s.writeE br vol blk = 2) := by show _ = _; unfold TS.writeE; rw [if_pos (.inr (.inl (by omega)))]
    go_wp2
    go_ret2
    obtain ⟨h1, h2, h3⟩ := HB.out 2 _ HE.out (by decide) HXA.out
    exact ⟨ret_two h1.symm h2.symm, h3⟩
  have hn1' : decide (15 < br) = false := decide_eq_false (by omega)
  have HR : Hid (0 ≤ br ∧ br < 16) := ⟨by omega, by omega⟩
  go_wp2_with fail
  refine (HTH wa HXA.out).out.mono ?_
  rintro e w3 ⟨rfl, rfl⟩
  cases th with
  | false =>
    have HE : Hid (s.writeE br vol blk = 2) := by show _ = _; unfold TS.writeE; rw [if_pos (.inr (.inr HTE.out))]
    go_wp2
    go_ret2
    obtain ⟨h1, h2, h3⟩ := HB.out 2 _ HE.out (by decide) HXA.out
    exact ⟨ret_two h1.symm h2.symm, h3⟩
  | true =>
    have HNE : Hid (¬ (br < 0 ∨ 16 ≤ br ∨ s.there vol blk = false)) := by have := HR.out; show ¬ _; rw [HTE.out]; simp; omega
    go_wp2_with fail
    have HL2 := Lib.hid (HL.out.ex0 (HXA.out.trans0 (Ex.drew w3)))
    have hS : (fun w' : World => w'.cell? ⟨D.p, 8, none⟩ = some (.pointer (some ⟨D.P.pf, 0, none⟩)) ∧ w'.cell? ⟨w.heap.size, 0, none⟩ = some (.int .i64 br) ∧ D.p < w'.heap.size) w3.drew := ⟨HL2.out.cell rfl, b0, HL2.out.lt⟩
    have HXD : Hid (Ex0 w3 w3.drew) := Ex.drew w3
    refine wp_region_takes (fun w' : World => w'.cell? ⟨D.p, 8, none⟩ = some (.pointer (some ⟨D.P.pf, 0, none⟩)) ∧ w'.cell? ⟨w.heap.size, 0, none⟩ = some (.int .i64 br) ∧ D.p < w'.heap.size) (by kernel_rfl) ?_
    simp only [List.length_cons, List.length_nil]
    generalize w3.drew = wd at *
    refine' wpAnyH_do 0 rfl (by kernel_rfl) (fun _ _ _ _ h => h) (by rfl) (by assumption) ⟨_, fun w' hS => ?_, ?_⟩
    rotate_left
    · ((try dsimp only at hS); go_split_ands; go_simp; try (with_reducible rfl))
    simp only [Act.put, List.setIfInBounds_toArray, List.set_cons_zero, List.set_cons_succ]
    refine' wpAnyH_do 1 rfl (by kernel_rfl) (fun _ _ _ _ h => h) (by rfl) (by assumption) ⟨_, fun w' hS => ?_, ?_⟩
    rotate_left
    · ((try dsimp only at hS); go_split_ands; go_simp; try (with_reducible rfl))
    simp only [Act.put, List.setIfInBounds_toArray, List.set_cons_zero, List.set_cons_succ]
    refine' wpAnyH_do 2 rfl (by kernel_rfl) (fun _ _ _ _ h => h) (by rfl) (by assumption) ⟨_, fun w' hS => ?_, ?_⟩
    rotate_left
    · ((try dsimp only at hS); go_split_ands; go_simp; try (with_reducible rfl))
    simp only [Act.put, List.setIfInBounds_toArray, List.set_cons_zero, List.set_cons_succ]
    refine' wpAnyH_do 3 rfl (by kernel_rfl) (fun _ _ _ _ h => h) (by rfl) (by assumption) ⟨_, fun w' hS => ?_, ?_⟩
    rotate_left
    · ((try dsimp only at hS); go_split_ands; go_simp; try (with_reducible rfl))
    simp only [Act.put, List.setIfInBounds_toArray, List.set_cons_zero, List.set_cons_succ]
    refine' wpAnyH_do 4 rfl (by kernel_rfl) (fun _ _ _ _ h => h) (by rfl) (by assumption) ⟨_, fun w' hS => ?_, ?_⟩
    rotate_left
    · ((try dsimp only at hS); go_split_ands; go_simp; try (with_reducible rfl))
    simp only [Act.put, List.setIfInBounds_toArray, List.set_cons_zero, List.set_cons_succ]
    refine' wpAnyH_do 5 rfl (by kernel_rfl) (fun _ _ _ _ h => h) (by rfl) (by assumption) ⟨_, fun w' hS => ?_, ?_⟩
    rotate_left
    · ((try dsimp only at hS); go_split_ands; go_simp; try (with_reducible rfl))
    simp only [Act.put, List.setIfInBounds_toArray, List.set_cons_zero, List.set_cons_succ]
    refine' wpAnyH_do 6 rfl (by kernel_rfl) (fun _ _ _ _ h => h) (by rfl) (by assumption) ⟨_, fun w' hS => ?_, ?_⟩
    rotate_left
    · ((try dsimp only at hS); go_split_ands; go_simp; try (with_reducible rfl))
    simp only [Act.put, List.setIfInBounds_toArray, List.set_cons_zero, List.set_cons_succ]
    refine' wpAnyH_do 7 rfl (by kernel_rfl) (fun _ _ _ _ h => h) (by rfl) (by assumption) ⟨_, fun w' hS => ?_, ?_⟩
    rotate_left
    · ((try dsimp only at hS); go_split_ands; go_simp; try (with_reducible rfl))
    simp only [Act.put, List.setIfInBounds_toArray, List.set_cons_zero, List.set_cons_succ]
    refine wpAnyH_eff 8 rfl (by kernel_rfl) (by rfl) (fun K hK => ?_)
    have HKK := Lib.hid hK
    clear hK
    go_simp
    refine (HAL wd (HXA.out.trans0 HXD.out)).out.mono ?_
    rintro e w4 ⟨rfl, rfl⟩
    dsimp only
    refine HKK.out _ _ hS ?_
    clear HKK K
    (try simp only [Act.put, List.setIfInBounds_toArray, List.set_cons_zero, List.set_cons_succ])
    refine' wpAnyH_do 9 rfl (by kernel_rfl) (fun _ _ _ _ h => h) (by rfl) (by assumption) ⟨_, fun w' hS => ?_, ?_⟩
    rotate_left
    · ((try dsimp only at hS); go_split_ands; go_simp; try (with_reducible rfl))
    simp only [Act.put, List.setIfInBounds_toArray, List.set_cons_zero, List.set_cons_succ]
    refine wpAnyH_done (by kernel_rfl) ?_ _
    have HX4 := Lib.hid (HXA.out.trans0 HXD.out)
    have HB4 : Hid (w4.heap[w.heap.size]? = some (.cells C 63 (0, 0))) := (HXD.out.block _ hlB id).trans HBA.out
    clear hS b0 b1 b2 hlB HXD
    cases al with
    | false =>
      have HE : Hid (s.writeE br vol blk = 4) := by show _ = _; unfold TS.writeE; rw [if_neg HNE.out, if_pos HLE.out]
      go_wp2
      go_ret2
      obtain ⟨h1, h2, h3⟩ := HB.out 4 _ HE.out (by decide) HX4.out
      exact ⟨ret_two h1.symm h2.symm, h3⟩
    | true =>
      have HNL : Hid (¬ alive s.fs br = false) := by show ¬ _; rw [HLE.out]; simp
      have HL4 := Lib.hid (HL.out.ex0 HX4.out)
      go_wp2_with fail
      refine (rtake_any D s w4 HL4.out ht.1).mono ?_
      rintro e w5 ⟨rfl, hw5⟩
      by_cases hn : s.next = 0
      · rw [takeW_none hn] at hw5
        subst hw5
        have HE : Hid (s.writeE br vol blk = 14) := by show _ = _; unfold TS.writeE; rw [if_neg HNE.out, if_neg HNL.out, if_pos hn]
        rw [hn]
        go_wp2
        go_ret2
        obtain ⟨h1, h2, h3⟩ := HB.out 14 _ HE.out (by decide) HX4.out
        exact ⟨ret_two h1.symm h2.symm, h3⟩
      · rw [takeW_some hn] at hw5
        have HE : Hid (s.writeE br vol blk = 0) := by show _ = _; unfold TS.writeE; rw [if_neg HNE.out, if_neg HNL.out, if_neg hn]
        have hv : s.next = s.top + 1 := (next_pos hn).2
        have HAD := Lib.hid (add_tab HI.out hn)
        have hne : (s.top + 1 == 0) = false := by simp; omega
        have HL5 : Hid (RLstAt w5 D { s with top := s.top + 1 }) := by show RLstAt _ _ _; rw [hw5]; exact HL4.out.setC rfl rfl rfl rfl rfl rfl
        have HX5 : Hid (Ex (· = D.p) w4 w5) := by show Ex _ _ _; rw [hw5]; exact Ex.setCell w4 ⟨D.p, 3, none⟩ _
        have HPB : Hid (D.p < w.heap.size) := HL.out.lt
        have HB5 : Hid (w5.heap[w.heap.size]? = some (.cells C 63 (0, 0))) := (HX5.out.block _ (Array.getElem?_eq_some_iff.1 HB4.out).1 (by have := HPB.out; show ¬ w.heap.size = D.p; omega)).trans HB4.out
        rw [hv]
        clear hn hv hw5
        go_wp2_with fail
        obtain ⟨wB, hwB⟩ : ∃ wB, w5 = wB := ⟨_, rfl⟩
        rw [hwB] at HL5 HX5 HB5 ⊢
        clear hwB
        have hws : s.ws.length ≤ 900 := by have := congrArg List.length HI.out.ws; simp at this; omega
        have HY : Hid (Ex0 wB wB.drew) := Ex.drew _
        have KEEP : Hid (∀ w', Ex0 wB w' → w'.cell? ⟨D.p, 4, none⟩ = some (.slice D.LA s.ws.length D.cL) ∧ RowAt w' ⟨w.heap.size, 0, none⟩ [.int .i64 br, .int .i64 vol, .int .i64 blk] ∧ RowAt w' ⟨w.heap.size, 3, none⟩ (encN 32 d) ∧ D.p < w'.heap.size) := fun w' hx => by
          obtain ⟨h1, h2, _⟩ := HCC.out w' ((hx.block _ (Array.getElem?_eq_some_iff.1 HB5.out).1 id).trans HB5.out)
          exact ⟨(HL5.out.ex0 hx).cell rfl, h1, h2, (HL5.out.ex0 hx).lt⟩
        have hS := KEEP.out _ HY.out
        have HS1 : Hid (∀ w', Ex0 wB w' → Sl w' 36 D.LA s.ws.length (s.ws.flatMap Wr.cells)) := fun w' hx => HL5.out.ws.ex0 hx
        have HN1 : Hid (D.LA = none → D.cL = 0) := HL.out.cap0
        have ONE1 := Lib.hid (wrs_one s.ws)
        obtain ⟨i0, hi0, hz0, hz1, hz2⟩ := info_parts infoWt
        refine wp_region_head (fun w' : World => w'.cell? ⟨D.p, 4, none⟩ = some (.slice D.LA s.ws.length D.cL) ∧ RowAt w' ⟨w.heap.size, 0, none⟩ [.int .i64 br, .int .i64 vol, .int .i64 blk] ∧ RowAt w' ⟨w.heap.size, 3, none⟩ (encN 32 d) ∧ D.p < w'.heap.size) 15 (by kernel_rfl) (by decide) ?_
        simp only [List.length_cons, List.length_nil, List.drop_succ_cons, List.drop_zero]
        generalize wB.drew = wd at *
        refine' wpHead_do 0 rfl (by kernel_rfl) (fun _ _ _ _ h => h) (by rfl) (by assumption) ⟨_, fun w' hS => ?_, ?_⟩
        rotate_left
        · ((try dsimp only at hS); go_split_ands; go_simp; try (with_reducible rfl))
        simp only [Act.put, List.setIfInBounds_toArray, List.set_cons_zero, List.set_cons_succ]
        refine' wpHead_do 2 rfl (by kernel_rfl) (fun _ _ _ _ h => h) (by rfl) (by assumption) ⟨_, fun w' hS => ?_, ?_⟩
        rotate_left
        · ((try dsimp only at hS); go_split_ands; go_simp; try (with_reducible rfl))
        simp only [Act.put, List.setIfInBounds_toArray, List.set_cons_zero, List.set_cons_succ]
        refine' wpHead_do 3 rfl (by kernel_rfl) (fun _ _ _ _ h => h) (by rfl) (by assumption) ⟨_, fun w' hS => ?_, ?_⟩
        rotate_left
        · ((try dsimp only at hS); go_split_ands; go_simp; try (with_reducible rfl))
        simp only [Act.put, List.setIfInBounds_toArray, List.set_cons_zero, List.set_cons_succ]
        refine' wpHead_do 4 rfl (by kernel_rfl) (fun _ _ _ _ h => h) (by rfl) (by assumption) ⟨_, fun w' hS => ?_, ?_⟩
        rotate_left
        · ((try dsimp only at hS); go_split_ands; go_simp; try (with_reducible rfl))
        simp only [Act.put, List.setIfInBounds_toArray, List.set_cons_zero, List.set_cons_succ]
        refine' wpHead_do 5 rfl (by kernel_rfl) (fun _ _ _ _ h => h) (by rfl) (by assumption) ⟨_, fun w' hS => ?_, ?_⟩
        rotate_left
        · ((try dsimp only at hS); go_split_ands; go_simp; try (with_reducible rfl))
        simp only [Act.put, List.setIfInBounds_toArray, List.set_cons_zero, List.set_cons_succ]
        refine' wpHead_do 7 rfl (by kernel_rfl) (fun _ _ _ _ h => h) (by rfl) (by assumption) ⟨_, fun w' hS => ?_, ?_⟩
        rotate_left
        · ((try dsimp only at hS); go_split_ands; go_simp; try (with_reducible rfl))
        simp only [Act.put, List.setIfInBounds_toArray, List.set_cons_zero, List.set_cons_succ]
        refine' wpHead_do 8 rfl (by kernel_rfl) (fun _ _ _ _ h => h) (by rfl) (by assumption) ⟨_, fun w' hS => ?_, ?_⟩
        rotate_left
        · ((try dsimp only at hS); go_split_ands; go_simp; try (with_reducible rfl))
        simp only [Act.put, List.setIfInBounds_toArray, List.set_cons_zero, List.set_cons_succ]
        refine' wpHead_do 9 rfl (by kernel_rfl) (fun _ _ _ _ h => h) (by rfl) (by assumption) ⟨_, fun w' hS => exec_load_at 59 (.tmp 50) rfl ⟨w.heap.size, 0, none⟩ rfl _ _ hS.2.1 Tryz.underlying59 rfl (by kernel_rfl), ?_⟩
        simp only [Act.put, List.setIfInBounds_toArray, List.set_cons_zero, List.set_cons_succ]
        refine' wpHead_do 10 rfl (by kernel_rfl) (fun _ _ _ _ h => h) (by rfl) (by assumption) ⟨_, fun w' hS => ?_, ?_⟩
        rotate_left
        · ((try dsimp only at hS); go_split_ands; go_simp; try (with_reducible rfl))
        simp only [Act.put, List.setIfInBounds_toArray, List.set_cons_zero, List.set_cons_succ]
        refine' wpHead_do 11 rfl (by kernel_rfl) (fun _ _ _ _ h => h) (by rfl) (by assumption) ⟨_, fun w' hS => exec_load_at 49 (.tmp 52) rfl ⟨w.heap.size, 3, none⟩ rfl _ _ hS.2.2.1 Tryz.underlying49 rfl (by rw [encN_len]; kernel_rfl), ?_⟩
        simp only [Act.put, List.setIfInBounds_toArray, List.set_cons_zero, List.set_cons_succ]
        obtain ⟨DA, hDA⟩ : ∃ DA, (encN 32 d).toArray = DA := ⟨_, rfl⟩
        have hDl : DA.size = 32 := by rw [← hDA, List.size_toArray, encN_len]
        rw [hDA]
        refine' wpHead_do 12 rfl (by kernel_rfl) (fun _ _ _ _ h => h) (by rfl) (by assumption) ⟨_, fun w' hS => ?_, ?_⟩
        rotate_left
        · go_simp
          rw [wr_fold _ _ _ _ DA hDl]
        simp only [Act.put, List.setIfInBounds_toArray, List.set_cons_zero, List.set_cons_succ]
        obtain ⟨WA, hWA⟩ : ∃ WA, ([Value.int .u64 (s.top + 1), .int .i64 br, .int .i64 vol, .int .i64 blk] ++ DA.toList).toArray = WA := ⟨_, rfl⟩
        have hWl : WA.toList = (Wr.mk (s.top + 1) br vol blk d).cells := by rw [← hWA, ← hDA, wr_cells]
        have hWs : WA.size = 36 := by rw [← Array.length_toList, hWl, Wr.length]
        have HWL := Lib.hid hWl
        have HWO : Hid (∀ u ∈ WA.toList, u.oneCell' = true) := by show ∀ u ∈ _, _; rw [hWl]; exact wr_one _
        rw [hWA]
        clear hWA hDA hWl
        refine wpHead_two 1 13 rfl rfl (by kernel_rfl) (by rfl) (by rfl) (fun K hK => ?_) (fun K hK => ?_)
        · have HKK := Lib.hid hK
          clear hK
          refine wp_buildSlice_none 41 90 rfl i0 _ Tryz.underlying41 hi0 hz0 ?_
          obtain ⟨wa, hw⟩ : ∃ x, x = World.alloc wd (.cells #[] 90) := ⟨_, rfl⟩
          rw [← hw]
          obtain ⟨b0, hb0⟩ : ∃ x, x = wd.heap.size := ⟨_, rfl⟩
          rw [← hb0]
          have hx : Ex0 wd wa := by rw [hw]; exact Ex.alloc _ _
          have HO0 : Hid (wa.ownsRow wB.heap.size 90 36 (.slice (some ⟨b0, 0, none⟩) 0 0) 0 []) := by rw [hw, hb0]; exact own_empty (heap_alloc_new _ _) _ HY.out.size
          have HZ0 : Hid (b0 = wd.heap.size ∧ wa.heap.size = wd.heap.size + 1) := ⟨hb0, by rw [hw]; simp⟩
          have HY := Lib.hid (HY.out.trans0 hx)
          replace hS := KEEP.out _ HY.out
          clear hw hx hb0
          refine HKK.out _ _ hS ?_
          clear HKK K
          (try simp only [Act.put, List.setIfInBounds_toArray, List.set_cons_zero, List.set_cons_succ])
          refine wpHead_two 6 13 rfl rfl (by kernel_rfl) (by rfl) (by rfl) (fun K hK => ?_) (fun K hK => ?_)
          · have HKK := Lib.hid hK
            clear hK
            refine wp_append_sl (.tmp 43) (.tmp 47) 41 rfl wB.heap.size 90 i0 _ 36 64 Tryz.underlying41 hi0 hz0 hz1 hz2 rfl (by decide) (.slice (some ⟨b0, 0, none⟩) 0 0) 0 [] rfl HO0.out D.LA s.ws.length D.cL (s.ws.flatMap Wr.cells) rfl (HS1.out _ HY.out) HN1.out ONE1.out (by unfold maxLen; omega) (by omega) HY.out.size ?_
            intro v1 wb ho1 hg1 hv1
            rw [Nat.zero_add, List.nil_append] at ho1
            have HO1 := Lib.hid ho1
            have HY := Lib.hid (ex_of_new HY.out hg1 (fun b hb => (HO0.out.lt b hb).1))
            replace hS := KEEP.out _ HY.out
            clear ho1 hg1 hv1
            refine HKK.out _ _ hS ?_
            clear HKK K
            (try simp only [Act.put, List.setIfInBounds_toArray, List.set_cons_zero, List.set_cons_succ])
            refine wpHead_eff 13 rfl (by kernel_rfl) (by rfl) (fun K hK => ?_)
            have HKK := Lib.hid hK
            clear hK
            refine wp_buildSlice_all 41 90 1 _ rfl [Value.agg WA] i0 _ 36 Tryz.underlying41 hi0 hz0 hz1 (by decide) (by decide) rfl (by decide) rfl (by intro v hv; rw [List.mem_singleton.1 hv]; exact hWs) ?_
            obtain ⟨wc, hw⟩ : ∃ x, x = World.alloc wb (.cells ([Value.agg WA].flatMap fun v => v.cells.toList).toArray 90) := ⟨_, rfl⟩
            rw [← hw]
            obtain ⟨b1, hb1⟩ : ∃ x, x = wb.heap.size := ⟨_, rfl⟩
            rw [← hb1]
            have hx : Ex0 wb wc := by rw [hw]; exact Ex.alloc _ _
            have H1 : Hid (wc.heap[b1]? = some (.cells WA 90 (0, 0))) := by rw [hw, hb1]; show _ = _; rw [heap_alloc_new]; simp [Value.cells]
            have HZ1 : Hid (b1 = wb.heap.size ∧ wc.heap.size = wb.heap.size + 1) := ⟨hb1, by rw [hw]; simp⟩
            have HNV : Hid (v1.ownBlock ≠ some b1) := by intro h; have h1 := (HO1.out.lt _ h).2; have h2 := HZ1.out.1; omega
            have HO1 := Lib.hid (own_ex HO1.out hx (fun _ _ h => h))
            have HY := Lib.hid (HY.out.trans0 hx)
            replace hS := KEEP.out _ HY.out
            clear hw hx hb1
            refine HKK.out _ _ hS ?_
            clear HKK K
            (try simp only [Act.put, List.setIfInBounds_toArray, List.set_cons_zero, List.set_cons_succ])
            refine wpHead_eff 14 rfl (by kernel_rfl) (by rfl) (fun K hK => ?_)
            have HKK := Lib.hid hK
            clear hK
            refine wp_append_sl (.tmp 48) (.tmp 55) 41 rfl wB.heap.size 90 i0 _ 36 64 Tryz.underlying41 hi0 hz0 hz1 hz2 rfl (by decide) v1 s.ws.length (s.ws.flatMap Wr.cells) rfl HO1.out (some ⟨b1, 0, none⟩) 1 1 WA.toList rfl (sl_block H1.out hWs (by decide)) (fun h => by cases h) HWO.out (by unfold maxLen; omega) (by omega) HY.out.size ?_
            intro v2 we ho2 hg2 hv2
            have HO2 := Lib.hid ho2
            have HY := Lib.hid (ex_of_new HY.out hg2 (fun b hb => (HO1.out.lt b hb).1))
            replace hS := KEEP.out _ HY.out
            clear ho2 hg2 hv2
            refine HKK.out _ _ hS ?_
            clear HKK K
            (try simp only [Act.put, List.setIfInBounds_toArray, List.set_cons_zero, List.set_cons_succ])
            rw [HWL.out] at HO2
            obtain ⟨A2, c2, rfl, hsl2, hob2, hc2⟩ := own_sl' HO2.out
            have HLe := Lib.hid (HL5.out.ex0 HY.out)
            have hcat : s.ws.flatMap Wr.cells ++ (Wr.mk (s.top + 1) br vol blk d).cells = (s.ws ++ [(⟨s.top + 1, br, vol, blk, d⟩ : Wr)]).flatMap Wr.cells := by simp
            have hl1 : s.ws.length + 1 = (s.ws ++ [(⟨s.top + 1, br, vol, blk, d⟩ : Wr)]).length := by simp
            rw [hcat] at hsl2
            have hap2 : ∀ b, Bl A2 b → wB.heap.size ≤ b ∧ b < we.heap.size := fun b hb => HO2.out.lt b (hob2.trans hb)
            have HAP2 := Lib.hid hap2
            have hle := HLe.out.lt
            have f4 := HLe.out.frozen 4
            have k4 : we.cell? ⟨D.p, 4, none⟩ = some (.slice D.LA s.ws.length D.cL) := HLe.out.cell rfl
            have HL6 : Hid (RLstAt (we.setCell ⟨D.p, 4, none⟩ (.slice A2 (s.ws.length + 1) c2)) { D with LA := A2, cL := c2 } { s with top := s.top + 1, ws := s.ws ++ [⟨s.top + 1, br, vol, blk, d⟩] }) := by
              show RLstAt _ _ _
              rw [hl1] at hsl2 ⊢
              exact HLe.out.setW hsl2 (fun b hb => ⟨fun hm => by have := HL5.out.mlt b hm; have := (hap2 b hb).1; omega, (hap2 b hb).2⟩) hc2
            have hx6 := Ex.setCell we ⟨D.p, 4, none⟩ (.slice A2 (s.ws.length + 1) c2)
            obtain ⟨w6, hw6⟩ : ∃ w6, we.setCell ⟨D.p, 4, none⟩ (.slice A2 (s.ws.length + 1) c2) = w6 := ⟨_, rfl⟩
            have HW6 := Lib.hid hw6
            rw [hw6] at HL6 hx6
            have HX6 := Lib.hid hx6
            clear hcat hl1 hsl2 hob2 hc2 hap2 hS hx6 hw6 HO2 HO1
            refine wpHead_tail (by kernel_rfl) ?_
            go_wp2_with fail
            rw [HW6.out]
            clear hle f4 k4 hlp
            have hS : (fun w' : World => w'.cell? ⟨D.p, 5, none⟩ = some (.pointer (some ⟨D.P.pt, 0, none⟩)) ∧ w'.cell? ⟨D.p, 2, none⟩ = some (.int .i64 s.now) ∧ D.p < w'.heap.size) w6.drew := ⟨(HL6.out.ex0 (Ex.drew _)).cell rfl, (HL6.out.ex0 (Ex.drew _)).cell rfl, (HL6.out.ex0 (Ex.drew _)).lt⟩
            have HXD : Hid (Ex0 w6 w6.drew) := Ex.drew w6
            refine wp_region_takes (fun w' : World => w'.cell? ⟨D.p, 5, none⟩ = some (.pointer (some ⟨D.P.pt, 0, none⟩)) ∧ w'.cell? ⟨D.p, 2, none⟩ = some (.int .i64 s.now) ∧ D.p < w'.heap.size) (by kernel_rfl) ?_
            simp only [List.length_cons, List.length_nil]
            generalize w6.drew = wf at *
            refine' wpAnyH_do 0 rfl (by kernel_rfl) (fun _ _ _ _ h => h) (by rfl) (by assumption) ⟨_, fun w' hS => ?_, ?_⟩
            rotate_left
            · ((try dsimp only at hS); go_split_ands; go_simp; try (with_reducible rfl))
            simp only [Act.put, List.setIfInBounds_toArray, List.set_cons_zero, List.set_cons_succ]
            refine' wpAnyH_do 1 rfl (by kernel_rfl) (fun _ _ _ _ h => h) (by rfl) (by assumption) ⟨_, fun w' hS => ?_, ?_⟩
            rotate_left
            · ((try dsimp only at hS); go_split_ands; go_simp; try (with_reducible rfl))
            simp only [Act.put, List.setIfInBounds_toArray, List.set_cons_zero, List.set_cons_succ]
            refine' wpAnyH_do 2 rfl (by kernel_rfl) (fun _ _ _ _ h => h) (by rfl) (by assumption) ⟨_, fun w' hS => ?_, ?_⟩
            rotate_left
            · ((try dsimp only at hS); go_split_ands; go_simp; try (with_reducible rfl))
            simp only [Act.put, List.setIfInBounds_toArray, List.set_cons_zero, List.set_cons_succ]
            refine' wpAnyH_do 3 rfl (by kernel_rfl) (fun _ _ _ _ h => h) (by rfl) (by assumption) ⟨_, fun w' hS => ?_, ?_⟩
            rotate_left
            · ((try dsimp only at hS); go_split_ands; go_simp; try (with_reducible rfl))
            simp only [Act.put, List.setIfInBounds_toArray, List.set_cons_zero, List.set_cons_succ]
            refine' wpAnyH_do 4 rfl (by kernel_rfl) (fun _ _ _ _ h => h) (by rfl) (by assumption) ⟨_, fun w' hS => ?_, ?_⟩
            rotate_left
            · ((try dsimp only at hS); go_split_ands; go_simp; try (with_reducible rfl))
            simp only [Act.put, List.setIfInBounds_toArray, List.set_cons_zero, List.set_cons_succ]
            refine' wpAnyH_do 5 rfl (by kernel_rfl) (fun _ _ _ _ h => h) (by rfl) (by assumption) ⟨_, fun w' hS => ?_, ?_⟩
            rotate_left
            · ((try dsimp only at hS); go_split_ands; go_simp; try (with_reducible rfl))
            simp only [Act.put, List.setIfInBounds_toArray, List.set_cons_zero, List.set_cons_succ]
            refine' wpAnyH_do 6 rfl (by kernel_rfl) (fun _ _ _ _ h => h) (by rfl) (by assumption) ⟨_, fun w' hS => ?_, ?_⟩
            rotate_left
            · ((try dsimp only at hS); go_split_ands; go_simp; try (with_reducible rfl))
            simp only [Act.put, List.setIfInBounds_toArray, List.set_cons_zero, List.set_cons_succ]
            refine' wpAnyH_do 7 rfl (by kernel_rfl) (fun _ _ _ _ h => h) (by rfl) (by assumption) ⟨_, fun w' hS => ?_, ?_⟩
            rotate_left
            · ((try dsimp only at hS); go_split_ands; go_simp; try (with_reducible rfl))
            simp only [Act.put, List.setIfInBounds_toArray, List.set_cons_zero, List.set_cons_succ]
            refine' wpAnyH_do 8 rfl (by kernel_rfl) (fun _ _ _ _ h => h) (by rfl) (by assumption) ⟨_, fun w' hS => ?_, ?_⟩
            rotate_left
            · ((try dsimp only at hS); go_split_ands; go_simp; try (with_reducible rfl))
            simp only [Act.put, List.setIfInBounds_toArray, List.set_cons_zero, List.set_cons_succ]
            refine' wpAnyH_do 9 rfl (by kernel_rfl) (fun _ _ _ _ h => h) (by rfl) (by assumption) ⟨_, fun w' hS => ?_, ?_⟩
            rotate_left
            · ((try dsimp only at hS); go_split_ands; go_simp; try (with_reducible rfl))
            simp only [Act.put, List.setIfInBounds_toArray, List.set_cons_zero, List.set_cons_succ]
            refine wpAnyH_eff 10 rfl (by kernel_rfl) (by rfl) (fun K hK => ?_)
            have HKK := Lib.hid hK
            clear hK
            go_simp
            have HTA := Lib.hid (Mo.radd_any D.P.pt D.P.d s.tab (s.top + 1) s.now wf (HL6.out.ex0 HXD.out).law.tab HI.out.tab hlen)
            rw [HAD.out.1, HAD.out.2] at HTA
            refine HTA.out.mono ?_
            rintro e w7 ⟨d7, rfl, hd7, hb7, hx7⟩
            have HL7 := Lib.hid ((HL6.out.ex0 HXD.out).table hd7 hx7 hb7)
            have HX7 := Lib.hid hx7
            have HB7 := Lib.hid hb7
            have hS7 : (fun w' : World => w'.cell? ⟨D.p, 5, none⟩ = some (.pointer (some ⟨D.P.pt, 0, none⟩)) ∧ w'.cell? ⟨D.p, 2, none⟩ = some (.int .i64 s.now) ∧ D.p < w'.heap.size) w7 := ⟨HL7.out.cell rfl, HL7.out.cell rfl, HL7.out.lt⟩
            clear hS hd7 hb7 hx7 HTA
            dsimp only
            refine HKK.out _ _ hS7 ?_
            clear HKK K
            (try simp only [Act.put, List.setIfInBounds_toArray, List.set_cons_zero, List.set_cons_succ])
            refine wpAnyH_done (by kernel_rfl) ?_ _
            clear hS7
            have HN : Hid (s.writeN br vol blk = s.top + 1) := by show _ = _; unfold TS.writeN; rw [HE.out, if_pos rfl]
            have HST : Hid (s.write br vol blk d = { s with top := s.top + 1, ws := s.ws ++ [⟨s.top + 1, br, vol, blk, d⟩], tab := s.tab ++ [⟨s.top + 1, s.now, false⟩] }) := by show _ = _; unfold TS.write; rw [HE.out, if_pos rfl]
            go_wp2
            go_ret2
            refine ⟨ret_two HN.out.symm HE.out.symm, ?_⟩
            rw [HST.out]
            have z1 : w.heap.size ≤ wB.heap.size := Nat.le_trans HX4.out.size HX5.out.size
            have z2 : wB.heap.size ≤ wf.heap.size := Nat.le_trans HY.out.size (Nat.le_trans HX6.out.size HXD.out.size)
            refine ⟨{ D with LA := A2, cL := c2, P := { D.P with d := d7 } }, rfl, HL7.out, ?_, fun b hb => ?_, rfl, rfl⟩
            · exact ((((HX4.out.to (fun _ _ h => h.elim)).trans HX5.out (U := D.M) (fun _ _ h => h) (fun _ _ h => .inl h)).trans0 HY.out).trans HX6.out (U := D.M) (fun _ _ h => h) (fun _ _ h => .inl h)).trans (HXD.out.trans HX7.out (U := D.M) (fun _ _ h => h.elim) (fun _ _ h => .inr (.inl h))) (fun _ _ h => h) (fun _ _ h => h)
            · rcases hb with hb | hb | hb | hb | hb
              · exact .inl (.inl hb)
              · exact .inr (by have := (HAP2.out b hb).1; omega)
              · exact (HB7.out b hb).imp (fun h => .inr (.inr (.inl h))) (fun h => by omega)
              · exact .inl (.inr (.inr (.inr (.inl hb))))
              · exact .inl (.inr (.inr (.inr (.inr hb))))
          · have HKK := Lib.hid hK
            clear hK
            refine wp_buildSlice_all 41 90 1 _ rfl [Value.agg WA] i0 _ 36 Tryz.underlying41 hi0 hz0 hz1 (by decide) (by decide) rfl (by decide) rfl (by intro v hv; rw [List.mem_singleton.1 hv]; exact hWs) ?_
            obtain ⟨wb, hw⟩ : ∃ x, x = World.alloc wa (.cells ([Value.agg WA].flatMap fun v => v.cells.toList).toArray 90) := ⟨_, rfl⟩
            rw [← hw]
            obtain ⟨b1, hb1⟩ : ∃ x, x = wa.heap.size := ⟨_, rfl⟩
            rw [← hb1]
            have hx : Ex0 wa wb := by rw [hw]; exact Ex.alloc _ _
            have H1 : Hid (wb.heap[b1]? = some (.cells WA 90 (0, 0))) := by rw [hw, hb1]; show _ = _; rw [heap_alloc_new]; simp [Value.cells]
            have HZ1 : Hid (b1 = wa.heap.size ∧ wb.heap.size = wa.heap.size + 1) := ⟨hb1, by rw [hw]; simp⟩
            have HO0 := Lib.hid (own_ex HO0.out hx (fun _ _ h => h))
            have HNE : Hid (b0 ≠ b1) := by have h1 := HZ0.out.1; have h2 := HZ0.out.2; have h3 := HZ1.out.1; show _ ≠ _; omega
            have HY := Lib.hid (HY.out.trans0 hx)
            replace hS := KEEP.out _ HY.out
            clear hw hx hb1
            refine HKK.out _ _ hS ?_
            clear HKK K
            (try simp only [Act.put, List.setIfInBounds_toArray, List.set_cons_zero, List.set_cons_succ])
            refine wpHead_eff 6 rfl (by kernel_rfl) (by rfl) (fun K hK => ?_)
            have HKK := Lib.hid hK
            clear hK
            refine wp_append_sl (.tmp 43) (.tmp 47) 41 rfl wB.heap.size 90 i0 _ 36 64 Tryz.underlying41 hi0 hz0 hz1 hz2 rfl (by decide) (.slice (some ⟨b0, 0, none⟩) 0 0) 0 [] rfl HO0.out D.LA s.ws.length D.cL (s.ws.flatMap Wr.cells) rfl (HS1.out _ HY.out) HN1.out ONE1.out (by unfold maxLen; omega) (by omega) HY.out.size ?_
            intro v1 wc ho1 hg1 hv1
            rw [Nat.zero_add, List.nil_append] at ho1
            have HO1 := Lib.hid ho1
            have HNV : Hid (v1.ownBlock ≠ some b1) := own_ne hv1 rfl HNE.out (Array.getElem?_eq_some_iff.1 H1.out).1
            have H1 := Lib.hid (((Ex.ofGrown hg1).block _ (Array.getElem?_eq_some_iff.1 H1.out).1 (by intro h; injection h with h; exact HNE.out h)).trans H1.out)
            have HY := Lib.hid (ex_of_new HY.out hg1 (fun b hb => (HO0.out.lt b hb).1))
            replace hS := KEEP.out _ HY.out
            clear ho1 hg1 hv1
            refine HKK.out _ _ hS ?_
            clear HKK K
            (try simp only [Act.put, List.setIfInBounds_toArray, List.set_cons_zero, List.set_cons_succ])
            refine wpHead_eff 14 rfl (by kernel_rfl) (by rfl) (fun K hK => ?_)
            have HKK := Lib.hid hK
            clear hK
            refine wp_append_sl (.tmp 48) (.tmp 55) 41 rfl wB.heap.size 90 i0 _ 36 64 Tryz.underlying41 hi0 hz0 hz1 hz2 rfl (by decide) v1 s.ws.length (s.ws.flatMap Wr.cells) rfl HO1.out (some ⟨b1, 0, none⟩) 1 1 WA.toList rfl (sl_block H1.out hWs (by decide)) (fun h => by cases h) HWO.out (by unfold maxLen; omega) (by omega) HY.out.size ?_
            intro v2 we ho2 hg2 hv2
            have HO2 := Lib.hid ho2
            have HY := Lib.hid (ex_of_new HY.out hg2 (fun b hb => (HO1.out.lt b hb).1))
            replace hS := KEEP.out _ HY.out
            clear ho2 hg2 hv2
            refine HKK.out _ _ hS ?_
            clear HKK K
            (try simp only [Act.put, List.setIfInBounds_toArray, List.set_cons_zero, List.set_cons_succ])
            rw [HWL.out] at HO2
            obtain ⟨A2, c2, rfl, hsl2, hob2, hc2⟩ := own_sl' HO2.out
            have HLe := Lib.hid (HL5.out.ex0 HY.out)
            have hcat : s.ws.flatMap Wr.cells ++ (Wr.mk (s.top + 1) br vol blk d).cells = (s.ws ++ [(⟨s.top + 1, br, vol, blk, d⟩ : Wr)]).flatMap Wr.cells := by simp
            have hl1 : s.ws.length + 1 = (s.ws ++ [(⟨s.top + 1, br, vol, blk, d⟩ : Wr)]).length := by simp
            rw [hcat] at hsl2
            have hap2 : ∀ b, Bl A2 b → wB.heap.size ≤ b ∧ b < we.heap.size := fun b hb => HO2.out.lt b (hob2.trans hb)
            have HAP2 := Lib.hid hap2
            have hle := HLe.out.lt
            have f4 := HLe.out.frozen 4
            have k4 : we.cell? ⟨D.p, 4, none⟩ = some (.slice D.LA s.ws.length D.cL) := HLe.out.cell rfl
            have HL6 : Hid (RLstAt (we.setCell ⟨D.p, 4, none⟩ (.slice A2 (s.ws.length + 1) c2)) { D with LA := A2, cL := c2 } { s with top := s.top + 1, ws := s.ws ++ [⟨s.top + 1, br, vol, blk, d⟩] }) := by
              show RLstAt _ _ _
              rw [hl1] at hsl2 ⊢
              exact HLe.out.setW hsl2 (fun b hb => ⟨fun hm => by have := HL5.out.mlt b hm; have := (hap2 b hb).1; omega, (hap2 b hb).2⟩) hc2
            have hx6 := Ex.setCell we ⟨D.p, 4, none⟩ (.slice A2 (s.ws.length + 1) c2)
            obtain ⟨w6, hw6⟩ : ∃ w6, we.setCell ⟨D.p, 4, none⟩ (.slice A2 (s.ws.length + 1) c2) = w6 := ⟨_, rfl⟩
            have HW6 := Lib.hid hw6
            rw [hw6] at HL6 hx6
            have HX6 := Lib.hid hx6
            clear hcat hl1 hsl2 hob2 hc2 hap2 hS hx6 hw6 HO2 HO1
            refine wpHead_tail (by kernel_rfl) ?_
            go_wp2_with fail
            rw [HW6.out]
            clear hle f4 k4 hlp
            have hS : (fun w' : World => w'.cell? ⟨D.p, 5, none⟩ = some (.pointer (some ⟨D.P.pt, 0, none⟩)) ∧ w'.cell? ⟨D.p, 2, none⟩ = some (.int .i64 s.now) ∧ D.p < w'.heap.size) w6.drew := ⟨(HL6.out.ex0 (Ex.drew _)).cell rfl, (HL6.out.ex0 (Ex.drew _)).cell rfl, (HL6.out.ex0 (Ex.drew _)).lt⟩
            have HXD : Hid (Ex0 w6 w6.drew) := Ex.drew w6
            refine wp_region_takes (fun w' : World => w'.cell? ⟨D.p, 5, none⟩ = some (.pointer (some ⟨D.P.pt, 0, none⟩)) ∧ w'.cell? ⟨D.p, 2, none⟩ = some (.int .i64 s.now) ∧ D.p < w'.heap.size) (by kernel_rfl) ?_
            simp only [List.length_cons, List.length_nil]
            generalize w6.drew = wf at *
            refine' wpAnyH_do 0 rfl (by kernel_rfl) (fun _ _ _ _ h => h) (by rfl) (by assumption) ⟨_, fun w' hS => ?_, ?_⟩
            rotate_left
            · ((try dsimp only at hS); go_split_ands; go_simp; try (with_reducible rfl))
            simp only [Act.put, List.setIfInBounds_toArray, List.set_cons_zero, List.set_cons_succ]
            refine' wpAnyH_do 1 rfl (by kernel_rfl) (fun _ _ _ _ h => h) (by rfl) (by assumption) ⟨_, fun w' hS => ?_, ?_⟩
            rotate_left
            · ((try dsimp only at hS); go_split_ands; go_simp; try (with_reducible rfl))
            simp only [Act.put, List.setIfInBounds_toArray, List.set_cons_zero, List.set_cons_succ]
            refine' wpAnyH_do 2 rfl (by kernel_rfl) (fun _ _ _ _ h => h) (by rfl) (by assumption) ⟨_, fun w' hS => ?_, ?_⟩
            rotate_left
            · ((try dsimp only at hS); go_split_ands; go_simp; try (with_reducible rfl))
            simp only [Act.put, List.setIfInBounds_toArray, List.set_cons_zero, List.set_cons_succ]
            refine' wpAnyH_do 3 rfl (by kernel_rfl) (fun _ _ _ _ h => h) (by rfl) (by assumption) ⟨_, fun w' hS => ?_, ?_⟩
            rotate_left
            · ((try dsimp only at hS); go_split_ands; go_simp; try (with_reducible rfl))
            simp only [Act.put, List.setIfInBounds_toArray, List.set_cons_zero, List.set_cons_succ]
            refine' wpAnyH_do 4 rfl (by kernel_rfl) (fun _ _ _ _ h => h) (by rfl) (by assumption) ⟨_, fun w' hS => ?_, ?_⟩
            rotate_left
            · ((try dsimp only at hS); go_split_ands; go_simp; try (with_reducible rfl))
            simp only [Act.put, List.setIfInBounds_toArray, List.set_cons_zero, List.set_cons_succ]
            refine' wpAnyH_do 5 rfl (by kernel_rfl) (fun _ _ _ _ h => h) (by rfl) (by assumption) ⟨_, fun w' hS => ?_, ?_⟩
            rotate_left
            · ((try dsimp only at hS); go_split_ands; go_simp; try (with_reducible rfl))
            simp only [Act.put, List.setIfInBounds_toArray, List.set_cons_zero, List.set_cons_succ]
            refine' wpAnyH_do 6 rfl (by kernel_rfl) (fun _ _ _ _ h => h) (by rfl) (by assumption) ⟨_, fun w' hS => ?_, ?_⟩
            rotate_left
            · ((try dsimp only at hS); go_split_ands; go_simp; try (with_reducible rfl))
            simp only [Act.put, List.setIfInBounds_toArray, List.set_cons_zero, List.set_cons_succ]
            refine' wpAnyH_do 7 rfl (by kernel_rfl) (fun _ _ _ _ h => h) (by rfl) (by assumption) ⟨_, fun w' hS => ?_, ?_⟩
            rotate_left
            · ((try dsimp only at hS); go_split_ands; go_simp; try (with_reducible rfl))
            simp only [Act.put, List.setIfInBounds_toArray, List.set_cons_zero, List.set_cons_succ]
            refine' wpAnyH_do 8 rfl (by kernel_rfl) (fun _ _ _ _ h => h) (by rfl) (by assumption) ⟨_, fun w' hS => ?_, ?_⟩
            rotate_left
            · ((try dsimp only at hS); go_split_ands; go_simp; try (with_reducible rfl))
            simp only [Act.put, List.setIfInBounds_toArray, List.set_cons_zero, List.set_cons_succ]
            refine' wpAnyH_do 9 rfl (by kernel_rfl) (fun _ _ _ _ h => h) (by rfl) (by assumption) ⟨_, fun w' hS => ?_, ?_⟩
            rotate_left
            · ((try dsimp only at hS); go_split_ands; go_simp; try (with_reducible rfl))
            simp only [Act.put, List.setIfInBounds_toArray, List.set_cons_zero, List.set_cons_succ]
            refine wpAnyH_eff 10 rfl (by kernel_rfl) (by rfl) (fun K hK => ?_)
            have HKK := Lib.hid hK
            clear hK
            go_simp
            have HTA := Lib.hid (Mo.radd_any D.P.pt D.P.d s.tab (s.top + 1) s.now wf (HL6.out.ex0 HXD.out).law.tab HI.out.tab hlen)
            rw [HAD.out.1, HAD.out.2] at HTA
            refine HTA.out.mono ?_
            rintro e w7 ⟨d7, rfl, hd7, hb7, hx7⟩
            have HL7 := Lib.hid ((HL6.out.ex0 HXD.out).table hd7 hx7 hb7)
            have HX7 := Lib.hid hx7
            have HB7 := Lib.hid hb7
            have hS7 : (fun w' : World => w'.cell? ⟨D.p, 5, none⟩ = some (.pointer (some ⟨D.P.pt, 0, none⟩)) ∧ w'.cell? ⟨D.p, 2, none⟩ = some (.int .i64 s.now) ∧ D.p < w'.heap.size) w7 := ⟨HL7.out.cell rfl, HL7.out.cell rfl, HL7.out.lt⟩
            clear hS hd7 hb7 hx7 HTA
            dsimp only
            refine HKK.out _ _ hS7 ?_
            clear HKK K
            (try simp only [Act.put, List.setIfInBounds_toArray, List.set_cons_zero, List.set_cons_succ])
            refine wpAnyH_done (by kernel_rfl) ?_ _
            clear hS7
            have HN : Hid (s.writeN br vol blk = s.top + 1) := by show _ = _; unfold TS.writeN; rw [HE.out, if_pos rfl]
            have HST : Hid (s.write br vol blk d = { s with top := s.top + 1, ws := s.ws ++ [⟨s.top + 1, br, vol, blk, d⟩], tab := s.tab ++ [⟨s.top + 1, s.now, false⟩] }) := by show _ = _; unfold TS.write; rw [HE.out, if_pos rfl]
            go_wp2
            go_ret2
            refine ⟨ret_two HN.out.symm HE.out.symm, ?_⟩
            rw [HST.out]
            have z1 : w.heap.size ≤ wB.heap.size := Nat.le_trans HX4.out.size HX5.out.size
            have z2 : wB.heap.size ≤ wf.heap.size := Nat.le_trans HY.out.size (Nat.le_trans HX6.out.size HXD.out.size)
            refine ⟨{ D with LA := A2, cL := c2, P := { D.P with d := d7 } }, rfl, HL7.out, ?_, fun b hb => ?_, rfl, rfl⟩
            · exact ((((HX4.out.to (fun _ _ h => h.elim)).trans HX5.out (U := D.M) (fun _ _ h => h) (fun _ _ h => .inl h)).trans0 HY.out).trans HX6.out (U := D.M) (fun _ _ h => h) (fun _ _ h => .inl h)).trans (HXD.out.trans HX7.out (U := D.M) (fun _ _ h => h.elim) (fun _ _ h => .inr (.inl h))) (fun _ _ h => h) (fun _ _ h => h)
            · rcases hb with hb | hb | hb | hb | hb
              · exact .inl (.inl hb)
              · exact .inr (by have := (HAP2.out b hb).1; omega)
              · exact (HB7.out b hb).imp (fun h => .inr (.inr (.inl h))) (fun h => by omega)
              · exact .inl (.inr (.inr (.inr (.inl hb))))
              · exact .inl (.inr (.inr (.inr (.inr hb))))
        · have HKK := Lib.hid hK
          clear hK
          refine wp_buildSlice_all 41 90 1 _ rfl [Value.agg WA] i0 _ 36 Tryz.underlying41 hi0 hz0 hz1 (by decide) (by decide) rfl (by decide) rfl (by intro v hv; rw [List.mem_singleton.1 hv]; exact hWs) ?_
          obtain ⟨wa, hw⟩ : ∃ x, x = World.alloc wd (.cells ([Value.agg WA].flatMap fun v => v.cells.toList).toArray 90) := ⟨_, rfl⟩
          rw [← hw]
          obtain ⟨b1, hb1⟩ : ∃ x, x = wd.heap.size := ⟨_, rfl⟩
          rw [← hb1]
          have hx : Ex0 wd wa := by rw [hw]; exact Ex.alloc _ _
          have H1 : Hid (wa.heap[b1]? = some (.cells WA 90 (0, 0))) := by rw [hw, hb1]; show _ = _; rw [heap_alloc_new]; simp [Value.cells]
          have HZ1 : Hid (b1 = wd.heap.size ∧ wa.heap.size = wd.heap.size + 1) := ⟨hb1, by rw [hw]; simp⟩
          have HY := Lib.hid (HY.out.trans0 hx)
          replace hS := KEEP.out _ HY.out
          clear hw hx hb1
          refine HKK.out _ _ hS ?_
          clear HKK K
          (try simp only [Act.put, List.setIfInBounds_toArray, List.set_cons_zero, List.set_cons_succ])
          refine wpHead_eff 1 rfl (by kernel_rfl) (by rfl) (fun K hK => ?_)
          have HKK := Lib.hid hK
          clear hK
          refine wp_buildSlice_none 41 90 rfl i0 _ Tryz.underlying41 hi0 hz0 ?_
          obtain ⟨wb, hw⟩ : ∃ x, x = World.alloc wa (.cells #[] 90) := ⟨_, rfl⟩
          rw [← hw]
          obtain ⟨b0, hb0⟩ : ∃ x, x = wa.heap.size := ⟨_, rfl⟩
          rw [← hb0]
          have hx : Ex0 wa wb := by rw [hw]; exact Ex.alloc _ _
          have HO0 : Hid (wb.ownsRow wB.heap.size 90 36 (.slice (some ⟨b0, 0, none⟩) 0 0) 0 []) := by rw [hw, hb0]; exact own_empty (heap_alloc_new _ _) _ HY.out.size
          have HZ0 : Hid (b0 = wa.heap.size ∧ wb.heap.size = wa.heap.size + 1) := ⟨hb0, by rw [hw]; simp⟩
          have H1 := Lib.hid ((hx.block _ (Array.getElem?_eq_some_iff.1 H1.out).1 not_false).trans H1.out)
          have HNE : Hid (b0 ≠ b1) := by have h1 := HZ1.out.1; have h2 := HZ1.out.2; have h3 := HZ0.out.1; show _ ≠ _; omega
          have HY := Lib.hid (HY.out.trans0 hx)
          replace hS := KEEP.out _ HY.out
          clear hw hx hb0
          refine HKK.out _ _ hS ?_
          clear HKK K
          (try simp only [Act.put, List.setIfInBounds_toArray, List.set_cons_zero, List.set_cons_succ])
          refine wpHead_eff 6 rfl (by kernel_rfl) (by rfl) (fun K hK => ?_)
          have HKK := Lib.hid hK
          clear hK
          refine wp_append_sl (.tmp 43) (.tmp 47) 41 rfl wB.heap.size 90 i0 _ 36 64 Tryz.underlying41 hi0 hz0 hz1 hz2 rfl (by decide) (.slice (some ⟨b0, 0, none⟩) 0 0) 0 [] rfl HO0.out D.LA s.ws.length D.cL (s.ws.flatMap Wr.cells) rfl (HS1.out _ HY.out) HN1.out ONE1.out (by unfold maxLen; omega) (by omega) HY.out.size ?_
          intro v1 wc ho1 hg1 hv1
          rw [Nat.zero_add, List.nil_append] at ho1
          have HO1 := Lib.hid ho1
          have HNV : Hid (v1.ownBlock ≠ some b1) := own_ne hv1 rfl HNE.out (Array.getElem?_eq_some_iff.1 H1.out).1
          have H1 := Lib.hid (((Ex.ofGrown hg1).block _ (Array.getElem?_eq_some_iff.1 H1.out).1 (by intro h; injection h with h; exact HNE.out h)).trans H1.out)
          have HY := Lib.hid (ex_of_new HY.out hg1 (fun b hb => (HO0.out.lt b hb).1))
          replace hS := KEEP.out _ HY.out
          clear ho1 hg1 hv1
          refine HKK.out _ _ hS ?_
          clear HKK K
          (try simp only [Act.put, List.setIfInBounds_toArray, List.set_cons_zero, List.set_cons_succ])
          refine wpHead_eff 14 rfl (by kernel_rfl) (by rfl) (fun K hK => ?_)
          have HKK := Lib.hid hK
          clear hK
          refine wp_append_sl (.tmp 48) (.tmp 55) 41 rfl wB.heap.size 90 i0 _ 36 64 Tryz.underlying41 hi0 hz0 hz1 hz2 rfl (by decide) v1 s.ws.length (s.ws.flatMap Wr.cells) rfl HO1.out (some ⟨b1, 0, none⟩) 1 1 WA.toList rfl (sl_block H1.out hWs (by decide)) (fun h => by cases h) HWO.out (by unfold maxLen; omega) (by omega) HY.out.size ?_
          intro v2 we ho2 hg2 hv2
          have HO2 := Lib.hid ho2
          have HY := Lib.hid (ex_of_new HY.out hg2 (fun b hb => (HO1.out.lt b hb).1))
          replace hS := KEEP.out _ HY.out
          clear ho2 hg2 hv2
          refine HKK.out _ _ hS ?_
          clear HKK K
          (try simp only [Act.put, List.setIfInBounds_toArray, List.set_cons_zero, List.set_cons_succ])
          rw [HWL.out] at HO2
          obtain ⟨A2, c2, rfl, hsl2, hob2, hc2⟩ := own_sl' HO2.out
          have HLe := Lib.hid (HL5.out.ex0 HY.out)
          have hcat : s.ws.flatMap Wr.cells ++ (Wr.mk (s.top + 1) br vol blk d).cells = (s.ws ++ [(⟨s.top + 1, br, vol, blk, d⟩ : Wr)]).flatMap Wr.cells := by simp
          have hl1 : s.ws.length + 1 = (s.ws ++ [(⟨s.top + 1, br, vol, blk, d⟩ : Wr)]).length := by simp
          rw [hcat] at hsl2
          have hap2 : ∀ b, Bl A2 b → wB.heap.size ≤ b ∧ b < we.heap.size := fun b hb => HO2.out.lt b (hob2.trans hb)
          have HAP2 := Lib.hid hap2
          have hle := HLe.out.lt
          have f4 := HLe.out.frozen 4
          have k4 : we.cell? ⟨D.p, 4, none⟩ = some (.slice D.LA s.ws.length D.cL) := HLe.out.cell rfl
          have HL6 : Hid (RLstAt (we.setCell ⟨D.p, 4, none⟩ (.slice A2 (s.ws.length + 1) c2)) { D with LA := A2, cL := c2 } { s with top := s.top + 1, ws := s.ws ++ [⟨s.top + 1, br, vol, blk, d⟩] }) := by
            show RLstAt _ _ _
            rw [hl1] at hsl2 ⊢
            exact HLe.out.setW hsl2 (fun b hb => ⟨fun hm => by have := HL5.out.mlt b hm; have := (hap2 b hb).1; omega, (hap2 b hb).2⟩) hc2
          have hx6 := Ex.setCell we ⟨D.p, 4, none⟩ (.slice A2 (s.ws.length + 1) c2)
          obtain ⟨w6, hw6⟩ : ∃ w6, we.setCell ⟨D.p, 4, none⟩ (.slice A2 (s.ws.length + 1) c2) = w6 := ⟨_, rfl⟩
          have HW6 := Lib.hid hw6
          rw [hw6] at HL6 hx6
          have HX6 := Lib.hid hx6
          clear hcat hl1 hsl2 hob2 hc2 hap2 hS hx6 hw6 HO2 HO1
          refine wpHead_tail (by kernel_rfl) ?_
          go_wp2_with fail
          rw [HW6.out]
          clear hle f4 k4 hlp
          have hS : (fun w' : World => w'.cell? ⟨D.p, 5, none⟩ = some (.pointer (some ⟨D.P.pt, 0, none⟩)) ∧ w'.cell? ⟨D.p, 2, none⟩ = some (.int .i64 s.now) ∧ D.p < w'.heap.size) w6.drew := ⟨(HL6.out.ex0 (Ex.drew _)).cell rfl, (HL6.out.ex0 (Ex.drew _)).cell rfl, (HL6.out.ex0 (Ex.drew _)).lt⟩
          have HXD : Hid (Ex0 w6 w6.drew) := Ex.drew w6
          refine wp_region_takes (fun w' : World => w'.cell? ⟨D.p, 5, none⟩ = some (.pointer (some ⟨D.P.pt, 0, none⟩)) ∧ w'.cell? ⟨D.p, 2, none⟩ = some (.int .i64 s.now) ∧ D.p < w'.heap.size) (by kernel_rfl) ?_
          simp only [List.length_cons, List.length_nil]
          generalize w6.drew = wf at *
          refine' wpAnyH_do 0 rfl (by kernel_rfl) (fun _ _ _ _ h => h) (by rfl) (by assumption) ⟨_, fun w' hS => ?_, ?_⟩
          rotate_left
          · ((try dsimp only at hS); go_split_ands; go_simp; try (with_reducible rfl))
          simp only [Act.put, List.setIfInBounds_toArray, List.set_cons_zero, List.set_cons_succ]
          refine' wpAnyH_do 1 rfl (by kernel_rfl) (fun _ _ _ _ h => h) (by rfl) (by assumption) ⟨_, fun w' hS => ?_, ?_⟩
          rotate_left
          · ((try dsimp only at hS); go_split_ands; go_simp; try (with_reducible rfl))
          simp only [Act.put, List.setIfInBounds_toArray, List.set_cons_zero, List.set_cons_succ]
          refine' wpAnyH_do 2 rfl (by kernel_rfl) (fun _ _ _ _ h => h) (by rfl) (by assumption) ⟨_, fun w' hS => ?_, ?_⟩
          rotate_left
          · ((try dsimp only at hS); go_split_ands; go_simp; try (with_reducible rfl))
          simp only [Act.put, List.setIfInBounds_toArray, List.set_cons_zero, List.set_cons_succ]
          refine' wpAnyH_do 3 rfl (by kernel_rfl) (fun _ _ _ _ h => h) (by rfl) (by assumption) ⟨_, fun w' hS => ?_, ?_⟩
          rotate_left
          · ((try dsimp only at hS); go_split_ands; go_simp; try (with_reducible rfl))
          simp only [Act.put, List.setIfInBounds_toArray, List.set_cons_zero, List.set_cons_succ]
          refine' wpAnyH_do 4 rfl (by kernel_rfl) (fun _ _ _ _ h => h) (by rfl) (by assumption) ⟨_, fun w' hS => ?_, ?_⟩
          rotate_left
          · ((try dsimp only at hS); go_split_ands; go_simp; try (with_reducible rfl))
          simp only [Act.put, List.setIfInBounds_toArray, List.set_cons_zero, List.set_cons_succ]
          refine' wpAnyH_do 5 rfl (by kernel_rfl) (fun _ _ _ _ h => h) (by rfl) (by assumption) ⟨_, fun w' hS => ?_, ?_⟩
          rotate_left
          · ((try dsimp only at hS); go_split_ands; go_simp; try (with_reducible rfl))
          simp only [Act.put, List.setIfInBounds_toArray, List.set_cons_zero, List.set_cons_succ]
          refine' wpAnyH_do 6 rfl (by kernel_rfl) (fun _ _ _ _ h => h) (by rfl) (by assumption) ⟨_, fun w' hS => ?_, ?_⟩
          rotate_left
          · ((try dsimp only at hS); go_split_ands; go_simp; try (with_reducible rfl))
          simp only [Act.put, List.setIfInBounds_toArray, List.set_cons_zero, List.set_cons_succ]
          refine' wpAnyH_do 7 rfl (by kernel_rfl) (fun _ _ _ _ h => h) (by rfl) (by assumption) ⟨_, fun w' hS => ?_, ?_⟩
          rotate_left
          · ((try dsimp only at hS); go_split_ands; go_simp; try (with_reducible rfl))
          simp only [Act.put, List.setIfInBounds_toArray, List.set_cons_zero, List.set_cons_succ]
          refine' wpAnyH_do 8 rfl (by kernel_rfl) (fun _ _ _ _ h => h) (by rfl) (by assumption) ⟨_, fun w' hS => ?_, ?_⟩
          rotate_left
          · ((try dsimp only at hS); go_split_ands; go_simp; try (with_reducible rfl))
          simp only [Act.put, List.setIfInBounds_toArray, List.set_cons_zero, List.set_cons_succ]
          refine' wpAnyH_do 9 rfl (by kernel_rfl) (fun _ _ _ _ h => h) (by rfl) (by assumption) ⟨_, fun w' hS => ?_, ?_⟩
          rotate_left
          · ((try dsimp only at hS); go_split_ands; go_simp; try (with_reducible rfl))
          simp only [Act.put, List.setIfInBounds_toArray, List.set_cons_zero, List.set_cons_succ]
          refine wpAnyH_eff 10 rfl (by kernel_rfl) (by rfl) (fun K hK => ?_)
          have HKK := Lib.hid hK
          clear hK
          go_simp
          have HTA := Lib.hid (Mo.radd_any D.P.pt D.P.d s.tab (s.top + 1) s.now wf (HL6.out.ex0 HXD.out).law.tab HI.out.tab hlen)
          rw [HAD.out.1, HAD.out.2] at HTA
          refine HTA.out.mono ?_
          rintro e w7 ⟨d7, rfl, hd7, hb7, hx7⟩
          have HL7 := Lib.hid ((HL6.out.ex0 HXD.out).table hd7 hx7 hb7)
          have HX7 := Lib.hid hx7
          have HB7 := Lib.hid hb7
          have hS7 : (fun w' : World => w'.cell? ⟨D.p, 5, none⟩ = some (.pointer (some ⟨D.P.pt, 0, none⟩)) ∧ w'.cell? ⟨D.p, 2, none⟩ = some (.int .i64 s.now) ∧ D.p < w'.heap.size) w7 := ⟨HL7.out.cell rfl, HL7.out.cell rfl, HL7.out.lt⟩
          clear hS hd7 hb7 hx7 HTA
          dsimp only
          refine HKK.out _ _ hS7 ?_
          clear HKK K
          (try simp only [Act.put, List.setIfInBounds_toArray, List.set_cons_zero, List.set_cons_succ])
          refine wpAnyH_done (by kernel_rfl) ?_ _
          clear hS7
          have HN : Hid (s.writeN br vol blk = s.top + 1) := by show _ = _; unfold TS.writeN; rw [HE.out, if_pos rfl]
          have HST : Hid (s.write br vol blk d = { s with top := s.top + 1, ws := s.ws ++ [⟨s.top + 1, br, vol, blk, d⟩], tab := s.tab ++ [⟨s.top + 1, s.now, false⟩] }) := by show _ = _; unfold TS.write; rw [HE.out, if_pos rfl]
          go_wp2
          go_ret2
          refine ⟨ret_two HN.out.symm HE.out.symm, ?_⟩
          rw [HST.out]
          have z1 : w.heap.size ≤ wB.heap.size := Nat.le_trans HX4.out.size HX5.out.size
          have z2 : wB.heap.size ≤ wf.heap.size := Nat.le_trans HY.out.size (Nat.le_trans HX6.out.size HXD.out.size)
          refine ⟨{ D with LA := A2, cL := c2, P := { D.P with d := d7 } }, rfl, HL7.out, ?_, fun b hb => ?_, rfl, rfl⟩
          · exact ((((HX4.out.to (fun _ _ h => h.elim)).trans HX5.out (U := D.M) (fun _ _ h => h) (fun _ _ h => .inl h)).trans0 HY.out).trans HX6.out (U := D.M) (fun _ _ h => h) (fun _ _ h => .inl h)).trans (HXD.out.trans HX7.out (U := D.M) (fun _ _ h => h.elim) (fun _ _ h => .inr (.inl h))) (fun _ _ h => h) (fun _ _ h => h)
          · rcases hb with hb | hb | hb | hb | hb
            · exact .inl (.inl hb)
            · exact .inr (by have := (HAP2.out b hb).1; omega)
            · exact (HB7.out b hb).imp (fun h => .inr (.inr (.inl h))) (fun h => by omega)
            · exact .inl (.inr (.inr (.inr (.inl hb))))
            · exact .inl (.inr (.inr (.inr (.inr hb))))
end Go.Proofs.YtoglddndicmelaaGreat.Tr
