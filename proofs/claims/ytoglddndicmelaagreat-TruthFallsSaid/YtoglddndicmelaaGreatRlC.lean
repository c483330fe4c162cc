/- Layer 54: the document's Fork, Tick. -/
import Derived.Test.YtoglddndicmelaaGreatRlA
namespace Go.Proofs.YtoglddndicmelaaGreat.Tr
open Go.RowKit Go.Proofs.YtoglddndicmelaaGreatB Go.Proofs.YtoglddndicmelaaGreat
set_option maxRecDepth 100000

theorem RLstAt.forest {w w' : World} {D : RLstP} {s : TS} (h : RLstAt w D s) {A' : Option Addr} {c' : Nat} {fs' : List Tw} (hf : RForAt w' D.P.pf A' c' (brs fs')) (hx : Ex (· = D.P.pf) w w') (hA : ∀ b, Bl A' b → Bl D.P.A b ∨ w.heap.size ≤ b) :
    RLstAt w' { D with P := { D.P with A := A', cA := c' } } { s with fs := fs' } := by
  obtain ⟨t1, t2, t3⟩ := h.tys
  have hI : ∀ b, D.I b → ¬ b = D.P.pf := fun b hb e => (h.ap b (.inl hb)).1 (.inr (.inr e))
  refine ⟨(hx.block _ h.lt (t1.ne t3 (by decide))).trans h.blk, h.ws.ex hx (fun b hb => hI b (.inl hb)), h.cap0,
    ⟨h.law.tab.ex hx (t2.ne t3 (by decide)) (fun b hb => hI b (.inr (.inl hb))), h.law.rul.ex hx (fun b hb e => (h.ap b (.inr hb)).1 (.inr (.inr e))), h.law.hol.ex hx (fun b hb => hI b (.inr (.inr (.inl hb)))), fun b hb => Nat.lt_of_lt_of_le (h.law.hlt b hb) hx.size, h.law.hcap, hf⟩, fun b hb => ?_⟩
  have hold : ∀ b, (D.I b ∨ Bl D.P.R b) → ¬ D.M b ∧ b < w'.heap.size := fun b hb => ⟨(h.ap b hb).1, Nat.lt_of_lt_of_le (h.ap b hb).2 hx.size⟩
  rcases hb with (hb | hb | hb | hb) | hb
  · exact hold b (.inl (.inl hb))
  · exact hold b (.inl (.inr (.inl hb)))
  · exact hold b (.inl (.inr (.inr (.inl hb))))
  · rcases hA b hb with h' | h'
    · exact hold b (.inl (.inr (.inr (.inr h'))))
    · exact ⟨fun hm => by have := h.mlt b hm; omega, (hf.ap b hb).2⟩
  · exact hold b (.inr hb)
set_option maxHeartbeats 4000000 in
theorem rfork54_any (D : RLstP) (s : TS) (pa m : Int) (w : World) (h : RLstAt w D s) (hI : Inv s) :
    Calls Tryz.prog 86 #[.pointer (some ⟨D.p, 0, none⟩), .int .i64 pa, .int .u64 m] w fun e w' => e = .returned (.tuple #[.int .i64 (s.forkI pa m), .int .i64 (s.forkE pa m)]) ∧ ROpP D (s.fork pa m) w w' := by
  have ht := hI.top
  have HL := Lib.hid h
  have HI := Lib.hid hI
  have hlp := h.lt
  have hc8 : w.cell? ⟨D.p, 8, none⟩ = some (.pointer (some ⟨D.P.pf, 0, none⟩)) := h.cell rfl
  have HAL := Lib.hid (fun w' (hx : Ex0 w w') => rfalive_any D.P.pf D.P.A D.P.cA (brs s.fs) pa w' (h.ex0 hx).law.fs)
  have HHAS := Lib.hid (fun w' (hx : Ex0 w w') => rhas_any D.P s.rules s.tab s.holds (brs s.fs) m s.now w' (h.ex0 hx).law hI.tab hI.rules)
  have HNU := Lib.hid (fun w' (hx : Ex0 w w') => rfnum_any D.P.pf D.P.A D.P.cA (brs s.fs) pa w' (h.ex0 hx).law.fs)
  have HFR : Hid (∀ w', Ex0 w w' → Calls Tryz.prog 127 #[.pointer (some ⟨D.P.pf, 0, none⟩)] w' fun e w'' => e = .returned (.int .i64 (freeF s.fs)) ∧ w'' = w') := fun w' hx => by
    rcases freeF_spec s.fs with ⟨h1, h2, h3, h4⟩ | ⟨h1, h4⟩
    · exact rffree_any D.P.pf D.P.A D.P.cA (brs s.fs) w' (h.ex0 hx).law.fs (freeF s.fs) (by omega) (fun j hj => by rw [ralive_brs hI.fs]; exact h4 j hj) (fun _ => by rw [ralive_brs hI.fs, alive_nat, h3]; simp; omega)
    · exact rffree_any D.P.pf D.P.A D.P.cA (brs s.fs) w' (h.ex0 hx).law.fs (freeF s.fs) (by omega) (fun j hj => by rw [ralive_brs hI.fs]; exact h4 j (by omega)) (fun h => by omega)
  have hral : ralive (brs s.fs) pa = alive s.fs pa := ralive_brs hI.fs pa
  have hrnu : rnum (brs s.fs) pa = numF s.fs pa := rnum_brs hI.fs pa
  have hrh : hasD s.rules s.tab s.holds (brs s.fs) m s.now = s.has m := rfl
  rw [hral] at HAL
  rw [hrnu] at HNU
  rw [hrh] at HHAS
  clear h hI hral hrnu hrh
  have HB : Hid (∀ r w', s.forkE pa m = r → r ≠ 0 → Ex0 w w' → s.forkI pa m = 0 ∧ s.forkE pa m = r ∧ ROpP D (s.fork pa m) w w') := fun r w' e h0 hx => by
    refine ⟨by unfold TS.forkI; rw [e, if_neg h0], e, ?_⟩
    have : s.fork pa m = s := by unfold TS.fork; rw [e, if_neg h0]
    rw [this]; exact .same HL.out hx
  obtain ⟨al, hal⟩ : ∃ al, alive s.fs pa = al := ⟨_, rfl⟩
  obtain ⟨hs, hhs⟩ : ∃ hs, s.has m = hs := ⟨_, rfl⟩
  rw [hal] at HAL
  rw [hhs] at HHAS
  have HALE := Lib.hid hal
  have HHS := Lib.hid hhs
  clear hal hhs
  go_enter Tryz.func86, Tryz.ntmps86
  go_wp2_with fail
  have hS : (fun w' : World => RowAt w' ⟨D.p, 5, none⟩ (D.P.cells s.rules.length s.holds.length) ∧ w'.cell? ⟨D.p, 2, none⟩ = some (.int .i64 s.now)) w.drew := ⟨(HL.out.ex0 (Ex.drew _)).lawRow, (HL.out.ex0 (Ex.drew _)).cell rfl⟩
  have HXD : Hid (Ex0 w w.drew) := Ex.drew w
  refine wp_region_takes (fun w' : World => RowAt w' ⟨D.p, 5, none⟩ (D.P.cells s.rules.length s.holds.length) ∧ w'.cell? ⟨D.p, 2, none⟩ = some (.int .i64 s.now)) (by kernel_rfl) ?_
  simp only [List.length_cons, List.length_nil]
  have hlpd : D.p < w.drew.heap.size := hlp
  generalize w.drew = wd at *
  refine' wpAnyH_do 0 rfl (by kernel_rfl) (fun _ _ _ _ h => h) (by rfl) (by assumption) ⟨_, fun w' hS => ?_, ?_⟩
  rotate_left
  · ((try dsimp only at hS); go_split_ands; go_simp; try (with_reducible rfl))
  simp only [Act.put, List.setIfInBounds_toArray, List.set_cons_zero, List.set_cons_succ]
  refine' wpAnyH_do 1 rfl (by kernel_rfl) (fun _ _ _ _ h => h) (by rfl) (by assumption) ⟨_, fun w' hS => ?_, ?_⟩
  rotate_left
  · ((try dsimp only at hS); go_split_ands; go_simp; try (with_reducible rfl))
  simp only [Act.put, List.setIfInBounds_toArray, List.set_cons_zero, List.set_cons_succ]
  refine wpAnyH_eff 2 rfl (by kernel_rfl) (by rfl) (fun K hK => ?_)
  have HKK := Lib.hid hK
  clear hK
  go_simp
  refine (HAL.out wd HXD.out).mono ?_
  rintro e w1 ⟨rfl, rfl⟩
  dsimp only
  refine HKK.out _ _ hS ?_
  clear HKK K
  (try simp only [Act.put, List.setIfInBounds_toArray, List.set_cons_zero, List.set_cons_succ])
  cases al with
  | false =>
    have HE : Hid (s.forkE pa m = 4) := by show _ = _; unfold TS.forkE; rw [if_pos (.inl HALE.out)]
    refine' wpAnyH_do 3 rfl (by kernel_rfl) (fun _ _ _ _ h => h) (by rfl) (by assumption) ⟨_, fun w' hS => ?_, ?_⟩
    rotate_left
    · ((try dsimp only at hS); go_split_ands; go_simp; try (with_reducible rfl))
    simp only [Act.put, List.setIfInBounds_toArray, List.set_cons_zero, List.set_cons_succ]
    refine' wpAnyH_do 4 rfl (by kernel_rfl) (fun _ _ _ _ h => h) (by rfl) (by assumption) ⟨_, fun w' hS => ?_, ?_⟩
    rotate_left
    · ((try dsimp only at hS); go_split_ands; go_simp; try (with_reducible rfl))
    simp only [Act.put, List.setIfInBounds_toArray, List.set_cons_zero, List.set_cons_succ]
    refine wpAnyH_pass 5 rfl (by kernel_rfl) (fun _ _ _ _ h => h) (by rfl) (by assumption) ?_
    simp only [Act.put, List.setIfInBounds_toArray, List.set_cons_zero, List.set_cons_succ]
    refine wpAnyH_pass 6 rfl (by kernel_rfl) (fun _ _ _ _ h => h) (by rfl) (by assumption) ?_
    simp only [Act.put, List.setIfInBounds_toArray, List.set_cons_zero, List.set_cons_succ]
    refine wpAnyH_pass 7 rfl (by kernel_rfl) (fun _ _ _ _ h => h) (by rfl) (by assumption) ?_
    simp only [Act.put, List.setIfInBounds_toArray, List.set_cons_zero, List.set_cons_succ]
    refine wpAnyH_pass 8 rfl (by kernel_rfl) (fun _ _ _ _ h => h) (by rfl) (by assumption) ?_
    simp only [Act.put, List.setIfInBounds_toArray, List.set_cons_zero, List.set_cons_succ]
    refine wpAnyH_pass 9 rfl (by kernel_rfl) (fun _ _ _ _ h => h) (by rfl) (by assumption) ?_
    simp only [Act.put, List.setIfInBounds_toArray, List.set_cons_zero, List.set_cons_succ]
    refine wpAnyH_pass 10 rfl (by kernel_rfl) (fun _ _ _ _ h => h) (by rfl) (by assumption) ?_
    simp only [Act.put, List.setIfInBounds_toArray, List.set_cons_zero, List.set_cons_succ]
    refine wpAnyH_pass 11 rfl (by kernel_rfl) (fun _ _ _ _ h => h) (by rfl) (by assumption) ?_
    simp only [Act.put, List.setIfInBounds_toArray, List.set_cons_zero, List.set_cons_succ]
    refine wpAnyH_pass 12 rfl (by kernel_rfl) (fun _ _ _ _ h => h) (by rfl) (by assumption) ?_
    simp only [Act.put, List.setIfInBounds_toArray, List.set_cons_zero, List.set_cons_succ]
    refine wpAnyH_pass 13 rfl (by kernel_rfl) (fun _ _ _ _ h => h) (by rfl) (by assumption) ?_
    simp only [Act.put, List.setIfInBounds_toArray, List.set_cons_zero, List.set_cons_succ]
    refine wpAnyH_pass 14 rfl (by kernel_rfl) (fun _ _ _ _ h => h) (by rfl) (by assumption) ?_
    simp only [Act.put, List.setIfInBounds_toArray, List.set_cons_zero, List.set_cons_succ]
    refine wpAnyH_pass 15 rfl (by kernel_rfl) (fun _ _ _ _ h => h) (by rfl) (by assumption) ?_
    simp only [Act.put, List.setIfInBounds_toArray, List.set_cons_zero, List.set_cons_succ]
    refine' wpAnyH_do 16 rfl (by kernel_rfl) (fun _ _ _ _ h => h) (by rfl) (by assumption) ⟨_, fun w' hS => ?_, ?_⟩
    rotate_left
    · ((try dsimp only at hS); go_split_ands; go_simp; try (with_reducible rfl))
    simp only [Act.put, List.setIfInBounds_toArray, List.set_cons_zero, List.set_cons_succ]
    refine wpAnyH_done (by kernel_rfl) ?_ _
    clear hS
    go_wp2
    go_ret2
    obtain ⟨h1, h2, h3⟩ := HB.out 4 _ HE.out (by decide) HXD.out
    exact ⟨ret_two h1.symm h2.symm, h3⟩
  | true =>
    refine' wpAnyH_do 3 rfl (by kernel_rfl) (fun _ _ _ _ h => h) (by rfl) (by assumption) ⟨_, fun w' hS => ?_, ?_⟩
    rotate_left
    · ((try dsimp only at hS); go_split_ands; go_simp; try (with_reducible rfl))
    simp only [Act.put, List.setIfInBounds_toArray, List.set_cons_zero, List.set_cons_succ]
    refine' wpAnyH_do 4 rfl (by kernel_rfl) (fun _ _ _ _ h => h) (by rfl) (by assumption) ⟨_, fun w' hS => ?_, ?_⟩
    rotate_left
    · ((try dsimp only at hS); go_split_ands; go_simp; try (with_reducible rfl))
    simp only [Act.put, List.setIfInBounds_toArray, List.set_cons_zero, List.set_cons_succ]
    refine' wpAnyH_do 5 rfl (by kernel_rfl) (fun _ _ _ _ h => h) (by rfl) (by assumption) ⟨_, fun w' hS => ?_, ?_⟩
    rotate_left
    · ((try dsimp only at hS); go_split_ands; go_simp; try (with_reducible rfl))
    simp only [Act.put, List.setIfInBounds_toArray, List.set_cons_zero, List.set_cons_succ]
    refine' wpAnyH_do 6 rfl (by kernel_rfl) (fun _ _ _ _ h => h) (by rfl) (by assumption) ⟨_, fun w' hS => ?_, ?_⟩
    rotate_left
    · ((try dsimp only at hS); go_split_ands; go_simp; try (with_reducible rfl))
    simp only [Act.put, List.setIfInBounds_toArray, List.set_cons_zero, List.set_cons_succ]
    refine' wpAnyH_do 7 rfl (by kernel_rfl) (fun _ _ _ _ h => h) (by rfl) (by assumption) ⟨_, fun w' hS => ?_, ?_⟩
    rotate_left
    · ((try dsimp only at hS); go_split_ands; go_simp; try (with_reducible rfl))
    simp only [Act.put, List.setIfInBounds_toArray, List.set_cons_zero, List.set_cons_succ]
    refine' wpAnyH_do 8 rfl (by kernel_rfl) (fun _ _ _ _ h => h) (by rfl) (by assumption) ⟨_, fun w' hS => exec_load_at 46 (.tmp 23) rfl ⟨D.p, 5, none⟩ rfl _ _ hS.1 Tryz.underlying46 rfl (by kernel_rfl), ?_⟩
    simp only [Act.put, List.setIfInBounds_toArray, List.set_cons_zero, List.set_cons_succ]
    refine' wpAnyH_do 9 rfl (by kernel_rfl) (fun _ _ _ _ h => h) (by rfl) (by assumption) ⟨_, fun w' hS => ?_, ?_⟩
    rotate_left
    · ((try dsimp only at hS); go_split_ands; go_simp; try (with_reducible rfl))
    simp only [Act.put, List.setIfInBounds_toArray, List.set_cons_zero, List.set_cons_succ]
    refine' wpAnyH_do 10 rfl (by kernel_rfl) (fun _ _ _ _ h => h) (by rfl) (by assumption) ⟨_, fun w' hS => ?_, ?_⟩
    rotate_left
    · ((try dsimp only at hS); go_split_ands; go_simp; try (with_reducible rfl))
    simp only [Act.put, List.setIfInBounds_toArray, List.set_cons_zero, List.set_cons_succ]
    refine' wpAnyH_do 11 rfl (by kernel_rfl) (fun _ _ _ _ h => h) (by rfl) (by assumption) ⟨_, fun w' hS => ?_, ?_⟩
    rotate_left
    · ((try dsimp only at hS); go_split_ands; go_simp; try (with_reducible rfl))
    simp only [Act.put, List.setIfInBounds_toArray, List.set_cons_zero, List.set_cons_succ]
    refine' wpAnyH_do 12 rfl (by kernel_rfl) (fun _ _ _ _ h => h) (by rfl) (by assumption) ⟨_, fun w' hS => ?_, ?_⟩
    rotate_left
    · ((try dsimp only at hS); go_split_ands; go_simp; try (with_reducible rfl))
    simp only [Act.put, List.setIfInBounds_toArray, List.set_cons_zero, List.set_cons_succ]
    refine' wpAnyH_do 13 rfl (by kernel_rfl) (fun _ _ _ _ h => h) (by rfl) (by assumption) ⟨_, fun w' hS => ?_, ?_⟩
    rotate_left
    · ((try dsimp only at hS); go_split_ands; go_simp; try (with_reducible rfl))
    simp only [Act.put, List.setIfInBounds_toArray, List.set_cons_zero, List.set_cons_succ]
    refine wpAnyH_eff 14 rfl (by kernel_rfl) (by rfl) (fun K hK => ?_)
    have HKK := Lib.hid hK
    clear hK
    go_simp
    refine (HHAS.out w1 HXD.out).mono ?_
    rintro e w2 ⟨rfl, hx2⟩
    have hS2 : (fun w' : World => RowAt w' ⟨D.p, 5, none⟩ (D.P.cells s.rules.length s.holds.length) ∧ w'.cell? ⟨D.p, 2, none⟩ = some (.int .i64 s.now)) w2 := ⟨hS.1.ex hx2 id, hx2.cellS hS.2 not_false⟩
    have HX2 := Lib.hid (HXD.out.trans0 hx2)
    clear hS hx2 HXD
    dsimp only
    refine HKK.out _ _ hS2 ?_
    clear HKK K
    (try simp only [Act.put, List.setIfInBounds_toArray, List.set_cons_zero, List.set_cons_succ])
    have hS := hS2
    clear hS2
    refine' wpAnyH_do 15 rfl (by kernel_rfl) (fun _ _ _ _ h => h) (by rfl) (by assumption) ⟨_, fun w' hS => ?_, ?_⟩
    rotate_left
    · ((try dsimp only at hS); go_split_ands; go_simp; try (with_reducible rfl))
    simp only [Act.put, List.setIfInBounds_toArray, List.set_cons_zero, List.set_cons_succ]
    refine' wpAnyH_do 16 rfl (by kernel_rfl) (fun _ _ _ _ h => h) (by rfl) (by assumption) ⟨_, fun w' hS => ?_, ?_⟩
    rotate_left
    · ((try dsimp only at hS); go_split_ands; go_simp; try (with_reducible rfl))
    simp only [Act.put, List.setIfInBounds_toArray, List.set_cons_zero, List.set_cons_succ]
    refine wpAnyH_done (by kernel_rfl) ?_ _
    have HL2 := Lib.hid (HL.out.ex0 HX2.out)
    clear hS hlpd hlp hc8
    cases hs with
    | false =>
      have HE : Hid (s.forkE pa m = 4) := by show _ = _; unfold TS.forkE; rw [if_pos (.inr HHS.out)]
      go_wp2
      go_ret2
      obtain ⟨h1, h2, h3⟩ := HB.out 4 _ HE.out (by decide) HX2.out
      exact ⟨ret_two h1.symm h2.symm, h3⟩
    | true =>
      have HNE : Hid (¬ (alive s.fs pa = false ∨ s.has m = false)) := by show ¬ _; rw [HALE.out, HHS.out]; simp
      go_wp2_with fail
      refine (HNU.out w2 HX2.out).mono ?_
      rintro e w3 ⟨rfl, rfl⟩
      by_cases hm : m < numF s.fs pa
      · have HE : Hid (s.forkE pa m = 15) := by show _ = _; unfold TS.forkE; rw [if_neg HNE.out, if_pos hm]
        go_wp2
        go_ret2
        obtain ⟨h1, h2, h3⟩ := HB.out 15 _ HE.out (by decide) HX2.out
        exact ⟨ret_two h1.symm h2.symm, h3⟩
      · have HMM := Lib.hid hm
        have hm' : decide (m < numF s.fs pa) = false := decide_eq_false hm
        go_wp2_with fail
        refine (HFR.out w3 HX2.out).mono ?_
        rintro e w4 ⟨rfl, rfl⟩
        by_cases hf : freeF s.fs = 16
        · have HE : Hid (s.forkE pa m = 6) := by show _ = _; unfold TS.forkE; rw [if_neg HNE.out, if_neg (by have := HMM.out; omega), if_pos hf]
          rw [hf]
          go_wp2
          go_ret2
          obtain ⟨h1, h2, h3⟩ := HB.out 6 _ HE.out (by decide) HX2.out
          exact ⟨ret_two h1.symm h2.symm, h3⟩
        · have hfl := freeF_lt hf
          have hf15 : ¬ (15 : Int) < (freeF s.fs : Int) := by omega
          go_wp2_with fail
          refine (rtake_any D s w4 HL2.out ht.1).mono ?_
          rintro e w5 ⟨rfl, hw5⟩
          by_cases hn : s.next = 0
          · rw [takeW_none hn] at hw5
            subst hw5
            have HE : Hid (s.forkE pa m = 14) := by show _ = _; unfold TS.forkE; rw [if_neg HNE.out, if_neg (by have := HMM.out; omega), if_neg hf, if_pos hn]
            rw [hn]
            go_wp2
            go_ret2
            obtain ⟨h1, h2, h3⟩ := HB.out 14 _ HE.out (by decide) HX2.out
            exact ⟨ret_two h1.symm h2.symm, h3⟩
          · rw [takeW_some hn] at hw5
            have hv : s.next = s.top + 1 := (next_pos hn).2
            have HE : Hid (s.forkE pa m = 0) := by show _ = _; unfold TS.forkE; rw [if_neg HNE.out, if_neg (by have := HMM.out; omega), if_neg hf, if_neg hn]
            have HI2 : Hid (s.forkI pa m = freeF s.fs) := by show _ = _; unfold TS.forkI; rw [HE.out, if_pos rfl]
            have HST : Hid (s.fork pa m = { s with top := s.top + 1, fs := s.fs.set (freeF s.fs) ⟨true, pa, m, s.top + 1⟩ }) := by show _ = _; unfold TS.fork; rw [HE.out, if_pos rfl]
            have hne : (s.top + 1 == 0) = false := by simp; omega
            have HL5 : Hid (RLstAt w5 D { s with top := s.top + 1 }) := by show RLstAt _ _ _; rw [hw5]; exact HL2.out.setC rfl rfl rfl rfl rfl rfl
            have hx5 : Ex (· = D.p) w4 w5 := by rw [hw5]; exact Ex.setCell w4 ⟨D.p, 3, none⟩ _
            have HX5 := Lib.hid hx5
            obtain ⟨_, hfp, hfd, _⟩ := (freeF_spec s.fs).resolve_right (by omega)
            have hbf := brs_fork HI.out.fs hfl hfd pa m (s.top + 1)
            have hlen15 : (brs s.fs).length ≤ 15 := by
              have h1 := brs_len (s.fs.set (freeF s.fs) ⟨true, pa, m, s.top + 1⟩)
              rw [hbf, List.length_append, List.length_cons, List.length_take, List.length_drop] at h1
              omega
            have hmt := (HI.out.has_rng HHS.out).2
            have HFK := Lib.hid (rffork_any D.P.pf D.P.A D.P.cA (brs s.fs) (freeF s.fs) pa m (s.top + 1) w5 HL5.out.law.fs ⟨by omega, by omega⟩ (by rw [ralive_brs HI.out.fs, alive_nat, hfd]; simp; omega) (by rw [ralive_brs HI.out.fs]; exact HALE.out) (by rw [rnum_brs HI.out.fs]; have := HMM.out; omega) (by omega) (brs_srt _) hlen15)
            rw [← hbf] at HFK
            rw [hv]
            clear hw5 hv hn hx5 hbf hlen15 hfd hfp hmt hm'
            go_wp2_with fail
            refine HFK.out.mono ?_
            rintro e w6 ⟨A6, c6, rfl, hf6, hA6, hx6⟩
            have HL6 := Lib.hid (HL5.out.forest hf6 hx6 hA6)
            have HX6 := Lib.hid hx6
            have HA6 := Lib.hid hA6
            clear hf6 hA6 hx6
            go_wp2
            go_ret2
            refine ⟨ret_two HI2.out.symm HE.out.symm, ?_⟩
            rw [HST.out]
            have hs2 := HX2.out.size
            have hs5 := HX5.out.size
            refine ⟨{ D with P := { D.P with A := A6, cA := c6 } }, rfl, HL6.out, ((HX2.out.to (fun _ _ h => h.elim)).trans HX5.out (fun _ _ h => h) (fun _ _ h => .inl h)).trans HX6.out (fun _ _ h => h) (fun _ _ h => .inr (.inr h)), fun b hb => ?_, rfl, rfl⟩
            rcases hb with hb | hb | hb | hb | hb
            · exact .inl (.inl hb)
            · exact .inl (.inr (.inl hb))
            · exact .inl (.inr (.inr (.inl hb)))
            · exact .inl (.inr (.inr (.inr (.inl hb))))
            · exact (HA6.out b hb).imp (fun h => .inr (.inr (.inr (.inr h)))) (fun h => by omega)
end Go.Proofs.YtoglddndicmelaaGreat.Tr
