/- Layer 54: the document's list in memory; its numbers, its places. Layer 54: the document's New, Lift, Drop, Fork. -/
import Derived.Test.YtoglddndicmelaaGreatRfG
namespace Go.Proofs.YtoglddndicmelaaGreat.Tr
open Go.RowKit Go.Proofs.YtoglddndicmelaaGreatB Go.Proofs.YtoglddndicmelaaGreat
set_option maxRecDepth 100000

/-- where the document's list's things lie -/
structure RLstP where
  p : Nat
  LA : Option Addr
  cL : Nat
  P : RLawP
def RLstP.row (D : RLstP) (s : TS) : Array Value := #[.int .i64 s.vols, .int .i64 s.blocks, .int .i64 s.now, .int .u64 s.top, .slice D.LA s.ws.length D.cL, .pointer (some ⟨D.P.pt, 0, none⟩), .slice D.P.R s.rules.length D.P.cR, .slice D.P.H s.holds.length D.P.cH, .pointer (some ⟨D.P.pf, 0, none⟩)]
/-- what may change -/
def RLstP.M (D : RLstP) (b : Nat) : Prop := b = D.p ∨ b = D.P.pt ∨ b = D.P.pf
/-- the slices -/
def RLstP.I (D : RLstP) (b : Nat) : Prop := Bl D.LA b ∨ Mo.Bld D.P.d b ∨ Bl D.P.H b ∨ Bl D.P.A b
/-- all but the rules -/
def RLstP.G (D : RLstP) (b : Nat) : Prop := D.M b ∨ D.I b
structure RLstAt (w : World) (D : RLstP) (s : TS) : Prop where
  blk : w.heap[D.p]? = some (.cells (D.row s) 48 (0, 0))
  ws : Sl w 36 D.LA s.ws.length (s.ws.flatMap Wr.cells)
  cap0 : D.LA = none → D.cL = 0
  law : RLawAt w D.P s.rules s.tab s.holds (brs s.fs)
  ap : ∀ b, (D.I b ∨ Bl D.P.R b) → ¬ D.M b ∧ b < w.heap.size
theorem RLstAt.lt {w : World} {D : RLstP} {s : TS} (h : RLstAt w D s) : D.p < w.heap.size := (Array.getElem?_eq_some_iff.1 h.blk).1
theorem RLstAt.cell {w : World} {D : RLstP} {s : TS} (h : RLstAt w D s) {j : Nat} {u : Value} (hu : (D.row s)[j]? = some u) : w.cell? ⟨D.p, j, none⟩ = some u := by rw [cell_of_row _ _ _ _ _ _ h.blk]; exact hu
theorem RLstAt.frozen {w : World} {D : RLstP} {s : TS} (h : RLstAt w D s) (j : Nat) : w.frozen? ⟨D.p, j, none⟩ = false := frozen_of_row _ _ _ _ _ h.blk
theorem RLstAt.tys {w : World} {D : RLstP} {s : TS} (h : RLstAt w D s) : Ty w D.p 48 ∧ Ty w D.P.pt 79 ∧ Ty w D.P.pf 94 := ⟨.of h.blk, .of h.law.tab.blk, .of h.law.fs.blk⟩
theorem RLstAt.ex {S : Nat → Prop} {w w' : World} {D : RLstP} {s : TS} (h : RLstAt w D s) (hx : Ex S w w') (hG : ∀ b, D.G b → ¬ S b) (hR : ∀ b, Bl D.P.R b → ¬ S b) : RLstAt w' D s :=
  ⟨(hx.block _ h.lt (hG _ (.inl (.inl rfl)))).trans h.blk, h.ws.ex hx (fun b hb => hG b (.inr (.inl hb))), h.cap0,
    ⟨h.law.tab.ex hx (hG _ (.inl (.inr (.inl rfl)))) (fun b hb => hG b (.inr (.inr (.inl hb)))), h.law.rul.ex hx hR, h.law.hol.ex hx (fun b hb => hG b (.inr (.inr (.inr (.inl hb))))), fun b hb => Nat.lt_of_lt_of_le (h.law.hlt b hb) hx.size, h.law.hcap, h.law.fs.ex hx (hG _ (.inl (.inr (.inr rfl)))) (fun b hb => hG b (.inr (.inr (.inr (.inr hb)))))⟩,
    fun b hb => ⟨(h.ap b hb).1, Nat.lt_of_lt_of_le (h.ap b hb).2 hx.size⟩⟩
theorem RLstAt.ex0 {w w' : World} {D : RLstP} {s : TS} (h : RLstAt w D s) (hx : Ex0 w w') : RLstAt w' D s := h.ex hx (fun _ _ => id) (fun _ _ => id)
/-- what stands behind an operation -/
def ROpP (D : RLstP) (s' : TS) (w w' : World) : Prop := ∃ D' : RLstP, D'.p = D.p ∧ RLstAt w' D' s' ∧ Ex D.M w w' ∧ Nw w D.G D'.G ∧ D'.P.R = D.P.R ∧ D'.P.cR = D.P.cR
theorem ROpP.same {D : RLstP} {s : TS} {w w' : World} (h : RLstAt w D s) (hx : Ex0 w w') : ROpP D s w w' := ⟨D, rfl, h.ex0 hx, hx.to (fun _ _ h => h.elim), Nw.refl _ _, rfl, rfl⟩
/-- one of its own cells is set -/
theorem RLstAt.setC {w : World} {D : RLstP} {s s' : TS} {j : Nat} {u : Value} (h : RLstAt w D s) (hr : (D.row s).setIfInBounds j u = D.row s') (h1 : s'.ws = s.ws) (h2 : s'.rules = s.rules) (h3 : s'.tab = s.tab) (h4 : s'.holds = s.holds) (h5 : s'.fs = s.fs) : RLstAt (w.setCell ⟨D.p, j, none⟩ u) D s' := by
  obtain ⟨t1, t2, t3⟩ := h.tys
  have hx := Ex.setCell w ⟨D.p, j, none⟩ u
  have hI : ∀ b, D.I b → ¬ b = D.p := fun b hb e => (h.ap b (.inl hb)).1 (.inl e)
  refine ⟨by rw [heap_setCell_same _ _ _ _ _ _ h.blk, ← hr], ?_, h.cap0, ?_, fun b hb => ⟨(h.ap b hb).1, Nat.lt_of_lt_of_le (h.ap b hb).2 hx.size⟩⟩
  · rw [h1]; exact h.ws.ex hx (fun b hb => hI b (.inl hb))
  · rw [h2, h3, h4, h5]
    exact ⟨h.law.tab.ex hx (t2.ne t1 (by decide)) (fun b hb => hI b (.inr (.inl hb))), h.law.rul.ex hx (fun b hb e => (h.ap b (.inr hb)).1 (.inl e)), h.law.hol.ex hx (fun b hb => hI b (.inr (.inr (.inl hb)))), fun b hb => Nat.lt_of_lt_of_le (h.law.hlt b hb) hx.size, h.law.hcap, h.law.fs.ex hx (t3.ne t1 (by decide)) (fun b hb => hI b (.inr (.inr (.inr hb))))⟩
theorem ROpP.setC {w : World} {D : RLstP} {s s' : TS} {j : Nat} {u : Value} (h : RLstAt w D s) (hr : (D.row s).setIfInBounds j u = D.row s') (h1 : s'.ws = s.ws) (h2 : s'.rules = s.rules) (h3 : s'.tab = s.tab) (h4 : s'.holds = s.holds) (h5 : s'.fs = s.fs) : ROpP D s' w (w.setCell ⟨D.p, j, none⟩ u) :=
  ⟨D, rfl, h.setC hr h1 h2 h3 h4 h5, (Ex.setCell _ _ _).to (fun _ _ e => .inl e), Nw.refl _ _, rfl, rfl⟩
theorem ROpP.bind {D D1 : RLstP} {s'' : TS} {w w1 w2 : World} (e1 : D1.p = D.p) (x1 : Ex D.M w w1) (n1 : Nw w D.G D1.G) (r1 : D1.P.R = D.P.R) (c1 : D1.P.cR = D.P.cR) (hM : ∀ b, D1.M b → D.M b ∨ w.heap.size ≤ b) (k : ROpP D1 s'' w1 w2) : ROpP D s'' w w2 := by
  obtain ⟨D2, e2, h2, x2, n2, r2, c2⟩ := k
  exact ⟨D2, e2.trans e1, h2, x1.then x2 hM, n1.trans n2 x1.size, r2.trans r1, c2.trans c1⟩

/-- the world behind a number that is taken -/
def takeW (D : RLstP) (s : TS) (w : World) : World := if s.next = 0 then w else w.setCell ⟨D.p, 3, none⟩ (.int .u64 (s.top + 1))
theorem rtake_any (D : RLstP) (s : TS) (w : World) (h : RLstAt w D s) (ht : 0 ≤ s.top) :
    Calls Tryz.prog 126 #[.pointer (some ⟨D.p, 0, none⟩)] w fun e w' => e = .returned (.int .u64 s.next) ∧ w' = takeW D s w := by
  have c3 : w.cell? ⟨D.p, 3, none⟩ = some (.int .u64 s.top) := h.cell rfl
  have hl := h.lt
  have hf := h.frozen 3
  clear h
  by_cases h : 65535 ≤ s.top
  · have hn : s.next = 0 := by unfold TS.next; rw [if_pos h]
    have HN := Lib.hid hn
    clear hn
    go_enter Tryz.func126, Tryz.ntmps126
    go_wp2
    go_ret
    exact ⟨ret_int HN.out.symm, by unfold takeW; rw [if_pos HN.out]⟩
  · have hn : s.next = s.top + 1 := by unfold TS.next; rw [if_neg h]
    have HN := Lib.hid hn
    have HZ : Hid (¬ s.next = 0) := by show ¬ _; omega
    have hw1 : IntKind.u64.wrap (s.top + 1) = s.top + 1 := by rw [IntKind.wrap_u64]; omega
    clear hn
    go_enter Tryz.func126, Tryz.ntmps126
    go_wp2
    go_ret
    exact ⟨ret_int HN.out.symm, by unfold takeW; rw [if_neg HZ.out]⟩
theorem rmark_any (D : RLstP) (s : TS) (w : World) (h : RLstAt w D s) (ht : 0 ≤ s.top) :
    Calls Tryz.prog 85 #[.pointer (some ⟨D.p, 0, none⟩)] w fun e w' => e = .returned (.int .u64 s.next) ∧ ROpP D s.mark w w' := by
  have HL := Lib.hid h
  have HT := Lib.hid (rtake_any D s w h ht)
  clear h
  go_enter Tryz.func85, Tryz.ntmps85
  go_wp2_with fail
  refine HT.out.mono ?_
  rintro e w1 ⟨rfl, hw⟩
  have HW := Lib.hid hw
  clear hw
  go_wp2
  go_ret
  refine ⟨rfl, ?_⟩
  rw [HW.out]
  unfold TS.mark takeW
  by_cases hn : s.next = 0
  · rw [if_pos hn, if_pos hn]; exact .same HL.out (Ex.refl _ _)
  · rw [if_neg hn, if_neg hn]; exact ROpP.setC HL.out rfl rfl rfl rfl rfl rfl
theorem rskip_any (D : RLstP) (s : TS) (t : Int) (w : World) (h : RLstAt w D s) :
    Calls Tryz.prog 90 #[.pointer (some ⟨D.p, 0, none⟩), .int .u64 t] w fun e w' => e = .returned (.tuple #[]) ∧ ROpP D (s.skip t) w w' := by
  have HL := Lib.hid h
  have hl := h.lt
  have hf := h.frozen 3
  have hc : w.cell? ⟨D.p, 3, none⟩ = some (.int .u64 s.top) := h.cell rfl
  clear h
  unfold TS.skip
  cases h1 : decide (s.top < t) with
  | false =>
    rw [if_neg (fun h => by simp [h.1] at h1)]
    go_enter Tryz.func90, Tryz.ntmps90
    go_wp2
    go_end0
    exact ⟨rfl, .same HL.out (Ex.refl _ _)⟩
  | true =>
    cases h2 : decide (t ≤ 65535) with
    | false =>
      rw [if_neg (fun h => by simp [h.2] at h2)]
      go_enter Tryz.func90, Tryz.ntmps90
      go_wp2
      go_end0
      exact ⟨rfl, .same HL.out (Ex.refl _ _)⟩
    | true =>
      rw [if_pos ⟨of_decide_eq_true h1, of_decide_eq_true h2⟩]
      go_enter Tryz.func90, Tryz.ntmps90
      go_wp2
      go_end0
      exact ⟨rfl, ROpP.setC HL.out rfl rfl rfl rfl rfl rfl⟩
theorem here_eq (s : TS) (vol blk : Int) : s.there vol blk = (decide (0 ≤ vol) && (decide (vol < s.vols) && (decide (0 ≤ blk) && decide (blk < s.blocks)))) := by
  unfold TS.there
  cases decide (0 ≤ vol) <;> cases decide (0 ≤ blk) <;> cases decide (vol < s.vols) <;> cases decide (blk < s.blocks) <;> rfl
theorem rhere_any (D : RLstP) (s : TS) (vol blk : Int) (w : World) (h : RLstAt w D s) :
    Calls Tryz.prog 54 #[.pointer (some ⟨D.p, 0, none⟩), .int .i64 vol, .int .i64 blk] w fun e w' => e = .returned (.bool (s.there vol blk)) ∧ w' = w := by
  have c0 : w.cell? ⟨D.p, 0, none⟩ = some (.int .i64 s.vols) := h.cell rfl
  have c1 : w.cell? ⟨D.p, 1, none⟩ = some (.int .i64 s.blocks) := h.cell rfl
  have hl := h.lt
  clear h
  rw [here_eq]
  cases h1 : decide (0 ≤ vol) with
  | false =>
    go_enter Tryz.func54, Tryz.ntmps54
    go_wp2
    go_ret
    exact ⟨rfl, rfl⟩
  | true =>
    cases h2 : decide (vol < s.vols) with
    | false =>
      go_enter Tryz.func54, Tryz.ntmps54
      go_wp2
      go_ret
      exact ⟨rfl, rfl⟩
    | true =>
      cases h3 : decide (0 ≤ blk) with
      | false =>
        go_enter Tryz.func54, Tryz.ntmps54
        go_wp2
        go_ret
        exact ⟨rfl, rfl⟩
      | true =>
        cases h4 : decide (blk < s.blocks) with
        | false =>
          go_enter Tryz.func54, Tryz.ntmps54
          go_wp2
          go_ret
          exact ⟨rfl, rfl⟩
        | true =>
          go_enter Tryz.func54, Tryz.ntmps54
          go_wp2
          go_ret
          exact ⟨rfl, rfl⟩
theorem RLstAt.lawRow {w : World} {D : RLstP} {s : TS} (h : RLstAt w D s) : RowAt w ⟨D.p, 5, none⟩ (D.P.cells s.rules.length s.holds.length) := fun j u hu => by
  rw [add_row]
  refine h.cell ?_
  unfold RLstP.row
  unfold RLawP.cells at hu
  rcases j with _ | _ | _ | _ | j
  · exact hu
  · exact hu
  · exact hu
  · exact hu
  · simp at hu
set_option maxHeartbeats 2000000 in
theorem rpromised_any (D : RLstP) (s : TS) (w : World) (h : RLstAt w D s) (hI : Inv s) :
    Calls Tryz.prog 20 #[.pointer (some ⟨D.p, 0, none⟩)] w fun e w' => ∃ v, e = .returned v ∧ w'.ownsRow w.heap.size 31 1 v s.all.length (s.all.map (Value.int .u64)) ∧ Ex0 w w' := by
  have HA := Lib.hid (rall_any D.P s.rules s.tab s.holds (brs s.fs) s.now w.drew (h.ex0 (Ex.drew _)).law hI.tab hI.rules)
  rw [allD_P, ← TS.all_eq] at HA
  have hS : RowAt w.drew ⟨D.p, 5, none⟩ (D.P.cells s.rules.length s.holds.length) ∧ w.drew.cell? ⟨D.p, 2, none⟩ = some (.int .i64 s.now) := ⟨(h.ex0 (Ex.drew _)).lawRow, (h.ex0 (Ex.drew _)).cell rfl⟩
  clear h hI
  have hx0 : Ex0 w w.drew := Ex.drew w
  have hsz : w.drew.heap.size = w.heap.size := rfl
  rw [hsz] at HA
  go_enter Tryz.func20, Tryz.ntmps20
  go_wp2_with fail
  refine wp_region_takes (fun w' => RowAt w' ⟨D.p, 5, none⟩ (D.P.cells s.rules.length s.holds.length) ∧ w'.cell? ⟨D.p, 2, none⟩ = some (.int .i64 s.now)) (by kernel_rfl) ?_
  simp only [List.length_cons, List.length_nil]
  generalize w.drew = wd at *
  refine' wpAnyH_do 0 rfl (by kernel_rfl) (fun _ _ _ _ h => h) (by rfl) (by assumption) ⟨_, fun w' hS => ?_, ?_⟩
  rotate_left
  · ((try dsimp only at hS); go_split_ands; go_simp; try (with_reducible rfl))
  simp only [Act.put, List.setIfInBounds_toArray, List.set_cons_zero, List.set_cons_succ]
  refine' wpAnyH_do 1 rfl (by kernel_rfl) (fun _ _ _ _ h => h) (by rfl) (by assumption) ⟨_, fun w' hS => ?_, ?_⟩
  rotate_left
  · ((try dsimp only at hS); go_split_ands; go_simp; try (with_reducible rfl))
  simp only [Act.put, List.setIfInBounds_toArray, List.set_cons_zero, List.set_cons_succ]
  refine' wpAnyH_do 2 rfl (by kernel_rfl) (fun _ _ _ _ h => h) (by rfl) (by assumption) ⟨_, fun w' hS => ?_, ?_⟩
  rotate_left
  · ((try dsimp only at hS); go_split_ands; go_simp; try (with_reducible rfl))
  simp only [Act.put, List.setIfInBounds_toArray, List.set_cons_zero, List.set_cons_succ]
  refine' wpAnyH_do 3 rfl (by kernel_rfl) (fun _ _ _ _ h => h) (by rfl) (by assumption) ⟨_, fun w' hS => exec_load_at 46 (.tmp 5) rfl ⟨D.p, 5, none⟩ rfl _ _ hS.1 Tryz.underlying46 rfl (by kernel_rfl), ?_⟩
  simp only [Act.put, List.setIfInBounds_toArray, List.set_cons_zero, List.set_cons_succ]
  refine' wpAnyH_do 4 rfl (by kernel_rfl) (fun _ _ _ _ h => h) (by rfl) (by assumption) ⟨_, fun w' hS => ?_, ?_⟩
  rotate_left
  · ((try dsimp only at hS); go_split_ands; go_simp; try (with_reducible rfl))
  simp only [Act.put, List.setIfInBounds_toArray, List.set_cons_zero, List.set_cons_succ]
  refine' wpAnyH_do 5 rfl (by kernel_rfl) (fun _ _ _ _ h => h) (by rfl) (by assumption) ⟨_, fun w' hS => ?_, ?_⟩
  rotate_left
  · ((try dsimp only at hS); go_split_ands; go_simp; try (with_reducible rfl))
  simp only [Act.put, List.setIfInBounds_toArray, List.set_cons_zero, List.set_cons_succ]
  refine' wpAnyH_do 6 rfl (by kernel_rfl) (fun _ _ _ _ h => h) (by rfl) (by assumption) ⟨_, fun w' hS => ?_, ?_⟩
  rotate_left
  · ((try dsimp only at hS); go_split_ands; go_simp; try (with_reducible rfl))
  simp only [Act.put, List.setIfInBounds_toArray, List.set_cons_zero, List.set_cons_succ]
  refine' wpAnyH_do 7 rfl (by kernel_rfl) (fun _ _ _ _ h => h) (by rfl) (by assumption) ⟨_, fun w' hS => ?_, ?_⟩
  rotate_left
  · ((try dsimp only at hS); go_split_ands; go_simp; try (with_reducible rfl))
  simp only [Act.put, List.setIfInBounds_toArray, List.set_cons_zero, List.set_cons_succ]
  refine wpAnyH_eff 8 rfl (by kernel_rfl) (by rfl) (fun K hK => ?_)
  have HKK := Lib.hid hK
  clear hK
  go_simp
  refine HA.out.mono ?_
  rintro e w1 ⟨v, rfl, ho, hx1⟩
  have hS1 : RowAt w1 ⟨D.p, 5, none⟩ (D.P.cells s.rules.length s.holds.length) ∧ w1.cell? ⟨D.p, 2, none⟩ = some (.int .i64 s.now) := ⟨hS.1.ex hx1 id, hx1.cellS hS.2 not_false⟩
  have HO := Lib.hid ho
  have HX := Lib.hid (hx0.trans0 hx1)
  clear ho hx1 hx0 hS
  dsimp only
  refine HKK.out _ _ hS1 ?_
  clear HKK K
  (try simp only [Act.put, List.setIfInBounds_toArray, List.set_cons_zero, List.set_cons_succ])
  have hS := hS1
  refine' wpAnyH_do 9 rfl (by kernel_rfl) (fun _ _ _ _ h => h) (by rfl) (by assumption) ⟨_, fun w' hS => ?_, ?_⟩
  rotate_left
  · ((try dsimp only at hS); go_split_ands; go_simp; try (with_reducible rfl))
  simp only [Act.put, List.setIfInBounds_toArray, List.set_cons_zero, List.set_cons_succ]
  refine wpAnyH_done (by kernel_rfl) ?_ _
  go_wp2
  go_ret
  exact ⟨v, rfl, HO.out, HX.out⟩
end Go.Proofs.YtoglddndicmelaaGreat.Tr

namespace Go.Proofs.YtoglddndicmelaaGreat.Tr
open Go.RowKit Go.Proofs.YtoglddndicmelaaGreatB Go.Proofs.YtoglddndicmelaaGreat
set_option maxRecDepth 100000

theorem RLstAt.mlt {w : World} {D : RLstP} {s : TS} (h : RLstAt w D s) : ∀ b, D.M b → b < w.heap.size := fun b hb => by
  rcases hb with rfl | rfl | rfl
  · exact h.lt
  · exact h.law.tab.lt
  · exact h.law.fs.lt
/-- other holds -/
theorem RLstAt.setHolds {w : World} {D : RLstP} {s : TS} (h : RLstAt w D s) {H' : Option Addr} {cH' : Nat} {hs' : List Ho.Put} (hsl : Sl w 6 H' hs'.length (hs'.flatMap Ho.Put.cells)) (hap : ∀ b, Bl H' b → ¬ D.M b ∧ b < w.heap.size) (hc : H' = none → cH' = 0) :
    RLstAt (w.setCell ⟨D.p, 7, none⟩ (.slice H' hs'.length cH')) { D with P := { D.P with H := H', cH := cH' } } { s with holds := hs' } := by
  obtain ⟨t1, t2, t3⟩ := h.tys
  have hx := Ex.setCell w ⟨D.p, 7, none⟩ (.slice H' hs'.length cH')
  have hI : ∀ b, D.I b → ¬ b = D.p := fun b hb e => (h.ap b (.inl hb)).1 (.inl e)
  refine ⟨by rw [heap_setCell_same _ _ _ _ _ _ h.blk]; rfl, h.ws.ex hx (fun b hb => hI b (.inl hb)), h.cap0,
    ⟨h.law.tab.ex hx (t2.ne t1 (by decide)) (fun b hb => hI b (.inr (.inl hb))), h.law.rul.ex hx (fun b hb e => (h.ap b (.inr hb)).1 (.inl e)), hsl.ex hx (fun b hb e => (hap b hb).1 (.inl e)), fun b hb => Nat.lt_of_lt_of_le (hap b hb).2 hx.size, hc, h.law.fs.ex hx (t3.ne t1 (by decide)) (fun b hb => hI b (.inr (.inr (.inr hb))))⟩, fun b hb => ?_⟩
  rcases hb with (hb | hb | hb | hb) | hb
  · exact ⟨(h.ap b (.inl (.inl hb))).1, Nat.lt_of_lt_of_le (h.ap b (.inl (.inl hb))).2 hx.size⟩
  · exact ⟨(h.ap b (.inl (.inr (.inl hb)))).1, Nat.lt_of_lt_of_le (h.ap b (.inl (.inr (.inl hb)))).2 hx.size⟩
  · exact ⟨(hap b hb).1, Nat.lt_of_lt_of_le (hap b hb).2 hx.size⟩
  · exact ⟨(h.ap b (.inl (.inr (.inr (.inr hb))))).1, Nat.lt_of_lt_of_le (h.ap b (.inl (.inr (.inr (.inr hb))))).2 hx.size⟩
  · exact ⟨(h.ap b (.inr hb)).1, Nat.lt_of_lt_of_le (h.ap b (.inr hb)).2 hx.size⟩
theorem nw_holds {w : World} {D : RLstP} {H' : Option Addr} {cH' : Nat} (h : ∀ b, Bl H' b → Bl D.P.H b ∨ w.heap.size ≤ b) : Nw w D.G ({ D with P := { D.P with H := H', cH := cH' } } : RLstP).G := fun b hb => by
  rcases hb with hb | hb | hb | hb | hb
  · exact .inl (.inl hb)
  · exact .inl (.inr (.inl hb))
  · exact .inl (.inr (.inr (.inl hb)))
  · exact (h b hb).imp (fun h => .inr (.inr (.inr (.inl h)))) id
  · exact .inl (.inr (.inr (.inr (.inr hb))))
theorem takeW_some {D : RLstP} {s : TS} {w : World} (hn : ¬ s.next = 0) : takeW D s w = w.setCell ⟨D.p, 3, none⟩ (.int .u64 (s.top + 1)) := by unfold takeW; rw [if_neg hn]
theorem takeW_none {D : RLstP} {s : TS} {w : World} (hn : s.next = 0) : takeW D s w = w := by unfold takeW; rw [if_pos hn]
set_option maxHeartbeats 2000000 in
theorem rlift54_any (D : RLstP) (s : TS) (id : Int) (w : World) (h : RLstAt w D s) (hI : Inv s) :
    Calls Tryz.prog 89 #[.pointer (some ⟨D.p, 0, none⟩), .int .u64 id] w fun e w' => e = .returned (.int .i64 (s.liftE id)) ∧ ROpP D (s.lift id) w w' := by
  have HL := Lib.hid h
  have ht := hI.top
  have hlen := hI.hlen
  have HRL := Lib.hid (Ho.rlift_any D.P.H D.P.cH s.holds id w h.law.hol (by omega) h.law.hlt h.law.hcap)
  have HLF : Hid (Ho.rliftL id s.holds = Ho.liftL id s.holds) := (lift_erase s.holds id (hold_ids hI)).symm
  have hlp := h.lt
  have hc7 : w.cell? ⟨D.p, 7, none⟩ = some (.slice D.P.H s.holds.length D.P.cH) := h.cell rfl
  clear h hI
  go_enter Tryz.func89, Tryz.ntmps89
  go_wp2_with fail
  refine HRL.out.mono ?_
  rintro e w1 ⟨H', cH', rfl, hsl, hbl, hc0, hx1⟩
  rw [HLF.out] at hsl ⊢
  have HSL := Lib.hid hsl
  have HBL := Lib.hid hbl
  have HC0 := Lib.hid hc0
  have HX1 := Lib.hid hx1
  have HL1 := Lib.hid (HL.out.ex0 hx1)
  clear hsl hbl hc0 hx1 hc7 hlp HRL
  by_cases he : Ho.liftE id s.holds = 0
  · rw [he]
    go_wp2_with fail
    refine (rtake_any D s w1 HL1.out ht.1).mono ?_
    rintro e w2 ⟨rfl, hw2⟩
    by_cases hn : s.next = 0
    · rw [takeW_none hn] at hw2
      subst hw2
      have h14 : s.liftE id = 14 := by unfold TS.liftE; rw [if_pos he, if_pos hn]
      have hst : s.lift id = s := by unfold TS.lift; rw [h14]; rfl
      have H14 := Lib.hid h14
      have HST := Lib.hid hst
      rw [hn]
      clear h14 hst
      go_wp2
      go_ret
      exact ⟨ret_int H14.out.symm, by rw [HST.out]; exact .same HL.out HX1.out⟩
    · rw [takeW_some hn] at hw2
      have hv : s.next = s.top + 1 := (next_pos hn).2
      have h0 : s.liftE id = 0 := by unfold TS.liftE; rw [if_pos he, if_neg hn]
      have hst : s.lift id = { s with top := s.top + 1, holds := Ho.liftL id s.holds } := by unfold TS.lift; rw [if_pos h0]
      have hne : (s.top + 1 == 0) = false := by simp; omega
      have H0 := Lib.hid h0
      have HST := Lib.hid hst
      have HL2 : Hid (RLstAt w2 D { s with top := s.top + 1 }) := by show RLstAt _ _ _; rw [hw2]; exact HL1.out.setC rfl rfl rfl rfl rfl rfl
      have hx2 : Ex (· = D.p) w1 w2 := by rw [hw2]; exact Ex.setCell w1 ⟨D.p, 3, none⟩ _
      have HX2 := Lib.hid hx2
      rw [hv]
      clear hw2 hv h0 hst hn hx2
      have k7 : w2.cell? ⟨D.p, 7, none⟩ = some (.slice D.P.H s.holds.length D.P.cH) := HL2.out.cell rfl
      have f7 := HL2.out.frozen 7
      have hl2 := HL2.out.lt
      go_wp2
      go_ret
      refine ⟨ret_int H0.out.symm, ?_⟩
      rw [HST.out]
      have hsz1 := HX1.out.size
      have hsz2 := HX2.out.size
      have hap : ∀ b, Bl H' b → ¬ D.M b ∧ b < w1.heap.size := fun b hb => by
        rcases HBL.out b hb with h | ⟨h1, h2⟩
        · have := HL1.out.ap b (.inl (.inr (.inr (.inl h)))); exact this
        · exact ⟨fun hm => by have := HL.out.mlt b hm; omega, h2⟩
      refine ⟨{ D with P := { D.P with H := H', cH := cH' } }, rfl, HL2.out.setHolds (HSL.out.ex HX2.out (fun b hb e => (hap b hb).1 (.inl e))) (fun b hb => ⟨(hap b hb).1, by have := (hap b hb).2; omega⟩) HC0.out, ?_, nw_holds (fun b hb => (HBL.out b hb).imp (fun h => h) (fun h => h.1)), rfl, rfl⟩
      exact ((HX1.out.to (fun _ _ h => h.elim)).trans HX2.out (fun _ _ h => h) (fun _ _ h => .inl h)).trans (Ex.setCell w2 ⟨D.p, 7, none⟩ _) (fun _ _ h => h) (fun _ _ h => .inl h)
  · have h4 : s.liftE id = Ho.liftE id s.holds := by unfold TS.liftE; rw [if_neg he]
    have hst : s.lift id = s := by unfold TS.lift; rw [h4, if_neg he]
    have H4 := Lib.hid h4
    have HST := Lib.hid hst
    have hne : (Ho.liftE id s.holds == 0) = false := by simpa using he
    have hne2 : (Ho.liftE id s.holds != 0) = true := by simpa using he
    clear h4 hst
    go_wp2
    go_ret
    exact ⟨ret_int H4.out.symm, by rw [HST.out]; exact .same HL.out HX1.out⟩
/-- another forest -/
theorem RLstAt.setFor {w : World} {D : RLstP} {s : TS} (h : RLstAt w D s) {p' : Nat} {A' : Option Addr} {c' : Nat} {fs' : List Tw} (hf : RForAt w p' A' c' (brs fs')) (hp : ∀ b, (D.I b ∨ Bl D.P.R b) → b ≠ p') (hap : ∀ b, Bl A' b → ¬ D.M b) :
    RLstAt (w.setCell ⟨D.p, 8, none⟩ (.pointer (some ⟨p', 0, none⟩))) { D with P := { D.P with pf := p', A := A', cA := c' } } { s with fs := fs' } := by
  obtain ⟨t1, t2, t3⟩ := h.tys
  have hx := Ex.setCell w ⟨D.p, 8, none⟩ (.pointer (some ⟨p', 0, none⟩))
  have hI : ∀ b, D.I b → ¬ b = D.p := fun b hb e => (h.ap b (.inl hb)).1 (.inl e)
  have tf : Ty w p' 94 := .of hf.blk
  refine ⟨by rw [heap_setCell_same _ _ _ _ _ _ h.blk]; rfl, h.ws.ex hx (fun b hb => hI b (.inl hb)), h.cap0,
    ⟨h.law.tab.ex hx (t2.ne t1 (by decide)) (fun b hb => hI b (.inr (.inl hb))), h.law.rul.ex hx (fun b hb e => (h.ap b (.inr hb)).1 (.inl e)), h.law.hol.ex hx (fun b hb => hI b (.inr (.inr (.inl hb)))), fun b hb => Nat.lt_of_lt_of_le (h.law.hlt b hb) hx.size, h.law.hcap, hf.ex hx (tf.ne t1 (by decide)) (fun b hb e => hap b hb (.inl e))⟩, fun b hb => ?_⟩
  have hold : ∀ b, (D.I b ∨ Bl D.P.R b) → ¬ (b = D.p ∨ b = D.P.pt ∨ b = p') ∧ b < (w.setCell ⟨D.p, 8, none⟩ (.pointer (some ⟨p', 0, none⟩))).heap.size := fun b hb => by
    refine ⟨fun hm => ?_, Nat.lt_of_lt_of_le (h.ap b hb).2 hx.size⟩
    rcases hm with hm | hm | hm
    · exact (h.ap b hb).1 (.inl hm)
    · exact (h.ap b hb).1 (.inr (.inl hm))
    · exact hp b hb hm
  rcases hb with (hb | hb | hb | hb) | hb
  · exact hold b (.inl (.inl hb))
  · exact hold b (.inl (.inr (.inl hb)))
  · exact hold b (.inl (.inr (.inr (.inl hb))))
  · refine ⟨fun hm => ?_, Nat.lt_of_lt_of_le (hf.ap b hb).2 hx.size⟩
    rcases hm with hm | hm | hm
    · exact hap b hb (.inl hm)
    · exact hap b hb (.inr (.inl hm))
    · exact (hf.ap b hb).1 hm
  · exact hold b (.inr hb)
theorem rdrop_brs {fs : List Tw} (hf : FOk fs) (id : Int) : rdropE (brs fs) id = Tr.dropE fs id ∧ (Tr.dropE fs id = 0 → rdropL (brs fs) id = brs (fs.set id.toNat tw0)) := by
  have e : rdropE (brs fs) id = Tr.dropE fs id := by
    unfold rdropE Tr.dropE
    by_cases h0 : id = 0
    · rw [if_pos h0, if_pos h0]
    rw [if_neg h0, if_neg h0]
    rcases idxB_cases id (brs fs) with ⟨k, hk, h1, _, h3, _, _⟩ | ⟨h1, h3, _, _⟩
    · rw [ralive_brs hf] at h3
      have hng : ¬ ((k : Nat) : Int) < 0 := by omega
      have hna : ¬ alive fs id = false := by rw [h3]; simp
      rw [h1, if_neg hng, if_neg hna, rkids_brs hf h3]
    · rw [ralive_brs hf] at h3
      have hz : (id == 0) = false := by simpa using h0
      rw [h1, if_pos (by decide), if_pos (h3.trans hz)]
  refine ⟨e, fun h => ?_⟩
  obtain ⟨h1, h2, h3⟩ := dropE_ok h
  obtain ⟨i, rfl, hi, hal⟩ := (alive_iff _ _).1 h2
  have hal' : (tg fs i).al = true := by rcases hal with h | h; · omega
                                        · exact h
  obtain ⟨hb1, hb2⟩ := brs_drop hf hi hal'
  have hk : lowN (brs fs) i < (brs fs).length := by
    rcases Nat.lt_or_ge (lowN (brs fs) i) (brs fs).length with h | h
    · exact h
    · rw [List.getElem?_eq_none h] at hb2; cases hb2
  have hid : (brs fs)[lowN (brs fs) i].id = i := by
    rw [List.getElem?_eq_getElem hk] at hb2
    injection hb2 with hb2
    rw [hb2]; rfl
  have hx : idxB (i : Int) (brs fs) = (lowN (brs fs) i : Int) := idxB_at hk hid (fun j hj hjk => by
    have := List.pairwise_iff_getElem.1 (brs_srt fs) j _ hj hk hjk
    omega)
  unfold rdropL
  rw [e, if_pos h, hx, Int.toNat_natCast, Int.toNat_natCast, hb1]
set_option maxHeartbeats 2000000 in
theorem rdrop54_any (D : RLstP) (s : TS) (id : Int) (w : World) (h : RLstAt w D s) (hI : Inv s) :
    Calls Tryz.prog 87 #[.pointer (some ⟨D.p, 0, none⟩), .int .i64 id] w fun e w' => e = .returned (.int .i64 (s.dropE id)) ∧ ROpP D (s.drop id) w w' := by
  have HL := Lib.hid h
  have ht := hI.top
  have HFO := Lib.hid hI.fs
  have HCO := Lib.hid (rfcopy_any D.P.pf D.P.A D.P.cA (brs s.fs) w h.law.fs)
  have hlp := h.lt
  have hc8 : w.cell? ⟨D.p, 8, none⟩ = some (.pointer (some ⟨D.P.pf, 0, none⟩)) := h.cell rfl
  clear h hI
  go_enter Tryz.func87, Tryz.ntmps87
  go_wp2_with fail
  refine HCO.out.mono ?_
  rintro e w1 ⟨p', A1, c1, rfl, hp', hf1, hA1, hx1⟩
  have HX1 := Lib.hid hx1
  have HP1 := Lib.hid hp'
  have HA1 := Lib.hid hA1
  clear hc8 hlp HCO
  go_wp2_with fail
  refine (rfdrop_any p' A1 c1 (brs s.fs) id w1 hf1).mono ?_
  rintro e w2 ⟨A2, c2, rfl, hf2, hA2, hx2⟩
  obtain ⟨hde, hdl⟩ := rdrop_brs HFO.out id
  rw [hde]
  have HX2 : Hid (Ex0 w w2) := hx1.trans hx2 (fun _ _ h => h) (fun i hi h => by have h' : i = p' := h; omega)
  have HF2 := Lib.hid hf2
  have HA2 : Hid (∀ b, Bl A2 b → w.heap.size ≤ b) := fun b hb => (hA2 b hb).elim (HA1.out b) (fun h => by have := HX1.out.size; omega)
  have HDL := Lib.hid hdl
  have HL2 := Lib.hid (HL.out.ex0 HX2.out)
  clear hx1 hp' hf1 hA1 hx2 hf2 hA2 hde hdl
  by_cases he : Tr.dropE s.fs id = 0
  · rw [he]
    go_wp2_with fail
    refine (rtake_any D s w2 HL2.out ht.1).mono ?_
    rintro e w3 ⟨rfl, hw3⟩
    by_cases hn : s.next = 0
    · rw [takeW_none hn] at hw3
      subst hw3
      have h14 : s.dropE id = 14 := by unfold TS.dropE; rw [if_pos he, if_pos hn]
      have hst : s.drop id = s := by unfold TS.drop; rw [h14]; rfl
      have H14 := Lib.hid h14
      have HST := Lib.hid hst
      rw [hn]
      clear h14 hst
      go_wp2
      go_ret
      exact ⟨ret_int H14.out.symm, by rw [HST.out]; exact .same HL.out HX2.out⟩
    · rw [takeW_some hn] at hw3
      have hv : s.next = s.top + 1 := (next_pos hn).2
      have h0 : s.dropE id = 0 := by unfold TS.dropE; rw [if_pos he, if_neg hn]
      have hst : s.drop id = { s with top := s.top + 1, fs := s.fs.set id.toNat tw0 } := by unfold TS.drop; rw [if_pos h0]
      have hne : (s.top + 1 == 0) = false := by simp; omega
      have H0 := Lib.hid h0
      have HST := Lib.hid hst
      have HBR : Hid (rdropL (brs s.fs) id = brs (s.fs.set id.toNat tw0)) := HDL.out he
      have HL3 : Hid (RLstAt w3 D { s with top := s.top + 1 }) := by show RLstAt _ _ _; rw [hw3]; exact HL2.out.setC rfl rfl rfl rfl rfl rfl
      have hx3 : Ex (· = D.p) w2 w3 := by rw [hw3]; exact Ex.setCell w2 ⟨D.p, 3, none⟩ _
      have HX3 := Lib.hid hx3
      rw [hv]
      clear hw3 hv h0 hst hn hx3
      have k8 : w3.cell? ⟨D.p, 8, none⟩ = some (.pointer (some ⟨D.P.pf, 0, none⟩)) := HL3.out.cell rfl
      have f8 := HL3.out.frozen 8
      have hl3 := HL3.out.lt
      go_wp2
      go_ret
      refine ⟨ret_int H0.out.symm, ?_⟩
      rw [HST.out]
      have hf3 := HF2.out
      rw [HBR.out] at hf3
      have hlt := HL.out.lt
      have hp1 := HP1.out
      refine ⟨{ D with P := { D.P with pf := p', A := A2, cA := c2 } }, rfl, HL3.out.setFor (hf3.ex HX3.out (by show ¬ p' = D.p; omega) (fun b hb e => by have := HA2.out b hb; have e' : b = D.p := e; omega)) (fun b hb e => by have := (HL.out.ap b hb).2; omega) (fun b hb hm => by have := HA2.out b hb; have := HL.out.mlt b hm; omega), ?_, fun b hb => ?_, rfl, rfl⟩
      · exact ((HX2.out.to (fun _ _ h => h.elim)).trans HX3.out (fun _ _ h => h) (fun _ _ h => .inl h)).trans (Ex.setCell w3 ⟨D.p, 8, none⟩ _) (fun _ _ h => h) (fun _ _ h => .inl h)
      · rcases hb with (hb | hb | hb) | hb | hb | hb | hb
        · exact .inl (.inl (.inl hb))
        · exact .inl (.inl (.inr (.inl hb)))
        · exact .inr (by have hb' : b = p' := hb; omega)
        · exact .inl (.inr (.inl hb))
        · exact .inl (.inr (.inr (.inl hb)))
        · exact .inl (.inr (.inr (.inr (.inl hb))))
        · exact .inr (HA2.out b hb)
  · have h4 : s.dropE id = Tr.dropE s.fs id := by unfold TS.dropE; rw [if_neg he]
    have hst : s.drop id = s := by unfold TS.drop; rw [h4, if_neg he]
    have H4 := Lib.hid h4
    have HST := Lib.hid hst
    have hne : (Tr.dropE s.fs id == 0) = false := by simpa using he
    have hne2 : (Tr.dropE s.fs id != 0) = true := by simpa using he
    clear h4 hst
    go_wp2
    go_ret
    exact ⟨ret_int H4.out.symm, by rw [HST.out]; exact .same HL.out HX2.out⟩
end Go.Proofs.YtoglddndicmelaaGreat.Tr
