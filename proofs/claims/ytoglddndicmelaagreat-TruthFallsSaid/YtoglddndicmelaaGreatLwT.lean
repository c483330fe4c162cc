/- Layer 54, the law's side: do; a list behind deeds. -/
import Derived.Test.YtoglddndicmelaaGreatLwC
namespace Go.Proofs.YtoglddndicmelaaGreat.Tr
open Go.RowKit Go.Proofs.YtoglddndicmelaaGreatB Go.Proofs.YtoglddndicmelaaGreat
set_option maxRecDepth 100000

theorem do_any (w0 : World) (L : LstP) (D : RLstP) (s : TS) (x : ActT) (w : World) (h : At2 w0 w L D s s) (hI : Inv s) (hlen : s.tab.length ≤ 900) (hx : x.Ok) :
    Calls Tryz.prog 48 #[.pointer (some ⟨L.p, 0, none⟩), .pointer (some ⟨D.p, 0, none⟩), .agg x.cells.toArray] w fun e w' => e = .returned (.int .i64 1) ∧ DoP w0 L D (stepA s x) w' := by
  obtain ⟨d, br, vol, blk, a, b, c, y⟩ := x
  obtain ⟨hd, hbr, hvol, hblk, ha, hb, hc, hy⟩ := hx
  dsimp only at hd hbr hvol hblk ha hb hc hy
  have hcases : d % 10 = 3 ∨ d % 10 = 4 ∨ d % 10 = 5 ∨ d % 10 = 6 ∨ d % 10 = 7 ∨ d % 10 = 8 ∨ d % 10 = 9 ∨ d % 10 < 3 := by omega
  unfold stepA
  dsimp only
  rcases hcases with h4 | h4 | h4 | h4 | h4 | h4 | h4 | h4
  · rw [if_pos h4]
    exact do3_any w0 L D s d br vol blk a b c y w h hI hd hbr h4 ha
  · rw [if_neg (by omega), if_pos h4]
    exact do4_any w0 L D s d br vol blk a b c y w h hI hd hbr h4
  · rw [if_neg (by omega), if_neg (by omega), if_pos h4]
    exact do5_any w0 L D s d br vol blk a b c y w h hI hd hbr h4 ha
  · rw [if_neg (by omega), if_neg (by omega), if_neg (by omega), if_pos h4]
    exact do6_any w0 L D s d br vol blk a b c y w h hI hd hbr h4
  · rw [if_neg (by omega), if_neg (by omega), if_neg (by omega), if_neg (by omega), if_pos h4]
    exact do7_any w0 L D s d br vol blk a b c y w h hI hd hbr h4 ha hb hc
  · rw [if_neg (by omega), if_neg (by omega), if_neg (by omega), if_neg (by omega), if_neg (by omega), if_pos h4]
    exact do8_any w0 L D s d br vol blk a b c y w h hI hd hbr h4 ha
  · rw [if_neg (by omega), if_neg (by omega), if_neg (by omega), if_neg (by omega), if_neg (by omega), if_neg (by omega), if_pos h4]
    exact do9_any w0 L D s d br vol blk a b c y w h hI hd hbr h4 ha
  · rw [if_neg (by omega), if_neg (by omega), if_neg (by omega), if_neg (by omega), if_neg (by omega), if_neg (by omega), if_neg (by omega)]
    exact do0_any w0 L D s d br vol blk a b c y w h hI hd hbr h4 hvol hblk hy hlen

/-- the blocks of a slice that is an argument -/
theorem okSl_lt {P : Program} {r : Reach} {base : Nat} {e t : TypeId} {w : World} {A : Option Addr} {n cap : Nat} (ht : P.underlying t = some (.slice e)) (h : Value.okWide P w r base t (.slice A n cap)) : ∀ b, Bl A b → b < w.heap.size := by
  intro b hb
  cases A with
  | none => cases hb
  | some a =>
    simp only [Value.okWide, ht, Cell.okWide, Cell.ok] at h
    obtain ⟨_, _, _, _, row, cells, hs, _⟩ := h
    unfold Bl at hb
    simp only [Option.map_some, Option.some.injEq] at hb
    subst hb
    unfold World.shape? at hs
    rcases Nat.lt_or_ge a.block w.heap.size with hl | hl
    · exact hl
    · rw [Array.getElem?_eq_none hl] at hs
      simp at hs

/-- a setup of two volumes of two blocks -/
def s22 (rs : List Rul) : TS := TS.init 2 2 rs
/-- whether the law looks at it -/
def lookB (n m : Nat) (rs : List Rul) : Bool := decide (m ≤ 24) && mayS 2 2 n rs
structure PlayOk (n : Nat) (rs : List Rul) (xs : List ActT) (s : TS) : Prop where
  inv : Inv s
  len : s.tab.length ≤ 24
  vols : s.vols = 2
  blocks : s.blocks = 2
  top : s.top ≤ 6120
theorem play_facts {n : Nat} {rs : List Rul} {xs : List ActT} (hn : rs.length = n) (hx : ∀ x ∈ xs, x.Ok) (h : lookB n xs.length rs = true) : PlayOk n rs xs (playA (s22 rs) xs) := by
  unfold lookB at h
  rw [Bool.and_eq_true, decide_eq_true_eq] at h
  have hi := inv_init h.2 hn
  have h0 : (s22 rs).tab.length = 0 := rfl
  have ht : (s22 rs).top = 0 := rfl
  obtain ⟨h1, h2⟩ := play_ok hi xs hx (by show (s22 rs).tab.length + _ ≤ _; omega)
  obtain ⟨h3, h4, _, h5⟩ := play_dims hi xs hx (by show (s22 rs).tab.length + _ ≤ _; omega)
  refine ⟨h1, ?_, h3, h4, ?_⟩
  · have h2' : (playA (s22 rs) xs).tab.length ≤ (s22 rs).tab.length + xs.length := h2
    omega
  · have h5' : (playA (s22 rs) xs).top ≤ (s22 rs).top + 255 * xs.length := h5
    rw [ht] at h5'
    have := h.1
    omega
/-- what played leaves -/
def PlayP (n : Nat) (rs : List Rul) (xs : List ActT) (w : World) (e : Ending) (w' : World) : Prop :=
  (lookB n xs.length rs = false → e = .returned (.tuple #[.pointer none, .pointer none, .int .i64 2]) ∧ Ex0 w w') ∧
  (lookB n xs.length rs = true → ∃ L D, e = .returned (.tuple #[.pointer (some ⟨L.p, 0, none⟩), .pointer (some ⟨D.p, 0, none⟩), .int .i64 1]) ∧ At2 w w' L D (playA (s22 rs) xs) (playA (s22 rs) xs))
theorem play_no {n : Nat} {rs : List Rul} {xs : List ActT} {w w' : World} (h : lookB n xs.length rs = false) (hx : Ex0 w w') : PlayP n rs xs w (.returned (.tuple #[.pointer none, .pointer none, .int .i64 2])) w' := ⟨fun _ => ⟨rfl, hx⟩, fun h' => by rw [h] at h'; cases h'⟩
set_option maxHeartbeats 4000000 in
theorem played_any (A : Option Addr) (n cap : Nat) (rs : List Rul) (B : Option Addr) (m capb : Nat) (xs : List ActT) (w : World) (hs : Sl w 3 A n (rs.flatMap Rul.cells)) (hA : ∀ b, Bl A b → b < w.heap.size) (ha : Sl w 8 B m (xs.flatMap ActT.cells)) (hx : ∀ x ∈ xs, x.Ok) :
    Calls Tryz.prog 18 #[.slice A n cap, .slice B m capb] w (PlayP n rs xs w) := by
  have hln : rs.length = n := by have := hs.len; rw [flat_len Rul.cells 3 Rul.length] at this; omega
  have hxn : xs.length = m := by have := ha.len; rw [flat_len ActT.cells 8 ActT.len] at this; omega
  have hmn := hs.small
  have hmm := ha.small
  have HSL := Lib.hid hs
  have HSA := Lib.hid ha
  have HOK := Lib.hid hx
  have HAL := Lib.hid hA
  clear hs ha hx hA
  by_cases h24 : 24 < m
  · have HN : Hid (lookB n xs.length rs = false) := by
      show _ = _; unfold lookB; rw [decide_eq_false (by omega)]; rfl
    have h24' : (24 : Int) < (m : Int) := by omega
    have h24d : decide ((24 : Int) < (m : Int)) = true := decide_eq_true h24'
    go_enter Tryz.func18, Tryz.ntmps18
    go_wp2
    go_ret3
    exact play_no HN.out (Ex.refl _ _)
  have h24' : ¬ (24 : Int) < (m : Int) := by omega
  have h24d : decide ((24 : Int) < (m : Int)) = false := decide_eq_false h24'
  go_enter Tryz.func18, Tryz.ntmps18
  go_wp2_with fail
  refine (setup_any A n cap w).mono ?_
  rintro e w1 ⟨rfl, hx1⟩
  have HX1 := Lib.hid hx1
  clear hx1
  go_wp2_with fail
  obtain ⟨my, hmy⟩ : ∃ my, mayS 2 2 n rs = my := ⟨_, rfl⟩
  have HR := Lib.hid (rmay_any (setC A n cap) 2 2 A n cap rs w1 rfl rfl rfl (HSL.out.ex0 HX1.out))
  rw [hmy] at HR
  have HMY := Lib.hid hmy
  clear hmy
  refine HR.out.mono ?_
  rintro e w2 ⟨rfl, hx2⟩
  have HX2 := Lib.hid (HX1.out.trans0 hx2)
  clear hx2 HR HX1
  cases my with
  | false =>
    have HN : Hid (lookB n xs.length rs = false) := by
      show _ = _; unfold lookB; rw [HMY.out, Bool.and_false]
    go_wp2
    go_ret3
    exact play_no HN.out HX2.out
  | true =>
    have HY : Hid (lookB n xs.length rs = true) := by
      show _ = _; unfold lookB; rw [HMY.out, decide_eq_true (by omega)]; rfl
    go_wp2_with fail
    refine (setup_any A n cap w2).mono ?_
    rintro e w3 ⟨rfl, hx3⟩
    have HX3 := Lib.hid (HX2.out.trans0 hx3)
    clear hx3 HX2
    go_wp2_with fail
    refine (tnew_any (setC A n cap) 2 2 A n cap rs w3 rfl rfl rfl rfl hmn (fun _ => HSL.out.ex0 HX3.out)).mono ?_
    rintro e w4 ⟨hx4, _, hyes⟩
    obtain ⟨L, rfl, hL, hF⟩ := hyes HMY.out
    have HX4 := Lib.hid (HX3.out.trans0 hx4)
    have HL := Lib.hid hL
    have HF : Hid (Fr w.heap.size L.F) := fun b hb => Nat.le_trans HX3.out.size (hF b hb)
    clear hx4 hyes hL hF HX3
    go_wp2_with fail
    refine (setup_any A n cap w4).mono ?_
    rintro e w5 ⟨rfl, hx5⟩
    have HX5 := Lib.hid (HX4.out.trans0 hx5)
    have HL5 := Lib.hid (HL.out.ex0 hx5)
    clear hx5 HX4 HL
    go_wp2_with fail
    refine (rnew54_any (setC A n cap) 2 2 A cap rs w5 rfl rfl (by rw [hln]; rfl) (by rw [hln]; exact HSL.out.ex0 HX5.out) (fun b hb => Nat.lt_of_lt_of_le (HAL.out b hb) HX5.out.size)).mono ?_
    rintro e w6 ⟨hx6, D, rfl, hD, hG, hR, _⟩
    have H0 : Hid (At2 w w6 L D (s22 rs) (s22 rs)) := ⟨HL5.out.ex0 hx6, hD, HF.out, fun b hb => Nat.le_trans HX5.out.size (hG b hb), fun b hb => HAL.out b (by rw [hR] at hb; exact hb), (Fr.dj hG HL5.out.inF (Nat.le_refl _)).symm, HX5.out.trans0 hx6⟩
    clear hx6 hD hG hR HL5 HX5 HF
    go_wp2_with fail
    go_loopw [9] (fun i wr => ∃ k L' D', k ≤ xs.length ∧ i = .int .i64 ((k : Nat) : Int) ∧ L'.p = L.p ∧ D'.p = D.p ∧ At2 w wr L' D' (playA (s22 rs) (xs.take k)) (playA (s22 rs) (xs.take k))) (fun i _ => xs.length - (intOf i).toNat)
    case atStart => exact ⟨0, L, D, by omega, rfl, rfl, rfl, H0.out⟩
    case round =>
      obtain ⟨k, L1, D1, hk, rfl, hp, hq, hat⟩ := hrel
      have HAT := Lib.hid hat
      clear hat
      by_cases hlt : k < xs.length
      · obtain ⟨g, off, hl, rfl, hrow⟩ := (HSA.out.ex0 HAT.out.x).row ActT.len (i := k) (by omega) (by omega)
        have hk0 : (0 : Int) ≤ (k : Int) := by omega
        have hk1 : (k : Int) < (m : Int) := by omega
        have HRW := Lib.hid hrow
        clear hrow
        go_wp2_with (first | refine wpList_load_at rfl 57 (.tmp 35) rfl _ rfl _ _ HRW.out Tryz.underlying57 rfl (by kernel_rfl) ?_ | fail)
        rw [← hp, ← hq]
        have hnat : k ≤ 24 := by omega
        obtain ⟨g1, g2⟩ := play_ok (s := s22 rs) (inv_init HMY.out hln) (xs.take k) (fun x hx => HOK.out x (List.mem_of_mem_take hx)) (by show (0 : Nat) + _ ≤ _; rw [List.length_take]; omega)
        refine (do_any w L1 D1 (playA (s22 rs) (xs.take k)) xs[k] wr HAT.out g1 (by have h0 : (s22 rs).tab.length = 0 := rfl; rw [List.length_take] at g2; omega) (HOK.out _ (List.getElem_mem hlt))).mono ?_
        rintro e w7 ⟨rfl, L2, D2, e1, e2, h2⟩
        have H2 := Lib.hid h2
        clear h2 g1 g2
        rw [hp, hq]
        go_wp2
        go_roundw
        case rel =>
          refine ⟨k + 1, L2, D2, by omega, by go_num, e1.trans hp, e2.trans hq, ?_⟩
          rw [play_snoc _ _ _ hlt]; exact H2.out
        case measure => simp [intOf]; omega
      · have hkn : k = xs.length := by omega
        subst hkn
        have H3 := HAT.out
        rw [List.take_length] at H3
        have HE := Lib.hid H3
        clear H3
        have hkm : ¬ ((xs.length : Nat) : Int) < (m : Int) := by omega
        go_wp2
        go_ret3
        exact ⟨fun h => (by rw [HY.out] at h; cases h), fun _ => ⟨L1, D1, by rw [hp, hq]; rfl, HE.out⟩⟩
end Go.Proofs.YtoglddndicmelaaGreat.Tr
