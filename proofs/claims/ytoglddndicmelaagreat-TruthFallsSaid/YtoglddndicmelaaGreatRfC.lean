/- Contracts of layer 29: the document's forest: Drop, Fork. -/
import Derived.Test.YtoglddndicmelaaGreatRfA
import Derived.Test.YtoglddndicmelaaGreatB10
namespace Go.Proofs.YtoglddndicmelaaGreat.Tr
open Go.RowKit Go.Proofs.YtoglddndicmelaaGreatB Go.Proofs.YtoglddndicmelaaGreat
set_option maxRecDepth 100000

/-- an error's number -/
def rdropE (bs : List Br) (id : Int) : Int := if id = 0 then 7 else if idxB id bs < 0 then 4 else if 0 < rkids bs id then 12 else 0
def rdropL (bs : List Br) (id : Int) : List Br := if rdropE bs id = 0 then bs.take (idxB id bs).toNat ++ bs.drop ((idxB id bs).toNat + 1) else bs
set_option maxHeartbeats 4000000 in
theorem rfdrop_any (p : Nat) (A : Option Addr) (cap : Nat) (bs : List Br) (id : Int) (w : World) (h : RForAt w p A cap bs) :
    Calls Tryz.prog 130 #[.pointer (some ⟨p, 0, none⟩), .int .i64 id] w (RForPost p A (rdropL bs id) (rdropE bs id) w) := by
  have HSAME : Hid (∀ r w', rdropE bs id = r → r ≠ 0 → Ex0 w w' → RForPost p A (rdropL bs id) (rdropE bs id) w (.returned (.int .i64 r)) w') := fun r w' e h0 hx => by
    have e2 : rdropL bs id = bs := by unfold rdropL; rw [e, if_neg h0]
    rw [e, e2]; exact rforPost_same h hx
  by_cases h0 : id = 0
  · have HE : Hid (rdropE bs id = 7) := by show _ = _; unfold rdropE; rw [if_pos h0]
    subst h0
    clear h
    go_enter Tryz.func130, Tryz.ntmps130
    go_wp2
    go_ret
    exact HSAME.out 7 _ HE.out (by decide) (Ex.refl _ _)
  have hz : (id == 0) = false := by simpa using h0
  have HF := Lib.hid (rffind_any p A cap bs id w h)
  have HK := Lib.hid (rfkids_any p A cap bs id w h)
  rcases idxB_cases id bs with ⟨k, hk, h1, _, _, _, _⟩ | ⟨h1, _, _, _⟩
  case inr =>
    have HE : Hid (rdropE bs id = 4) := by show _ = _; unfold rdropE; rw [if_neg h0, h1, if_pos (by decide)]
    rw [h1] at HF
    clear h h1
    go_enter Tryz.func130, Tryz.ntmps130
    go_wp2_with fail
    refine HF.out.mono ?_
    rintro e w1 ⟨rfl, rfl⟩
    go_wp2
    go_ret
    exact HSAME.out 4 _ HE.out (by decide) (Ex.refl _ _)
  by_cases hkd : 0 < rkids bs id
  · have HE : Hid (rdropE bs id = 12) := by show _ = _; unfold rdropE; rw [if_neg h0, h1, if_neg (by omega), if_pos hkd]
    rw [h1] at HF
    have hkd' : (0 : Int) < (rkids bs id : Int) := by omega
    have hk0 : (0 : Int) ≤ (k : Int) := by omega
    clear h h1
    go_enter Tryz.func130, Tryz.ntmps130
    go_wp2_with fail
    refine HF.out.mono ?_
    rintro e w1 ⟨rfl, rfl⟩
    go_wp2_with fail
    refine HK.out.mono ?_
    rintro e w1 ⟨rfl, rfl⟩
    go_wp2
    go_ret
    exact HSAME.out 12 _ HE.out (by decide) (Ex.refl _ _)
  have HE : Hid (rdropE bs id = 0) := by show _ = _; unfold rdropE; rw [if_neg h0, h1, if_neg (by omega), if_neg hkd]
  have HLL : Hid (rdropL bs id = bs.take k ++ bs.drop (k + 1)) := by show _ = _; unfold rdropL; rw [HE.out, if_pos rfl, h1, Int.toNat_natCast]
  have hkz : rkids bs id = 0 := by omega
  rw [hkz] at HK
  rw [h1] at HF
  obtain ⟨i0, hi0, hz0, hz1, hz2⟩ := info_parts infoBr
  have HL := Lib.hid h
  have hlen := h.len
  have hcapn := h.capn
  have hk0 : (0 : Int) ≤ (k : Int) := by omega
  have hs1 : ∀ w', (Instr.sliceAt 92 (.slice A bs.length cap) none (some (.int .i64 k)) none).run Tryz.prog w' = .ok (.slice A k cap) w' := fun w' => run_sliceAt_high (P := Tryz.prog) (sz := 4) Tryz.underlying92 (by kernel_rfl) A bs.length cap k (by omega) w'
  obtain ⟨A2, hA2⟩ : ∃ A2, (if cap = k + 1 then A else A.map (·.add ((k + 1) * 4))) = A2 := ⟨_, rfl⟩
  obtain ⟨n2, hn2⟩ : ∃ n2, bs.length - (k + 1) = n2 := ⟨_, rfl⟩
  obtain ⟨c2, hc2⟩ : ∃ c2, cap - (k + 1) = c2 := ⟨_, rfl⟩
  have hs2 : ∀ w', (Instr.sliceAt 92 (.slice A bs.length cap) (some (.int .i64 ((k : Int) + 1))) none none).run Tryz.prog w' = .ok (.slice A2 n2 c2) w' := fun w' => by
    have := run_sliceAt_low (P := Tryz.prog) (sz := 4) Tryz.underlying92 (by kernel_rfl) A bs.length cap (k + 1) (by omega) w'
    rw [hA2, hn2, hc2, show ((k + 1 : Nat) : Int) = (k : Int) + 1 by omega] at this
    exact this
  have HS1' : Hid (∀ w', Ex0 w w' → Sl w' 4 A k ((bs.take k).flatMap Br.cells)) := fun w' hx => by
    have := (HL.out.ex0 hx).sl.takeS (k := k) (by omega)
    rwa [flat_take Br.cells 4 Br.length] at this
  have HS2' : Hid (∀ w', Ex0 w w' → Sl w' 4 A2 n2 ((bs.drop (k + 1)).flatMap Br.cells)) := fun w' hx => by
    have := Sl.low (HL.out.ex0 hx).sl (k := k + 1) (cap := cap) (by omega) hcapn
    rwa [flat_drop Br.cells 4 Br.length, hA2, hn2] at this
  have HN1 : Hid (A = none → cap = 0) := h.cap0
  have HN2 : Hid (A2 = none → c2 = 0) := fun e => by rw [← hc2]; exact cap_low h.cap0 (hA2.trans e)
  have ONE1 := Lib.hid (br_one (bs.take k))
  have ONE2 := Lib.hid (br_one (bs.drop (k + 1)))
  have hnn : k + n2 + 1 = bs.length := by omega
  have HCELL := Lib.hid h.cell
  have hlp := h.lt
  have hw1 : IntKind.i64.wrap ((k : Int) + 1) = (k : Int) + 1 := by rw [IntKind.wrap_i64]; omega
  clear h h1 hA2 hn2 hc2 hkz hkd h0
  go_enter Tryz.func130, Tryz.ntmps130
  go_wp2_with fail
  refine HF.out.mono ?_
  rintro e w1 ⟨rfl, rfl⟩
  go_wp2_with fail
  refine HK.out.mono ?_
  rintro e wB ⟨rfl, rfl⟩
  go_wp2_with fail
  have HS1 := HS1'
  have HS2 := HS2'
  have HY : Hid (Ex0 wB wB.drew) := Ex.drew _
  have KEEP : Hid (∀ w', Ex0 wB w' → w'.cell? ⟨p, 0, none⟩ = some (.slice A bs.length cap)) := fun w' hx => hx.cellS HCELL.out not_false
  have hS := KEEP.out _ HY.out
  refine wp_region_head (fun w' : World => w'.cell? ⟨p, 0, none⟩ = some (.slice A bs.length cap)) 17 (by kernel_rfl) (by decide) ?_
  simp only [List.length_cons, List.length_nil, List.drop_succ_cons, List.drop_zero]
  have hlpd : p < wB.drew.heap.size := hlp
  generalize wB.drew = wd at *
  refine' wpHead_do 0 rfl (by kernel_rfl) (fun _ _ _ _ h => h) (by rfl) (by assumption) ⟨_, fun w' hS => ?_, ?_⟩
  rotate_left
  · ((try dsimp only at hS); go_split_ands; go_simp; try (with_reducible rfl))
  simp only [Act.put, List.setIfInBounds_toArray, List.set_cons_zero, List.set_cons_succ]
  refine' wpHead_do 2 rfl (by kernel_rfl) (fun _ _ _ _ h => h) (by rfl) (by assumption) ⟨_, fun w' hS => ?_, ?_⟩
  rotate_left
  · ((try dsimp only at hS); go_split_ands; go_simp; try (with_reducible rfl))
  simp only [Act.put, List.setIfInBounds_toArray, List.set_cons_zero, List.set_cons_succ]
  refine' wpHead_do 3 rfl (by kernel_rfl) (fun _ _ _ _ h => h) (by rfl) (by assumption) ⟨_, fun w' hS => ?_, ?_⟩
  rotate_left
  · ((try dsimp only at hS); go_split_ands; go_simp; try (with_reducible rfl))
  simp only [Act.put, List.setIfInBounds_toArray, List.set_cons_zero, List.set_cons_succ]
  refine' wpHead_do 4 rfl (by kernel_rfl) (fun _ _ _ _ h => h) (by rfl) (by assumption) ⟨_, fun w' hS => ?_, ?_⟩
  rotate_left
  · ((try dsimp only at hS); go_split_ands; go_simp; try (with_reducible rfl))
  simp only [Act.put, List.setIfInBounds_toArray, List.set_cons_zero, List.set_cons_succ]
  refine' wpHead_do 5 rfl (by kernel_rfl) (fun _ _ _ _ h => h) (by rfl) (by assumption) ⟨_, fun w' hS => ?_, ?_⟩
  rotate_left
  · ((try dsimp only at hS); go_split_ands; go_simp; try (with_reducible rfl))
  simp only [Act.put, List.setIfInBounds_toArray, List.set_cons_zero, List.set_cons_succ]
  refine' wpHead_do 6 rfl (by kernel_rfl) (fun _ _ _ _ h => h) (by rfl) (by assumption) ⟨_, fun w' hS => ?_, ?_⟩
  rotate_left
  · ((try dsimp only at hS); go_split_ands; go_simp; try (with_reducible rfl))
  simp only [Act.put, List.setIfInBounds_toArray, List.set_cons_zero, List.set_cons_succ]
  refine' wpHead_do 7 rfl (by kernel_rfl) (fun _ _ _ _ h => h) (by rfl) (by assumption) ⟨_, fun w' hS => ?_, ?_⟩
  rotate_left
  · ((try dsimp only at hS); go_split_ands; go_simp; try (with_reducible rfl))
  simp only [Act.put, List.setIfInBounds_toArray, List.set_cons_zero, List.set_cons_succ]
  refine' wpHead_do 9 rfl (by kernel_rfl) (fun _ _ _ _ h => h) (by rfl) (by assumption) ⟨_, fun w' hS => ?_, ?_⟩
  rotate_left
  · ((try dsimp only at hS); go_split_ands; go_simp; try (with_reducible rfl))
  simp only [Act.put, List.setIfInBounds_toArray, List.set_cons_zero, List.set_cons_succ]
  refine' wpHead_do 10 rfl (by kernel_rfl) (fun _ _ _ _ h => h) (by rfl) (by assumption) ⟨_, fun w' hS => ?_, ?_⟩
  rotate_left
  · ((try dsimp only at hS); go_split_ands; go_simp; try (with_reducible rfl))
  simp only [Act.put, List.setIfInBounds_toArray, List.set_cons_zero, List.set_cons_succ]
  refine' wpHead_do 11 rfl (by kernel_rfl) (fun _ _ _ _ h => h) (by rfl) (by assumption) ⟨_, fun w' hS => ?_, ?_⟩
  rotate_left
  · ((try dsimp only at hS); go_split_ands; go_simp; try (with_reducible rfl))
  simp only [Act.put, List.setIfInBounds_toArray, List.set_cons_zero, List.set_cons_succ]
  refine' wpHead_do 12 rfl (by kernel_rfl) (fun _ _ _ _ h => h) (by rfl) (by assumption) ⟨_, fun w' hS => ?_, ?_⟩
  rotate_left
  · ((try dsimp only at hS); go_split_ands; go_simp; try (with_reducible rfl))
  simp only [Act.put, List.setIfInBounds_toArray, List.set_cons_zero, List.set_cons_succ]
  refine' wpHead_do 13 rfl (by kernel_rfl) (fun _ _ _ _ h => h) (by rfl) (by assumption) ⟨_, fun w' hS => ?_, ?_⟩
  rotate_left
  · ((try dsimp only at hS); go_split_ands; go_simp; try (with_reducible rfl))
  simp only [Act.put, List.setIfInBounds_toArray, List.set_cons_zero, List.set_cons_succ]
  refine' wpHead_do 14 rfl (by kernel_rfl) (fun _ _ _ _ h => h) (by rfl) (by assumption) ⟨_, fun w' hS => ?_, ?_⟩
  rotate_left
  · ((try dsimp only at hS); go_split_ands; go_simp; try (with_reducible rfl))
  simp only [Act.put, List.setIfInBounds_toArray, List.set_cons_zero, List.set_cons_succ]
  refine' wpHead_do 15 rfl (by kernel_rfl) (fun _ _ _ _ h => h) (by rfl) (by assumption) ⟨_, fun w' hS => ?_, ?_⟩
  rotate_left
  · ((try dsimp only at hS); go_split_ands; go_simp; try (with_reducible rfl))
  simp only [Act.put, List.setIfInBounds_toArray, List.set_cons_zero, List.set_cons_succ]
  refine wpHead_eff 1 rfl (by kernel_rfl) (by rfl) (fun K hK => ?_)
  have HKK := Lib.hid hK
  clear hK
  refine wp_buildSlice_none 92 96 rfl i0 _ Tryz.underlying92 hi0 hz0 ?_
  obtain ⟨wa, hw⟩ : ∃ x, x = World.alloc wd (.cells #[] 96) := ⟨_, rfl⟩
  rw [← hw]
  obtain ⟨b0, hb0⟩ : ∃ x, x = wd.heap.size := ⟨_, rfl⟩
  rw [← hb0]
  have hx : Ex0 wd wa := by rw [hw]; exact Ex.alloc _ _
  have HO0 : Hid (wa.ownsRow wB.heap.size 96 4 (.slice (some ⟨b0, 0, none⟩) 0 0) 0 []) := by rw [hw, hb0]; exact own_empty (heap_alloc_new _ _) _ HY.out.size
  have HZ0 : Hid (b0 = wd.heap.size ∧ wa.heap.size = wd.heap.size + 1) := ⟨hb0, by rw [hw]; simp⟩
  have HY := Lib.hid (HY.out.trans0 hx)
  replace hS := KEEP.out _ HY.out
  clear hw hx hb0
  refine HKK.out _ _ hS ?_
  clear HKK K
  (try simp only [Act.put, List.setIfInBounds_toArray, List.set_cons_zero, List.set_cons_succ])
  refine wpHead_eff 8 rfl (by kernel_rfl) (by rfl) (fun K hK => ?_)
  have HKK := Lib.hid hK
  clear hK
  refine wp_append_sl (.tmp 18) (.tmp 24) 92 rfl wB.heap.size 96 i0 _ 4 32 Tryz.underlying92 hi0 hz0 hz1 hz2 rfl (by decide) (.slice (some ⟨b0, 0, none⟩) 0 0) 0 [] rfl HO0.out A k cap ((bs.take k).flatMap Br.cells) rfl (HS1.out _ HY.out) HN1.out ONE1.out (by unfold maxLen; omega) (by omega) HY.out.size ?_
  intro v1 wb ho1 hg1 hv1
  rw [Nat.zero_add, List.nil_append] at ho1
  have HO1 := Lib.hid ho1
  have HY := Lib.hid (ex_of_new HY.out hg1 (fun b hb => (HO0.out.lt b hb).1))
  replace hS := KEEP.out _ HY.out
  clear ho1 hg1 hv1
  refine HKK.out _ _ hS ?_
  clear HKK K
  (try simp only [Act.put, List.setIfInBounds_toArray, List.set_cons_zero, List.set_cons_succ])
  refine wpHead_eff 16 rfl (by kernel_rfl) (by rfl) (fun K hK => ?_)
  have HKK := Lib.hid hK
  clear hK
  refine wp_append_sl (.tmp 25) (.tmp 32) 92 rfl wB.heap.size 96 i0 _ 4 32 Tryz.underlying92 hi0 hz0 hz1 hz2 rfl (by decide) v1 k ((bs.take k).flatMap Br.cells) rfl HO1.out A2 n2 c2 ((bs.drop (k + 1)).flatMap Br.cells) rfl (HS2.out _ HY.out) HN2.out ONE2.out (by unfold maxLen; omega) (by omega) HY.out.size ?_
  intro v3 wf ho3 hg3 hv3
  have HO3 := Lib.hid ho3
  have HY := Lib.hid (ex_of_new HY.out hg3 (fun b hb => (HO1.out.lt b hb).1))
  replace hS := KEEP.out _ HY.out
  clear ho3 hg3 hv3
  refine HKK.out _ _ hS ?_
  clear HKK K
  (try simp only [Act.put, List.setIfInBounds_toArray, List.set_cons_zero, List.set_cons_succ])
  have hb := (HL.out.ex0 HY.out)
  have hlpf := hb.lt
  have hcf := hb.frozen 0
  have hcl := hb.cell
  rw [← List.flatMap_append] at HO3
  obtain ⟨A3, c3, rfl, hR, hB3, hX3⟩ := HL.out.put (wB := wB) HY.out (Nat.le_refl _) HO3.out (by rw [List.length_append, List.length_take, List.length_drop]; omega)
  have HR := Lib.hid hR
  have HB3 := Lib.hid hB3
  have HX3 := Lib.hid hX3
  clear hR hB3 hX3 hb hS
  refine wpHead_tail (by kernel_rfl) ?_
  go_wp2
  go_ret
  refine ⟨A3, c3, ret_int HE.out.symm, ?_, HB3.out, HX3.out⟩
  rw [HLL.out]
  exact HR.out
set_option maxHeartbeats 4000000 in
theorem rffork_any (p : Nat) (A : Option Addr) (cap : Nat) (bs : List Br) (id pa ba nu : Int) (w : World) (h : RForAt w p A cap bs) (hid : 1 ≤ id ∧ id ≤ 15) (ha : ralive bs id = false) (hp : ralive bs pa = true) (hb : rnum bs pa ≤ ba) (hn : ba < nu) (hs : bs.Pairwise (fun x y => x.id < y.id)) (hl : bs.length ≤ 15) :
    Calls Tryz.prog 128 #[.pointer (some ⟨p, 0, none⟩), .int .i64 id, .int .i64 pa, .int .u64 ba, .int .u64 nu] w (RForPost p A (bs.take (lowN bs id) ++ ⟨id, pa, ba, nu⟩ :: bs.drop (lowN bs id)) 0 w) := by
  have HA := Lib.hid (fun x => rfalive_any p A cap bs x w h)
  have HN := Lib.hid (rfnum_any p A cap bs pa w h)
  have HAE := Lib.hid ha
  have HPE := Lib.hid hp
  obtain ⟨m, hm⟩ : ∃ m, rnum bs pa = m := ⟨_, rfl⟩
  rw [hm] at HN hb
  have hd1 : decide (id < 1) = false := decide_eq_false (by omega)
  have hd2 : decide (15 < id) = false := decide_eq_false (by omega)
  have hd3 : decide (ba < m) = false := decide_eq_false (by omega)
  have hd4 : decide (nu ≤ ba) = false := decide_eq_false (by omega)
  have HL := Lib.hid h
  have hcapn := h.capn
  have HCELL := Lib.hid h.cell
  have hc := h.cell
  have hlp := h.lt
  have HSRT := Lib.hid hs
  have HSLB := Lib.hid h.sl
  clear h ha hp hs hm
  go_enter Tryz.func128, Tryz.ntmps128
  go_wp2_with fail
  refine (HA.out id).mono ?_
  rintro e w1 ⟨rfl, rfl⟩
  rw [HAE.out]
  go_wp2_with fail
  refine (HA.out pa).mono ?_
  rintro e w1 ⟨rfl, rfl⟩
  rw [HPE.out]
  go_wp2_with fail
  refine HN.out.mono ?_
  rintro e w1 ⟨rfl, rfl⟩
  go_wp2_with fail
  go_loopw [11] (fun i wr => ∃ k : Nat, k ≤ bs.length ∧ i = .int .i64 k ∧ wr = w1 ∧ ∀ j (hj : j < bs.length), j < k → bs[j].id < id) (fun i _ => bs.length - (intOf i).toNat)
  case atStart => exact ⟨0, Nat.zero_le _, rfl, rfl, fun j _ h => by omega⟩
  case round =>
    obtain ⟨k, hk, rfl, rfl, hlo⟩ := hrel
    have HLO := Lib.hid hlo
    clear hlo
    have hk0 : (0 : Int) ≤ (k : Int) := by omega
    by_cases hgo : ∃ hkl : k < bs.length, bs[k].id < id
    · obtain ⟨hkl, hlt⟩ := hgo
      obtain ⟨g, off, hl', hAA, hrow⟩ := HSLB.out.row Br.length (by omega) hkl
      have hk1 : (k : Int) < (bs.length : Int) := by omega
      have hc0 : wr.cell? ⟨g, off + k * 4, none⟩ = some (.int .i64 bs[k].id) := hrow 0 _ rfl
      have hb0 : g < wr.heap.size := World.block_lt_of_cell? _ _ hc0
      rw [hAA] at hc
      obtain ⟨x, hx⟩ : ∃ x, bs[k].id = x := ⟨_, rfl⟩
      rw [hx] at hc0 hlt
      have HX := Lib.hid hx
      have HLT := Lib.hid hlt
      clear hrow hx
      go_wp2
      go_roundw
      case rel =>
        refine ⟨k + 1, by omega, by go_num, trivial, fun j hj hjk => ?_⟩
        by_cases e : j = k
        · subst e; rw [HX.out]; exact HLT.out
        · exact HLO.out j hj (by omega)
      case measure => simp [intOf]; omega
    · have HKE : Hid (lowN bs id = k) := lowN_at hk HSRT.out HLO.out (fun hkl hlt => hgo ⟨hkl, hlt⟩)
      have hgo' : k < bs.length → ∃ (g off : Nat) (x : Int), A = some ⟨g, off, none⟩ ∧ wr.cell? ⟨g, off + k * 4, none⟩ = some (.int .i64 x) ∧ ¬ x < id := fun hkl => by
        obtain ⟨g, off, hl', hAA, hrow⟩ := HSLB.out.row Br.length (by omega) hkl
        exact ⟨g, off, bs[k].id, hAA, hrow 0 _ rfl, fun hlt => hgo ⟨hkl, hlt⟩⟩
      have HGO := Lib.hid hgo'
      clear hgo hgo'
      obtain ⟨i0, hi0, hz0, hz1, hz2⟩ := info_parts infoBr
      by_cases hkl : k < bs.length
      · obtain ⟨g, off, x, rfl, hc0, hnlt⟩ := HGO.out hkl
        have hk1 : (k : Int) < (bs.length : Int) := by omega
        have hb0 : g < wr.heap.size := World.block_lt_of_cell? _ _ hc0
        go_wp2_with fail
        obtain ⟨wB, hwB⟩ : ∃ wB, wr.alloc (.cells #[.int .i64 id, .int .i64 pa, .int .u64 ba, .int .u64 nu] 96) = wB := ⟨_, rfl⟩
        have hbB : wB.heap[wr.heap.size]? = some (.cells #[.int .i64 id, .int .i64 pa, .int .u64 ba, .int .u64 nu] 96 (0, 0)) := by rw [← hwB]; exact heap_alloc_new _ _
        have hxB : Ex0 wr wB := by rw [← hwB]; exact Ex.alloc _ _
        rw [hwB]
        have HXB := Lib.hid hxB
        have HBB := Lib.hid hbB
        have HLB := Lib.hid (HL.out.ex0 hxB)
        have hlpB := HLB.out.lt
        have hs1 : ∀ w', (Instr.sliceAt 92 (.slice (some ⟨g, off, none⟩) bs.length cap) none (some (.int .i64 k)) none).run Tryz.prog w' = .ok (.slice (some ⟨g, off, none⟩) k cap) w' := fun w' => run_sliceAt_high (P := Tryz.prog) (sz := 4) Tryz.underlying92 (by kernel_rfl) (some ⟨g, off, none⟩) bs.length cap k (by omega) w'
        obtain ⟨A2, hA2⟩ : ∃ A2, (if cap = k then (some ⟨g, off, none⟩) else ((some ⟨g, off, none⟩) : Option Addr).map (·.add (k * 4))) = A2 := ⟨_, rfl⟩
        obtain ⟨n2, hn2⟩ : ∃ n2, bs.length - k = n2 := ⟨_, rfl⟩
        obtain ⟨c2, hc2⟩ : ∃ c2, cap - k = c2 := ⟨_, rfl⟩
        have hs2 : ∀ w', (Instr.sliceAt 92 (.slice (some ⟨g, off, none⟩) bs.length cap) (some (.int .i64 k)) none none).run Tryz.prog w' = .ok (.slice A2 n2 c2) w' := fun w' => by
          have := run_sliceAt_low (P := Tryz.prog) (sz := 4) Tryz.underlying92 (by kernel_rfl) (some ⟨g, off, none⟩) bs.length cap k (by omega) w'
          rw [hA2, hn2, hc2] at this
          exact this
        have HS1 : Hid (∀ w', Ex0 wB w' → Sl w' 4 (some ⟨g, off, none⟩) k ((bs.take k).flatMap Br.cells)) := fun w' hx => by
          have := (HLB.out.ex0 hx).sl.takeS (k := k) (by omega)
          rwa [flat_take Br.cells 4 Br.length] at this
        have HS2 : Hid (∀ w', Ex0 wB w' → Sl w' 4 A2 n2 ((bs.drop k).flatMap Br.cells)) := fun w' hx => by
          have := Sl.low (HLB.out.ex0 hx).sl (k := k) (cap := cap) (by omega) hcapn
          rwa [flat_drop Br.cells 4 Br.length, hA2, hn2] at this
        have HN1 : Hid (((some ⟨g, off, none⟩) : Option Addr) = none → cap = 0) := HL.out.cap0
        have HN2 : Hid (A2 = none → c2 = 0) := fun e => by rw [← hc2]; exact cap_low HL.out.cap0 (hA2.trans e)
        have ONE1 := Lib.hid (br_one (bs.take k))
        have ONE2 := Lib.hid (br_one (bs.drop k))
        have hnn : k + n2 = bs.length := by omega
        clear hA2 hn2 hc2 hwB hbB hxB hc
        have HY : Hid (Ex0 wB wB.drew) := Ex.drew _
        have KEEP : Hid (∀ w', Ex0 wB w' → w'.cell? ⟨p, 0, none⟩ = some (.slice (some ⟨g, off, none⟩) bs.length cap) ∧ RowAt w' ⟨wr.heap.size, 0, none⟩ [.int .i64 id, .int .i64 pa, .int .u64 ba, .int .u64 nu]) := fun w' hx => ⟨(HLB.out.ex0 hx).cell, fun j u hu => by
          rw [add_row, cell_of_row _ _ _ _ _ _ ((hx.block _ (Array.getElem?_eq_some_iff.1 HBB.out).1 not_false).trans HBB.out), Nat.zero_add]
          simpa using hu⟩
        have hS := KEEP.out _ HY.out
        refine wp_region_head (fun w' : World => w'.cell? ⟨p, 0, none⟩ = some (.slice (some ⟨g, off, none⟩) bs.length cap) ∧ RowAt w' ⟨wr.heap.size, 0, none⟩ [.int .i64 id, .int .i64 pa, .int .u64 ba, .int .u64 nu]) 19 (by kernel_rfl) (by decide) ?_
        simp only [List.length_cons, List.length_nil, List.drop_succ_cons, List.drop_zero]
        have hlpd : p < wB.drew.heap.size := hlpB
        generalize wB.drew = wd at *
        refine' wpHead_do 0 rfl (by kernel_rfl) (fun _ _ _ _ h => h) (by rfl) (by assumption) ⟨_, fun w' hS => ?_, ?_⟩
        rotate_left
        · ((try dsimp only at hS); go_split_ands; go_simp; try (with_reducible rfl))
        simp only [Act.put, List.setIfInBounds_toArray, List.set_cons_zero, List.set_cons_succ]
        refine' wpHead_do 2 rfl (by kernel_rfl) (fun _ _ _ _ h => h) (by rfl) (by assumption) ⟨_, fun w' hS => ?_, ?_⟩
        rotate_left
        · ((try dsimp only at hS); go_split_ands; go_simp; try (with_reducible rfl))
        simp only [Act.put, List.setIfInBounds_toArray, List.set_cons_zero, List.set_cons_succ]
        refine' wpHead_do 3 rfl (by kernel_rfl) (fun _ _ _ _ h => h) (by rfl) (by assumption) ⟨_, fun w' hS => ?_, ?_⟩
        rotate_left
        · ((try dsimp only at hS); go_split_ands; go_simp; try (with_reducible rfl))
        simp only [Act.put, List.setIfInBounds_toArray, List.set_cons_zero, List.set_cons_succ]
        refine' wpHead_do 4 rfl (by kernel_rfl) (fun _ _ _ _ h => h) (by rfl) (by assumption) ⟨_, fun w' hS => ?_, ?_⟩
        rotate_left
        · ((try dsimp only at hS); go_split_ands; go_simp; try (with_reducible rfl))
        simp only [Act.put, List.setIfInBounds_toArray, List.set_cons_zero, List.set_cons_succ]
        refine' wpHead_do 5 rfl (by kernel_rfl) (fun _ _ _ _ h => h) (by rfl) (by assumption) ⟨_, fun w' hS => ?_, ?_⟩
        rotate_left
        · ((try dsimp only at hS); go_split_ands; go_simp; try (with_reducible rfl))
        simp only [Act.put, List.setIfInBounds_toArray, List.set_cons_zero, List.set_cons_succ]
        refine' wpHead_do 6 rfl (by kernel_rfl) (fun _ _ _ _ h => h) (by rfl) (by assumption) ⟨_, fun w' hS => ?_, ?_⟩
        rotate_left
        · ((try dsimp only at hS); go_split_ands; go_simp; try (with_reducible rfl))
        simp only [Act.put, List.setIfInBounds_toArray, List.set_cons_zero, List.set_cons_succ]
        refine' wpHead_do 7 rfl (by kernel_rfl) (fun _ _ _ _ h => h) (by rfl) (by assumption) ⟨_, fun w' hS => ?_, ?_⟩
        rotate_left
        · ((try dsimp only at hS); go_split_ands; go_simp; try (with_reducible rfl))
        simp only [Act.put, List.setIfInBounds_toArray, List.set_cons_zero, List.set_cons_succ]
        refine' wpHead_do 9 rfl (by kernel_rfl) (fun _ _ _ _ h => h) (by rfl) (by assumption) ⟨_, fun w' hS => exec_load_at 96 (.tmp 12) rfl ⟨wr.heap.size, 0, none⟩ rfl _ _ hS.2 Tryz.underlying96 rfl (by kernel_rfl), ?_⟩
        simp only [Act.put, List.setIfInBounds_toArray, List.set_cons_zero, List.set_cons_succ]
        refine' wpHead_do 12 rfl (by kernel_rfl) (fun _ _ _ _ h => h) (by rfl) (by assumption) ⟨_, fun w' hS => ?_, ?_⟩
        rotate_left
        · ((try dsimp only at hS); go_split_ands; go_simp; try (with_reducible rfl))
        simp only [Act.put, List.setIfInBounds_toArray, List.set_cons_zero, List.set_cons_succ]
        refine' wpHead_do 13 rfl (by kernel_rfl) (fun _ _ _ _ h => h) (by rfl) (by assumption) ⟨_, fun w' hS => ?_, ?_⟩
        rotate_left
        · ((try dsimp only at hS); go_split_ands; go_simp; try (with_reducible rfl))
        simp only [Act.put, List.setIfInBounds_toArray, List.set_cons_zero, List.set_cons_succ]
        refine' wpHead_do 14 rfl (by kernel_rfl) (fun _ _ _ _ h => h) (by rfl) (by assumption) ⟨_, fun w' hS => ?_, ?_⟩
        rotate_left
        · ((try dsimp only at hS); go_split_ands; go_simp; try (with_reducible rfl))
        simp only [Act.put, List.setIfInBounds_toArray, List.set_cons_zero, List.set_cons_succ]
        refine' wpHead_do 15 rfl (by kernel_rfl) (fun _ _ _ _ h => h) (by rfl) (by assumption) ⟨_, fun w' hS => ?_, ?_⟩
        rotate_left
        · ((try dsimp only at hS); go_split_ands; go_simp; try (with_reducible rfl))
        simp only [Act.put, List.setIfInBounds_toArray, List.set_cons_zero, List.set_cons_succ]
        refine' wpHead_do 16 rfl (by kernel_rfl) (fun _ _ _ _ h => h) (by rfl) (by assumption) ⟨_, fun w' hS => ?_, ?_⟩
        rotate_left
        · ((try dsimp only at hS); go_split_ands; go_simp; try (with_reducible rfl))
        simp only [Act.put, List.setIfInBounds_toArray, List.set_cons_zero, List.set_cons_succ]
        refine' wpHead_do 17 rfl (by kernel_rfl) (fun _ _ _ _ h => h) (by rfl) (by assumption) ⟨_, fun w' hS => ?_, ?_⟩
        rotate_left
        · ((try dsimp only at hS); go_split_ands; go_simp; try (with_reducible rfl))
        simp only [Act.put, List.setIfInBounds_toArray, List.set_cons_zero, List.set_cons_succ]
        refine wpHead_two 1 10 rfl rfl (by kernel_rfl) (by rfl) (by rfl) (fun K hK => ?_) (fun K hK => ?_)
        · have HKK := Lib.hid hK
          clear hK
          refine wp_buildSlice_none 92 96 rfl i0 _ Tryz.underlying92 hi0 hz0 ?_
          obtain ⟨wa, hw⟩ : ∃ x, x = World.alloc wd (.cells #[] 96) := ⟨_, rfl⟩
          rw [← hw]
          obtain ⟨b0, hb0⟩ : ∃ x, x = wd.heap.size := ⟨_, rfl⟩
          rw [← hb0]
          have hx : Ex0 wd wa := by rw [hw]; exact Ex.alloc _ _
          have HO0 : Hid (wa.ownsRow wB.heap.size 96 4 (.slice (some ⟨b0, 0, none⟩) 0 0) 0 []) := by rw [hw, hb0]; exact own_empty (heap_alloc_new _ _) _ HY.out.size
          have HZ0 : Hid (b0 = wd.heap.size ∧ wa.heap.size = wd.heap.size + 1) := ⟨hb0, by rw [hw]; simp⟩
          have HY := Lib.hid (HY.out.trans0 hx)
          replace hS := KEEP.out _ HY.out
          clear hw hx hb0
          refine HKK.out _ _ hS ?_
          clear HKK K
          (try simp only [Act.put, List.setIfInBounds_toArray, List.set_cons_zero, List.set_cons_succ])
          refine wpHead_two 8 10 rfl rfl (by kernel_rfl) (by rfl) (by rfl) (fun K hK => ?_) (fun K hK => ?_)
          · have HKK := Lib.hid hK
            clear hK
            refine wp_append_sl (.tmp 63) (.tmp 69) 92 rfl wB.heap.size 96 i0 _ 4 32 Tryz.underlying92 hi0 hz0 hz1 hz2 rfl (by decide) (.slice (some ⟨b0, 0, none⟩) 0 0) 0 [] rfl HO0.out (some ⟨g, off, none⟩) k cap ((bs.take k).flatMap Br.cells) rfl (HS1.out _ HY.out) HN1.out ONE1.out (by unfold maxLen; omega) (by omega) HY.out.size ?_
            intro v1 wb ho1 hg1 hv1
            rw [Nat.zero_add, List.nil_append] at ho1
            have HO1 := Lib.hid ho1
            have HY := Lib.hid (ex_of_new HY.out hg1 (fun b hb => (HO0.out.lt b hb).1))
            replace hS := KEEP.out _ HY.out
            clear ho1 hg1 hv1
            refine HKK.out _ _ hS ?_
            clear HKK K
            (try simp only [Act.put, List.setIfInBounds_toArray, List.set_cons_zero, List.set_cons_succ])
            refine wpHead_eff 10 rfl (by kernel_rfl) (by rfl) (fun K hK => ?_)
            have HKK := Lib.hid hK
            clear hK
            refine wp_buildSlice_all 92 96 1 _ rfl [Value.agg #[.int .i64 id, .int .i64 pa, .int .u64 ba, .int .u64 nu]] i0 _ 4 Tryz.underlying92 hi0 hz0 hz1 (by decide) (by decide) rfl (by decide) rfl (by intro v hv; rw [List.mem_singleton.1 hv]; exact rfl) ?_
            obtain ⟨wc, hw⟩ : ∃ x, x = World.alloc wb (.cells ([Value.agg #[.int .i64 id, .int .i64 pa, .int .u64 ba, .int .u64 nu]].flatMap fun v => v.cells.toList).toArray 96) := ⟨_, rfl⟩
            rw [← hw]
            obtain ⟨b1, hb1⟩ : ∃ x, x = wb.heap.size := ⟨_, rfl⟩
            rw [← hb1]
            have hx : Ex0 wb wc := by rw [hw]; exact Ex.alloc _ _
            have H1 : Hid (wc.heap[b1]? = some (.cells #[Value.int .i64 id, .int .i64 pa, .int .u64 ba, .int .u64 nu] 96 (0, 0))) := by rw [hw, hb1]; show _ = _; rw [heap_alloc_new]; simp [Value.cells]
            have HZ1 : Hid (b1 = wb.heap.size ∧ wc.heap.size = wb.heap.size + 1) := ⟨hb1, by rw [hw]; simp⟩
            have HNV : Hid (v1.ownBlock ≠ some b1) := by intro h; have h1 := (HO1.out.lt _ h).2; have h2 := HZ1.out.1; omega
            have HO1 := Lib.hid (own_ex HO1.out hx (fun _ _ h => h))
            have HY := Lib.hid (HY.out.trans0 hx)
            replace hS := KEEP.out _ HY.out
            clear hw hx hb1
            refine HKK.out _ _ hS ?_
            clear HKK K
            (try simp only [Act.put, List.setIfInBounds_toArray, List.set_cons_zero, List.set_cons_succ])
            refine wpHead_eff 11 rfl (by kernel_rfl) (by rfl) (fun K hK => ?_)
            have HKK := Lib.hid hK
            clear hK
            refine wp_append_sl (.tmp 70) (.tmp 72) 92 rfl wB.heap.size 96 i0 _ 4 32 Tryz.underlying92 hi0 hz0 hz1 hz2 rfl (by decide) v1 k ((bs.take k).flatMap Br.cells) rfl HO1.out (some ⟨b1, 0, none⟩) 1 1 #[Value.int .i64 id, .int .i64 pa, .int .u64 ba, .int .u64 nu].toList rfl (sl_block H1.out rfl (by decide)) (fun h => by cases h) (by simp [Value.oneCell']) (by unfold maxLen; omega) (by omega) HY.out.size ?_
            intro v2 we ho2 hg2 hv2
            have HO2 := Lib.hid ho2
            have HY := Lib.hid (ex_of_new HY.out hg2 (fun b hb => (HO1.out.lt b hb).1))
            replace hS := KEEP.out _ HY.out
            clear ho2 hg2 hv2
            refine HKK.out _ _ hS ?_
            clear HKK K
            (try simp only [Act.put, List.setIfInBounds_toArray, List.set_cons_zero, List.set_cons_succ])
            refine wpHead_eff 18 rfl (by kernel_rfl) (by rfl) (fun K hK => ?_)
            have HKK := Lib.hid hK
            clear hK
            refine wp_append_sl (.tmp 73) (.tmp 79) 92 rfl wB.heap.size 96 i0 _ 4 32 Tryz.underlying92 hi0 hz0 hz1 hz2 rfl (by decide) v2 (k + 1) (((bs.take k).flatMap Br.cells) ++ #[Value.int .i64 id, .int .i64 pa, .int .u64 ba, .int .u64 nu].toList) rfl HO2.out A2 n2 c2 ((bs.drop k).flatMap Br.cells) rfl (HS2.out _ HY.out) HN2.out ONE2.out (by unfold maxLen; omega) (by omega) HY.out.size ?_
            intro v3 wf ho3 hg3 hv3
            have HO3 := Lib.hid ho3
            have HY := Lib.hid (ex_of_new HY.out hg3 (fun b hb => (HO2.out.lt b hb).1))
            replace hS := KEEP.out _ HY.out
            clear ho3 hg3 hv3
            refine HKK.out _ _ hS ?_
            clear HKK K
            (try simp only [Act.put, List.setIfInBounds_toArray, List.set_cons_zero, List.set_cons_succ])
            have hb3 := (HLB.out.ex0 HY.out)
            have hlpf := hb3.lt
            have hcf := hb3.frozen 0
            have hcl := hb3.cell
            have hcat : ((bs.take k).flatMap Br.cells ++ (#[Value.int .i64 id, .int .i64 pa, .int .u64 ba, .int .u64 nu] : Array Value).toList) ++ (bs.drop k).flatMap Br.cells = (bs.take k ++ ⟨id, pa, ba, nu⟩ :: bs.drop k).flatMap Br.cells := by simp [Br.cells]
            rw [hcat] at HO3
            obtain ⟨A3, c3, rfl, hR, hB3, hX3⟩ := HL.out.put (wB := wB) (HXB.out.trans0 HY.out) HXB.out.size HO3.out (by simp; omega)
            have HR := Lib.hid hR
            have HB3 := Lib.hid hB3
            have HX3 := Lib.hid hX3
            clear hR hB3 hX3 hb3 hS hcat
            refine wpHead_tail (by kernel_rfl) ?_
            go_wp2
            go_ret
            refine ⟨A3, c3, rfl, ?_, HB3.out, HX3.out⟩
            rw [HKE.out]
            exact HR.out
          · have HKK := Lib.hid hK
            clear hK
            refine wp_buildSlice_all 92 96 1 _ rfl [Value.agg #[.int .i64 id, .int .i64 pa, .int .u64 ba, .int .u64 nu]] i0 _ 4 Tryz.underlying92 hi0 hz0 hz1 (by decide) (by decide) rfl (by decide) rfl (by intro v hv; rw [List.mem_singleton.1 hv]; exact rfl) ?_
            obtain ⟨wb, hw⟩ : ∃ x, x = World.alloc wa (.cells ([Value.agg #[.int .i64 id, .int .i64 pa, .int .u64 ba, .int .u64 nu]].flatMap fun v => v.cells.toList).toArray 96) := ⟨_, rfl⟩
            rw [← hw]
            obtain ⟨b1, hb1⟩ : ∃ x, x = wa.heap.size := ⟨_, rfl⟩
            rw [← hb1]
            have hx : Ex0 wa wb := by rw [hw]; exact Ex.alloc _ _
            have H1 : Hid (wb.heap[b1]? = some (.cells #[Value.int .i64 id, .int .i64 pa, .int .u64 ba, .int .u64 nu] 96 (0, 0))) := by rw [hw, hb1]; show _ = _; rw [heap_alloc_new]; simp [Value.cells]
            have HZ1 : Hid (b1 = wa.heap.size ∧ wb.heap.size = wa.heap.size + 1) := ⟨hb1, by rw [hw]; simp⟩
            have HO0 := Lib.hid (own_ex HO0.out hx (fun _ _ h => h))
            have HNE : Hid (b0 ≠ b1) := by have h1 := HZ0.out.1; have h2 := HZ0.out.2; have h3 := HZ1.out.1; show _ ≠ _; omega
            have HY := Lib.hid (HY.out.trans0 hx)
            replace hS := KEEP.out _ HY.out
            clear hw hx hb1
            refine HKK.out _ _ hS ?_
            clear HKK K
            (try simp only [Act.put, List.setIfInBounds_toArray, List.set_cons_zero, List.set_cons_succ])
            refine wpHead_eff 8 rfl (by kernel_rfl) (by rfl) (fun K hK => ?_)
            have HKK := Lib.hid hK
            clear hK
            refine wp_append_sl (.tmp 63) (.tmp 69) 92 rfl wB.heap.size 96 i0 _ 4 32 Tryz.underlying92 hi0 hz0 hz1 hz2 rfl (by decide) (.slice (some ⟨b0, 0, none⟩) 0 0) 0 [] rfl HO0.out (some ⟨g, off, none⟩) k cap ((bs.take k).flatMap Br.cells) rfl (HS1.out _ HY.out) HN1.out ONE1.out (by unfold maxLen; omega) (by omega) HY.out.size ?_
            intro v1 wc ho1 hg1 hv1
            rw [Nat.zero_add, List.nil_append] at ho1
            have HO1 := Lib.hid ho1
            have HNV : Hid (v1.ownBlock ≠ some b1) := own_ne hv1 rfl HNE.out (Array.getElem?_eq_some_iff.1 H1.out).1
            have H1 := Lib.hid (((Ex.ofGrown hg1).block _ (Array.getElem?_eq_some_iff.1 H1.out).1 (by intro h; injection h with h; exact HNE.out h)).trans H1.out)
            have HY := Lib.hid (ex_of_new HY.out hg1 (fun b hb => (HO0.out.lt b hb).1))
            replace hS := KEEP.out _ HY.out
            clear ho1 hg1 hv1
            refine HKK.out _ _ hS ?_
            clear HKK K
            (try simp only [Act.put, List.setIfInBounds_toArray, List.set_cons_zero, List.set_cons_succ])
            refine wpHead_eff 11 rfl (by kernel_rfl) (by rfl) (fun K hK => ?_)
            have HKK := Lib.hid hK
            clear hK
            refine wp_append_sl (.tmp 70) (.tmp 72) 92 rfl wB.heap.size 96 i0 _ 4 32 Tryz.underlying92 hi0 hz0 hz1 hz2 rfl (by decide) v1 k ((bs.take k).flatMap Br.cells) rfl HO1.out (some ⟨b1, 0, none⟩) 1 1 #[Value.int .i64 id, .int .i64 pa, .int .u64 ba, .int .u64 nu].toList rfl (sl_block H1.out rfl (by decide)) (fun h => by cases h) (by simp [Value.oneCell']) (by unfold maxLen; omega) (by omega) HY.out.size ?_
            intro v2 we ho2 hg2 hv2
            have HO2 := Lib.hid ho2
            have HY := Lib.hid (ex_of_new HY.out hg2 (fun b hb => (HO1.out.lt b hb).1))
            replace hS := KEEP.out _ HY.out
            clear ho2 hg2 hv2
            refine HKK.out _ _ hS ?_
            clear HKK K
            (try simp only [Act.put, List.setIfInBounds_toArray, List.set_cons_zero, List.set_cons_succ])
            refine wpHead_eff 18 rfl (by kernel_rfl) (by rfl) (fun K hK => ?_)
            have HKK := Lib.hid hK
            clear hK
            refine wp_append_sl (.tmp 73) (.tmp 79) 92 rfl wB.heap.size 96 i0 _ 4 32 Tryz.underlying92 hi0 hz0 hz1 hz2 rfl (by decide) v2 (k + 1) (((bs.take k).flatMap Br.cells) ++ #[Value.int .i64 id, .int .i64 pa, .int .u64 ba, .int .u64 nu].toList) rfl HO2.out A2 n2 c2 ((bs.drop k).flatMap Br.cells) rfl (HS2.out _ HY.out) HN2.out ONE2.out (by unfold maxLen; omega) (by omega) HY.out.size ?_
            intro v3 wf ho3 hg3 hv3
            have HO3 := Lib.hid ho3
            have HY := Lib.hid (ex_of_new HY.out hg3 (fun b hb => (HO2.out.lt b hb).1))
            replace hS := KEEP.out _ HY.out
            clear ho3 hg3 hv3
            refine HKK.out _ _ hS ?_
            clear HKK K
            (try simp only [Act.put, List.setIfInBounds_toArray, List.set_cons_zero, List.set_cons_succ])
            have hb3 := (HLB.out.ex0 HY.out)
            have hlpf := hb3.lt
            have hcf := hb3.frozen 0
            have hcl := hb3.cell
            have hcat : ((bs.take k).flatMap Br.cells ++ (#[Value.int .i64 id, .int .i64 pa, .int .u64 ba, .int .u64 nu] : Array Value).toList) ++ (bs.drop k).flatMap Br.cells = (bs.take k ++ ⟨id, pa, ba, nu⟩ :: bs.drop k).flatMap Br.cells := by simp [Br.cells]
            rw [hcat] at HO3
            obtain ⟨A3, c3, rfl, hR, hB3, hX3⟩ := HL.out.put (wB := wB) (HXB.out.trans0 HY.out) HXB.out.size HO3.out (by simp; omega)
            have HR := Lib.hid hR
            have HB3 := Lib.hid hB3
            have HX3 := Lib.hid hX3
            clear hR hB3 hX3 hb3 hS hcat
            refine wpHead_tail (by kernel_rfl) ?_
            go_wp2
            go_ret
            refine ⟨A3, c3, rfl, ?_, HB3.out, HX3.out⟩
            rw [HKE.out]
            exact HR.out
        · have HKK := Lib.hid hK
          clear hK
          refine wp_buildSlice_all 92 96 1 _ rfl [Value.agg #[.int .i64 id, .int .i64 pa, .int .u64 ba, .int .u64 nu]] i0 _ 4 Tryz.underlying92 hi0 hz0 hz1 (by decide) (by decide) rfl (by decide) rfl (by intro v hv; rw [List.mem_singleton.1 hv]; exact rfl) ?_
          obtain ⟨wa, hw⟩ : ∃ x, x = World.alloc wd (.cells ([Value.agg #[.int .i64 id, .int .i64 pa, .int .u64 ba, .int .u64 nu]].flatMap fun v => v.cells.toList).toArray 96) := ⟨_, rfl⟩
          rw [← hw]
          obtain ⟨b1, hb1⟩ : ∃ x, x = wd.heap.size := ⟨_, rfl⟩
          rw [← hb1]
          have hx : Ex0 wd wa := by rw [hw]; exact Ex.alloc _ _
          have H1 : Hid (wa.heap[b1]? = some (.cells #[Value.int .i64 id, .int .i64 pa, .int .u64 ba, .int .u64 nu] 96 (0, 0))) := by rw [hw, hb1]; show _ = _; rw [heap_alloc_new]; simp [Value.cells]
          have HZ1 : Hid (b1 = wd.heap.size ∧ wa.heap.size = wd.heap.size + 1) := ⟨hb1, by rw [hw]; simp⟩
          have HY := Lib.hid (HY.out.trans0 hx)
          replace hS := KEEP.out _ HY.out
          clear hw hx hb1
          refine HKK.out _ _ hS ?_
          clear HKK K
          (try simp only [Act.put, List.setIfInBounds_toArray, List.set_cons_zero, List.set_cons_succ])
          refine wpHead_eff 1 rfl (by kernel_rfl) (by rfl) (fun K hK => ?_)
          have HKK := Lib.hid hK
          clear hK
          refine wp_buildSlice_none 92 96 rfl i0 _ Tryz.underlying92 hi0 hz0 ?_
          obtain ⟨wb, hw⟩ : ∃ x, x = World.alloc wa (.cells #[] 96) := ⟨_, rfl⟩
          rw [← hw]
          obtain ⟨b0, hb0⟩ : ∃ x, x = wa.heap.size := ⟨_, rfl⟩
          rw [← hb0]
          have hx : Ex0 wa wb := by rw [hw]; exact Ex.alloc _ _
          have HO0 : Hid (wb.ownsRow wB.heap.size 96 4 (.slice (some ⟨b0, 0, none⟩) 0 0) 0 []) := by rw [hw, hb0]; exact own_empty (heap_alloc_new _ _) _ HY.out.size
          have HZ0 : Hid (b0 = wa.heap.size ∧ wb.heap.size = wa.heap.size + 1) := ⟨hb0, by rw [hw]; simp⟩
          have H1 := Lib.hid ((hx.block _ (Array.getElem?_eq_some_iff.1 H1.out).1 not_false).trans H1.out)
          have HNE : Hid (b0 ≠ b1) := by have h1 := HZ1.out.1; have h2 := HZ1.out.2; have h3 := HZ0.out.1; show _ ≠ _; omega
          have HY := Lib.hid (HY.out.trans0 hx)
          replace hS := KEEP.out _ HY.out
          clear hw hx hb0
          refine HKK.out _ _ hS ?_
          clear HKK K
          (try simp only [Act.put, List.setIfInBounds_toArray, List.set_cons_zero, List.set_cons_succ])
          refine wpHead_eff 8 rfl (by kernel_rfl) (by rfl) (fun K hK => ?_)
          have HKK := Lib.hid hK
          clear hK
          refine wp_append_sl (.tmp 63) (.tmp 69) 92 rfl wB.heap.size 96 i0 _ 4 32 Tryz.underlying92 hi0 hz0 hz1 hz2 rfl (by decide) (.slice (some ⟨b0, 0, none⟩) 0 0) 0 [] rfl HO0.out (some ⟨g, off, none⟩) k cap ((bs.take k).flatMap Br.cells) rfl (HS1.out _ HY.out) HN1.out ONE1.out (by unfold maxLen; omega) (by omega) HY.out.size ?_
          intro v1 wc ho1 hg1 hv1
          rw [Nat.zero_add, List.nil_append] at ho1
          have HO1 := Lib.hid ho1
          have HNV : Hid (v1.ownBlock ≠ some b1) := own_ne hv1 rfl HNE.out (Array.getElem?_eq_some_iff.1 H1.out).1
          have H1 := Lib.hid (((Ex.ofGrown hg1).block _ (Array.getElem?_eq_some_iff.1 H1.out).1 (by intro h; injection h with h; exact HNE.out h)).trans H1.out)
          have HY := Lib.hid (ex_of_new HY.out hg1 (fun b hb => (HO0.out.lt b hb).1))
          replace hS := KEEP.out _ HY.out
          clear ho1 hg1 hv1
          refine HKK.out _ _ hS ?_
          clear HKK K
          (try simp only [Act.put, List.setIfInBounds_toArray, List.set_cons_zero, List.set_cons_succ])
          refine wpHead_eff 11 rfl (by kernel_rfl) (by rfl) (fun K hK => ?_)
          have HKK := Lib.hid hK
          clear hK
          refine wp_append_sl (.tmp 70) (.tmp 72) 92 rfl wB.heap.size 96 i0 _ 4 32 Tryz.underlying92 hi0 hz0 hz1 hz2 rfl (by decide) v1 k ((bs.take k).flatMap Br.cells) rfl HO1.out (some ⟨b1, 0, none⟩) 1 1 #[Value.int .i64 id, .int .i64 pa, .int .u64 ba, .int .u64 nu].toList rfl (sl_block H1.out rfl (by decide)) (fun h => by cases h) (by simp [Value.oneCell']) (by unfold maxLen; omega) (by omega) HY.out.size ?_
          intro v2 we ho2 hg2 hv2
          have HO2 := Lib.hid ho2
          have HY := Lib.hid (ex_of_new HY.out hg2 (fun b hb => (HO1.out.lt b hb).1))
          replace hS := KEEP.out _ HY.out
          clear ho2 hg2 hv2
          refine HKK.out _ _ hS ?_
          clear HKK K
          (try simp only [Act.put, List.setIfInBounds_toArray, List.set_cons_zero, List.set_cons_succ])
          refine wpHead_eff 18 rfl (by kernel_rfl) (by rfl) (fun K hK => ?_)
          have HKK := Lib.hid hK
          clear hK
          refine wp_append_sl (.tmp 73) (.tmp 79) 92 rfl wB.heap.size 96 i0 _ 4 32 Tryz.underlying92 hi0 hz0 hz1 hz2 rfl (by decide) v2 (k + 1) (((bs.take k).flatMap Br.cells) ++ #[Value.int .i64 id, .int .i64 pa, .int .u64 ba, .int .u64 nu].toList) rfl HO2.out A2 n2 c2 ((bs.drop k).flatMap Br.cells) rfl (HS2.out _ HY.out) HN2.out ONE2.out (by unfold maxLen; omega) (by omega) HY.out.size ?_
          intro v3 wf ho3 hg3 hv3
          have HO3 := Lib.hid ho3
          have HY := Lib.hid (ex_of_new HY.out hg3 (fun b hb => (HO2.out.lt b hb).1))
          replace hS := KEEP.out _ HY.out
          clear ho3 hg3 hv3
          refine HKK.out _ _ hS ?_
          clear HKK K
          (try simp only [Act.put, List.setIfInBounds_toArray, List.set_cons_zero, List.set_cons_succ])
          have hb3 := (HLB.out.ex0 HY.out)
          have hlpf := hb3.lt
          have hcf := hb3.frozen 0
          have hcl := hb3.cell
          have hcat : ((bs.take k).flatMap Br.cells ++ (#[Value.int .i64 id, .int .i64 pa, .int .u64 ba, .int .u64 nu] : Array Value).toList) ++ (bs.drop k).flatMap Br.cells = (bs.take k ++ ⟨id, pa, ba, nu⟩ :: bs.drop k).flatMap Br.cells := by simp [Br.cells]
          rw [hcat] at HO3
          obtain ⟨A3, c3, rfl, hR, hB3, hX3⟩ := HL.out.put (wB := wB) (HXB.out.trans0 HY.out) HXB.out.size HO3.out (by simp; omega)
          have HR := Lib.hid hR
          have HB3 := Lib.hid hB3
          have HX3 := Lib.hid hX3
          clear hR hB3 hX3 hb3 hS hcat
          refine wpHead_tail (by kernel_rfl) ?_
          go_wp2
          go_ret
          refine ⟨A3, c3, rfl, ?_, HB3.out, HX3.out⟩
          rw [HKE.out]
          exact HR.out
      · have hk1 : ¬ (k : Int) < (bs.length : Int) := by omega
        go_wp2_with fail
        obtain ⟨wB, hwB⟩ : ∃ wB, wr.alloc (.cells #[.int .i64 id, .int .i64 pa, .int .u64 ba, .int .u64 nu] 96) = wB := ⟨_, rfl⟩
        have hbB : wB.heap[wr.heap.size]? = some (.cells #[.int .i64 id, .int .i64 pa, .int .u64 ba, .int .u64 nu] 96 (0, 0)) := by rw [← hwB]; exact heap_alloc_new _ _
        have hxB : Ex0 wr wB := by rw [← hwB]; exact Ex.alloc _ _
        rw [hwB]
        have HXB := Lib.hid hxB
        have HBB := Lib.hid hbB
        have HLB := Lib.hid (HL.out.ex0 hxB)
        have hlpB := HLB.out.lt
        have hs1 : ∀ w', (Instr.sliceAt 92 (.slice A bs.length cap) none (some (.int .i64 k)) none).run Tryz.prog w' = .ok (.slice A k cap) w' := fun w' => run_sliceAt_high (P := Tryz.prog) (sz := 4) Tryz.underlying92 (by kernel_rfl) A bs.length cap k (by omega) w'
        obtain ⟨A2, hA2⟩ : ∃ A2, (if cap = k then A else (A : Option Addr).map (·.add (k * 4))) = A2 := ⟨_, rfl⟩
        obtain ⟨n2, hn2⟩ : ∃ n2, bs.length - k = n2 := ⟨_, rfl⟩
        obtain ⟨c2, hc2⟩ : ∃ c2, cap - k = c2 := ⟨_, rfl⟩
        have hs2 : ∀ w', (Instr.sliceAt 92 (.slice A bs.length cap) (some (.int .i64 k)) none none).run Tryz.prog w' = .ok (.slice A2 n2 c2) w' := fun w' => by
          have := run_sliceAt_low (P := Tryz.prog) (sz := 4) Tryz.underlying92 (by kernel_rfl) A bs.length cap k (by omega) w'
          rw [hA2, hn2, hc2] at this
          exact this
        have HS1 : Hid (∀ w', Ex0 wB w' → Sl w' 4 A k ((bs.take k).flatMap Br.cells)) := fun w' hx => by
          have := (HLB.out.ex0 hx).sl.takeS (k := k) (by omega)
          rwa [flat_take Br.cells 4 Br.length] at this
        have HS2 : Hid (∀ w', Ex0 wB w' → Sl w' 4 A2 n2 ((bs.drop k).flatMap Br.cells)) := fun w' hx => by
          have := Sl.low (HLB.out.ex0 hx).sl (k := k) (cap := cap) (by omega) hcapn
          rwa [flat_drop Br.cells 4 Br.length, hA2, hn2] at this
        have HN1 : Hid ((A : Option Addr) = none → cap = 0) := HL.out.cap0
        have HN2 : Hid (A2 = none → c2 = 0) := fun e => by rw [← hc2]; exact cap_low HL.out.cap0 (hA2.trans e)
        have ONE1 := Lib.hid (br_one (bs.take k))
        have ONE2 := Lib.hid (br_one (bs.drop k))
        have hnn : k + n2 = bs.length := by omega
        clear hA2 hn2 hc2 hwB hbB hxB hc
        have HY : Hid (Ex0 wB wB.drew) := Ex.drew _
        have KEEP : Hid (∀ w', Ex0 wB w' → w'.cell? ⟨p, 0, none⟩ = some (.slice A bs.length cap) ∧ RowAt w' ⟨wr.heap.size, 0, none⟩ [.int .i64 id, .int .i64 pa, .int .u64 ba, .int .u64 nu]) := fun w' hx => ⟨(HLB.out.ex0 hx).cell, fun j u hu => by
          rw [add_row, cell_of_row _ _ _ _ _ _ ((hx.block _ (Array.getElem?_eq_some_iff.1 HBB.out).1 not_false).trans HBB.out), Nat.zero_add]
          simpa using hu⟩
        have hS := KEEP.out _ HY.out
        refine wp_region_head (fun w' : World => w'.cell? ⟨p, 0, none⟩ = some (.slice A bs.length cap) ∧ RowAt w' ⟨wr.heap.size, 0, none⟩ [.int .i64 id, .int .i64 pa, .int .u64 ba, .int .u64 nu]) 19 (by kernel_rfl) (by decide) ?_
        simp only [List.length_cons, List.length_nil, List.drop_succ_cons, List.drop_zero]
        have hlpd : p < wB.drew.heap.size := hlpB
        generalize wB.drew = wd at *
        refine' wpHead_do 0 rfl (by kernel_rfl) (fun _ _ _ _ h => h) (by rfl) (by assumption) ⟨_, fun w' hS => ?_, ?_⟩
        rotate_left
        · ((try dsimp only at hS); go_split_ands; go_simp; try (with_reducible rfl))
        simp only [Act.put, List.setIfInBounds_toArray, List.set_cons_zero, List.set_cons_succ]
        refine' wpHead_do 2 rfl (by kernel_rfl) (fun _ _ _ _ h => h) (by rfl) (by assumption) ⟨_, fun w' hS => ?_, ?_⟩
        rotate_left
        · ((try dsimp only at hS); go_split_ands; go_simp; try (with_reducible rfl))
        simp only [Act.put, List.setIfInBounds_toArray, List.set_cons_zero, List.set_cons_succ]
        refine' wpHead_do 3 rfl (by kernel_rfl) (fun _ _ _ _ h => h) (by rfl) (by assumption) ⟨_, fun w' hS => ?_, ?_⟩
        rotate_left
        · ((try dsimp only at hS); go_split_ands; go_simp; try (with_reducible rfl))
        simp only [Act.put, List.setIfInBounds_toArray, List.set_cons_zero, List.set_cons_succ]
        refine' wpHead_do 4 rfl (by kernel_rfl) (fun _ _ _ _ h => h) (by rfl) (by assumption) ⟨_, fun w' hS => ?_, ?_⟩
        rotate_left
        · ((try dsimp only at hS); go_split_ands; go_simp; try (with_reducible rfl))
        simp only [Act.put, List.setIfInBounds_toArray, List.set_cons_zero, List.set_cons_succ]
        refine' wpHead_do 5 rfl (by kernel_rfl) (fun _ _ _ _ h => h) (by rfl) (by assumption) ⟨_, fun w' hS => ?_, ?_⟩
        rotate_left
        · ((try dsimp only at hS); go_split_ands; go_simp; try (with_reducible rfl))
        simp only [Act.put, List.setIfInBounds_toArray, List.set_cons_zero, List.set_cons_succ]
        refine' wpHead_do 6 rfl (by kernel_rfl) (fun _ _ _ _ h => h) (by rfl) (by assumption) ⟨_, fun w' hS => ?_, ?_⟩
        rotate_left
        · ((try dsimp only at hS); go_split_ands; go_simp; try (with_reducible rfl))
        simp only [Act.put, List.setIfInBounds_toArray, List.set_cons_zero, List.set_cons_succ]
        refine' wpHead_do 7 rfl (by kernel_rfl) (fun _ _ _ _ h => h) (by rfl) (by assumption) ⟨_, fun w' hS => ?_, ?_⟩
        rotate_left
        · ((try dsimp only at hS); go_split_ands; go_simp; try (with_reducible rfl))
        simp only [Act.put, List.setIfInBounds_toArray, List.set_cons_zero, List.set_cons_succ]
        refine' wpHead_do 9 rfl (by kernel_rfl) (fun _ _ _ _ h => h) (by rfl) (by assumption) ⟨_, fun w' hS => exec_load_at 96 (.tmp 12) rfl ⟨wr.heap.size, 0, none⟩ rfl _ _ hS.2 Tryz.underlying96 rfl (by kernel_rfl), ?_⟩
        simp only [Act.put, List.setIfInBounds_toArray, List.set_cons_zero, List.set_cons_succ]
        refine' wpHead_do 12 rfl (by kernel_rfl) (fun _ _ _ _ h => h) (by rfl) (by assumption) ⟨_, fun w' hS => ?_, ?_⟩
        rotate_left
        · ((try dsimp only at hS); go_split_ands; go_simp; try (with_reducible rfl))
        simp only [Act.put, List.setIfInBounds_toArray, List.set_cons_zero, List.set_cons_succ]
        refine' wpHead_do 13 rfl (by kernel_rfl) (fun _ _ _ _ h => h) (by rfl) (by assumption) ⟨_, fun w' hS => ?_, ?_⟩
        rotate_left
        · ((try dsimp only at hS); go_split_ands; go_simp; try (with_reducible rfl))
        simp only [Act.put, List.setIfInBounds_toArray, List.set_cons_zero, List.set_cons_succ]
        refine' wpHead_do 14 rfl (by kernel_rfl) (fun _ _ _ _ h => h) (by rfl) (by assumption) ⟨_, fun w' hS => ?_, ?_⟩
        rotate_left
        · ((try dsimp only at hS); go_split_ands; go_simp; try (with_reducible rfl))
        simp only [Act.put, List.setIfInBounds_toArray, List.set_cons_zero, List.set_cons_succ]
        refine' wpHead_do 15 rfl (by kernel_rfl) (fun _ _ _ _ h => h) (by rfl) (by assumption) ⟨_, fun w' hS => ?_, ?_⟩
        rotate_left
        · ((try dsimp only at hS); go_split_ands; go_simp; try (with_reducible rfl))
        simp only [Act.put, List.setIfInBounds_toArray, List.set_cons_zero, List.set_cons_succ]
        refine' wpHead_do 16 rfl (by kernel_rfl) (fun _ _ _ _ h => h) (by rfl) (by assumption) ⟨_, fun w' hS => ?_, ?_⟩
        rotate_left
        · ((try dsimp only at hS); go_split_ands; go_simp; try (with_reducible rfl))
        simp only [Act.put, List.setIfInBounds_toArray, List.set_cons_zero, List.set_cons_succ]
        refine' wpHead_do 17 rfl (by kernel_rfl) (fun _ _ _ _ h => h) (by rfl) (by assumption) ⟨_, fun w' hS => ?_, ?_⟩
        rotate_left
        · ((try dsimp only at hS); go_split_ands; go_simp; try (with_reducible rfl))
        simp only [Act.put, List.setIfInBounds_toArray, List.set_cons_zero, List.set_cons_succ]
        refine wpHead_two 1 10 rfl rfl (by kernel_rfl) (by rfl) (by rfl) (fun K hK => ?_) (fun K hK => ?_)
        · have HKK := Lib.hid hK
          clear hK
          refine wp_buildSlice_none 92 96 rfl i0 _ Tryz.underlying92 hi0 hz0 ?_
          obtain ⟨wa, hw⟩ : ∃ x, x = World.alloc wd (.cells #[] 96) := ⟨_, rfl⟩
          rw [← hw]
          obtain ⟨b0, hb0⟩ : ∃ x, x = wd.heap.size := ⟨_, rfl⟩
          rw [← hb0]
          have hx : Ex0 wd wa := by rw [hw]; exact Ex.alloc _ _
          have HO0 : Hid (wa.ownsRow wB.heap.size 96 4 (.slice (some ⟨b0, 0, none⟩) 0 0) 0 []) := by rw [hw, hb0]; exact own_empty (heap_alloc_new _ _) _ HY.out.size
          have HZ0 : Hid (b0 = wd.heap.size ∧ wa.heap.size = wd.heap.size + 1) := ⟨hb0, by rw [hw]; simp⟩
          have HY := Lib.hid (HY.out.trans0 hx)
          replace hS := KEEP.out _ HY.out
          clear hw hx hb0
          refine HKK.out _ _ hS ?_
          clear HKK K
          (try simp only [Act.put, List.setIfInBounds_toArray, List.set_cons_zero, List.set_cons_succ])
          refine wpHead_two 8 10 rfl rfl (by kernel_rfl) (by rfl) (by rfl) (fun K hK => ?_) (fun K hK => ?_)
          · have HKK := Lib.hid hK
            clear hK
            refine wp_append_sl (.tmp 63) (.tmp 69) 92 rfl wB.heap.size 96 i0 _ 4 32 Tryz.underlying92 hi0 hz0 hz1 hz2 rfl (by decide) (.slice (some ⟨b0, 0, none⟩) 0 0) 0 [] rfl HO0.out A k cap ((bs.take k).flatMap Br.cells) rfl (HS1.out _ HY.out) HN1.out ONE1.out (by unfold maxLen; omega) (by omega) HY.out.size ?_
            intro v1 wb ho1 hg1 hv1
            rw [Nat.zero_add, List.nil_append] at ho1
            have HO1 := Lib.hid ho1
            have HY := Lib.hid (ex_of_new HY.out hg1 (fun b hb => (HO0.out.lt b hb).1))
            replace hS := KEEP.out _ HY.out
            clear ho1 hg1 hv1
            refine HKK.out _ _ hS ?_
            clear HKK K
            (try simp only [Act.put, List.setIfInBounds_toArray, List.set_cons_zero, List.set_cons_succ])
            refine wpHead_eff 10 rfl (by kernel_rfl) (by rfl) (fun K hK => ?_)
            have HKK := Lib.hid hK
            clear hK
            refine wp_buildSlice_all 92 96 1 _ rfl [Value.agg #[.int .i64 id, .int .i64 pa, .int .u64 ba, .int .u64 nu]] i0 _ 4 Tryz.underlying92 hi0 hz0 hz1 (by decide) (by decide) rfl (by decide) rfl (by intro v hv; rw [List.mem_singleton.1 hv]; exact rfl) ?_
            obtain ⟨wc, hw⟩ : ∃ x, x = World.alloc wb (.cells ([Value.agg #[.int .i64 id, .int .i64 pa, .int .u64 ba, .int .u64 nu]].flatMap fun v => v.cells.toList).toArray 96) := ⟨_, rfl⟩
            rw [← hw]
            obtain ⟨b1, hb1⟩ : ∃ x, x = wb.heap.size := ⟨_, rfl⟩
            rw [← hb1]
            have hx : Ex0 wb wc := by rw [hw]; exact Ex.alloc _ _
            have H1 : Hid (wc.heap[b1]? = some (.cells #[Value.int .i64 id, .int .i64 pa, .int .u64 ba, .int .u64 nu] 96 (0, 0))) := by rw [hw, hb1]; show _ = _; rw [heap_alloc_new]; simp [Value.cells]
            have HZ1 : Hid (b1 = wb.heap.size ∧ wc.heap.size = wb.heap.size + 1) := ⟨hb1, by rw [hw]; simp⟩
            have HNV : Hid (v1.ownBlock ≠ some b1) := by intro h; have h1 := (HO1.out.lt _ h).2; have h2 := HZ1.out.1; omega
            have HO1 := Lib.hid (own_ex HO1.out hx (fun _ _ h => h))
            have HY := Lib.hid (HY.out.trans0 hx)
            replace hS := KEEP.out _ HY.out
            clear hw hx hb1
            refine HKK.out _ _ hS ?_
            clear HKK K
            (try simp only [Act.put, List.setIfInBounds_toArray, List.set_cons_zero, List.set_cons_succ])
            refine wpHead_eff 11 rfl (by kernel_rfl) (by rfl) (fun K hK => ?_)
            have HKK := Lib.hid hK
            clear hK
            refine wp_append_sl (.tmp 70) (.tmp 72) 92 rfl wB.heap.size 96 i0 _ 4 32 Tryz.underlying92 hi0 hz0 hz1 hz2 rfl (by decide) v1 k ((bs.take k).flatMap Br.cells) rfl HO1.out (some ⟨b1, 0, none⟩) 1 1 #[Value.int .i64 id, .int .i64 pa, .int .u64 ba, .int .u64 nu].toList rfl (sl_block H1.out rfl (by decide)) (fun h => by cases h) (by simp [Value.oneCell']) (by unfold maxLen; omega) (by omega) HY.out.size ?_
            intro v2 we ho2 hg2 hv2
            have HO2 := Lib.hid ho2
            have HY := Lib.hid (ex_of_new HY.out hg2 (fun b hb => (HO1.out.lt b hb).1))
            replace hS := KEEP.out _ HY.out
            clear ho2 hg2 hv2
            refine HKK.out _ _ hS ?_
            clear HKK K
            (try simp only [Act.put, List.setIfInBounds_toArray, List.set_cons_zero, List.set_cons_succ])
            refine wpHead_eff 18 rfl (by kernel_rfl) (by rfl) (fun K hK => ?_)
            have HKK := Lib.hid hK
            clear hK
            refine wp_append_sl (.tmp 73) (.tmp 79) 92 rfl wB.heap.size 96 i0 _ 4 32 Tryz.underlying92 hi0 hz0 hz1 hz2 rfl (by decide) v2 (k + 1) (((bs.take k).flatMap Br.cells) ++ #[Value.int .i64 id, .int .i64 pa, .int .u64 ba, .int .u64 nu].toList) rfl HO2.out A2 n2 c2 ((bs.drop k).flatMap Br.cells) rfl (HS2.out _ HY.out) HN2.out ONE2.out (by unfold maxLen; omega) (by omega) HY.out.size ?_
            intro v3 wf ho3 hg3 hv3
            have HO3 := Lib.hid ho3
            have HY := Lib.hid (ex_of_new HY.out hg3 (fun b hb => (HO2.out.lt b hb).1))
            replace hS := KEEP.out _ HY.out
            clear ho3 hg3 hv3
            refine HKK.out _ _ hS ?_
            clear HKK K
            (try simp only [Act.put, List.setIfInBounds_toArray, List.set_cons_zero, List.set_cons_succ])
            have hb3 := (HLB.out.ex0 HY.out)
            have hlpf := hb3.lt
            have hcf := hb3.frozen 0
            have hcl := hb3.cell
            have hcat : ((bs.take k).flatMap Br.cells ++ (#[Value.int .i64 id, .int .i64 pa, .int .u64 ba, .int .u64 nu] : Array Value).toList) ++ (bs.drop k).flatMap Br.cells = (bs.take k ++ ⟨id, pa, ba, nu⟩ :: bs.drop k).flatMap Br.cells := by simp [Br.cells]
            rw [hcat] at HO3
            obtain ⟨A3, c3, rfl, hR, hB3, hX3⟩ := HL.out.put (wB := wB) (HXB.out.trans0 HY.out) HXB.out.size HO3.out (by simp; omega)
            have HR := Lib.hid hR
            have HB3 := Lib.hid hB3
            have HX3 := Lib.hid hX3
            clear hR hB3 hX3 hb3 hS hcat
            refine wpHead_tail (by kernel_rfl) ?_
            go_wp2
            go_ret
            refine ⟨A3, c3, rfl, ?_, HB3.out, HX3.out⟩
            rw [HKE.out]
            exact HR.out
          · have HKK := Lib.hid hK
            clear hK
            refine wp_buildSlice_all 92 96 1 _ rfl [Value.agg #[.int .i64 id, .int .i64 pa, .int .u64 ba, .int .u64 nu]] i0 _ 4 Tryz.underlying92 hi0 hz0 hz1 (by decide) (by decide) rfl (by decide) rfl (by intro v hv; rw [List.mem_singleton.1 hv]; exact rfl) ?_
            obtain ⟨wb, hw⟩ : ∃ x, x = World.alloc wa (.cells ([Value.agg #[.int .i64 id, .int .i64 pa, .int .u64 ba, .int .u64 nu]].flatMap fun v => v.cells.toList).toArray 96) := ⟨_, rfl⟩
            rw [← hw]
            obtain ⟨b1, hb1⟩ : ∃ x, x = wa.heap.size := ⟨_, rfl⟩
            rw [← hb1]
            have hx : Ex0 wa wb := by rw [hw]; exact Ex.alloc _ _
            have H1 : Hid (wb.heap[b1]? = some (.cells #[Value.int .i64 id, .int .i64 pa, .int .u64 ba, .int .u64 nu] 96 (0, 0))) := by rw [hw, hb1]; show _ = _; rw [heap_alloc_new]; simp [Value.cells]
            have HZ1 : Hid (b1 = wa.heap.size ∧ wb.heap.size = wa.heap.size + 1) := ⟨hb1, by rw [hw]; simp⟩
            have HO0 := Lib.hid (own_ex HO0.out hx (fun _ _ h => h))
            have HNE : Hid (b0 ≠ b1) := by have h1 := HZ0.out.1; have h2 := HZ0.out.2; have h3 := HZ1.out.1; show _ ≠ _; omega
            have HY := Lib.hid (HY.out.trans0 hx)
            replace hS := KEEP.out _ HY.out
            clear hw hx hb1
            refine HKK.out _ _ hS ?_
            clear HKK K
            (try simp only [Act.put, List.setIfInBounds_toArray, List.set_cons_zero, List.set_cons_succ])
            refine wpHead_eff 8 rfl (by kernel_rfl) (by rfl) (fun K hK => ?_)
            have HKK := Lib.hid hK
            clear hK
            refine wp_append_sl (.tmp 63) (.tmp 69) 92 rfl wB.heap.size 96 i0 _ 4 32 Tryz.underlying92 hi0 hz0 hz1 hz2 rfl (by decide) (.slice (some ⟨b0, 0, none⟩) 0 0) 0 [] rfl HO0.out A k cap ((bs.take k).flatMap Br.cells) rfl (HS1.out _ HY.out) HN1.out ONE1.out (by unfold maxLen; omega) (by omega) HY.out.size ?_
            intro v1 wc ho1 hg1 hv1
            rw [Nat.zero_add, List.nil_append] at ho1
            have HO1 := Lib.hid ho1
            have HNV : Hid (v1.ownBlock ≠ some b1) := own_ne hv1 rfl HNE.out (Array.getElem?_eq_some_iff.1 H1.out).1
            have H1 := Lib.hid (((Ex.ofGrown hg1).block _ (Array.getElem?_eq_some_iff.1 H1.out).1 (by intro h; injection h with h; exact HNE.out h)).trans H1.out)
            have HY := Lib.hid (ex_of_new HY.out hg1 (fun b hb => (HO0.out.lt b hb).1))
            replace hS := KEEP.out _ HY.out
            clear ho1 hg1 hv1
            refine HKK.out _ _ hS ?_
            clear HKK K
            (try simp only [Act.put, List.setIfInBounds_toArray, List.set_cons_zero, List.set_cons_succ])
            refine wpHead_eff 11 rfl (by kernel_rfl) (by rfl) (fun K hK => ?_)
            have HKK := Lib.hid hK
            clear hK
            refine wp_append_sl (.tmp 70) (.tmp 72) 92 rfl wB.heap.size 96 i0 _ 4 32 Tryz.underlying92 hi0 hz0 hz1 hz2 rfl (by decide) v1 k ((bs.take k).flatMap Br.cells) rfl HO1.out (some ⟨b1, 0, none⟩) 1 1 #[Value.int .i64 id, .int .i64 pa, .int .u64 ba, .int .u64 nu].toList rfl (sl_block H1.out rfl (by decide)) (fun h => by cases h) (by simp [Value.oneCell']) (by unfold maxLen; omega) (by omega) HY.out.size ?_
            intro v2 we ho2 hg2 hv2
            have HO2 := Lib.hid ho2
            have HY := Lib.hid (ex_of_new HY.out hg2 (fun b hb => (HO1.out.lt b hb).1))
            replace hS := KEEP.out _ HY.out
            clear ho2 hg2 hv2
            refine HKK.out _ _ hS ?_
            clear HKK K
            (try simp only [Act.put, List.setIfInBounds_toArray, List.set_cons_zero, List.set_cons_succ])
            refine wpHead_eff 18 rfl (by kernel_rfl) (by rfl) (fun K hK => ?_)
            have HKK := Lib.hid hK
            clear hK
            refine wp_append_sl (.tmp 73) (.tmp 79) 92 rfl wB.heap.size 96 i0 _ 4 32 Tryz.underlying92 hi0 hz0 hz1 hz2 rfl (by decide) v2 (k + 1) (((bs.take k).flatMap Br.cells) ++ #[Value.int .i64 id, .int .i64 pa, .int .u64 ba, .int .u64 nu].toList) rfl HO2.out A2 n2 c2 ((bs.drop k).flatMap Br.cells) rfl (HS2.out _ HY.out) HN2.out ONE2.out (by unfold maxLen; omega) (by omega) HY.out.size ?_
            intro v3 wf ho3 hg3 hv3
            have HO3 := Lib.hid ho3
            have HY := Lib.hid (ex_of_new HY.out hg3 (fun b hb => (HO2.out.lt b hb).1))
            replace hS := KEEP.out _ HY.out
            clear ho3 hg3 hv3
            refine HKK.out _ _ hS ?_
            clear HKK K
            (try simp only [Act.put, List.setIfInBounds_toArray, List.set_cons_zero, List.set_cons_succ])
            have hb3 := (HLB.out.ex0 HY.out)
            have hlpf := hb3.lt
            have hcf := hb3.frozen 0
            have hcl := hb3.cell
            have hcat : ((bs.take k).flatMap Br.cells ++ (#[Value.int .i64 id, .int .i64 pa, .int .u64 ba, .int .u64 nu] : Array Value).toList) ++ (bs.drop k).flatMap Br.cells = (bs.take k ++ ⟨id, pa, ba, nu⟩ :: bs.drop k).flatMap Br.cells := by simp [Br.cells]
            rw [hcat] at HO3
            obtain ⟨A3, c3, rfl, hR, hB3, hX3⟩ := HL.out.put (wB := wB) (HXB.out.trans0 HY.out) HXB.out.size HO3.out (by simp; omega)
            have HR := Lib.hid hR
            have HB3 := Lib.hid hB3
            have HX3 := Lib.hid hX3
            clear hR hB3 hX3 hb3 hS hcat
            refine wpHead_tail (by kernel_rfl) ?_
            go_wp2
            go_ret
            refine ⟨A3, c3, rfl, ?_, HB3.out, HX3.out⟩
            rw [HKE.out]
            exact HR.out
        · have HKK := Lib.hid hK
          clear hK
          refine wp_buildSlice_all 92 96 1 _ rfl [Value.agg #[.int .i64 id, .int .i64 pa, .int .u64 ba, .int .u64 nu]] i0 _ 4 Tryz.underlying92 hi0 hz0 hz1 (by decide) (by decide) rfl (by decide) rfl (by intro v hv; rw [List.mem_singleton.1 hv]; exact rfl) ?_
          obtain ⟨wa, hw⟩ : ∃ x, x = World.alloc wd (.cells ([Value.agg #[.int .i64 id, .int .i64 pa, .int .u64 ba, .int .u64 nu]].flatMap fun v => v.cells.toList).toArray 96) := ⟨_, rfl⟩
          rw [← hw]
          obtain ⟨b1, hb1⟩ : ∃ x, x = wd.heap.size := ⟨_, rfl⟩
          rw [← hb1]
          have hx : Ex0 wd wa := by rw [hw]; exact Ex.alloc _ _
          have H1 : Hid (wa.heap[b1]? = some (.cells #[Value.int .i64 id, .int .i64 pa, .int .u64 ba, .int .u64 nu] 96 (0, 0))) := by rw [hw, hb1]; show _ = _; rw [heap_alloc_new]; simp [Value.cells]
          have HZ1 : Hid (b1 = wd.heap.size ∧ wa.heap.size = wd.heap.size + 1) := ⟨hb1, by rw [hw]; simp⟩
          have HY := Lib.hid (HY.out.trans0 hx)
          replace hS := KEEP.out _ HY.out
          clear hw hx hb1
          refine HKK.out _ _ hS ?_
          clear HKK K
          (try simp only [Act.put, List.setIfInBounds_toArray, List.set_cons_zero, List.set_cons_succ])
          refine wpHead_eff 1 rfl (by kernel_rfl) (by rfl) (fun K hK => ?_)
          have HKK := Lib.hid hK
          clear hK
          refine wp_buildSlice_none 92 96 rfl i0 _ Tryz.underlying92 hi0 hz0 ?_
          obtain ⟨wb, hw⟩ : ∃ x, x = World.alloc wa (.cells #[] 96) := ⟨_, rfl⟩
          rw [← hw]
          obtain ⟨b0, hb0⟩ : ∃ x, x = wa.heap.size := ⟨_, rfl⟩
          rw [← hb0]
          have hx : Ex0 wa wb := by rw [hw]; exact Ex.alloc _ _
          have HO0 : Hid (wb.ownsRow wB.heap.size 96 4 (.slice (some ⟨b0, 0, none⟩) 0 0) 0 []) := by rw [hw, hb0]; exact own_empty (heap_alloc_new _ _) _ HY.out.size
          have HZ0 : Hid (b0 = wa.heap.size ∧ wb.heap.size = wa.heap.size + 1) := ⟨hb0, by rw [hw]; simp⟩
          have H1 := Lib.hid ((hx.block _ (Array.getElem?_eq_some_iff.1 H1.out).1 not_false).trans H1.out)
          have HNE : Hid (b0 ≠ b1) := by have h1 := HZ1.out.1; have h2 := HZ1.out.2; have h3 := HZ0.out.1; show _ ≠ _; omega
          have HY := Lib.hid (HY.out.trans0 hx)
          replace hS := KEEP.out _ HY.out
          clear hw hx hb0
          refine HKK.out _ _ hS ?_
          clear HKK K
          (try simp only [Act.put, List.setIfInBounds_toArray, List.set_cons_zero, List.set_cons_succ])
          refine wpHead_eff 8 rfl (by kernel_rfl) (by rfl) (fun K hK => ?_)
          have HKK := Lib.hid hK
          clear hK
          refine wp_append_sl (.tmp 63) (.tmp 69) 92 rfl wB.heap.size 96 i0 _ 4 32 Tryz.underlying92 hi0 hz0 hz1 hz2 rfl (by decide) (.slice (some ⟨b0, 0, none⟩) 0 0) 0 [] rfl HO0.out A k cap ((bs.take k).flatMap Br.cells) rfl (HS1.out _ HY.out) HN1.out ONE1.out (by unfold maxLen; omega) (by omega) HY.out.size ?_
          intro v1 wc ho1 hg1 hv1
          rw [Nat.zero_add, List.nil_append] at ho1
          have HO1 := Lib.hid ho1
          have HNV : Hid (v1.ownBlock ≠ some b1) := own_ne hv1 rfl HNE.out (Array.getElem?_eq_some_iff.1 H1.out).1
          have H1 := Lib.hid (((Ex.ofGrown hg1).block _ (Array.getElem?_eq_some_iff.1 H1.out).1 (by intro h; injection h with h; exact HNE.out h)).trans H1.out)
          have HY := Lib.hid (ex_of_new HY.out hg1 (fun b hb => (HO0.out.lt b hb).1))
          replace hS := KEEP.out _ HY.out
          clear ho1 hg1 hv1
          refine HKK.out _ _ hS ?_
          clear HKK K
          (try simp only [Act.put, List.setIfInBounds_toArray, List.set_cons_zero, List.set_cons_succ])
          refine wpHead_eff 11 rfl (by kernel_rfl) (by rfl) (fun K hK => ?_)
          have HKK := Lib.hid hK
          clear hK
          refine wp_append_sl (.tmp 70) (.tmp 72) 92 rfl wB.heap.size 96 i0 _ 4 32 Tryz.underlying92 hi0 hz0 hz1 hz2 rfl (by decide) v1 k ((bs.take k).flatMap Br.cells) rfl HO1.out (some ⟨b1, 0, none⟩) 1 1 #[Value.int .i64 id, .int .i64 pa, .int .u64 ba, .int .u64 nu].toList rfl (sl_block H1.out rfl (by decide)) (fun h => by cases h) (by simp [Value.oneCell']) (by unfold maxLen; omega) (by omega) HY.out.size ?_
          intro v2 we ho2 hg2 hv2
          have HO2 := Lib.hid ho2
          have HY := Lib.hid (ex_of_new HY.out hg2 (fun b hb => (HO1.out.lt b hb).1))
          replace hS := KEEP.out _ HY.out
          clear ho2 hg2 hv2
          refine HKK.out _ _ hS ?_
          clear HKK K
          (try simp only [Act.put, List.setIfInBounds_toArray, List.set_cons_zero, List.set_cons_succ])
          refine wpHead_eff 18 rfl (by kernel_rfl) (by rfl) (fun K hK => ?_)
          have HKK := Lib.hid hK
          clear hK
          refine wp_append_sl (.tmp 73) (.tmp 79) 92 rfl wB.heap.size 96 i0 _ 4 32 Tryz.underlying92 hi0 hz0 hz1 hz2 rfl (by decide) v2 (k + 1) (((bs.take k).flatMap Br.cells) ++ #[Value.int .i64 id, .int .i64 pa, .int .u64 ba, .int .u64 nu].toList) rfl HO2.out A2 n2 c2 ((bs.drop k).flatMap Br.cells) rfl (HS2.out _ HY.out) HN2.out ONE2.out (by unfold maxLen; omega) (by omega) HY.out.size ?_
          intro v3 wf ho3 hg3 hv3
          have HO3 := Lib.hid ho3
          have HY := Lib.hid (ex_of_new HY.out hg3 (fun b hb => (HO2.out.lt b hb).1))
          replace hS := KEEP.out _ HY.out
          clear ho3 hg3 hv3
          refine HKK.out _ _ hS ?_
          clear HKK K
          (try simp only [Act.put, List.setIfInBounds_toArray, List.set_cons_zero, List.set_cons_succ])
          have hb3 := (HLB.out.ex0 HY.out)
          have hlpf := hb3.lt
          have hcf := hb3.frozen 0
          have hcl := hb3.cell
          have hcat : ((bs.take k).flatMap Br.cells ++ (#[Value.int .i64 id, .int .i64 pa, .int .u64 ba, .int .u64 nu] : Array Value).toList) ++ (bs.drop k).flatMap Br.cells = (bs.take k ++ ⟨id, pa, ba, nu⟩ :: bs.drop k).flatMap Br.cells := by simp [Br.cells]
          rw [hcat] at HO3
          obtain ⟨A3, c3, rfl, hR, hB3, hX3⟩ := HL.out.put (wB := wB) (HXB.out.trans0 HY.out) HXB.out.size HO3.out (by simp; omega)
          have HR := Lib.hid hR
          have HB3 := Lib.hid hB3
          have HX3 := Lib.hid hX3
          clear hR hB3 hX3 hb3 hS hcat
          refine wpHead_tail (by kernel_rfl) ?_
          go_wp2
          go_ret
          refine ⟨A3, c3, rfl, ?_, HB3.out, HX3.out⟩
          rw [HKE.out]
          exact HR.out
end Go.Proofs.YtoglddndicmelaaGreat.Tr
