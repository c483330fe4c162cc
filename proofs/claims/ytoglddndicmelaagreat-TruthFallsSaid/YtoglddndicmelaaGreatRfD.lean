/- Contracts of layer 29: the document's bases. -/
import Derived.Test.YtoglddndicmelaaGreatRfC
namespace Go.Proofs.YtoglddndicmelaaGreat.Tr
open Go.RowKit Go.Proofs.YtoglddndicmelaaGreatB Go.Proofs.YtoglddndicmelaaGreat
set_option maxRecDepth 100000

theorem wp_drewN {P : Program} {c : Code} {Q : Exit → Act → World → Prop} {a : Act} {wo wr : World} {n : Nat} (hx : Ex0 wo wr) (h : ∀ wB, Ex0 wo wB → Code.wp P c Q a wB) : Code.wp P c Q a (wr.drewN n) := h _ (hx.drewN' n)
theorem u64_one (xs : List Int) : ∀ u ∈ xs.map (Value.int .u64), u.oneCell' = true := by
  intro u hu
  obtain ⟨x, _, rfl⟩ := List.mem_map.1 hu
  rfl
/-- where the bases of some are told -/
def RBasI (w : World) (bs : List Br) (k : Nat) (v : Value) (wr : World) : Prop :=
  ∃ (xs : List Int), wr.ownsRow w.heap.size 31 1 v xs.length (xs.map (Value.int .u64)) ∧ (∀ x, x ∈ xs ↔ ∃ b ∈ bs.take k, b.ba = x) ∧ xs.length ≤ k ∧ Ex0 w wr
theorem rbasI_same {w : World} {bs : List Br} {k : Nat} {xs : List Int} {v : Value} {wr wx : World} (hk : k < bs.length) (ho : wr.ownsRow w.heap.size 31 1 v xs.length (xs.map (Value.int .u64))) (hm : ∀ x, x ∈ xs ↔ ∃ b ∈ bs.take k, b.ba = x) (hl : xs.length ≤ k) (hx : Ex0 w wr) (hx2 : Ex0 wr wx) (h : bs[k].ba ∈ xs) : RBasI w bs (k + 1) v wx := by
  refine ⟨xs, own_ex ho hx2 (fun _ _ h => h), fun x => ?_, by omega, hx.trans0 hx2⟩
  rw [hm x, List.take_succ_eq_append_getElem hk]
  constructor
  · rintro ⟨b, hb, e⟩; exact ⟨b, List.mem_append_left _ hb, e⟩
  · rintro ⟨b, hb, e⟩
    rcases List.mem_append.1 hb with hb | hb
    · exact ⟨b, hb, e⟩
    · rw [List.mem_singleton.1 hb] at e
      exact (hm x).1 (e ▸ h)
theorem rbasI_more {w : World} {bs : List Br} {k j : Nat} {xs : List Int} {v : Value} {wx : World} (hk : k < bs.length) (hm : ∀ x, x ∈ xs ↔ ∃ b ∈ bs.take k, b.ba = x) (hl : xs.length ≤ k) {n : Nat} (hn : n = xs.length + 1) (ho : wx.ownsRow w.heap.size 31 1 v n (((xs.take j).map (Value.int .u64) ++ [Value.int .u64 bs[k].ba]) ++ (xs.drop j).map (Value.int .u64))) (hx : Ex0 w wx) : RBasI w bs (k + 1) v wx := by
  have hlen : (xs.take j ++ bs[k].ba :: xs.drop j).length = xs.length + 1 := by
    rw [List.length_append, List.length_cons, List.length_take, List.length_drop]; omega
  refine ⟨xs.take j ++ bs[k].ba :: xs.drop j, ?_, fun x => ?_, by omega, hx⟩
  · rw [hlen, ← hn]
    simpa using ho
  · rw [List.take_succ_eq_append_getElem hk]
    have hx' : x ∈ xs ↔ x ∈ xs.take j ∨ x ∈ xs.drop j := by
      conv => lhs; rw [← List.take_append_drop j xs]
      exact List.mem_append
    constructor
    · intro h
      rw [List.mem_append, List.mem_cons] at h
      rcases h with h | h | h
      · obtain ⟨b, hb, e⟩ := (hm x).1 (hx'.2 (.inl h)); exact ⟨b, List.mem_append_left _ hb, e⟩
      · exact ⟨bs[k], List.mem_append_right _ (List.mem_singleton.2 rfl), h.symm⟩
      · obtain ⟨b, hb, e⟩ := (hm x).1 (hx'.2 (.inr h)); exact ⟨b, List.mem_append_left _ hb, e⟩
    · rintro ⟨b, hb, e⟩
      rw [List.mem_append, List.mem_cons]
      rcases List.mem_append.1 hb with hb | hb
      · rcases hx'.1 ((hm x).2 ⟨b, hb, e⟩) with h | h
        · exact .inl h
        · exact .inr (.inr h)
      · rw [List.mem_singleton.1 hb] at e
        exact .inr (.inl e.symm)
set_option maxHeartbeats 4000000 in
theorem rfbases_any (p : Nat) (A : Option Addr) (cap : Nat) (bs : List Br) (w : World) (h : RForAt w p A cap bs) :
    Calls Tryz.prog 102 #[.pointer (some ⟨p, 0, none⟩)] w fun e w' => ∃ v, e = .returned v ∧ RBasI w bs bs.length v w' := by
  have hlen := h.len
  have HL := Lib.hid h
  clear h
  obtain ⟨i0, hi0, hz0, hz1, hz2⟩ := info_parts infoU64
  go_enter Tryz.func102, Tryz.ntmps102
  go_wp2
  go_loopw [3, 4] (fun v i wr => ∃ k : Nat, k ≤ bs.length ∧ i = .int .i64 k ∧ RBasI w bs k v wr) (fun _ i _ => bs.length - (intOf i).toNat)
  case atStart => exact ⟨0, Nat.zero_le _, rfl, [], World.ownsRow_nil _ _ _ _, fun x => by simp, Nat.le_refl _, Ex.refl _ _⟩
  case round =>
    rename_i v _
    obtain ⟨k, hk, rfl, xs, ho, hm, hl, hx⟩ := hrel
    have HO := Lib.hid ho
    have HM := Lib.hid hm
    have HX := Lib.hid hx
    have hLr := HL.out.ex0 hx
    have hc := hLr.cell
    have hlp := hLr.lt
    have hk0 : (0 : Int) ≤ (k : Int) := by omega
    by_cases hkl : k < bs.length
    · obtain ⟨gb, ob, _, hAA, hrow⟩ := hLr.sl.row Br.length (by omega) hkl
      have hk1 : (k : Int) < (bs.length : Int) := by omega
      have hc2 : wr.cell? ⟨gb, ob + k * 4 + 2, none⟩ = some (.int .u64 bs[k].ba) := by
        have := hrow 2 _ rfl
        rwa [add_row] at this
      rw [hAA] at hc
      have HSAME := Lib.hid (fun wx => rbasI_same (wx := wx) hkl ho hm hl hx)
      have HMORE := Lib.hid (fun j v n wx => rbasI_more (w := w) (v := v) (n := n) (wx := wx) (j := j) hkl hm hl)
      obtain ⟨ba, hba⟩ : ∃ ba, bs[k].ba = ba := ⟨_, rfl⟩
      rw [hba] at hc2 HSAME HMORE
      obtain ⟨A1, c1, rfl, hsl, hob, hc0⟩ := own_sl' ho
      have hcap1 : xs.length ≤ c1 := by rcases ho.2 with ⟨h, h0⟩ | ⟨g, cp', cur, h, _, _, h4, _⟩ <;> first | omega | (cases h; exact h4)
      have HSL := Lib.hid hsl
      have HC0 := Lib.hid hc0
      have HC := Lib.hid hc
      have HC2 := Lib.hid hc2
      clear ho hm hx hLr hrow hba hsl hob hc0 hAA hc2
      go_wp2_with fail
      clear hc hlp
      rename World => wo
      go_loopw [5] (fun i wr => ∃ j : Nat, j ≤ xs.length ∧ i = .int .i64 j ∧ Ex0 wo wr) (fun i _ => xs.length - (intOf i).toNat)
      case atStart => exact ⟨0, Nat.zero_le _, rfl, Ex.refl _ _⟩
      case round =>
        obtain ⟨j, hj, rfl, hxi⟩ := hrel
        have HXI := Lib.hid hxi
        have hj0 : (0 : Int) ≤ (j : Int) := by omega
        have hc : wr.cell? ⟨p, 0, none⟩ = some (.slice (some ⟨gb, ob, none⟩) bs.length cap) := hxi.cellS HC.out not_false
        have hc2 : wr.cell? ⟨gb, ob + k * 4 + 2, none⟩ = some (.int .u64 ba) := hxi.cellS HC2.out not_false
        have hlp : p < wr.heap.size := World.block_lt_of_cell? _ _ hc
        have hlb : gb < wr.heap.size := World.block_lt_of_cell? _ _ hc2
        by_cases hjl : j < xs.length
        · obtain ⟨g1, o1, rfl, hg1, hcx⟩ := (HSL.out.ex0 hxi).one hjl
          have hj1 : (j : Int) < (xs.length : Int) := by omega
          obtain ⟨x, hxx⟩ : ∃ x, xs[j] = x := ⟨_, rfl⟩
          rw [hxx] at hcx
          have HXX := Lib.hid hxx
          clear hxi hxx
          by_cases hlt : x < ba
          · go_wp2_with fail
            go_quiet (fail)
            go_wp2
            go_roundw
            case rel => exact ⟨j + 1, by omega, by go_num, HXI.out.drewN' _⟩
            case measure => simp [intOf]; omega
          · by_cases he : x = ba
            · have HIN : Hid (ba ∈ xs) := by have := HXX.out; rw [← he, ← this]; exact List.getElem_mem hjl
              have hbe : (x == ba) = true := by simpa using he
              go_wp2_with fail
              go_quiet (fail)
              go_wp2_with fail
              go_quiet (fail)
              go_wp2_with fail
              exact ⟨⟨k + 1, by omega, by go_num, HSAME.out _ (HXI.out.drewN' _) HIN.out⟩, by simp [intOf]; omega⟩
            · have hbe : (x == ba) = false := by simpa using he
              go_wp2_with fail
              go_quiet (fail)
              go_wp2_with fail
              go_quiet (fail)
              go_wp2_with fail
              refine wp_drewN (HXI.out.drewN' _) (fun wB hxB => ?_)
              have HXB := Lib.hid hxB
              have hs1 : ∀ w', (Instr.sliceAt 33 (.slice (some ⟨g1, o1, none⟩) xs.length c1) none (some (.int .i64 j)) none).run Tryz.prog w' = .ok (.slice (some ⟨g1, o1, none⟩) j c1) w' := fun w' => run_sliceAt_high (P := Tryz.prog) (sz := 1) Tryz.underlying33 (by kernel_rfl) (some ⟨g1, o1, none⟩) xs.length c1 j (by omega) w'
              obtain ⟨A2, hA2⟩ : ∃ A2, (if c1 = j then (some ⟨g1, o1, none⟩) else ((some ⟨g1, o1, none⟩) : Option Addr).map (·.add (j * 1))) = A2 := ⟨_, rfl⟩
              obtain ⟨n2, hn2⟩ : ∃ n2, xs.length - j = n2 := ⟨_, rfl⟩
              obtain ⟨c2, hc2'⟩ : ∃ c2, c1 - j = c2 := ⟨_, rfl⟩
              have hs2 : ∀ w', (Instr.sliceAt 33 (.slice (some ⟨g1, o1, none⟩) xs.length c1) (some (.int .i64 j)) none none).run Tryz.prog w' = .ok (.slice A2 n2 c2) w' := fun w' => by
                have := run_sliceAt_low (P := Tryz.prog) (sz := 1) Tryz.underlying33 (by kernel_rfl) (some ⟨g1, o1, none⟩) xs.length c1 j (by omega) w'
                rw [hA2, hn2, hc2'] at this
                exact this
              have HS1 : Hid (∀ w', Ex0 wB w' → Sl w' 1 (some ⟨g1, o1, none⟩) j ((xs.take j).map (Value.int .u64))) := fun w' hx => by
                have := ((HSL.out.ex0 HXB.out).ex0 hx).takeS (k := j) (by omega)
                rwa [Nat.mul_one, ← List.map_take] at this
              have HS2 : Hid (∀ w', Ex0 wB w' → Sl w' 1 A2 n2 ((xs.drop j).map (Value.int .u64))) := fun w' hx => by
                have := Sl.low ((HSL.out.ex0 HXB.out).ex0 hx) (k := j) (cap := c1) (by omega) hcap1
                have hd : ((xs.map (Value.int .u64)).drop (j * 1)) = (xs.drop j).map (Value.int .u64) := by rw [Nat.mul_one, List.map_drop]
                rw [hA2, hn2, hd] at this
                exact this
              have HN1 : Hid (((some ⟨g1, o1, none⟩) : Option Addr) = none → c1 = 0) := HC0.out
              have HN2 : Hid (A2 = none → c2 = 0) := fun e => by rw [← hc2']; exact cap_low HC0.out (hA2.trans e)
              have ONE1 := Lib.hid (u64_one (xs.take j))
              have ONE2 := Lib.hid (u64_one (xs.drop j))
              have hnn : j + n2 = xs.length := by omega
              clear hA2 hn2 hc2' hc hc2 hlp hlb hxB
              have HY : Hid (Ex0 wB wB.drew) := Ex.drew _
              have KEEP : Hid (∀ w', Ex0 wB w' → w'.cell? ⟨p, 0, none⟩ = some (.slice (some ⟨gb, ob, none⟩) bs.length cap) ∧ w'.cell? ⟨gb, ob + k * 4 + 2, none⟩ = some (.int .u64 ba) ∧ p < w'.heap.size) := fun w' hx => ⟨(HXB.out.trans0 hx).cellS HC.out not_false, (HXB.out.trans0 hx).cellS HC2.out not_false, World.block_lt_of_cell? _ _ ((HXB.out.trans0 hx).cellS HC.out not_false)⟩
              have hS := KEEP.out _ HY.out
              refine wp_region_takes (fun w' : World => w'.cell? ⟨p, 0, none⟩ = some (.slice (some ⟨gb, ob, none⟩) bs.length cap) ∧ w'.cell? ⟨gb, ob + k * 4 + 2, none⟩ = some (.int .u64 ba) ∧ p < w'.heap.size) (by kernel_rfl) ?_
              simp only [List.length_cons, List.length_nil]
              generalize wB.drew = wd at *
              refine' wpAnyH_do 1 rfl (by kernel_rfl) (fun _ _ _ _ h => h) (by rfl) (by assumption) ⟨_, fun w' hS => ?_, ?_⟩
              rotate_left
              · ((try dsimp only at hS); go_split_ands; go_simp; try (with_reducible rfl))
              simp only [Act.put, List.setIfInBounds_toArray, List.set_cons_zero, List.set_cons_succ]
              refine' wpAnyH_do 2 rfl (by kernel_rfl) (fun _ _ _ _ h => h) (by rfl) (by assumption) ⟨_, fun w' hS => ?_, ?_⟩
              rotate_left
              · ((try dsimp only at hS); go_split_ands; go_simp; try (with_reducible rfl))
              simp only [Act.put, List.setIfInBounds_toArray, List.set_cons_zero, List.set_cons_succ]
              refine' wpAnyH_do 3 rfl (by kernel_rfl) (fun _ _ _ _ h => h) (by rfl) (by assumption) ⟨_, fun w' hS => ?_, ?_⟩
              rotate_left
              · ((try dsimp only at hS); go_split_ands; go_simp; try (with_reducible rfl))
              simp only [Act.put, List.setIfInBounds_toArray, List.set_cons_zero, List.set_cons_succ]
              refine' wpAnyH_do 5 rfl (by kernel_rfl) (fun _ _ _ _ h => h) (by rfl) (by assumption) ⟨_, fun w' hS => ?_, ?_⟩
              rotate_left
              · ((try dsimp only at hS); go_split_ands; go_simp; try (with_reducible rfl))
              simp only [Act.put, List.setIfInBounds_toArray, List.set_cons_zero, List.set_cons_succ]
              refine' wpAnyH_do 6 rfl (by kernel_rfl) (fun _ _ _ _ h => h) (by rfl) (by assumption) ⟨_, fun w' hS => ?_, ?_⟩
              rotate_left
              · ((try dsimp only at hS); go_split_ands; go_simp; try (with_reducible rfl))
              simp only [Act.put, List.setIfInBounds_toArray, List.set_cons_zero, List.set_cons_succ]
              refine' wpAnyH_do 7 rfl (by kernel_rfl) (fun _ _ _ _ h => h) (by rfl) (by assumption) ⟨_, fun w' hS => ?_, ?_⟩
              rotate_left
              · ((try dsimp only at hS); go_split_ands; go_simp; try (with_reducible rfl))
              simp only [Act.put, List.setIfInBounds_toArray, List.set_cons_zero, List.set_cons_succ]
              refine' wpAnyH_do 8 rfl (by kernel_rfl) (fun _ _ _ _ h => h) (by rfl) (by assumption) ⟨_, fun w' hS => ?_, ?_⟩
              rotate_left
              · ((try dsimp only at hS); go_split_ands; go_simp; try (with_reducible rfl))
              simp only [Act.put, List.setIfInBounds_toArray, List.set_cons_zero, List.set_cons_succ]
              refine' wpAnyH_do 9 rfl (by kernel_rfl) (fun _ _ _ _ h => h) (by rfl) (by assumption) ⟨_, fun w' hS => ?_, ?_⟩
              rotate_left
              · ((try dsimp only at hS); go_split_ands; go_simp; try (with_reducible rfl))
              simp only [Act.put, List.setIfInBounds_toArray, List.set_cons_zero, List.set_cons_succ]
              refine' wpAnyH_do 10 rfl (by kernel_rfl) (fun _ _ _ _ h => h) (by rfl) (by assumption) ⟨_, fun w' hS => ?_, ?_⟩
              rotate_left
              · ((try dsimp only at hS); go_split_ands; go_simp; try (with_reducible rfl))
              simp only [Act.put, List.setIfInBounds_toArray, List.set_cons_zero, List.set_cons_succ]
              refine' wpAnyH_do 11 rfl (by kernel_rfl) (fun _ _ _ _ h => h) (by rfl) (by assumption) ⟨_, fun w' hS => ?_, ?_⟩
              rotate_left
              · ((try dsimp only at hS); go_split_ands; go_simp; try (with_reducible rfl))
              simp only [Act.put, List.setIfInBounds_toArray, List.set_cons_zero, List.set_cons_succ]
              refine' wpAnyH_do 12 rfl (by kernel_rfl) (fun _ _ _ _ h => h) (by rfl) (by assumption) ⟨_, fun w' hS => ?_, ?_⟩
              rotate_left
              · ((try dsimp only at hS); go_split_ands; go_simp; try (with_reducible rfl))
              simp only [Act.put, List.setIfInBounds_toArray, List.set_cons_zero, List.set_cons_succ]
              refine' wpAnyH_do 15 rfl (by kernel_rfl) (fun _ _ _ _ h => h) (by rfl) (by assumption) ⟨_, fun w' hS => ?_, ?_⟩
              rotate_left
              · ((try dsimp only at hS); go_split_ands; go_simp; try (with_reducible rfl))
              simp only [Act.put, List.setIfInBounds_toArray, List.set_cons_zero, List.set_cons_succ]
              refine' wpAnyH_do 16 rfl (by kernel_rfl) (fun _ _ _ _ h => h) (by rfl) (by assumption) ⟨_, fun w' hS => ?_, ?_⟩
              rotate_left
              · ((try dsimp only at hS); go_split_ands; go_simp; try (with_reducible rfl))
              simp only [Act.put, List.setIfInBounds_toArray, List.set_cons_zero, List.set_cons_succ]
              refine' wpAnyH_do 17 rfl (by kernel_rfl) (fun _ _ _ _ h => h) (by rfl) (by assumption) ⟨_, fun w' hS => ?_, ?_⟩
              rotate_left
              · ((try dsimp only at hS); go_split_ands; go_simp; try (with_reducible rfl))
              simp only [Act.put, List.setIfInBounds_toArray, List.set_cons_zero, List.set_cons_succ]
              refine wpAnyH_two 0 13 rfl rfl (by kernel_rfl) (by rfl) (by rfl) (fun K hK => ?_) (fun K hK => ?_)
              · have HKK := Lib.hid hK
                clear hK
                refine wp_buildSlice_none 33 31 rfl i0 _ Tryz.underlying33 hi0 hz0 ?_
                obtain ⟨wa, hw⟩ : ∃ x, x = World.alloc wd (.cells #[] 31) := ⟨_, rfl⟩
                rw [← hw]
                obtain ⟨b0, hb0⟩ : ∃ x, x = wd.heap.size := ⟨_, rfl⟩
                rw [← hb0]
                have hx : Ex0 wd wa := by rw [hw]; exact Ex.alloc _ _
                have HO0 : Hid (wa.ownsRow wB.heap.size 31 1 (.slice (some ⟨b0, 0, none⟩) 0 0) 0 []) := by rw [hw, hb0]; exact own_empty (heap_alloc_new _ _) _ HY.out.size
                have HZ0 : Hid (b0 = wd.heap.size ∧ wa.heap.size = wd.heap.size + 1) := ⟨hb0, by rw [hw]; simp⟩
                have HY := Lib.hid (HY.out.trans0 hx)
                replace hS := KEEP.out _ HY.out
                clear hw hx hb0
                refine HKK.out _ _ hS ?_
                clear HKK K
                (try simp only [Act.put, List.setIfInBounds_toArray, List.set_cons_zero, List.set_cons_succ])
                refine wpAnyH_two 4 13 rfl rfl (by kernel_rfl) (by rfl) (by rfl) (fun K hK => ?_) (fun K hK => ?_)
                · have HKK := Lib.hid hK
                  clear hK
                  refine wp_append_sl (.tmp 55) (.tmp 58) 33 rfl wB.heap.size 31 i0 _ 1 8 Tryz.underlying33 hi0 hz0 hz1 hz2 rfl (by decide) (.slice (some ⟨b0, 0, none⟩) 0 0) 0 [] rfl HO0.out (some ⟨g1, o1, none⟩) j c1 ((xs.take j).map (Value.int .u64)) rfl (HS1.out _ HY.out) HN1.out ONE1.out (by unfold maxLen; omega) (by omega) HY.out.size ?_
                  intro v1 wb ho1 hg1 hv1
                  rw [Nat.zero_add, List.nil_append] at ho1
                  have HO1 := Lib.hid ho1
                  have HY := Lib.hid (ex_of_new HY.out hg1 (fun b hb => (HO0.out.lt b hb).1))
                  replace hS := KEEP.out _ HY.out
                  clear ho1 hg1 hv1
                  refine HKK.out _ _ hS ?_
                  clear HKK K
                  (try simp only [Act.put, List.setIfInBounds_toArray, List.set_cons_zero, List.set_cons_succ])
                  refine wpAnyH_eff 13 rfl (by kernel_rfl) (by rfl) (fun K hK => ?_)
                  have HKK := Lib.hid hK
                  clear hK
                  refine wp_buildSlice_all 33 31 1 _ rfl [Value.int .u64 ba] i0 _ 1 Tryz.underlying33 hi0 hz0 hz1 (by decide) (by decide) rfl (by decide) rfl (by intro v hv; rw [List.mem_singleton.1 hv]; exact rfl) ?_
                  obtain ⟨wc, hw⟩ : ∃ x, x = World.alloc wb (.cells ([Value.int .u64 ba].flatMap fun v => v.cells.toList).toArray 31) := ⟨_, rfl⟩
                  rw [← hw]
                  obtain ⟨b1, hb1⟩ : ∃ x, x = wb.heap.size := ⟨_, rfl⟩
                  rw [← hb1]
                  have hx : Ex0 wb wc := by rw [hw]; exact Ex.alloc _ _
                  have H1 : Hid (wc.heap[b1]? = some (.cells #[Value.int .u64 ba] 31 (0, 0))) := by rw [hw, hb1]; show _ = _; rw [heap_alloc_new]; simp [Value.cells]
                  have HZ1 : Hid (b1 = wb.heap.size ∧ wc.heap.size = wb.heap.size + 1) := ⟨hb1, by rw [hw]; simp⟩
                  have HNV : Hid (v1.ownBlock ≠ some b1) := by intro h; have h1 := (HO1.out.lt _ h).2; have h2 := HZ1.out.1; omega
                  have HO1 := Lib.hid (own_ex HO1.out hx (fun _ _ h => h))
                  have HY := Lib.hid (HY.out.trans0 hx)
                  replace hS := KEEP.out _ HY.out
                  clear hw hx hb1
                  refine HKK.out _ _ hS ?_
                  clear HKK K
                  (try simp only [Act.put, List.setIfInBounds_toArray, List.set_cons_zero, List.set_cons_succ])
                  refine wpAnyH_eff 14 rfl (by kernel_rfl) (by rfl) (fun K hK => ?_)
                  have HKK := Lib.hid hK
                  clear hK
                  refine wp_append_sl (.tmp 59) (.tmp 68) 33 rfl wB.heap.size 31 i0 _ 1 8 Tryz.underlying33 hi0 hz0 hz1 hz2 rfl (by decide) v1 j ((xs.take j).map (Value.int .u64)) rfl HO1.out (some ⟨b1, 0, none⟩) 1 1 #[Value.int .u64 ba].toList rfl (sl_block H1.out rfl (by decide)) (fun h => by cases h) (by simp [Value.oneCell']) (by unfold maxLen; omega) (by omega) HY.out.size ?_
                  intro v2 we ho2 hg2 hv2
                  have HO2 := Lib.hid ho2
                  have HY := Lib.hid (ex_of_new HY.out hg2 (fun b hb => (HO1.out.lt b hb).1))
                  replace hS := KEEP.out _ HY.out
                  clear ho2 hg2 hv2
                  refine HKK.out _ _ hS ?_
                  clear HKK K
                  (try simp only [Act.put, List.setIfInBounds_toArray, List.set_cons_zero, List.set_cons_succ])
                  refine wpAnyH_eff 18 rfl (by kernel_rfl) (by rfl) (fun K hK => ?_)
                  have HKK := Lib.hid hK
                  clear hK
                  refine wp_append_sl (.tmp 69) (.tmp 72) 33 rfl wB.heap.size 31 i0 _ 1 8 Tryz.underlying33 hi0 hz0 hz1 hz2 rfl (by decide) v2 (j + 1) (((xs.take j).map (Value.int .u64)) ++ #[Value.int .u64 ba].toList) rfl HO2.out A2 n2 c2 ((xs.drop j).map (Value.int .u64)) rfl (HS2.out _ HY.out) HN2.out ONE2.out (by unfold maxLen; omega) (by omega) HY.out.size ?_
                  intro v3 wf ho3 hg3 hv3
                  have HO3 := Lib.hid ho3
                  have HY := Lib.hid (ex_of_new HY.out hg3 (fun b hb => (HO2.out.lt b hb).1))
                  replace hS := KEEP.out _ HY.out
                  clear ho3 hg3 hv3
                  refine HKK.out _ _ hS ?_
                  clear HKK K
                  (try simp only [Act.put, List.setIfInBounds_toArray, List.set_cons_zero, List.set_cons_succ])
                  refine' wpAnyH_do 19 rfl (by kernel_rfl) (fun _ _ _ _ h => h) (by rfl) (by assumption) ⟨_, fun w' hS => ?_, ?_⟩
                  rotate_left
                  · ((try dsimp only at hS); go_split_ands; go_simp; try (with_reducible rfl))
                  simp only [Act.put, List.setIfInBounds_toArray, List.set_cons_zero, List.set_cons_succ]
                  refine wpAnyH_done (by kernel_rfl) ?_ _
                  have hxf : Ex0 w wf := HX.out.trans0 (HXB.out.trans0 HY.out)
                  have HB := Lib.hid (HMORE.out j v3 _ wf (by omega) (own_base HO3.out (fun b hb => Nat.le_trans (HX.out.trans0 HXB.out).size (HO3.out.lt b hb).1)) hxf)
                  clear hS hxf
                  go_wp2_with fail
                  exact ⟨⟨k + 1, by omega, by go_num, HB.out⟩, by simp [intOf]; omega⟩
                · have HKK := Lib.hid hK
                  clear hK
                  refine wp_buildSlice_all 33 31 1 _ rfl [Value.int .u64 ba] i0 _ 1 Tryz.underlying33 hi0 hz0 hz1 (by decide) (by decide) rfl (by decide) rfl (by intro v hv; rw [List.mem_singleton.1 hv]; exact rfl) ?_
                  obtain ⟨wb, hw⟩ : ∃ x, x = World.alloc wa (.cells ([Value.int .u64 ba].flatMap fun v => v.cells.toList).toArray 31) := ⟨_, rfl⟩
                  rw [← hw]
                  obtain ⟨b1, hb1⟩ : ∃ x, x = wa.heap.size := ⟨_, rfl⟩
                  rw [← hb1]
                  have hx : Ex0 wa wb := by rw [hw]; exact Ex.alloc _ _
                  have H1 : Hid (wb.heap[b1]? = some (.cells #[Value.int .u64 ba] 31 (0, 0))) := by rw [hw, hb1]; show _ = _; rw [heap_alloc_new]; simp [Value.cells]
                  have HZ1 : Hid (b1 = wa.heap.size ∧ wb.heap.size = wa.heap.size + 1) := ⟨hb1, by rw [hw]; simp⟩
                  have HO0 := Lib.hid (own_ex HO0.out hx (fun _ _ h => h))
                  have HNE : Hid (b0 ≠ b1) := by have h1 := HZ0.out.1; have h2 := HZ0.out.2; have h3 := HZ1.out.1; show _ ≠ _; omega
                  have HY := Lib.hid (HY.out.trans0 hx)
                  replace hS := KEEP.out _ HY.out
                  clear hw hx hb1
                  refine HKK.out _ _ hS ?_
                  clear HKK K
                  (try simp only [Act.put, List.setIfInBounds_toArray, List.set_cons_zero, List.set_cons_succ])
                  refine wpAnyH_eff 4 rfl (by kernel_rfl) (by rfl) (fun K hK => ?_)
                  have HKK := Lib.hid hK
                  clear hK
                  refine wp_append_sl (.tmp 55) (.tmp 58) 33 rfl wB.heap.size 31 i0 _ 1 8 Tryz.underlying33 hi0 hz0 hz1 hz2 rfl (by decide) (.slice (some ⟨b0, 0, none⟩) 0 0) 0 [] rfl HO0.out (some ⟨g1, o1, none⟩) j c1 ((xs.take j).map (Value.int .u64)) rfl (HS1.out _ HY.out) HN1.out ONE1.out (by unfold maxLen; omega) (by omega) HY.out.size ?_
                  intro v1 wc ho1 hg1 hv1
                  rw [Nat.zero_add, List.nil_append] at ho1
                  have HO1 := Lib.hid ho1
                  have HNV : Hid (v1.ownBlock ≠ some b1) := own_ne hv1 rfl HNE.out (Array.getElem?_eq_some_iff.1 H1.out).1
                  have H1 := Lib.hid (((Ex.ofGrown hg1).block _ (Array.getElem?_eq_some_iff.1 H1.out).1 (by intro h; injection h with h; exact HNE.out h)).trans H1.out)
                  have HY := Lib.hid (ex_of_new HY.out hg1 (fun b hb => (HO0.out.lt b hb).1))
                  replace hS := KEEP.out _ HY.out
                  clear ho1 hg1 hv1
                  refine HKK.out _ _ hS ?_
                  clear HKK K
                  (try simp only [Act.put, List.setIfInBounds_toArray, List.set_cons_zero, List.set_cons_succ])
                  refine wpAnyH_eff 14 rfl (by kernel_rfl) (by rfl) (fun K hK => ?_)
                  have HKK := Lib.hid hK
                  clear hK
                  refine wp_append_sl (.tmp 59) (.tmp 68) 33 rfl wB.heap.size 31 i0 _ 1 8 Tryz.underlying33 hi0 hz0 hz1 hz2 rfl (by decide) v1 j ((xs.take j).map (Value.int .u64)) rfl HO1.out (some ⟨b1, 0, none⟩) 1 1 #[Value.int .u64 ba].toList rfl (sl_block H1.out rfl (by decide)) (fun h => by cases h) (by simp [Value.oneCell']) (by unfold maxLen; omega) (by omega) HY.out.size ?_
                  intro v2 we ho2 hg2 hv2
                  have HO2 := Lib.hid ho2
                  have HY := Lib.hid (ex_of_new HY.out hg2 (fun b hb => (HO1.out.lt b hb).1))
                  replace hS := KEEP.out _ HY.out
                  clear ho2 hg2 hv2
                  refine HKK.out _ _ hS ?_
                  clear HKK K
                  (try simp only [Act.put, List.setIfInBounds_toArray, List.set_cons_zero, List.set_cons_succ])
                  refine wpAnyH_eff 18 rfl (by kernel_rfl) (by rfl) (fun K hK => ?_)
                  have HKK := Lib.hid hK
                  clear hK
                  refine wp_append_sl (.tmp 69) (.tmp 72) 33 rfl wB.heap.size 31 i0 _ 1 8 Tryz.underlying33 hi0 hz0 hz1 hz2 rfl (by decide) v2 (j + 1) (((xs.take j).map (Value.int .u64)) ++ #[Value.int .u64 ba].toList) rfl HO2.out A2 n2 c2 ((xs.drop j).map (Value.int .u64)) rfl (HS2.out _ HY.out) HN2.out ONE2.out (by unfold maxLen; omega) (by omega) HY.out.size ?_
                  intro v3 wf ho3 hg3 hv3
                  have HO3 := Lib.hid ho3
                  have HY := Lib.hid (ex_of_new HY.out hg3 (fun b hb => (HO2.out.lt b hb).1))
                  replace hS := KEEP.out _ HY.out
                  clear ho3 hg3 hv3
                  refine HKK.out _ _ hS ?_
                  clear HKK K
                  (try simp only [Act.put, List.setIfInBounds_toArray, List.set_cons_zero, List.set_cons_succ])
                  refine' wpAnyH_do 19 rfl (by kernel_rfl) (fun _ _ _ _ h => h) (by rfl) (by assumption) ⟨_, fun w' hS => ?_, ?_⟩
                  rotate_left
                  · ((try dsimp only at hS); go_split_ands; go_simp; try (with_reducible rfl))
                  simp only [Act.put, List.setIfInBounds_toArray, List.set_cons_zero, List.set_cons_succ]
                  refine wpAnyH_done (by kernel_rfl) ?_ _
                  have hxf : Ex0 w wf := HX.out.trans0 (HXB.out.trans0 HY.out)
                  have HB := Lib.hid (HMORE.out j v3 _ wf (by omega) (own_base HO3.out (fun b hb => Nat.le_trans (HX.out.trans0 HXB.out).size (HO3.out.lt b hb).1)) hxf)
                  clear hS hxf
                  go_wp2_with fail
                  exact ⟨⟨k + 1, by omega, by go_num, HB.out⟩, by simp [intOf]; omega⟩
              · have HKK := Lib.hid hK
                clear hK
                refine wp_buildSlice_all 33 31 1 _ rfl [Value.int .u64 ba] i0 _ 1 Tryz.underlying33 hi0 hz0 hz1 (by decide) (by decide) rfl (by decide) rfl (by intro v hv; rw [List.mem_singleton.1 hv]; exact rfl) ?_
                obtain ⟨wa, hw⟩ : ∃ x, x = World.alloc wd (.cells ([Value.int .u64 ba].flatMap fun v => v.cells.toList).toArray 31) := ⟨_, rfl⟩
                rw [← hw]
                obtain ⟨b1, hb1⟩ : ∃ x, x = wd.heap.size := ⟨_, rfl⟩
                rw [← hb1]
                have hx : Ex0 wd wa := by rw [hw]; exact Ex.alloc _ _
                have H1 : Hid (wa.heap[b1]? = some (.cells #[Value.int .u64 ba] 31 (0, 0))) := by rw [hw, hb1]; show _ = _; rw [heap_alloc_new]; simp [Value.cells]
                have HZ1 : Hid (b1 = wd.heap.size ∧ wa.heap.size = wd.heap.size + 1) := ⟨hb1, by rw [hw]; simp⟩
                have HY := Lib.hid (HY.out.trans0 hx)
                replace hS := KEEP.out _ HY.out
                clear hw hx hb1
                refine HKK.out _ _ hS ?_
                clear HKK K
                (try simp only [Act.put, List.setIfInBounds_toArray, List.set_cons_zero, List.set_cons_succ])
                refine wpAnyH_eff 0 rfl (by kernel_rfl) (by rfl) (fun K hK => ?_)
                have HKK := Lib.hid hK
                clear hK
                refine wp_buildSlice_none 33 31 rfl i0 _ Tryz.underlying33 hi0 hz0 ?_
                obtain ⟨wb, hw⟩ : ∃ x, x = World.alloc wa (.cells #[] 31) := ⟨_, rfl⟩
                rw [← hw]
                obtain ⟨b0, hb0⟩ : ∃ x, x = wa.heap.size := ⟨_, rfl⟩
                rw [← hb0]
                have hx : Ex0 wa wb := by rw [hw]; exact Ex.alloc _ _
                have HO0 : Hid (wb.ownsRow wB.heap.size 31 1 (.slice (some ⟨b0, 0, none⟩) 0 0) 0 []) := by rw [hw, hb0]; exact own_empty (heap_alloc_new _ _) _ HY.out.size
                have HZ0 : Hid (b0 = wa.heap.size ∧ wb.heap.size = wa.heap.size + 1) := ⟨hb0, by rw [hw]; simp⟩
                have H1 := Lib.hid ((hx.block _ (Array.getElem?_eq_some_iff.1 H1.out).1 not_false).trans H1.out)
                have HNE : Hid (b0 ≠ b1) := by have h1 := HZ1.out.1; have h2 := HZ1.out.2; have h3 := HZ0.out.1; show _ ≠ _; omega
                have HY := Lib.hid (HY.out.trans0 hx)
                replace hS := KEEP.out _ HY.out
                clear hw hx hb0
                refine HKK.out _ _ hS ?_
                clear HKK K
                (try simp only [Act.put, List.setIfInBounds_toArray, List.set_cons_zero, List.set_cons_succ])
                refine wpAnyH_eff 4 rfl (by kernel_rfl) (by rfl) (fun K hK => ?_)
                have HKK := Lib.hid hK
                clear hK
                refine wp_append_sl (.tmp 55) (.tmp 58) 33 rfl wB.heap.size 31 i0 _ 1 8 Tryz.underlying33 hi0 hz0 hz1 hz2 rfl (by decide) (.slice (some ⟨b0, 0, none⟩) 0 0) 0 [] rfl HO0.out (some ⟨g1, o1, none⟩) j c1 ((xs.take j).map (Value.int .u64)) rfl (HS1.out _ HY.out) HN1.out ONE1.out (by unfold maxLen; omega) (by omega) HY.out.size ?_
                intro v1 wc ho1 hg1 hv1
                rw [Nat.zero_add, List.nil_append] at ho1
                have HO1 := Lib.hid ho1
                have HNV : Hid (v1.ownBlock ≠ some b1) := own_ne hv1 rfl HNE.out (Array.getElem?_eq_some_iff.1 H1.out).1
                have H1 := Lib.hid (((Ex.ofGrown hg1).block _ (Array.getElem?_eq_some_iff.1 H1.out).1 (by intro h; injection h with h; exact HNE.out h)).trans H1.out)
                have HY := Lib.hid (ex_of_new HY.out hg1 (fun b hb => (HO0.out.lt b hb).1))
                replace hS := KEEP.out _ HY.out
                clear ho1 hg1 hv1
                refine HKK.out _ _ hS ?_
                clear HKK K
                (try simp only [Act.put, List.setIfInBounds_toArray, List.set_cons_zero, List.set_cons_succ])
                refine wpAnyH_eff 14 rfl (by kernel_rfl) (by rfl) (fun K hK => ?_)
                have HKK := Lib.hid hK
                clear hK
                refine wp_append_sl (.tmp 59) (.tmp 68) 33 rfl wB.heap.size 31 i0 _ 1 8 Tryz.underlying33 hi0 hz0 hz1 hz2 rfl (by decide) v1 j ((xs.take j).map (Value.int .u64)) rfl HO1.out (some ⟨b1, 0, none⟩) 1 1 #[Value.int .u64 ba].toList rfl (sl_block H1.out rfl (by decide)) (fun h => by cases h) (by simp [Value.oneCell']) (by unfold maxLen; omega) (by omega) HY.out.size ?_
                intro v2 we ho2 hg2 hv2
                have HO2 := Lib.hid ho2
                have HY := Lib.hid (ex_of_new HY.out hg2 (fun b hb => (HO1.out.lt b hb).1))
                replace hS := KEEP.out _ HY.out
                clear ho2 hg2 hv2
                refine HKK.out _ _ hS ?_
                clear HKK K
                (try simp only [Act.put, List.setIfInBounds_toArray, List.set_cons_zero, List.set_cons_succ])
                refine wpAnyH_eff 18 rfl (by kernel_rfl) (by rfl) (fun K hK => ?_)
                have HKK := Lib.hid hK
                clear hK
                refine wp_append_sl (.tmp 69) (.tmp 72) 33 rfl wB.heap.size 31 i0 _ 1 8 Tryz.underlying33 hi0 hz0 hz1 hz2 rfl (by decide) v2 (j + 1) (((xs.take j).map (Value.int .u64)) ++ #[Value.int .u64 ba].toList) rfl HO2.out A2 n2 c2 ((xs.drop j).map (Value.int .u64)) rfl (HS2.out _ HY.out) HN2.out ONE2.out (by unfold maxLen; omega) (by omega) HY.out.size ?_
                intro v3 wf ho3 hg3 hv3
                have HO3 := Lib.hid ho3
                have HY := Lib.hid (ex_of_new HY.out hg3 (fun b hb => (HO2.out.lt b hb).1))
                replace hS := KEEP.out _ HY.out
                clear ho3 hg3 hv3
                refine HKK.out _ _ hS ?_
                clear HKK K
                (try simp only [Act.put, List.setIfInBounds_toArray, List.set_cons_zero, List.set_cons_succ])
                refine' wpAnyH_do 19 rfl (by kernel_rfl) (fun _ _ _ _ h => h) (by rfl) (by assumption) ⟨_, fun w' hS => ?_, ?_⟩
                rotate_left
                · ((try dsimp only at hS); go_split_ands; go_simp; try (with_reducible rfl))
                simp only [Act.put, List.setIfInBounds_toArray, List.set_cons_zero, List.set_cons_succ]
                refine wpAnyH_done (by kernel_rfl) ?_ _
                have hxf : Ex0 w wf := HX.out.trans0 (HXB.out.trans0 HY.out)
                have HB := Lib.hid (HMORE.out j v3 _ wf (by omega) (own_base HO3.out (fun b hb => Nat.le_trans (HX.out.trans0 HXB.out).size (HO3.out.lt b hb).1)) hxf)
                clear hS hxf
                go_wp2_with fail
                exact ⟨⟨k + 1, by omega, by go_num, HB.out⟩, by simp [intOf]; omega⟩
        · have hj1 : ¬ (j : Int) < (xs.length : Int) := by omega
          clear hxi
          go_wp2_with fail
          go_quiet (fail)
          go_wp2_with fail
          go_quiet (fail)
          go_wp2_with fail
          refine wp_drewN (HXI.out.drewN' _) (fun wB hxB => ?_)
          have HXB := Lib.hid hxB
          have hs1 : ∀ w', (Instr.sliceAt 33 (.slice A1 xs.length c1) none (some (.int .i64 j)) none).run Tryz.prog w' = .ok (.slice A1 j c1) w' := fun w' => run_sliceAt_high (P := Tryz.prog) (sz := 1) Tryz.underlying33 (by kernel_rfl) A1 xs.length c1 j (by omega) w'
          obtain ⟨A2, hA2⟩ : ∃ A2, (if c1 = j then A1 else (A1 : Option Addr).map (·.add (j * 1))) = A2 := ⟨_, rfl⟩
          obtain ⟨n2, hn2⟩ : ∃ n2, xs.length - j = n2 := ⟨_, rfl⟩
          obtain ⟨c2, hc2'⟩ : ∃ c2, c1 - j = c2 := ⟨_, rfl⟩
          have hs2 : ∀ w', (Instr.sliceAt 33 (.slice A1 xs.length c1) (some (.int .i64 j)) none none).run Tryz.prog w' = .ok (.slice A2 n2 c2) w' := fun w' => by
            have := run_sliceAt_low (P := Tryz.prog) (sz := 1) Tryz.underlying33 (by kernel_rfl) A1 xs.length c1 j (by omega) w'
            rw [hA2, hn2, hc2'] at this
            exact this
          have HS1 : Hid (∀ w', Ex0 wB w' → Sl w' 1 A1 j ((xs.take j).map (Value.int .u64))) := fun w' hx => by
            have := ((HSL.out.ex0 HXB.out).ex0 hx).takeS (k := j) (by omega)
            rwa [Nat.mul_one, ← List.map_take] at this
          have HS2 : Hid (∀ w', Ex0 wB w' → Sl w' 1 A2 n2 ((xs.drop j).map (Value.int .u64))) := fun w' hx => by
            have := Sl.low ((HSL.out.ex0 HXB.out).ex0 hx) (k := j) (cap := c1) (by omega) hcap1
            have hd : ((xs.map (Value.int .u64)).drop (j * 1)) = (xs.drop j).map (Value.int .u64) := by rw [Nat.mul_one, List.map_drop]
            rw [hA2, hn2, hd] at this
            exact this
          have HN1 : Hid ((A1 : Option Addr) = none → c1 = 0) := HC0.out
          have HN2 : Hid (A2 = none → c2 = 0) := fun e => by rw [← hc2']; exact cap_low HC0.out (hA2.trans e)
          have ONE1 := Lib.hid (u64_one (xs.take j))
          have ONE2 := Lib.hid (u64_one (xs.drop j))
          have hnn : j + n2 = xs.length := by omega
          clear hA2 hn2 hc2' hc hc2 hlp hlb hxB
          have HY : Hid (Ex0 wB wB.drew) := Ex.drew _
          have KEEP : Hid (∀ w', Ex0 wB w' → w'.cell? ⟨p, 0, none⟩ = some (.slice (some ⟨gb, ob, none⟩) bs.length cap) ∧ w'.cell? ⟨gb, ob + k * 4 + 2, none⟩ = some (.int .u64 ba) ∧ p < w'.heap.size) := fun w' hx => ⟨(HXB.out.trans0 hx).cellS HC.out not_false, (HXB.out.trans0 hx).cellS HC2.out not_false, World.block_lt_of_cell? _ _ ((HXB.out.trans0 hx).cellS HC.out not_false)⟩
          have hS := KEEP.out _ HY.out
          refine wp_region_takes (fun w' : World => w'.cell? ⟨p, 0, none⟩ = some (.slice (some ⟨gb, ob, none⟩) bs.length cap) ∧ w'.cell? ⟨gb, ob + k * 4 + 2, none⟩ = some (.int .u64 ba) ∧ p < w'.heap.size) (by kernel_rfl) ?_
          simp only [List.length_cons, List.length_nil]
          generalize wB.drew = wd at *
          refine' wpAnyH_do 1 rfl (by kernel_rfl) (fun _ _ _ _ h => h) (by rfl) (by assumption) ⟨_, fun w' hS => ?_, ?_⟩
          rotate_left
          · ((try dsimp only at hS); go_split_ands; go_simp; try (with_reducible rfl))
          simp only [Act.put, List.setIfInBounds_toArray, List.set_cons_zero, List.set_cons_succ]
          refine' wpAnyH_do 2 rfl (by kernel_rfl) (fun _ _ _ _ h => h) (by rfl) (by assumption) ⟨_, fun w' hS => ?_, ?_⟩
          rotate_left
          · ((try dsimp only at hS); go_split_ands; go_simp; try (with_reducible rfl))
          simp only [Act.put, List.setIfInBounds_toArray, List.set_cons_zero, List.set_cons_succ]
          refine' wpAnyH_do 3 rfl (by kernel_rfl) (fun _ _ _ _ h => h) (by rfl) (by assumption) ⟨_, fun w' hS => ?_, ?_⟩
          rotate_left
          · ((try dsimp only at hS); go_split_ands; go_simp; try (with_reducible rfl))
          simp only [Act.put, List.setIfInBounds_toArray, List.set_cons_zero, List.set_cons_succ]
          refine' wpAnyH_do 5 rfl (by kernel_rfl) (fun _ _ _ _ h => h) (by rfl) (by assumption) ⟨_, fun w' hS => ?_, ?_⟩
          rotate_left
          · ((try dsimp only at hS); go_split_ands; go_simp; try (with_reducible rfl))
          simp only [Act.put, List.setIfInBounds_toArray, List.set_cons_zero, List.set_cons_succ]
          refine' wpAnyH_do 6 rfl (by kernel_rfl) (fun _ _ _ _ h => h) (by rfl) (by assumption) ⟨_, fun w' hS => ?_, ?_⟩
          rotate_left
          · ((try dsimp only at hS); go_split_ands; go_simp; try (with_reducible rfl))
          simp only [Act.put, List.setIfInBounds_toArray, List.set_cons_zero, List.set_cons_succ]
          refine' wpAnyH_do 7 rfl (by kernel_rfl) (fun _ _ _ _ h => h) (by rfl) (by assumption) ⟨_, fun w' hS => ?_, ?_⟩
          rotate_left
          · ((try dsimp only at hS); go_split_ands; go_simp; try (with_reducible rfl))
          simp only [Act.put, List.setIfInBounds_toArray, List.set_cons_zero, List.set_cons_succ]
          refine' wpAnyH_do 8 rfl (by kernel_rfl) (fun _ _ _ _ h => h) (by rfl) (by assumption) ⟨_, fun w' hS => ?_, ?_⟩
          rotate_left
          · ((try dsimp only at hS); go_split_ands; go_simp; try (with_reducible rfl))
          simp only [Act.put, List.setIfInBounds_toArray, List.set_cons_zero, List.set_cons_succ]
          refine' wpAnyH_do 9 rfl (by kernel_rfl) (fun _ _ _ _ h => h) (by rfl) (by assumption) ⟨_, fun w' hS => ?_, ?_⟩
          rotate_left
          · ((try dsimp only at hS); go_split_ands; go_simp; try (with_reducible rfl))
          simp only [Act.put, List.setIfInBounds_toArray, List.set_cons_zero, List.set_cons_succ]
          refine' wpAnyH_do 10 rfl (by kernel_rfl) (fun _ _ _ _ h => h) (by rfl) (by assumption) ⟨_, fun w' hS => ?_, ?_⟩
          rotate_left
          · ((try dsimp only at hS); go_split_ands; go_simp; try (with_reducible rfl))
          simp only [Act.put, List.setIfInBounds_toArray, List.set_cons_zero, List.set_cons_succ]
          refine' wpAnyH_do 11 rfl (by kernel_rfl) (fun _ _ _ _ h => h) (by rfl) (by assumption) ⟨_, fun w' hS => ?_, ?_⟩
          rotate_left
          · ((try dsimp only at hS); go_split_ands; go_simp; try (with_reducible rfl))
          simp only [Act.put, List.setIfInBounds_toArray, List.set_cons_zero, List.set_cons_succ]
          refine' wpAnyH_do 12 rfl (by kernel_rfl) (fun _ _ _ _ h => h) (by rfl) (by assumption) ⟨_, fun w' hS => ?_, ?_⟩
          rotate_left
          · ((try dsimp only at hS); go_split_ands; go_simp; try (with_reducible rfl))
          simp only [Act.put, List.setIfInBounds_toArray, List.set_cons_zero, List.set_cons_succ]
          refine' wpAnyH_do 15 rfl (by kernel_rfl) (fun _ _ _ _ h => h) (by rfl) (by assumption) ⟨_, fun w' hS => ?_, ?_⟩
          rotate_left
          · ((try dsimp only at hS); go_split_ands; go_simp; try (with_reducible rfl))
          simp only [Act.put, List.setIfInBounds_toArray, List.set_cons_zero, List.set_cons_succ]
          refine' wpAnyH_do 16 rfl (by kernel_rfl) (fun _ _ _ _ h => h) (by rfl) (by assumption) ⟨_, fun w' hS => ?_, ?_⟩
          rotate_left
          · ((try dsimp only at hS); go_split_ands; go_simp; try (with_reducible rfl))
          simp only [Act.put, List.setIfInBounds_toArray, List.set_cons_zero, List.set_cons_succ]
          refine' wpAnyH_do 17 rfl (by kernel_rfl) (fun _ _ _ _ h => h) (by rfl) (by assumption) ⟨_, fun w' hS => ?_, ?_⟩
          rotate_left
          · ((try dsimp only at hS); go_split_ands; go_simp; try (with_reducible rfl))
          simp only [Act.put, List.setIfInBounds_toArray, List.set_cons_zero, List.set_cons_succ]
          refine wpAnyH_two 0 13 rfl rfl (by kernel_rfl) (by rfl) (by rfl) (fun K hK => ?_) (fun K hK => ?_)
          · have HKK := Lib.hid hK
            clear hK
            refine wp_buildSlice_none 33 31 rfl i0 _ Tryz.underlying33 hi0 hz0 ?_
            obtain ⟨wa, hw⟩ : ∃ x, x = World.alloc wd (.cells #[] 31) := ⟨_, rfl⟩
            rw [← hw]
            obtain ⟨b0, hb0⟩ : ∃ x, x = wd.heap.size := ⟨_, rfl⟩
            rw [← hb0]
            have hx : Ex0 wd wa := by rw [hw]; exact Ex.alloc _ _
            have HO0 : Hid (wa.ownsRow wB.heap.size 31 1 (.slice (some ⟨b0, 0, none⟩) 0 0) 0 []) := by rw [hw, hb0]; exact own_empty (heap_alloc_new _ _) _ HY.out.size
            have HZ0 : Hid (b0 = wd.heap.size ∧ wa.heap.size = wd.heap.size + 1) := ⟨hb0, by rw [hw]; simp⟩
            have HY := Lib.hid (HY.out.trans0 hx)
            replace hS := KEEP.out _ HY.out
            clear hw hx hb0
            refine HKK.out _ _ hS ?_
            clear HKK K
            (try simp only [Act.put, List.setIfInBounds_toArray, List.set_cons_zero, List.set_cons_succ])
            refine wpAnyH_two 4 13 rfl rfl (by kernel_rfl) (by rfl) (by rfl) (fun K hK => ?_) (fun K hK => ?_)
            · have HKK := Lib.hid hK
              clear hK
              refine wp_append_sl (.tmp 55) (.tmp 58) 33 rfl wB.heap.size 31 i0 _ 1 8 Tryz.underlying33 hi0 hz0 hz1 hz2 rfl (by decide) (.slice (some ⟨b0, 0, none⟩) 0 0) 0 [] rfl HO0.out A1 j c1 ((xs.take j).map (Value.int .u64)) rfl (HS1.out _ HY.out) HN1.out ONE1.out (by unfold maxLen; omega) (by omega) HY.out.size ?_
              intro v1 wb ho1 hg1 hv1
              rw [Nat.zero_add, List.nil_append] at ho1
              have HO1 := Lib.hid ho1
              have HY := Lib.hid (ex_of_new HY.out hg1 (fun b hb => (HO0.out.lt b hb).1))
              replace hS := KEEP.out _ HY.out
              clear ho1 hg1 hv1
              refine HKK.out _ _ hS ?_
              clear HKK K
              (try simp only [Act.put, List.setIfInBounds_toArray, List.set_cons_zero, List.set_cons_succ])
              refine wpAnyH_eff 13 rfl (by kernel_rfl) (by rfl) (fun K hK => ?_)
              have HKK := Lib.hid hK
              clear hK
              refine wp_buildSlice_all 33 31 1 _ rfl [Value.int .u64 ba] i0 _ 1 Tryz.underlying33 hi0 hz0 hz1 (by decide) (by decide) rfl (by decide) rfl (by intro v hv; rw [List.mem_singleton.1 hv]; exact rfl) ?_
              obtain ⟨wc, hw⟩ : ∃ x, x = World.alloc wb (.cells ([Value.int .u64 ba].flatMap fun v => v.cells.toList).toArray 31) := ⟨_, rfl⟩
              rw [← hw]
              obtain ⟨b1, hb1⟩ : ∃ x, x = wb.heap.size := ⟨_, rfl⟩
              rw [← hb1]
              have hx : Ex0 wb wc := by rw [hw]; exact Ex.alloc _ _
              have H1 : Hid (wc.heap[b1]? = some (.cells #[Value.int .u64 ba] 31 (0, 0))) := by rw [hw, hb1]; show _ = _; rw [heap_alloc_new]; simp [Value.cells]
              have HZ1 : Hid (b1 = wb.heap.size ∧ wc.heap.size = wb.heap.size + 1) := ⟨hb1, by rw [hw]; simp⟩
              have HNV : Hid (v1.ownBlock ≠ some b1) := by intro h; have h1 := (HO1.out.lt _ h).2; have h2 := HZ1.out.1; omega
              have HO1 := Lib.hid (own_ex HO1.out hx (fun _ _ h => h))
              have HY := Lib.hid (HY.out.trans0 hx)
              replace hS := KEEP.out _ HY.out
              clear hw hx hb1
              refine HKK.out _ _ hS ?_
              clear HKK K
              (try simp only [Act.put, List.setIfInBounds_toArray, List.set_cons_zero, List.set_cons_succ])
              refine wpAnyH_eff 14 rfl (by kernel_rfl) (by rfl) (fun K hK => ?_)
              have HKK := Lib.hid hK
              clear hK
              refine wp_append_sl (.tmp 59) (.tmp 68) 33 rfl wB.heap.size 31 i0 _ 1 8 Tryz.underlying33 hi0 hz0 hz1 hz2 rfl (by decide) v1 j ((xs.take j).map (Value.int .u64)) rfl HO1.out (some ⟨b1, 0, none⟩) 1 1 #[Value.int .u64 ba].toList rfl (sl_block H1.out rfl (by decide)) (fun h => by cases h) (by simp [Value.oneCell']) (by unfold maxLen; omega) (by omega) HY.out.size ?_
              intro v2 we ho2 hg2 hv2
              have HO2 := Lib.hid ho2
              have HY := Lib.hid (ex_of_new HY.out hg2 (fun b hb => (HO1.out.lt b hb).1))
              replace hS := KEEP.out _ HY.out
              clear ho2 hg2 hv2
              refine HKK.out _ _ hS ?_
              clear HKK K
              (try simp only [Act.put, List.setIfInBounds_toArray, List.set_cons_zero, List.set_cons_succ])
              refine wpAnyH_eff 18 rfl (by kernel_rfl) (by rfl) (fun K hK => ?_)
              have HKK := Lib.hid hK
              clear hK
              refine wp_append_sl (.tmp 69) (.tmp 72) 33 rfl wB.heap.size 31 i0 _ 1 8 Tryz.underlying33 hi0 hz0 hz1 hz2 rfl (by decide) v2 (j + 1) (((xs.take j).map (Value.int .u64)) ++ #[Value.int .u64 ba].toList) rfl HO2.out A2 n2 c2 ((xs.drop j).map (Value.int .u64)) rfl (HS2.out _ HY.out) HN2.out ONE2.out (by unfold maxLen; omega) (by omega) HY.out.size ?_
              intro v3 wf ho3 hg3 hv3
              have HO3 := Lib.hid ho3
              have HY := Lib.hid (ex_of_new HY.out hg3 (fun b hb => (HO2.out.lt b hb).1))
              replace hS := KEEP.out _ HY.out
              clear ho3 hg3 hv3
              refine HKK.out _ _ hS ?_
              clear HKK K
              (try simp only [Act.put, List.setIfInBounds_toArray, List.set_cons_zero, List.set_cons_succ])
              refine' wpAnyH_do 19 rfl (by kernel_rfl) (fun _ _ _ _ h => h) (by rfl) (by assumption) ⟨_, fun w' hS => ?_, ?_⟩
              rotate_left
              · ((try dsimp only at hS); go_split_ands; go_simp; try (with_reducible rfl))
              simp only [Act.put, List.setIfInBounds_toArray, List.set_cons_zero, List.set_cons_succ]
              refine wpAnyH_done (by kernel_rfl) ?_ _
              have hxf : Ex0 w wf := HX.out.trans0 (HXB.out.trans0 HY.out)
              have HB := Lib.hid (HMORE.out j v3 _ wf (by omega) (own_base HO3.out (fun b hb => Nat.le_trans (HX.out.trans0 HXB.out).size (HO3.out.lt b hb).1)) hxf)
              clear hS hxf
              go_wp2_with fail
              exact ⟨⟨k + 1, by omega, by go_num, HB.out⟩, by simp [intOf]; omega⟩
            · have HKK := Lib.hid hK
              clear hK
              refine wp_buildSlice_all 33 31 1 _ rfl [Value.int .u64 ba] i0 _ 1 Tryz.underlying33 hi0 hz0 hz1 (by decide) (by decide) rfl (by decide) rfl (by intro v hv; rw [List.mem_singleton.1 hv]; exact rfl) ?_
              obtain ⟨wb, hw⟩ : ∃ x, x = World.alloc wa (.cells ([Value.int .u64 ba].flatMap fun v => v.cells.toList).toArray 31) := ⟨_, rfl⟩
              rw [← hw]
              obtain ⟨b1, hb1⟩ : ∃ x, x = wa.heap.size := ⟨_, rfl⟩
              rw [← hb1]
              have hx : Ex0 wa wb := by rw [hw]; exact Ex.alloc _ _
              have H1 : Hid (wb.heap[b1]? = some (.cells #[Value.int .u64 ba] 31 (0, 0))) := by rw [hw, hb1]; show _ = _; rw [heap_alloc_new]; simp [Value.cells]
              have HZ1 : Hid (b1 = wa.heap.size ∧ wb.heap.size = wa.heap.size + 1) := ⟨hb1, by rw [hw]; simp⟩
              have HO0 := Lib.hid (own_ex HO0.out hx (fun _ _ h => h))
              have HNE : Hid (b0 ≠ b1) := by have h1 := HZ0.out.1; have h2 := HZ0.out.2; have h3 := HZ1.out.1; show _ ≠ _; omega
              have HY := Lib.hid (HY.out.trans0 hx)
              replace hS := KEEP.out _ HY.out
              clear hw hx hb1
              refine HKK.out _ _ hS ?_
              clear HKK K
              (try simp only [Act.put, List.setIfInBounds_toArray, List.set_cons_zero, List.set_cons_succ])
              refine wpAnyH_eff 4 rfl (by kernel_rfl) (by rfl) (fun K hK => ?_)
              have HKK := Lib.hid hK
              clear hK
              refine wp_append_sl (.tmp 55) (.tmp 58) 33 rfl wB.heap.size 31 i0 _ 1 8 Tryz.underlying33 hi0 hz0 hz1 hz2 rfl (by decide) (.slice (some ⟨b0, 0, none⟩) 0 0) 0 [] rfl HO0.out A1 j c1 ((xs.take j).map (Value.int .u64)) rfl (HS1.out _ HY.out) HN1.out ONE1.out (by unfold maxLen; omega) (by omega) HY.out.size ?_
              intro v1 wc ho1 hg1 hv1
              rw [Nat.zero_add, List.nil_append] at ho1
              have HO1 := Lib.hid ho1
              have HNV : Hid (v1.ownBlock ≠ some b1) := own_ne hv1 rfl HNE.out (Array.getElem?_eq_some_iff.1 H1.out).1
              have H1 := Lib.hid (((Ex.ofGrown hg1).block _ (Array.getElem?_eq_some_iff.1 H1.out).1 (by intro h; injection h with h; exact HNE.out h)).trans H1.out)
              have HY := Lib.hid (ex_of_new HY.out hg1 (fun b hb => (HO0.out.lt b hb).1))
              replace hS := KEEP.out _ HY.out
              clear ho1 hg1 hv1
              refine HKK.out _ _ hS ?_
              clear HKK K
              (try simp only [Act.put, List.setIfInBounds_toArray, List.set_cons_zero, List.set_cons_succ])
              refine wpAnyH_eff 14 rfl (by kernel_rfl) (by rfl) (fun K hK => ?_)
              have HKK := Lib.hid hK
              clear hK
              refine wp_append_sl (.tmp 59) (.tmp 68) 33 rfl wB.heap.size 31 i0 _ 1 8 Tryz.underlying33 hi0 hz0 hz1 hz2 rfl (by decide) v1 j ((xs.take j).map (Value.int .u64)) rfl HO1.out (some ⟨b1, 0, none⟩) 1 1 #[Value.int .u64 ba].toList rfl (sl_block H1.out rfl (by decide)) (fun h => by cases h) (by simp [Value.oneCell']) (by unfold maxLen; omega) (by omega) HY.out.size ?_
              intro v2 we ho2 hg2 hv2
              have HO2 := Lib.hid ho2
              have HY := Lib.hid (ex_of_new HY.out hg2 (fun b hb => (HO1.out.lt b hb).1))
              replace hS := KEEP.out _ HY.out
              clear ho2 hg2 hv2
              refine HKK.out _ _ hS ?_
              clear HKK K
              (try simp only [Act.put, List.setIfInBounds_toArray, List.set_cons_zero, List.set_cons_succ])
              refine wpAnyH_eff 18 rfl (by kernel_rfl) (by rfl) (fun K hK => ?_)
              have HKK := Lib.hid hK
              clear hK
              refine wp_append_sl (.tmp 69) (.tmp 72) 33 rfl wB.heap.size 31 i0 _ 1 8 Tryz.underlying33 hi0 hz0 hz1 hz2 rfl (by decide) v2 (j + 1) (((xs.take j).map (Value.int .u64)) ++ #[Value.int .u64 ba].toList) rfl HO2.out A2 n2 c2 ((xs.drop j).map (Value.int .u64)) rfl (HS2.out _ HY.out) HN2.out ONE2.out (by unfold maxLen; omega) (by omega) HY.out.size ?_
              intro v3 wf ho3 hg3 hv3
              have HO3 := Lib.hid ho3
              have HY := Lib.hid (ex_of_new HY.out hg3 (fun b hb => (HO2.out.lt b hb).1))
              replace hS := KEEP.out _ HY.out
              clear ho3 hg3 hv3
              refine HKK.out _ _ hS ?_
              clear HKK K
              (try simp only [Act.put, List.setIfInBounds_toArray, List.set_cons_zero, List.set_cons_succ])
              refine' wpAnyH_do 19 rfl (by kernel_rfl) (fun _ _ _ _ h => h) (by rfl) (by assumption) ⟨_, fun w' hS => ?_, ?_⟩
              rotate_left
              · ((try dsimp only at hS); go_split_ands; go_simp; try (with_reducible rfl))
              simp only [Act.put, List.setIfInBounds_toArray, List.set_cons_zero, List.set_cons_succ]
              refine wpAnyH_done (by kernel_rfl) ?_ _
              have hxf : Ex0 w wf := HX.out.trans0 (HXB.out.trans0 HY.out)
              have HB := Lib.hid (HMORE.out j v3 _ wf (by omega) (own_base HO3.out (fun b hb => Nat.le_trans (HX.out.trans0 HXB.out).size (HO3.out.lt b hb).1)) hxf)
              clear hS hxf
              go_wp2_with fail
              exact ⟨⟨k + 1, by omega, by go_num, HB.out⟩, by simp [intOf]; omega⟩
          · have HKK := Lib.hid hK
            clear hK
            refine wp_buildSlice_all 33 31 1 _ rfl [Value.int .u64 ba] i0 _ 1 Tryz.underlying33 hi0 hz0 hz1 (by decide) (by decide) rfl (by decide) rfl (by intro v hv; rw [List.mem_singleton.1 hv]; exact rfl) ?_
            obtain ⟨wa, hw⟩ : ∃ x, x = World.alloc wd (.cells ([Value.int .u64 ba].flatMap fun v => v.cells.toList).toArray 31) := ⟨_, rfl⟩
            rw [← hw]
            obtain ⟨b1, hb1⟩ : ∃ x, x = wd.heap.size := ⟨_, rfl⟩
            rw [← hb1]
            have hx : Ex0 wd wa := by rw [hw]; exact Ex.alloc _ _
            have H1 : Hid (wa.heap[b1]? = some (.cells #[Value.int .u64 ba] 31 (0, 0))) := by rw [hw, hb1]; show _ = _; rw [heap_alloc_new]; simp [Value.cells]
            have HZ1 : Hid (b1 = wd.heap.size ∧ wa.heap.size = wd.heap.size + 1) := ⟨hb1, by rw [hw]; simp⟩
            have HY := Lib.hid (HY.out.trans0 hx)
            replace hS := KEEP.out _ HY.out
            clear hw hx hb1
            refine HKK.out _ _ hS ?_
            clear HKK K
            (try simp only [Act.put, List.setIfInBounds_toArray, List.set_cons_zero, List.set_cons_succ])
            refine wpAnyH_eff 0 rfl (by kernel_rfl) (by rfl) (fun K hK => ?_)
            have HKK := Lib.hid hK
            clear hK
            refine wp_buildSlice_none 33 31 rfl i0 _ Tryz.underlying33 hi0 hz0 ?_
            obtain ⟨wb, hw⟩ : ∃ x, x = World.alloc wa (.cells #[] 31) := ⟨_, rfl⟩
            rw [← hw]
            obtain ⟨b0, hb0⟩ : ∃ x, x = wa.heap.size := ⟨_, rfl⟩
            rw [← hb0]
            have hx : Ex0 wa wb := by rw [hw]; exact Ex.alloc _ _
            have HO0 : Hid (wb.ownsRow wB.heap.size 31 1 (.slice (some ⟨b0, 0, none⟩) 0 0) 0 []) := by rw [hw, hb0]; exact own_empty (heap_alloc_new _ _) _ HY.out.size
            have HZ0 : Hid (b0 = wa.heap.size ∧ wb.heap.size = wa.heap.size + 1) := ⟨hb0, by rw [hw]; simp⟩
            have H1 := Lib.hid ((hx.block _ (Array.getElem?_eq_some_iff.1 H1.out).1 not_false).trans H1.out)
            have HNE : Hid (b0 ≠ b1) := by have h1 := HZ1.out.1; have h2 := HZ1.out.2; have h3 := HZ0.out.1; show _ ≠ _; omega
            have HY := Lib.hid (HY.out.trans0 hx)
            replace hS := KEEP.out _ HY.out
            clear hw hx hb0
            refine HKK.out _ _ hS ?_
            clear HKK K
            (try simp only [Act.put, List.setIfInBounds_toArray, List.set_cons_zero, List.set_cons_succ])
            refine wpAnyH_eff 4 rfl (by kernel_rfl) (by rfl) (fun K hK => ?_)
            have HKK := Lib.hid hK
            clear hK
            refine wp_append_sl (.tmp 55) (.tmp 58) 33 rfl wB.heap.size 31 i0 _ 1 8 Tryz.underlying33 hi0 hz0 hz1 hz2 rfl (by decide) (.slice (some ⟨b0, 0, none⟩) 0 0) 0 [] rfl HO0.out A1 j c1 ((xs.take j).map (Value.int .u64)) rfl (HS1.out _ HY.out) HN1.out ONE1.out (by unfold maxLen; omega) (by omega) HY.out.size ?_
            intro v1 wc ho1 hg1 hv1
            rw [Nat.zero_add, List.nil_append] at ho1
            have HO1 := Lib.hid ho1
            have HNV : Hid (v1.ownBlock ≠ some b1) := own_ne hv1 rfl HNE.out (Array.getElem?_eq_some_iff.1 H1.out).1
            have H1 := Lib.hid (((Ex.ofGrown hg1).block _ (Array.getElem?_eq_some_iff.1 H1.out).1 (by intro h; injection h with h; exact HNE.out h)).trans H1.out)
            have HY := Lib.hid (ex_of_new HY.out hg1 (fun b hb => (HO0.out.lt b hb).1))
            replace hS := KEEP.out _ HY.out
            clear ho1 hg1 hv1
            refine HKK.out _ _ hS ?_
            clear HKK K
            (try simp only [Act.put, List.setIfInBounds_toArray, List.set_cons_zero, List.set_cons_succ])
            refine wpAnyH_eff 14 rfl (by kernel_rfl) (by rfl) (fun K hK => ?_)
            have HKK := Lib.hid hK
            clear hK
            refine wp_append_sl (.tmp 59) (.tmp 68) 33 rfl wB.heap.size 31 i0 _ 1 8 Tryz.underlying33 hi0 hz0 hz1 hz2 rfl (by decide) v1 j ((xs.take j).map (Value.int .u64)) rfl HO1.out (some ⟨b1, 0, none⟩) 1 1 #[Value.int .u64 ba].toList rfl (sl_block H1.out rfl (by decide)) (fun h => by cases h) (by simp [Value.oneCell']) (by unfold maxLen; omega) (by omega) HY.out.size ?_
            intro v2 we ho2 hg2 hv2
            have HO2 := Lib.hid ho2
            have HY := Lib.hid (ex_of_new HY.out hg2 (fun b hb => (HO1.out.lt b hb).1))
            replace hS := KEEP.out _ HY.out
            clear ho2 hg2 hv2
            refine HKK.out _ _ hS ?_
            clear HKK K
            (try simp only [Act.put, List.setIfInBounds_toArray, List.set_cons_zero, List.set_cons_succ])
            refine wpAnyH_eff 18 rfl (by kernel_rfl) (by rfl) (fun K hK => ?_)
            have HKK := Lib.hid hK
            clear hK
            refine wp_append_sl (.tmp 69) (.tmp 72) 33 rfl wB.heap.size 31 i0 _ 1 8 Tryz.underlying33 hi0 hz0 hz1 hz2 rfl (by decide) v2 (j + 1) (((xs.take j).map (Value.int .u64)) ++ #[Value.int .u64 ba].toList) rfl HO2.out A2 n2 c2 ((xs.drop j).map (Value.int .u64)) rfl (HS2.out _ HY.out) HN2.out ONE2.out (by unfold maxLen; omega) (by omega) HY.out.size ?_
            intro v3 wf ho3 hg3 hv3
            have HO3 := Lib.hid ho3
            have HY := Lib.hid (ex_of_new HY.out hg3 (fun b hb => (HO2.out.lt b hb).1))
            replace hS := KEEP.out _ HY.out
            clear ho3 hg3 hv3
            refine HKK.out _ _ hS ?_
            clear HKK K
            (try simp only [Act.put, List.setIfInBounds_toArray, List.set_cons_zero, List.set_cons_succ])
            refine' wpAnyH_do 19 rfl (by kernel_rfl) (fun _ _ _ _ h => h) (by rfl) (by assumption) ⟨_, fun w' hS => ?_, ?_⟩
            rotate_left
            · ((try dsimp only at hS); go_split_ands; go_simp; try (with_reducible rfl))
            simp only [Act.put, List.setIfInBounds_toArray, List.set_cons_zero, List.set_cons_succ]
            refine wpAnyH_done (by kernel_rfl) ?_ _
            have hxf : Ex0 w wf := HX.out.trans0 (HXB.out.trans0 HY.out)
            have HB := Lib.hid (HMORE.out j v3 _ wf (by omega) (own_base HO3.out (fun b hb => Nat.le_trans (HX.out.trans0 HXB.out).size (HO3.out.lt b hb).1)) hxf)
            clear hS hxf
            go_wp2_with fail
            exact ⟨⟨k + 1, by omega, by go_num, HB.out⟩, by simp [intOf]; omega⟩
    · have hkn : k = bs.length := by omega
      subst hkn
      go_wp2
      go_ret
      exact ⟨_, rfl, xs, HO.out, HM.out, hl, HX.out⟩
end Go.Proofs.YtoglddndicmelaaGreat.Tr
