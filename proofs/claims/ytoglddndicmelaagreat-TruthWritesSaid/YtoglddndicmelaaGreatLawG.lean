/- Layer 54: what is written is read. -/
import Derived.Test.YtoglddndicmelaaGreatLawD
import Derived.Test.YtoglddndicmelaaGreatLwP
import Derived.Test.YtoglddndicmelaaGreatLwU
namespace Go.Proofs.YtoglddndicmelaaGreat.Tr
open Go.RowKit Go.Proofs.YtoglddndicmelaaGreatB Go.Proofs.YtoglddndicmelaaGreat
set_option maxRecDepth 100000

set_option maxHeartbeats 8000000 in
theorem writes_walk (A : Option Addr) (n cap : Nat) (rs : List Rul) (B : Option Addr) (m capb : Nat) (xs : List ActT) (x : ActT) (W : World) (hs : Sl W 3 A n (rs.flatMap Rul.cells)) (hA : ∀ b, Bl A b → b < W.heap.size) (ha : Sl W 8 B m (xs.flatMap ActT.cells)) (hx : ∀ x ∈ xs, x.Ok) (hxo : x.Ok) :
    Calls Tryz.prog 6 #[.slice A n cap, .slice B m capb, .agg x.cells.toArray] W fun e W' => e = .returned (.bool true) ∧ Below W.heap.size W W' := by
  have hln : rs.length = n := by have := hs.len; rw [flat_len Rul.cells 3 Rul.length] at this; omega
  have HP : Hid (∀ w, Ex0 W w → Calls Tryz.prog 18 #[.slice A n cap, .slice B m capb] w (PlayP n rs xs w)) := fun w hw => played_any A n cap rs B m capb xs w (hs.ex0 hw) (fun b hb => Nat.lt_of_lt_of_le (hA b hb) hw.size) (ha.ex0 hw) hx
  have HOK := Lib.hid hx
  obtain ⟨xd, xbr, xvol, xblk, xa, xb, xc, xy⟩ := x
  obtain ⟨g0, g1, g2, g3, g4, g5, g6, g7⟩ := hxo
  dsimp only at g0 g1 g2 g3 g4 g5 g6 g7
  show Calls _ _ #[.slice A n cap, .slice B m capb, .agg #[.int .u8 xd, .int .u8 xbr, .int .u8 xvol, .int .u8 xblk, .int .u8 xa, .int .u8 xb, .int .u8 xc, .int .u8 xy]] W _
  have pe : ((xbr : Nat) : Int).tmod 5 = ((xbr % 5 : Nat) : Int) := by rw [Int.tmod_eq_emod_of_nonneg (by omega)]; omega
  have pf : IntKind.i64.wrap (xbr : Int) = xbr := by rw [IntKind.wrap_i64]; omega
  have pk : IntKind.i64.wrap ((xbr % 5 : Nat) : Int) = ((xbr % 5 : Nat) : Int) := by rw [IntKind.wrap_i64]; omega
  have pr : 0 ≤ ((xbr % 5 : Nat) : Int) ∧ ((xbr % 5 : Nat) : Int) < 5 := by omega
  obtain ⟨p, pq⟩ : ∃ p : Int, ((xbr % 5 : Nat) : Int) = p := ⟨_, rfl⟩
  rw [pq] at pe pk pr
  clear pq
  have ve : ((xvol : Nat) : Int).tmod 2 = ((xvol % 2 : Nat) : Int) := by rw [Int.tmod_eq_emod_of_nonneg (by omega)]; omega
  have vf : IntKind.i64.wrap (xvol : Int) = xvol := by rw [IntKind.wrap_i64]; omega
  have vk : IntKind.i64.wrap ((xvol % 2 : Nat) : Int) = ((xvol % 2 : Nat) : Int) := by rw [IntKind.wrap_i64]; omega
  have vr : 0 ≤ ((xvol % 2 : Nat) : Int) ∧ ((xvol % 2 : Nat) : Int) < 2 := by omega
  obtain ⟨v, vq⟩ : ∃ v : Int, ((xvol % 2 : Nat) : Int) = v := ⟨_, rfl⟩
  rw [vq] at ve vk vr
  clear vq
  have be : ((xblk : Nat) : Int).tmod 2 = ((xblk % 2 : Nat) : Int) := by rw [Int.tmod_eq_emod_of_nonneg (by omega)]; omega
  have bf : IntKind.i64.wrap (xblk : Int) = xblk := by rw [IntKind.wrap_i64]; omega
  have bk : IntKind.i64.wrap ((xblk % 2 : Nat) : Int) = ((xblk % 2 : Nat) : Int) := by rw [IntKind.wrap_i64]; omega
  have br : 0 ≤ ((xblk % 2 : Nat) : Int) ∧ ((xblk % 2 : Nat) : Int) < 2 := by omega
  obtain ⟨b, bq⟩ : ∃ b : Int, ((xblk % 2 : Nat) : Int) = b := ⟨_, rfl⟩
  rw [bq] at be bk br
  clear bq
  obtain ⟨wa, hwa, hba, hxa⟩ : ∃ wa, W.alloc (.cells #[.int .u8 xd, .int .u8 xbr, .int .u8 xvol, .int .u8 xblk, .int .u8 xa, .int .u8 xb, .int .u8 xc, .int .u8 xy] 57) = wa ∧ wa.heap[W.heap.size]? = some (.cells #[.int .u8 xd, .int .u8 xbr, .int .u8 xvol, .int .u8 xblk, .int .u8 xa, .int .u8 xb, .int .u8 xc, .int .u8 xy] 57 (0, 0)) ∧ Ex0 W wa := ⟨_, rfl, heap_alloc_new _ _, Ex.alloc _ _⟩
  have HWA := Lib.hid hwa
  have HBA := Lib.hid hba
  have HXA := Lib.hid hxa
  clear hs hA ha hx hwa hba hxa g0 g1 g2 g3 g4 g5 g6
  go_enter Tryz.func6, Tryz.ntmps6
  iterate 5 go_step
  rw [HWA.out]
  go_wp2_with fail
  refine (awake_any wa).mono ?_
  rintro e w1 ⟨rfl, hx1⟩
  have HX1 := Lib.hid (HXA.out.trans0 hx1)
  have HB1 : Hid (w1.heap[W.heap.size]? = some (.cells #[.int .u8 xd, .int .u8 xbr, .int .u8 xvol, .int .u8 xblk, .int .u8 xa, .int .u8 xb, .int .u8 xc, .int .u8 xy] 57 (0, 0))) := (hx1.block _ (Array.getElem?_eq_some_iff.1 HBA.out).1 not_false).trans HBA.out
  clear hx1
  go_wp2_with fail
  refine (HP.out w1 HX1.out).mono ?_
  rintro e w2 ⟨hno, hyes⟩
  cases hlk : lookB n xs.length rs with
  | false =>
    obtain ⟨rfl, hx2⟩ := hno hlk
    have HX2 := Lib.hid (HX1.out.trans0 hx2)
    clear hno hyes hlk hx2
    go_wp2
    go_ret
    exact ⟨rfl, HX2.out.below (Nat.le_refl _) (fun _ h => h.elim)⟩
  | true =>
    obtain ⟨L, D, rfl, hat⟩ := hyes hlk
    have hf := play_facts hln HOK.out hlk
    obtain ⟨s, hs⟩ : ∃ s, playA (s22 rs) xs = s := ⟨_, rfl⟩
    rw [hs] at hat hf
    have HAT := Lib.hid hat
    have HF := Lib.hid hf
    have ht := hf.inv.top
    have ht2 := hf.top
    clear hno hyes hlk hat hf hs
    have HLEN : Hid (s.tab.length ≤ 800) := by have := HF.out.len; show _ ≤ _; omega
    have HLEN9 : Hid (s.tab.length ≤ 900) := by have := HF.out.len; show _ ≤ _; omega
    obtain ⟨o, ho⟩ : ∃ o : Int, 1 - b = o := ⟨_, rfl⟩
    have eo : IntKind.i64.wrap (1 - b) = o := by rw [IntKind.wrap_i64]; omega
    have or : 0 ≤ o ∧ o < 2 := by omega
    have HOB : Hid (o ≠ b) := by show _ ≠ _; omega
    have HTH : Hid (s.there v b = true) := there_two HF.out.vols HF.out.blocks vr br
    have HTO : Hid (s.there v o = true) := there_two HF.out.vols HF.out.blocks vr or
    have et : IntKind.u64.wrap (s.top + 1) = s.top + 1 := by rw [IntKind.wrap_u64]; omega
    have HB2 : Hid (w2.heap[W.heap.size]? = some (.cells #[.int .u8 xd, .int .u8 xbr, .int .u8 xvol, .int .u8 xblk, .int .u8 xa, .int .u8 xb, .int .u8 xc, .int .u8 xy] 57 (0, 0))) := (HAT.out.x.block _ (Array.getElem?_eq_some_iff.1 HB1.out).1 not_false).trans HB1.out
    have c1 : w2.cell? ⟨W.heap.size, 1, none⟩ = some (.int .u8 xbr) := (by rw [cell_of_row _ _ _ _ _ _ HB2.out]; rfl)
    have c2 : w2.cell? ⟨W.heap.size, 2, none⟩ = some (.int .u8 xvol) := (by rw [cell_of_row _ _ _ _ _ _ HB2.out]; rfl)
    have c3 : w2.cell? ⟨W.heap.size, 3, none⟩ = some (.int .u8 xblk) := (by rw [cell_of_row _ _ _ _ _ _ HB2.out]; rfl)
    have hlA : W.heap.size < w2.heap.size := World.block_lt_of_cell? _ _ c1
    clear ho HB1
    go_wp2_with fail
    have HX3 : Hid (Ex0 w2 (w2.alloc (.cells #[.int .i64 p, .int .i64 v, .int .i64 b] 59))) := Ex.alloc _ _
    have HP3 : Hid ((w2.alloc (.cells #[.int .i64 p, .int .i64 v, .int .i64 b] 59)).heap[w2.heap.size]? = some (.cells #[.int .i64 p, .int .i64 v, .int .i64 b] 59 (0, 0))) := heap_alloc_new _ _
    generalize w2.alloc (.cells #[.int .i64 p, .int .i64 v, .int .i64 b] 59) = w3 at *
    have H3 := Lib.hid (HAT.out.ex0 HX3.out)
    have HB3 : Hid (w3.heap[W.heap.size]? = some (.cells #[.int .u8 xd, .int .u8 xbr, .int .u8 xvol, .int .u8 xblk, .int .u8 xa, .int .u8 xb, .int .u8 xc, .int .u8 xy] 57 (0, 0))) := (HX3.out.block _ (Array.getElem?_eq_some_iff.1 HB2.out).1 not_false).trans HB2.out
    clear c1 c2 c3 hlA HX3 HB2
    refine (promised_any L s w3 H3.out.l HF.out.inv).mono ?_
    rintro e w4 ⟨v4, rfl, ho4, hx4⟩
    obtain ⟨A4, k4, rfl, hsl4, _⟩ := own_sl ho4
    have H4 := Lib.hid (H3.out.ex0 hx4)
    have HB4 : Hid (w4.heap[W.heap.size]? = some (.cells #[.int .u8 xd, .int .u8 xbr, .int .u8 xvol, .int .u8 xblk, .int .u8 xa, .int .u8 xb, .int .u8 xc, .int .u8 xy] 57 (0, 0))) := (hx4.block _ (Array.getElem?_eq_some_iff.1 HB3.out).1 not_false).trans HB3.out
    have HP4 : Hid (w4.heap[w2.heap.size]? = some (.cells #[.int .i64 p, .int .i64 v, .int .i64 b] 59 (0, 0))) := (hx4.block _ (Array.getElem?_eq_some_iff.1 HP3.out).1 not_false).trans HP3.out
    have d0 : w4.cell? ⟨w2.heap.size, 0, none⟩ = some (.int .i64 p) := (by rw [cell_of_row _ _ _ _ _ _ HP4.out]; rfl)
    have d1 : w4.cell? ⟨w2.heap.size, 1, none⟩ = some (.int .i64 v) := (by rw [cell_of_row _ _ _ _ _ _ HP4.out]; rfl)
    have d2 : w4.cell? ⟨w2.heap.size, 2, none⟩ = some (.int .i64 b) := (by rw [cell_of_row _ _ _ _ _ _ HP4.out]; rfl)
    have hlP : w2.heap.size < w4.heap.size := World.block_lt_of_cell? _ _ d0
    have HLI : Hid (∀ h : 0 < s.all.length, s.all[s.all.length - 1] = lastI s.all) := fun h => by unfold lastI; rw [List.getLast?_eq_getElem?, List.getElem?_eq_getElem (by omega)]; rfl
    have HL0 : Hid (s.all.length = 0 → lastI s.all = 0) := fun h => by rw [List.eq_nil_of_length_eq_zero h]; rfl
    have HSL := Lib.hid hsl4
    have HALS := Lib.hid hsl4.small
    clear ho4 hx4 hsl4 H3 HB3 HP3
    have HW9 : Hid (s.writeE p v b = 0 → s.readE p (lastI s.all) v o = 0 → (s.write p v b (data5 xy)).readD p (s.top + 1) v o = s.readD p (lastI s.all) v o) := fun h1 h2 => write_oth HF.out.inv HLEN9.out (data5_ok g7) h1 HOB.out HTO.out h2
    by_cases hz : s.all.length = 0
    · have hzi : ¬ (0 : Int) < ((s.all.length : Nat) : Int) := by omega
      have hzd : decide ((0 : Int) < ((s.all.length : Nat) : Int)) = false := decide_eq_false hzi
      rw [HL0.out hz] at HW9
      clear hz
      go_wp2_with fail
      refine (treadA L s p 0 v o w4 H4.out.l HF.out.inv HLEN9.out).mono ?_
      rintro e w5 ⟨rfl, hx5⟩
      have H5 := Lib.hid (H4.out.ex0 hx5)
      have HB5 : Hid (w5.heap[W.heap.size]? = some (.cells #[.int .u8 xd, .int .u8 xbr, .int .u8 xvol, .int .u8 xblk, .int .u8 xa, .int .u8 xb, .int .u8 xc, .int .u8 xy] 57 (0, 0))) := (hx5.block _ (Array.getElem?_eq_some_iff.1 HB4.out).1 not_false).trans HB4.out
      have HP5 : Hid (w5.heap[w2.heap.size]? = some (.cells #[.int .i64 p, .int .i64 v, .int .i64 b] 59 (0, 0))) := (hx5.block _ (Array.getElem?_eq_some_iff.1 HP4.out).1 not_false).trans HP4.out
      have HR0 := Lib.hid (readD_len HF.out.inv p 0 v o)
      obtain ⟨r0, hr0⟩ : ∃ r0, s.readE p 0 v o = r0 := ⟨_, rfl⟩
      obtain ⟨d0', hd0⟩ : ∃ d0', s.readD p 0 v o = d0' := ⟨_, rfl⟩
      rw [hr0, hd0] at HW9
      rw [hr0, hd0]
      rw [hd0] at HR0
      have HEQ0 := Lib.hid (fun w => eql_blkA d0' d0' HR0.out HR0.out w)
      rw [decide_eq_true rfl] at HEQ0
      have HDL : Hid ((blkA d0').size = 32) := blkA_len d0'
      have HDO : Hid (∀ zz ∈ blkA d0', zz.oneCell' = true) := blkA_one d0'
      obtain ⟨DA, hDA⟩ : ∃ DA, blkA d0' = DA := ⟨_, rfl⟩
      have HDA := Lib.hid hDA
      rw [hDA] at HDL HDO HEQ0 ⊢
      clear hx5 hr0 hd0 hDA d0 d1 d2 hlP H4 HB4 HP4
      go_wp2_with (first | (refine wpList_store_all rfl 49 (.tmp 14) (.tmp 71) rfl w5.heap.size rfl DA _ rfl 49 (heap_alloc_new _ _) (by rw [HDL.out]; rfl) HDO.out (by rw [HDL.out]; kernel_rfl) ?_; rw [World.setRow_alloc_new]; have HXw6 : Hid (Ex0 w5 (w5.alloc (.cells DA 49))) := Ex.alloc _ _; have HBw6 : Hid ((w5.alloc (.cells DA 49)).heap[w5.heap.size]? = some (.cells DA 49 (0, 0))) := heap_alloc_new _ _; obtain ⟨w6, hw6⟩ : ∃ w6, w5.alloc (.cells DA 49) = w6 := ⟨_, rfl⟩; rw [hw6] at HXw6 HBw6 ⊢; clear hw6; have HB6 : Hid (w6.heap[W.heap.size]? = some (.cells #[.int .u8 xd, .int .u8 xbr, .int .u8 xvol, .int .u8 xblk, .int .u8 xa, .int .u8 xb, .int .u8 xc, .int .u8 xy] 57 (0, 0))) := (HXw6.out.block _ (Array.getElem?_eq_some_iff.1 HB5.out).1 not_false).trans HB5.out; have HP6 : Hid (w6.heap[w2.heap.size]? = some (.cells #[.int .i64 p, .int .i64 v, .int .i64 b] 59 (0, 0))) := (HXw6.out.block _ (Array.getElem?_eq_some_iff.1 HP5.out).1 not_false).trans HP5.out; have d0 : w6.cell? ⟨w2.heap.size, 0, none⟩ = some (.int .i64 p) := (by rw [cell_of_row _ _ _ _ _ _ HP6.out]; rfl); have d1 : w6.cell? ⟨w2.heap.size, 1, none⟩ = some (.int .i64 v) := (by rw [cell_of_row _ _ _ _ _ _ HP6.out]; rfl); have d2 : w6.cell? ⟨w2.heap.size, 2, none⟩ = some (.int .i64 b) := (by rw [cell_of_row _ _ _ _ _ _ HP6.out]; rfl); have hlP : w2.heap.size < w6.heap.size := World.block_lt_of_cell? _ _ d0; have a7 : w6.cell? ⟨W.heap.size, 7, none⟩ = some (.int .u8 xy) := (by rw [cell_of_row _ _ _ _ _ _ HB6.out]; rfl); have hlA : W.heap.size < w6.heap.size := World.block_lt_of_cell? _ _ a7))
      have H6 := Lib.hid (H5.out.ex0 HXw6.out)
      have hn1 := inF_not H6.out.l (⟨_, _, HB6.out⟩ : Ty _ _ 57) (by decide) (by decide) (by decide) (by decide) (by decide) (by decide) (by decide)
      have hn2 := inF_not H6.out.l (⟨_, _, HP6.out⟩ : Ty _ _ 59) (by decide) (by decide) (by decide) (by decide) (by decide) (by decide) (by decide)
      have hn3 := inF_not H6.out.l (⟨_, _, HBw6.out⟩ : Ty _ _ 49) (by decide) (by decide) (by decide) (by decide) (by decide) (by decide) (by decide)
      refine (twrite_any L s p v b (data5 xy) w6 H6.out.l HF.out.inv HLEN9.out).mono ?_
      rintro e w7 ⟨rfl, hop⟩
      have hxo : Ex L.F w6 w7 := by obtain ⟨_, _, _, hx, _⟩ := hop; exact hx
      have HB7 : Hid (w7.heap[W.heap.size]? = some (.cells #[.int .u8 xd, .int .u8 xbr, .int .u8 xvol, .int .u8 xblk, .int .u8 xa, .int .u8 xb, .int .u8 xc, .int .u8 xy] 57 (0, 0))) := (hxo.block _ (Array.getElem?_eq_some_iff.1 HB6.out).1 hn1).trans HB6.out
      have HP7 : Hid (w7.heap[w2.heap.size]? = some (.cells #[.int .i64 p, .int .i64 v, .int .i64 b] 59 (0, 0))) := (hxo.block _ (Array.getElem?_eq_some_iff.1 HP6.out).1 hn2).trans HP6.out
      have HD7 : Hid (w7.heap[w5.heap.size]? = some (.cells DA 49 (0, 0))) := (hxo.block _ (Array.getElem?_eq_some_iff.1 HBw6.out).1 hn3).trans HBw6.out
      obtain ⟨L1, hp1, h7⟩ := H6.out.left hop
      have H7 := Lib.hid h7
      rw [← hp1]
      clear hop hxo h7 hp1 hn1 hn2 hn3 d0 d1 d2 a7 hlP hlA H5 H6 HB5 HB6 HP5 HP6 HXw6 HBw6
      by_cases hwe : s.writeE p v b = 0
      · have hwn : s.writeN p v b = s.top + 1 := if_pos hwe
        have HI1 := Lib.hid (inv_write HF.out.inv HLEN9.out p v b (data5 xy) (data5_ok g7))
        have HL1 : Hid ((s.write p v b (data5 xy)).tab.length ≤ 900) := by show _ ≤ _; rw [write_eq hwe]; have := HF.out.len; simp; omega
        have HR1 := Lib.hid (write_readE HF.out.inv HLEN9.out (data5_ok g7) hwe HTH.out)
        have HR2 := Lib.hid (write_own HF.out.inv HLEN9.out (data5_ok g7) hwe)
        have HR3 := Lib.hid (write_readE HF.out.inv HLEN9.out (data5_ok g7) hwe HTO.out)
        have HR4 := Lib.hid (readD_len HI1.out p (s.top + 1) v o)
        have HW8 := Lib.hid (HW9.out hwe)
        obtain ⟨s1, hs1⟩ : ∃ s1, s.write p v b (data5 xy) = s1 := ⟨_, rfl⟩
        rw [hs1] at HI1 HL1 HR1 HR2 HR3 HR4 HW8 H7
        rw [hwe, hwn]
        have d0 : w7.cell? ⟨w2.heap.size, 0, none⟩ = some (.int .i64 p) := (by rw [cell_of_row _ _ _ _ _ _ HP7.out]; rfl)
        have d1 : w7.cell? ⟨w2.heap.size, 1, none⟩ = some (.int .i64 v) := (by rw [cell_of_row _ _ _ _ _ _ HP7.out]; rfl)
        have d2 : w7.cell? ⟨w2.heap.size, 2, none⟩ = some (.int .i64 b) := (by rw [cell_of_row _ _ _ _ _ _ HP7.out]; rfl)
        have hlP : w2.heap.size < w7.heap.size := World.block_lt_of_cell? _ _ d0
        clear hwe hwn hs1 HW9
        go_wp2_with fail
        refine (treadA L1 s1 p (s.top + 1) v b w7 H7.out.l HI1.out HL1.out).mono ?_
        rintro e w8 ⟨rfl, hx8⟩
        rw [HR1.out, HR2.out]
        have H8 := Lib.hid (H7.out.ex0 hx8)
        have HB8 : Hid (w8.heap[W.heap.size]? = some (.cells #[.int .u8 xd, .int .u8 xbr, .int .u8 xvol, .int .u8 xblk, .int .u8 xa, .int .u8 xb, .int .u8 xc, .int .u8 xy] 57 (0, 0))) := (hx8.block _ (Array.getElem?_eq_some_iff.1 HB7.out).1 not_false).trans HB7.out
        have HP8 : Hid (w8.heap[w2.heap.size]? = some (.cells #[.int .i64 p, .int .i64 v, .int .i64 b] 59 (0, 0))) := (hx8.block _ (Array.getElem?_eq_some_iff.1 HP7.out).1 not_false).trans HP7.out
        have HD8 : Hid (w8.heap[w5.heap.size]? = some (.cells DA 49 (0, 0))) := (hx8.block _ (Array.getElem?_eq_some_iff.1 HD7.out).1 not_false).trans HD7.out
        have HEQ1 : Hid (∀ w, (Op.equalIn 10000 49 (.agg (blkA (data5 xy))) (.agg #[.int .u8 xy, .int .u8 5, .int .u8 0, .int .u8 0, .int .u8 0, .int .u8 0, .int .u8 0, .int .u8 0, .int .u8 0, .int .u8 0, .int .u8 0, .int .u8 0, .int .u8 0, .int .u8 0, .int .u8 0, .int .u8 0, .int .u8 0, .int .u8 0, .int .u8 0, .int .u8 0, .int .u8 0, .int .u8 0, .int .u8 0, .int .u8 0, .int .u8 0, .int .u8 0, .int .u8 0, .int .u8 0, .int .u8 0, .int .u8 0, .int .u8 0, .int .u8 0])).run Tryz.prog w = .ok true w) := fun w => by
          have := eql_blkA (data5 xy) (data5 xy) (data5_ok g7).1 (data5_ok g7).1 w
          rw [decide_eq_true rfl] at this
          exact this
        have HDL1 : Hid ((blkA (data5 xy)).size = 32) := blkA_len (data5 xy)
        have HDO1 : Hid (∀ zz ∈ blkA (data5 xy), zz.oneCell' = true) := blkA_one (data5 xy)
        obtain ⟨DB, hDB⟩ : ∃ DB, blkA (data5 xy) = DB := ⟨_, rfl⟩
        rw [hDB] at HDL1 HDO1 HEQ1 ⊢
        clear hx8 hDB d0 d1 d2 hlP H7 HB7 HP7 HD7
        go_wp2_with (first | (refine wpList_store_all rfl 49 (.tmp 18) (.tmp 106) rfl w8.heap.size rfl DB _ rfl 49 (heap_alloc_new _ _) (by rw [HDL1.out]; rfl) HDO1.out (by rw [HDL1.out]; kernel_rfl) ?_; rw [World.setRow_alloc_new]; have HXw9 : Hid (Ex0 w8 (w8.alloc (.cells DB 49))) := Ex.alloc _ _; have HBw9 : Hid ((w8.alloc (.cells DB 49)).heap[w8.heap.size]? = some (.cells DB 49 (0, 0))) := heap_alloc_new _ _; obtain ⟨w9, hw9⟩ : ∃ w9, w8.alloc (.cells DB 49) = w9 := ⟨_, rfl⟩; rw [hw9] at HXw9 HBw9 ⊢; clear hw9; have HP9 : Hid (w9.heap[w2.heap.size]? = some (.cells #[.int .i64 p, .int .i64 v, .int .i64 b] 59 (0, 0))) := (HXw9.out.block _ (Array.getElem?_eq_some_iff.1 HP8.out).1 not_false).trans HP8.out; have d0 : w9.cell? ⟨w2.heap.size, 0, none⟩ = some (.int .i64 p) := (by rw [cell_of_row _ _ _ _ _ _ HP9.out]; rfl); have d1 : w9.cell? ⟨w2.heap.size, 1, none⟩ = some (.int .i64 v) := (by rw [cell_of_row _ _ _ _ _ _ HP9.out]; rfl); have hlP : w2.heap.size < w9.heap.size := World.block_lt_of_cell? _ _ d0))
        have H9 := Lib.hid (H8.out.ex0 HXw9.out)
        refine (treadA L1 s1 p (s.top + 1) v o w9 H9.out.l HI1.out HL1.out).mono ?_
        rintro e w10 ⟨rfl, hx10⟩
        rw [HR3.out]
        have H10 := Lib.hid (H9.out.ex0 hx10)
        have HX810 := Lib.hid (HXw9.out.trans0 hx10)
        have HB10 : Hid (w10.heap[W.heap.size]? = some (.cells #[.int .u8 xd, .int .u8 xbr, .int .u8 xvol, .int .u8 xblk, .int .u8 xa, .int .u8 xb, .int .u8 xc, .int .u8 xy] 57 (0, 0))) := (HX810.out.block _ (Array.getElem?_eq_some_iff.1 HB8.out).1 not_false).trans HB8.out
        have HD10 : Hid (w10.heap[w5.heap.size]? = some (.cells DA 49 (0, 0))) := (HX810.out.block _ (Array.getElem?_eq_some_iff.1 HD8.out).1 not_false).trans HD8.out
        have HE10 : Hid (w10.heap[w8.heap.size]? = some (.cells DB 49 (0, 0))) := (hx10.block _ (Array.getElem?_eq_some_iff.1 HBw9.out).1 not_false).trans HBw9.out
        clear hx10 d0 d1 hlP H8 H9 HB8 HP8 HP9 HD8 HX810 HXw9 HBw9
        by_cases hq : r0 = 0
        · rw [HW8.out hq, HDA.out]
          subst hq
          go_wp2_with (first | (refine wpList_store_all rfl 49 (.tmp 20) (.tmp 117) rfl w10.heap.size rfl DA _ rfl 49 (heap_alloc_new _ _) (by rw [HDL.out]; rfl) HDO.out (by rw [HDL.out]; kernel_rfl) ?_; rw [World.setRow_alloc_new]; have HXw11 : Hid (Ex0 w10 (w10.alloc (.cells DA 49))) := Ex.alloc _ _; have HBw11 : Hid ((w10.alloc (.cells DA 49)).heap[w10.heap.size]? = some (.cells DA 49 (0, 0))) := heap_alloc_new _ _; obtain ⟨w11, hw11⟩ : ∃ w11, w10.alloc (.cells DA 49) = w11 := ⟨_, rfl⟩; rw [hw11] at HXw11 HBw11 ⊢; clear hw11; have HB11 : Hid (w11.heap[W.heap.size]? = some (.cells #[.int .u8 xd, .int .u8 xbr, .int .u8 xvol, .int .u8 xblk, .int .u8 xa, .int .u8 xb, .int .u8 xc, .int .u8 xy] 57 (0, 0))) := (HXw11.out.block _ (Array.getElem?_eq_some_iff.1 HB10.out).1 not_false).trans HB10.out; have HD11 : Hid (w11.heap[w5.heap.size]? = some (.cells DA 49 (0, 0))) := (HXw11.out.block _ (Array.getElem?_eq_some_iff.1 HD10.out).1 not_false).trans HD10.out; have HE11 : Hid (w11.heap[w8.heap.size]? = some (.cells DB 49 (0, 0))) := (HXw11.out.block _ (Array.getElem?_eq_some_iff.1 HE10.out).1 not_false).trans HE10.out; have a7 : w11.cell? ⟨W.heap.size, 7, none⟩ = some (.int .u8 xy) := (by rw [cell_of_row _ _ _ _ _ _ HB11.out]; rfl); have hlA : W.heap.size < w11.heap.size := World.block_lt_of_cell? _ _ a7; have x3 : w11.cell? ⟨D.p, 3, none⟩ = some (.int .u64 s.top) := (H10.out.ex0 HXw11.out).d.cell rfl; have hlp : D.p < w11.heap.size := (H10.out.ex0 HXw11.out).d.lt; have heq0 := HEQ0.out; have heq1 := HEQ1.out; have hg2 := eqg_blk) | refine wpList_load_row_g (by rfl) 49 (.tmp 20) rfl w10.heap.size rfl 49 DA (0, 0) _ HBw11.out Tryz.underlying49 rfl (by rw [HDL.out]; kernel_rfl) ?_ | refine wpList_load_row_g (by rfl) 49 (.tmp 14) rfl w5.heap.size rfl 49 DA (0, 0) _ HD11.out Tryz.underlying49 rfl (by rw [HDL.out]; kernel_rfl) ?_ | refine wpList_load_row_g (by rfl) 49 (.tmp 18) rfl w8.heap.size rfl 49 DB (0, 0) _ HE11.out Tryz.underlying49 rfl (by rw [HDL1.out]; kernel_rfl) ?_)
          go_ret
          exact ⟨rfl, (HX1.out.trans0 (H10.out.ex0 HXw11.out).x).below (Nat.le_refl _) (fun _ h => h.elim)⟩
        · have hqb : (r0 != 0) = true := by simpa using hq
          have HDL2 : Hid ((blkA (s1.readD p (s.top + 1) v o)).size = 32) := blkA_len (s1.readD p (s.top + 1) v o)
          have HDO2 : Hid (∀ zz ∈ blkA (s1.readD p (s.top + 1) v o), zz.oneCell' = true) := blkA_one (s1.readD p (s.top + 1) v o)
          obtain ⟨DC, hDC⟩ : ∃ DC, blkA (s1.readD p (s.top + 1) v o) = DC := ⟨_, rfl⟩
          rw [hDC] at HDL2 HDO2 ⊢
          clear hDC
          go_wp2_with (first | (refine wpList_store_all rfl 49 (.tmp 20) (.tmp 117) rfl w10.heap.size rfl DC _ rfl 49 (heap_alloc_new _ _) (by rw [HDL2.out]; rfl) HDO2.out (by rw [HDL2.out]; kernel_rfl) ?_; rw [World.setRow_alloc_new]; have HXw11 : Hid (Ex0 w10 (w10.alloc (.cells DC 49))) := Ex.alloc _ _; have HBw11 : Hid ((w10.alloc (.cells DC 49)).heap[w10.heap.size]? = some (.cells DC 49 (0, 0))) := heap_alloc_new _ _; obtain ⟨w11, hw11⟩ : ∃ w11, w10.alloc (.cells DC 49) = w11 := ⟨_, rfl⟩; rw [hw11] at HXw11 HBw11 ⊢; clear hw11; have HB11 : Hid (w11.heap[W.heap.size]? = some (.cells #[.int .u8 xd, .int .u8 xbr, .int .u8 xvol, .int .u8 xblk, .int .u8 xa, .int .u8 xb, .int .u8 xc, .int .u8 xy] 57 (0, 0))) := (HXw11.out.block _ (Array.getElem?_eq_some_iff.1 HB10.out).1 not_false).trans HB10.out; have HE11 : Hid (w11.heap[w8.heap.size]? = some (.cells DB 49 (0, 0))) := (HXw11.out.block _ (Array.getElem?_eq_some_iff.1 HE10.out).1 not_false).trans HE10.out; have a7 : w11.cell? ⟨W.heap.size, 7, none⟩ = some (.int .u8 xy) := (by rw [cell_of_row _ _ _ _ _ _ HB11.out]; rfl); have hlA : W.heap.size < w11.heap.size := World.block_lt_of_cell? _ _ a7; have x3 : w11.cell? ⟨D.p, 3, none⟩ = some (.int .u64 s.top) := (H10.out.ex0 HXw11.out).d.cell rfl; have hlp : D.p < w11.heap.size := (H10.out.ex0 HXw11.out).d.lt; have heq1 := HEQ1.out; have hg2 := eqg_blk) | refine wpList_load_row_g (by rfl) 49 (.tmp 18) rfl w8.heap.size rfl 49 DB (0, 0) _ HE11.out Tryz.underlying49 rfl (by rw [HDL1.out]; kernel_rfl) ?_)
          go_ret
          exact ⟨rfl, (HX1.out.trans0 (H10.out.ex0 HXw11.out).x).below (Nat.le_refl _) (fun _ h => h.elim)⟩
      · have hwn : s.writeN p v b = 0 := if_neg hwe
        have hws := write_ne (d := data5 xy) hwe
        have hwb : (s.writeE p v b != 0) = true := by simpa using hwe
        rw [hws] at H7
        rw [hwn]
        clear hwn hws HW9
        go_wp2_with fail
        have H8 : Hid (At2 w1 w7.drew L1 D s s) := H7.out.ex0 (Ex.drew w7)
        have hS : (fun w' : World => w'.cell? ⟨D.p, 3, none⟩ = some (.int .u64 s.top) ∧ D.p < w'.heap.size) w7.drew := ⟨H8.out.d.cell rfl, H8.out.d.lt⟩
        refine wp_region_takes (fun w' : World => w'.cell? ⟨D.p, 3, none⟩ = some (.int .u64 s.top) ∧ D.p < w'.heap.size) (by kernel_rfl) ?_
        simp only [List.length_cons, List.length_nil]
        generalize w7.drew = wd at *
        refine' wpAnyH_do 0 rfl (by kernel_rfl) (fun _ _ _ _ h => h) (by rfl) (by assumption) ⟨_, fun w' hS => ?_, ?_⟩
        rotate_left
        · ((try dsimp only at hS); go_split_ands; go_simp; try (with_reducible rfl))
        simp only [Act.put, List.setIfInBounds_toArray, List.set_cons_zero, List.set_cons_succ]
        refine' wpAnyH_do 1 rfl (by kernel_rfl) (fun _ _ _ _ h => h) (by rfl) (by assumption) ⟨_, fun w' hS => ?_, ?_⟩
        rotate_left
        · ((try dsimp only at hS); go_split_ands; go_simp; try (with_reducible rfl))
        simp only [Act.put, List.setIfInBounds_toArray, List.set_cons_zero, List.set_cons_succ]
        refine' wpAnyH_do 2 rfl (by kernel_rfl) (fun _ _ _ _ h => h) (by rfl) (by assumption) ⟨_, fun w' hS => ?_, ?_⟩
        rotate_left
        · ((try dsimp only at hS); go_split_ands; go_simp; try (with_reducible rfl))
        simp only [Act.put, List.setIfInBounds_toArray, List.set_cons_zero, List.set_cons_succ]
        refine' wpAnyH_do 3 rfl (by kernel_rfl) (fun _ _ _ _ h => h) (by rfl) (by assumption) ⟨_, fun w' hS => ?_, ?_⟩
        rotate_left
        · ((try dsimp only at hS); go_split_ands; go_simp; try (with_reducible rfl))
        simp only [Act.put, List.setIfInBounds_toArray, List.set_cons_zero, List.set_cons_succ]
        refine' wpAnyH_do 5 rfl (by kernel_rfl) (fun _ _ _ _ h => h) (by rfl) (by assumption) ⟨_, fun w' hS => ?_, ?_⟩
        rotate_left
        · ((try dsimp only at hS); go_split_ands; go_simp; try (with_reducible rfl))
        simp only [Act.put, List.setIfInBounds_toArray, List.set_cons_zero, List.set_cons_succ]
        refine' wpAnyH_do 6 rfl (by kernel_rfl) (fun _ _ _ _ h => h) (by rfl) (by assumption) ⟨_, fun w' hS => ?_, ?_⟩
        rotate_left
        · ((try dsimp only at hS); go_split_ands; go_simp; try (with_reducible rfl))
        simp only [Act.put, List.setIfInBounds_toArray, List.set_cons_zero, List.set_cons_succ]
        refine' wpAnyH_do 7 rfl (by kernel_rfl) (fun _ _ _ _ h => h) (by rfl) (by assumption) ⟨_, fun w' hS => ?_, ?_⟩
        rotate_left
        · ((try dsimp only at hS); go_split_ands; go_simp; try (with_reducible rfl))
        simp only [Act.put, List.setIfInBounds_toArray, List.set_cons_zero, List.set_cons_succ]
        refine' wpAnyH_do 8 rfl (by kernel_rfl) (fun _ _ _ _ h => h) (by rfl) (by assumption) ⟨_, fun w' hS => ?_, ?_⟩
        rotate_left
        · ((try dsimp only at hS); go_split_ands; go_simp; try (with_reducible rfl))
        simp only [Act.put, List.setIfInBounds_toArray, List.set_cons_zero, List.set_cons_succ]
        refine wpAnyH_eff 4 rfl (by kernel_rfl) (by rfl) (fun K hK => ?_)
        have HKK := Lib.hid hK
        clear hK
        go_simp
        refine (top_any L1 s wd H8.out.l).mono ?_
        rintro e w8 ⟨rfl, hw⟩
        rw [hw]
        clear hw w8
        dsimp only
        refine HKK.out _ _ hS ?_
        clear HKK K
        (try simp only [Act.put, List.setIfInBounds_toArray, List.set_cons_zero, List.set_cons_succ])
        refine' wpAnyH_do 9 rfl (by kernel_rfl) (fun _ _ _ _ h => h) (by rfl) (by assumption) ⟨_, fun w' hS => ?_, ?_⟩
        rotate_left
        · ((try dsimp only at hS); go_split_ands; go_simp; try (with_reducible rfl))
        simp only [Act.put, List.setIfInBounds_toArray, List.set_cons_zero, List.set_cons_succ]
        refine' wpAnyH_do 10 rfl (by kernel_rfl) (fun _ _ _ _ h => h) (by rfl) (by assumption) ⟨_, fun w' hS => ?_, ?_⟩
        rotate_left
        · ((try dsimp only at hS); go_split_ands; go_simp; try (with_reducible rfl))
        simp only [Act.put, List.setIfInBounds_toArray, List.set_cons_zero, List.set_cons_succ]
        refine' wpAnyH_do 11 rfl (by kernel_rfl) (fun _ _ _ _ h => h) (by rfl) (by assumption) ⟨_, fun w' hS => ?_, ?_⟩
        rotate_left
        · ((try dsimp only at hS); go_split_ands; go_simp; try (with_reducible rfl))
        simp only [Act.put, List.setIfInBounds_toArray, List.set_cons_zero, List.set_cons_succ]
        refine wpAnyH_done (by kernel_rfl) ?_ _
        go_wp2
        go_ret
        exact ⟨rfl, (HX1.out.trans0 H8.out.x).below (Nat.le_refl _) (fun _ h => h.elim)⟩
    · obtain ⟨q, hq⟩ : ∃ q : Nat, s.all.length = q + 1 := ⟨s.all.length - 1, by omega⟩
      have hs4 := HALS.out
      have hzi : (0 : Int) < ((s.all.length : Nat) : Int) := by omega
      have hzd : decide ((0 : Int) < ((s.all.length : Nat) : Int)) = true := decide_eq_true hzi
      have hqi : ((s.all.length : Nat) : Int) - 1 = (q : Int) := by omega
      have hqw : IntKind.i64.wrap (q : Int) = q := by rw [IntKind.wrap_i64]; omega
      have hq0 : (0 : Int) ≤ (q : Int) := by omega
      have hq1 : (q : Int) < ((s.all.length : Nat) : Int) := by omega
      obtain ⟨g4, o4, rfl, hg4, hc4⟩ := HSL.out.one (i := q) (by omega)
      have HLST0 : Hid (s.all[q]'(by omega) = lastI s.all) := by
        show _ = _
        rw [← HLI.out (by omega)]; congr 1; omega
      rw [HLST0.out] at hc4
      obtain ⟨lst, hlst⟩ : ∃ lst : Int, lst = lastI s.all := ⟨_, rfl⟩
      rw [← hlst] at hc4 HW9
      clear hlst hz hs4 HLST0
      go_wp2_with fail
      refine (treadA L s p lst v o w4 H4.out.l HF.out.inv HLEN9.out).mono ?_
      rintro e w5 ⟨rfl, hx5⟩
      have H5 := Lib.hid (H4.out.ex0 hx5)
      have HB5 : Hid (w5.heap[W.heap.size]? = some (.cells #[.int .u8 xd, .int .u8 xbr, .int .u8 xvol, .int .u8 xblk, .int .u8 xa, .int .u8 xb, .int .u8 xc, .int .u8 xy] 57 (0, 0))) := (hx5.block _ (Array.getElem?_eq_some_iff.1 HB4.out).1 not_false).trans HB4.out
      have HP5 : Hid (w5.heap[w2.heap.size]? = some (.cells #[.int .i64 p, .int .i64 v, .int .i64 b] 59 (0, 0))) := (hx5.block _ (Array.getElem?_eq_some_iff.1 HP4.out).1 not_false).trans HP4.out
      have HR0 := Lib.hid (readD_len HF.out.inv p lst v o)
      obtain ⟨r0, hr0⟩ : ∃ r0, s.readE p lst v o = r0 := ⟨_, rfl⟩
      obtain ⟨d0', hd0⟩ : ∃ d0', s.readD p lst v o = d0' := ⟨_, rfl⟩
      rw [hr0, hd0] at HW9
      rw [hr0, hd0]
      rw [hd0] at HR0
      have HEQ0 := Lib.hid (fun w => eql_blkA d0' d0' HR0.out HR0.out w)
      rw [decide_eq_true rfl] at HEQ0
      have HDL : Hid ((blkA d0').size = 32) := blkA_len d0'
      have HDO : Hid (∀ zz ∈ blkA d0', zz.oneCell' = true) := blkA_one d0'
      obtain ⟨DA, hDA⟩ : ∃ DA, blkA d0' = DA := ⟨_, rfl⟩
      have HDA := Lib.hid hDA
      rw [hDA] at HDL HDO HEQ0 ⊢
      clear hx5 hr0 hd0 hDA d0 d1 d2 hlP H4 HB4 HP4
      go_wp2_with (first | (refine wpList_store_all rfl 49 (.tmp 14) (.tmp 71) rfl w5.heap.size rfl DA _ rfl 49 (heap_alloc_new _ _) (by rw [HDL.out]; rfl) HDO.out (by rw [HDL.out]; kernel_rfl) ?_; rw [World.setRow_alloc_new]; have HXw6 : Hid (Ex0 w5 (w5.alloc (.cells DA 49))) := Ex.alloc _ _; have HBw6 : Hid ((w5.alloc (.cells DA 49)).heap[w5.heap.size]? = some (.cells DA 49 (0, 0))) := heap_alloc_new _ _; obtain ⟨w6, hw6⟩ : ∃ w6, w5.alloc (.cells DA 49) = w6 := ⟨_, rfl⟩; rw [hw6] at HXw6 HBw6 ⊢; clear hw6; have HB6 : Hid (w6.heap[W.heap.size]? = some (.cells #[.int .u8 xd, .int .u8 xbr, .int .u8 xvol, .int .u8 xblk, .int .u8 xa, .int .u8 xb, .int .u8 xc, .int .u8 xy] 57 (0, 0))) := (HXw6.out.block _ (Array.getElem?_eq_some_iff.1 HB5.out).1 not_false).trans HB5.out; have HP6 : Hid (w6.heap[w2.heap.size]? = some (.cells #[.int .i64 p, .int .i64 v, .int .i64 b] 59 (0, 0))) := (HXw6.out.block _ (Array.getElem?_eq_some_iff.1 HP5.out).1 not_false).trans HP5.out; have d0 : w6.cell? ⟨w2.heap.size, 0, none⟩ = some (.int .i64 p) := (by rw [cell_of_row _ _ _ _ _ _ HP6.out]; rfl); have d1 : w6.cell? ⟨w2.heap.size, 1, none⟩ = some (.int .i64 v) := (by rw [cell_of_row _ _ _ _ _ _ HP6.out]; rfl); have d2 : w6.cell? ⟨w2.heap.size, 2, none⟩ = some (.int .i64 b) := (by rw [cell_of_row _ _ _ _ _ _ HP6.out]; rfl); have hlP : w2.heap.size < w6.heap.size := World.block_lt_of_cell? _ _ d0; have a7 : w6.cell? ⟨W.heap.size, 7, none⟩ = some (.int .u8 xy) := (by rw [cell_of_row _ _ _ _ _ _ HB6.out]; rfl); have hlA : W.heap.size < w6.heap.size := World.block_lt_of_cell? _ _ a7))
      have H6 := Lib.hid (H5.out.ex0 HXw6.out)
      have hn1 := inF_not H6.out.l (⟨_, _, HB6.out⟩ : Ty _ _ 57) (by decide) (by decide) (by decide) (by decide) (by decide) (by decide) (by decide)
      have hn2 := inF_not H6.out.l (⟨_, _, HP6.out⟩ : Ty _ _ 59) (by decide) (by decide) (by decide) (by decide) (by decide) (by decide) (by decide)
      have hn3 := inF_not H6.out.l (⟨_, _, HBw6.out⟩ : Ty _ _ 49) (by decide) (by decide) (by decide) (by decide) (by decide) (by decide) (by decide)
      refine (twrite_any L s p v b (data5 xy) w6 H6.out.l HF.out.inv HLEN9.out).mono ?_
      rintro e w7 ⟨rfl, hop⟩
      have hxo : Ex L.F w6 w7 := by obtain ⟨_, _, _, hx, _⟩ := hop; exact hx
      have HB7 : Hid (w7.heap[W.heap.size]? = some (.cells #[.int .u8 xd, .int .u8 xbr, .int .u8 xvol, .int .u8 xblk, .int .u8 xa, .int .u8 xb, .int .u8 xc, .int .u8 xy] 57 (0, 0))) := (hxo.block _ (Array.getElem?_eq_some_iff.1 HB6.out).1 hn1).trans HB6.out
      have HP7 : Hid (w7.heap[w2.heap.size]? = some (.cells #[.int .i64 p, .int .i64 v, .int .i64 b] 59 (0, 0))) := (hxo.block _ (Array.getElem?_eq_some_iff.1 HP6.out).1 hn2).trans HP6.out
      have HD7 : Hid (w7.heap[w5.heap.size]? = some (.cells DA 49 (0, 0))) := (hxo.block _ (Array.getElem?_eq_some_iff.1 HBw6.out).1 hn3).trans HBw6.out
      obtain ⟨L1, hp1, h7⟩ := H6.out.left hop
      have H7 := Lib.hid h7
      rw [← hp1]
      clear hop hxo h7 hp1 hn1 hn2 hn3 d0 d1 d2 a7 hlP hlA H5 H6 HB5 HB6 HP5 HP6 HXw6 HBw6
      by_cases hwe : s.writeE p v b = 0
      · have hwn : s.writeN p v b = s.top + 1 := if_pos hwe
        have HI1 := Lib.hid (inv_write HF.out.inv HLEN9.out p v b (data5 xy) (data5_ok g7))
        have HL1 : Hid ((s.write p v b (data5 xy)).tab.length ≤ 900) := by show _ ≤ _; rw [write_eq hwe]; have := HF.out.len; simp; omega
        have HR1 := Lib.hid (write_readE HF.out.inv HLEN9.out (data5_ok g7) hwe HTH.out)
        have HR2 := Lib.hid (write_own HF.out.inv HLEN9.out (data5_ok g7) hwe)
        have HR3 := Lib.hid (write_readE HF.out.inv HLEN9.out (data5_ok g7) hwe HTO.out)
        have HR4 := Lib.hid (readD_len HI1.out p (s.top + 1) v o)
        have HW8 := Lib.hid (HW9.out hwe)
        obtain ⟨s1, hs1⟩ : ∃ s1, s.write p v b (data5 xy) = s1 := ⟨_, rfl⟩
        rw [hs1] at HI1 HL1 HR1 HR2 HR3 HR4 HW8 H7
        rw [hwe, hwn]
        have d0 : w7.cell? ⟨w2.heap.size, 0, none⟩ = some (.int .i64 p) := (by rw [cell_of_row _ _ _ _ _ _ HP7.out]; rfl)
        have d1 : w7.cell? ⟨w2.heap.size, 1, none⟩ = some (.int .i64 v) := (by rw [cell_of_row _ _ _ _ _ _ HP7.out]; rfl)
        have d2 : w7.cell? ⟨w2.heap.size, 2, none⟩ = some (.int .i64 b) := (by rw [cell_of_row _ _ _ _ _ _ HP7.out]; rfl)
        have hlP : w2.heap.size < w7.heap.size := World.block_lt_of_cell? _ _ d0
        clear hwe hwn hs1 HW9
        go_wp2_with fail
        refine (treadA L1 s1 p (s.top + 1) v b w7 H7.out.l HI1.out HL1.out).mono ?_
        rintro e w8 ⟨rfl, hx8⟩
        rw [HR1.out, HR2.out]
        have H8 := Lib.hid (H7.out.ex0 hx8)
        have HB8 : Hid (w8.heap[W.heap.size]? = some (.cells #[.int .u8 xd, .int .u8 xbr, .int .u8 xvol, .int .u8 xblk, .int .u8 xa, .int .u8 xb, .int .u8 xc, .int .u8 xy] 57 (0, 0))) := (hx8.block _ (Array.getElem?_eq_some_iff.1 HB7.out).1 not_false).trans HB7.out
        have HP8 : Hid (w8.heap[w2.heap.size]? = some (.cells #[.int .i64 p, .int .i64 v, .int .i64 b] 59 (0, 0))) := (hx8.block _ (Array.getElem?_eq_some_iff.1 HP7.out).1 not_false).trans HP7.out
        have HD8 : Hid (w8.heap[w5.heap.size]? = some (.cells DA 49 (0, 0))) := (hx8.block _ (Array.getElem?_eq_some_iff.1 HD7.out).1 not_false).trans HD7.out
        have HEQ1 : Hid (∀ w, (Op.equalIn 10000 49 (.agg (blkA (data5 xy))) (.agg #[.int .u8 xy, .int .u8 5, .int .u8 0, .int .u8 0, .int .u8 0, .int .u8 0, .int .u8 0, .int .u8 0, .int .u8 0, .int .u8 0, .int .u8 0, .int .u8 0, .int .u8 0, .int .u8 0, .int .u8 0, .int .u8 0, .int .u8 0, .int .u8 0, .int .u8 0, .int .u8 0, .int .u8 0, .int .u8 0, .int .u8 0, .int .u8 0, .int .u8 0, .int .u8 0, .int .u8 0, .int .u8 0, .int .u8 0, .int .u8 0, .int .u8 0, .int .u8 0])).run Tryz.prog w = .ok true w) := fun w => by
          have := eql_blkA (data5 xy) (data5 xy) (data5_ok g7).1 (data5_ok g7).1 w
          rw [decide_eq_true rfl] at this
          exact this
        have HDL1 : Hid ((blkA (data5 xy)).size = 32) := blkA_len (data5 xy)
        have HDO1 : Hid (∀ zz ∈ blkA (data5 xy), zz.oneCell' = true) := blkA_one (data5 xy)
        obtain ⟨DB, hDB⟩ : ∃ DB, blkA (data5 xy) = DB := ⟨_, rfl⟩
        rw [hDB] at HDL1 HDO1 HEQ1 ⊢
        clear hx8 hDB d0 d1 d2 hlP H7 HB7 HP7 HD7
        go_wp2_with (first | (refine wpList_store_all rfl 49 (.tmp 18) (.tmp 106) rfl w8.heap.size rfl DB _ rfl 49 (heap_alloc_new _ _) (by rw [HDL1.out]; rfl) HDO1.out (by rw [HDL1.out]; kernel_rfl) ?_; rw [World.setRow_alloc_new]; have HXw9 : Hid (Ex0 w8 (w8.alloc (.cells DB 49))) := Ex.alloc _ _; have HBw9 : Hid ((w8.alloc (.cells DB 49)).heap[w8.heap.size]? = some (.cells DB 49 (0, 0))) := heap_alloc_new _ _; obtain ⟨w9, hw9⟩ : ∃ w9, w8.alloc (.cells DB 49) = w9 := ⟨_, rfl⟩; rw [hw9] at HXw9 HBw9 ⊢; clear hw9; have HP9 : Hid (w9.heap[w2.heap.size]? = some (.cells #[.int .i64 p, .int .i64 v, .int .i64 b] 59 (0, 0))) := (HXw9.out.block _ (Array.getElem?_eq_some_iff.1 HP8.out).1 not_false).trans HP8.out; have d0 : w9.cell? ⟨w2.heap.size, 0, none⟩ = some (.int .i64 p) := (by rw [cell_of_row _ _ _ _ _ _ HP9.out]; rfl); have d1 : w9.cell? ⟨w2.heap.size, 1, none⟩ = some (.int .i64 v) := (by rw [cell_of_row _ _ _ _ _ _ HP9.out]; rfl); have hlP : w2.heap.size < w9.heap.size := World.block_lt_of_cell? _ _ d0))
        have H9 := Lib.hid (H8.out.ex0 HXw9.out)
        refine (treadA L1 s1 p (s.top + 1) v o w9 H9.out.l HI1.out HL1.out).mono ?_
        rintro e w10 ⟨rfl, hx10⟩
        rw [HR3.out]
        have H10 := Lib.hid (H9.out.ex0 hx10)
        have HX810 := Lib.hid (HXw9.out.trans0 hx10)
        have HB10 : Hid (w10.heap[W.heap.size]? = some (.cells #[.int .u8 xd, .int .u8 xbr, .int .u8 xvol, .int .u8 xblk, .int .u8 xa, .int .u8 xb, .int .u8 xc, .int .u8 xy] 57 (0, 0))) := (HX810.out.block _ (Array.getElem?_eq_some_iff.1 HB8.out).1 not_false).trans HB8.out
        have HD10 : Hid (w10.heap[w5.heap.size]? = some (.cells DA 49 (0, 0))) := (HX810.out.block _ (Array.getElem?_eq_some_iff.1 HD8.out).1 not_false).trans HD8.out
        have HE10 : Hid (w10.heap[w8.heap.size]? = some (.cells DB 49 (0, 0))) := (hx10.block _ (Array.getElem?_eq_some_iff.1 HBw9.out).1 not_false).trans HBw9.out
        clear hx10 d0 d1 hlP H8 H9 HB8 HP8 HP9 HD8 HX810 HXw9 HBw9
        by_cases hq : r0 = 0
        · rw [HW8.out hq, HDA.out]
          subst hq
          go_wp2_with (first | (refine wpList_store_all rfl 49 (.tmp 20) (.tmp 117) rfl w10.heap.size rfl DA _ rfl 49 (heap_alloc_new _ _) (by rw [HDL.out]; rfl) HDO.out (by rw [HDL.out]; kernel_rfl) ?_; rw [World.setRow_alloc_new]; have HXw11 : Hid (Ex0 w10 (w10.alloc (.cells DA 49))) := Ex.alloc _ _; have HBw11 : Hid ((w10.alloc (.cells DA 49)).heap[w10.heap.size]? = some (.cells DA 49 (0, 0))) := heap_alloc_new _ _; obtain ⟨w11, hw11⟩ : ∃ w11, w10.alloc (.cells DA 49) = w11 := ⟨_, rfl⟩; rw [hw11] at HXw11 HBw11 ⊢; clear hw11; have HB11 : Hid (w11.heap[W.heap.size]? = some (.cells #[.int .u8 xd, .int .u8 xbr, .int .u8 xvol, .int .u8 xblk, .int .u8 xa, .int .u8 xb, .int .u8 xc, .int .u8 xy] 57 (0, 0))) := (HXw11.out.block _ (Array.getElem?_eq_some_iff.1 HB10.out).1 not_false).trans HB10.out; have HD11 : Hid (w11.heap[w5.heap.size]? = some (.cells DA 49 (0, 0))) := (HXw11.out.block _ (Array.getElem?_eq_some_iff.1 HD10.out).1 not_false).trans HD10.out; have HE11 : Hid (w11.heap[w8.heap.size]? = some (.cells DB 49 (0, 0))) := (HXw11.out.block _ (Array.getElem?_eq_some_iff.1 HE10.out).1 not_false).trans HE10.out; have a7 : w11.cell? ⟨W.heap.size, 7, none⟩ = some (.int .u8 xy) := (by rw [cell_of_row _ _ _ _ _ _ HB11.out]; rfl); have hlA : W.heap.size < w11.heap.size := World.block_lt_of_cell? _ _ a7; have x3 : w11.cell? ⟨D.p, 3, none⟩ = some (.int .u64 s.top) := (H10.out.ex0 HXw11.out).d.cell rfl; have hlp : D.p < w11.heap.size := (H10.out.ex0 HXw11.out).d.lt; have heq0 := HEQ0.out; have heq1 := HEQ1.out; have hg2 := eqg_blk) | refine wpList_load_row_g (by rfl) 49 (.tmp 20) rfl w10.heap.size rfl 49 DA (0, 0) _ HBw11.out Tryz.underlying49 rfl (by rw [HDL.out]; kernel_rfl) ?_ | refine wpList_load_row_g (by rfl) 49 (.tmp 14) rfl w5.heap.size rfl 49 DA (0, 0) _ HD11.out Tryz.underlying49 rfl (by rw [HDL.out]; kernel_rfl) ?_ | refine wpList_load_row_g (by rfl) 49 (.tmp 18) rfl w8.heap.size rfl 49 DB (0, 0) _ HE11.out Tryz.underlying49 rfl (by rw [HDL1.out]; kernel_rfl) ?_)
          go_ret
          exact ⟨rfl, (HX1.out.trans0 (H10.out.ex0 HXw11.out).x).below (Nat.le_refl _) (fun _ h => h.elim)⟩
        · have hqb : (r0 != 0) = true := by simpa using hq
          have HDL2 : Hid ((blkA (s1.readD p (s.top + 1) v o)).size = 32) := blkA_len (s1.readD p (s.top + 1) v o)
          have HDO2 : Hid (∀ zz ∈ blkA (s1.readD p (s.top + 1) v o), zz.oneCell' = true) := blkA_one (s1.readD p (s.top + 1) v o)
          obtain ⟨DC, hDC⟩ : ∃ DC, blkA (s1.readD p (s.top + 1) v o) = DC := ⟨_, rfl⟩
          rw [hDC] at HDL2 HDO2 ⊢
          clear hDC
          go_wp2_with (first | (refine wpList_store_all rfl 49 (.tmp 20) (.tmp 117) rfl w10.heap.size rfl DC _ rfl 49 (heap_alloc_new _ _) (by rw [HDL2.out]; rfl) HDO2.out (by rw [HDL2.out]; kernel_rfl) ?_; rw [World.setRow_alloc_new]; have HXw11 : Hid (Ex0 w10 (w10.alloc (.cells DC 49))) := Ex.alloc _ _; have HBw11 : Hid ((w10.alloc (.cells DC 49)).heap[w10.heap.size]? = some (.cells DC 49 (0, 0))) := heap_alloc_new _ _; obtain ⟨w11, hw11⟩ : ∃ w11, w10.alloc (.cells DC 49) = w11 := ⟨_, rfl⟩; rw [hw11] at HXw11 HBw11 ⊢; clear hw11; have HB11 : Hid (w11.heap[W.heap.size]? = some (.cells #[.int .u8 xd, .int .u8 xbr, .int .u8 xvol, .int .u8 xblk, .int .u8 xa, .int .u8 xb, .int .u8 xc, .int .u8 xy] 57 (0, 0))) := (HXw11.out.block _ (Array.getElem?_eq_some_iff.1 HB10.out).1 not_false).trans HB10.out; have HE11 : Hid (w11.heap[w8.heap.size]? = some (.cells DB 49 (0, 0))) := (HXw11.out.block _ (Array.getElem?_eq_some_iff.1 HE10.out).1 not_false).trans HE10.out; have a7 : w11.cell? ⟨W.heap.size, 7, none⟩ = some (.int .u8 xy) := (by rw [cell_of_row _ _ _ _ _ _ HB11.out]; rfl); have hlA : W.heap.size < w11.heap.size := World.block_lt_of_cell? _ _ a7; have x3 : w11.cell? ⟨D.p, 3, none⟩ = some (.int .u64 s.top) := (H10.out.ex0 HXw11.out).d.cell rfl; have hlp : D.p < w11.heap.size := (H10.out.ex0 HXw11.out).d.lt; have heq1 := HEQ1.out; have hg2 := eqg_blk) | refine wpList_load_row_g (by rfl) 49 (.tmp 18) rfl w8.heap.size rfl 49 DB (0, 0) _ HE11.out Tryz.underlying49 rfl (by rw [HDL1.out]; kernel_rfl) ?_)
          go_ret
          exact ⟨rfl, (HX1.out.trans0 (H10.out.ex0 HXw11.out).x).below (Nat.le_refl _) (fun _ h => h.elim)⟩
      · have hwn : s.writeN p v b = 0 := if_neg hwe
        have hws := write_ne (d := data5 xy) hwe
        have hwb : (s.writeE p v b != 0) = true := by simpa using hwe
        rw [hws] at H7
        rw [hwn]
        clear hwn hws HW9
        go_wp2_with fail
        have H8 : Hid (At2 w1 w7.drew L1 D s s) := H7.out.ex0 (Ex.drew w7)
        have hS : (fun w' : World => w'.cell? ⟨D.p, 3, none⟩ = some (.int .u64 s.top) ∧ D.p < w'.heap.size) w7.drew := ⟨H8.out.d.cell rfl, H8.out.d.lt⟩
        refine wp_region_takes (fun w' : World => w'.cell? ⟨D.p, 3, none⟩ = some (.int .u64 s.top) ∧ D.p < w'.heap.size) (by kernel_rfl) ?_
        simp only [List.length_cons, List.length_nil]
        generalize w7.drew = wd at *
        refine' wpAnyH_do 0 rfl (by kernel_rfl) (fun _ _ _ _ h => h) (by rfl) (by assumption) ⟨_, fun w' hS => ?_, ?_⟩
        rotate_left
        · ((try dsimp only at hS); go_split_ands; go_simp; try (with_reducible rfl))
        simp only [Act.put, List.setIfInBounds_toArray, List.set_cons_zero, List.set_cons_succ]
        refine' wpAnyH_do 1 rfl (by kernel_rfl) (fun _ _ _ _ h => h) (by rfl) (by assumption) ⟨_, fun w' hS => ?_, ?_⟩
        rotate_left
        · ((try dsimp only at hS); go_split_ands; go_simp; try (with_reducible rfl))
        simp only [Act.put, List.setIfInBounds_toArray, List.set_cons_zero, List.set_cons_succ]
        refine' wpAnyH_do 2 rfl (by kernel_rfl) (fun _ _ _ _ h => h) (by rfl) (by assumption) ⟨_, fun w' hS => ?_, ?_⟩
        rotate_left
        · ((try dsimp only at hS); go_split_ands; go_simp; try (with_reducible rfl))
        simp only [Act.put, List.setIfInBounds_toArray, List.set_cons_zero, List.set_cons_succ]
        refine' wpAnyH_do 3 rfl (by kernel_rfl) (fun _ _ _ _ h => h) (by rfl) (by assumption) ⟨_, fun w' hS => ?_, ?_⟩
        rotate_left
        · ((try dsimp only at hS); go_split_ands; go_simp; try (with_reducible rfl))
        simp only [Act.put, List.setIfInBounds_toArray, List.set_cons_zero, List.set_cons_succ]
        refine' wpAnyH_do 5 rfl (by kernel_rfl) (fun _ _ _ _ h => h) (by rfl) (by assumption) ⟨_, fun w' hS => ?_, ?_⟩
        rotate_left
        · ((try dsimp only at hS); go_split_ands; go_simp; try (with_reducible rfl))
        simp only [Act.put, List.setIfInBounds_toArray, List.set_cons_zero, List.set_cons_succ]
        refine' wpAnyH_do 6 rfl (by kernel_rfl) (fun _ _ _ _ h => h) (by rfl) (by assumption) ⟨_, fun w' hS => ?_, ?_⟩
        rotate_left
        · ((try dsimp only at hS); go_split_ands; go_simp; try (with_reducible rfl))
        simp only [Act.put, List.setIfInBounds_toArray, List.set_cons_zero, List.set_cons_succ]
        refine' wpAnyH_do 7 rfl (by kernel_rfl) (fun _ _ _ _ h => h) (by rfl) (by assumption) ⟨_, fun w' hS => ?_, ?_⟩
        rotate_left
        · ((try dsimp only at hS); go_split_ands; go_simp; try (with_reducible rfl))
        simp only [Act.put, List.setIfInBounds_toArray, List.set_cons_zero, List.set_cons_succ]
        refine' wpAnyH_do 8 rfl (by kernel_rfl) (fun _ _ _ _ h => h) (by rfl) (by assumption) ⟨_, fun w' hS => ?_, ?_⟩
        rotate_left
        · ((try dsimp only at hS); go_split_ands; go_simp; try (with_reducible rfl))
        simp only [Act.put, List.setIfInBounds_toArray, List.set_cons_zero, List.set_cons_succ]
        refine wpAnyH_eff 4 rfl (by kernel_rfl) (by rfl) (fun K hK => ?_)
        have HKK := Lib.hid hK
        clear hK
        go_simp
        refine (top_any L1 s wd H8.out.l).mono ?_
        rintro e w8 ⟨rfl, hw⟩
        rw [hw]
        clear hw w8
        dsimp only
        refine HKK.out _ _ hS ?_
        clear HKK K
        (try simp only [Act.put, List.setIfInBounds_toArray, List.set_cons_zero, List.set_cons_succ])
        refine' wpAnyH_do 9 rfl (by kernel_rfl) (fun _ _ _ _ h => h) (by rfl) (by assumption) ⟨_, fun w' hS => ?_, ?_⟩
        rotate_left
        · ((try dsimp only at hS); go_split_ands; go_simp; try (with_reducible rfl))
        simp only [Act.put, List.setIfInBounds_toArray, List.set_cons_zero, List.set_cons_succ]
        refine' wpAnyH_do 10 rfl (by kernel_rfl) (fun _ _ _ _ h => h) (by rfl) (by assumption) ⟨_, fun w' hS => ?_, ?_⟩
        rotate_left
        · ((try dsimp only at hS); go_split_ands; go_simp; try (with_reducible rfl))
        simp only [Act.put, List.setIfInBounds_toArray, List.set_cons_zero, List.set_cons_succ]
        refine' wpAnyH_do 11 rfl (by kernel_rfl) (fun _ _ _ _ h => h) (by rfl) (by assumption) ⟨_, fun w' hS => ?_, ?_⟩
        rotate_left
        · ((try dsimp only at hS); go_split_ands; go_simp; try (with_reducible rfl))
        simp only [Act.put, List.setIfInBounds_toArray, List.set_cons_zero, List.set_cons_succ]
        refine wpAnyH_done (by kernel_rfl) ?_ _
        go_wp2
        go_ret
        exact ⟨rfl, (HX1.out.trans0 H8.out.x).below (Nat.le_refl _) (fun _ h => h.elim)⟩
end Go.Proofs.YtoglddndicmelaaGreat.Tr
