/- Layer 54: two writes in either order. -/
import Derived.Test.YtoglddndicmelaaGreatLawD
import Derived.Test.YtoglddndicmelaaGreatLwP
import Derived.Test.YtoglddndicmelaaGreatLwU
namespace Go.Proofs.YtoglddndicmelaaGreat.Tr
open Go.RowKit Go.Proofs.YtoglddndicmelaaGreatB Go.Proofs.YtoglddndicmelaaGreat
set_option maxRecDepth 100000

set_option maxHeartbeats 8000000 in
theorem apart_walk (A : Option Addr) (n cap : Nat) (rs : List Rul) (B : Option Addr) (m capb : Nat) (xs : List ActT) (x y : ActT) (W : World) (hs : Sl W 3 A n (rs.flatMap Rul.cells)) (hA : ∀ b, Bl A b → b < W.heap.size) (ha : Sl W 8 B m (xs.flatMap ActT.cells)) (hx : ∀ x ∈ xs, x.Ok) (hxo : x.Ok) (hyo : y.Ok) :
    Calls Tryz.prog 11 #[.slice A n cap, .slice B m capb, .agg x.cells.toArray, .agg y.cells.toArray] W fun e W' => e = .returned (.bool true) ∧ Below W.heap.size W W' := by
  have hln : rs.length = n := by have := hs.len; rw [flat_len Rul.cells 3 Rul.length] at this; omega
  have HP : Hid (∀ w, Ex0 W w → Calls Tryz.prog 18 #[.slice A n cap, .slice B m capb] w (PlayP n rs xs w)) := fun w hw => played_any A n cap rs B m capb xs w (hs.ex0 hw) (fun b hb => Nat.lt_of_lt_of_le (hA b hb) hw.size) (ha.ex0 hw) hx
  have HOK := Lib.hid hx
  obtain ⟨xd, xbr, xvol, xblk, xa, xb, xc, xy⟩ := x
  obtain ⟨g0, g1, g2, g3, g4, g5, g6, g7⟩ := hxo
  obtain ⟨yd, ybr, yvol, yblk, ya, yb, yc, yy⟩ := y
  obtain ⟨k0, k1, k2, k3, k4, k5, k6, k7⟩ := hyo
  dsimp only at g0 g1 g2 g3 g4 g5 g6 g7 k0 k1 k2 k3 k4 k5 k6 k7
  show Calls _ _ #[.slice A n cap, .slice B m capb, .agg #[.int .u8 xd, .int .u8 xbr, .int .u8 xvol, .int .u8 xblk, .int .u8 xa, .int .u8 xb, .int .u8 xc, .int .u8 xy], .agg #[.int .u8 yd, .int .u8 ybr, .int .u8 yvol, .int .u8 yblk, .int .u8 ya, .int .u8 yb, .int .u8 yc, .int .u8 yy]] W _
  have pe : ((xbr : Nat) : Int).tmod 3 = ((xbr % 3 : Nat) : Int) := by rw [Int.tmod_eq_emod_of_nonneg (by omega)]; omega
  have pf : IntKind.i64.wrap (xbr : Int) = xbr := by rw [IntKind.wrap_i64]; omega
  have pk : IntKind.i64.wrap ((xbr % 3 : Nat) : Int) = ((xbr % 3 : Nat) : Int) := by rw [IntKind.wrap_i64]; omega
  have pr : 0 ≤ ((xbr % 3 : Nat) : Int) ∧ ((xbr % 3 : Nat) : Int) < 3 := by omega
  obtain ⟨p, pq⟩ : ∃ p : Int, ((xbr % 3 : Nat) : Int) = p := ⟨_, rfl⟩
  rw [pq] at pe pk pr
  clear pq
  have ve : ((xvol : Nat) : Int).tmod 2 = ((xvol % 2 : Nat) : Int) := by rw [Int.tmod_eq_emod_of_nonneg (by omega)]; omega
  have vf : IntKind.i64.wrap (xvol : Int) = xvol := by rw [IntKind.wrap_i64]; omega
  have vk : IntKind.i64.wrap ((xvol % 2 : Nat) : Int) = ((xvol % 2 : Nat) : Int) := by rw [IntKind.wrap_i64]; omega
  have vr : 0 ≤ ((xvol % 2 : Nat) : Int) ∧ ((xvol % 2 : Nat) : Int) < 2 := by omega
  obtain ⟨v, vq⟩ : ∃ v : Int, ((xvol % 2 : Nat) : Int) = v := ⟨_, rfl⟩
  rw [vq] at ve vk vr
  clear vq
  have be : ((xblk : Nat) : Int).tmod 2 = ((xblk % 2 : Nat) : Int) := by rw [Int.tmod_eq_emod_of_nonneg (by omega)]; omega
  have bf : IntKind.i64.wrap (xblk : Int) = xblk := by rw [IntKind.wrap_i64]; omega
  have bk : IntKind.i64.wrap ((xblk % 2 : Nat) : Int) = ((xblk % 2 : Nat) : Int) := by rw [IntKind.wrap_i64]; omega
  have br : 0 ≤ ((xblk % 2 : Nat) : Int) ∧ ((xblk % 2 : Nat) : Int) < 2 := by omega
  obtain ⟨b, bq⟩ : ∃ b : Int, ((xblk % 2 : Nat) : Int) = b := ⟨_, rfl⟩
  rw [bq] at be bk br
  clear bq
  have ue : ((yvol : Nat) : Int).tmod 2 = ((yvol % 2 : Nat) : Int) := by rw [Int.tmod_eq_emod_of_nonneg (by omega)]; omega
  have uf : IntKind.i64.wrap (yvol : Int) = yvol := by rw [IntKind.wrap_i64]; omega
  have uk : IntKind.i64.wrap ((yvol % 2 : Nat) : Int) = ((yvol % 2 : Nat) : Int) := by rw [IntKind.wrap_i64]; omega
  have ur : 0 ≤ ((yvol % 2 : Nat) : Int) ∧ ((yvol % 2 : Nat) : Int) < 2 := by omega
  obtain ⟨u, uq⟩ : ∃ u : Int, ((yvol % 2 : Nat) : Int) = u := ⟨_, rfl⟩
  rw [uq] at ue uk ur
  clear uq
  have ce : ((yblk : Nat) : Int).tmod 2 = ((yblk % 2 : Nat) : Int) := by rw [Int.tmod_eq_emod_of_nonneg (by omega)]; omega
  have cf : IntKind.i64.wrap (yblk : Int) = yblk := by rw [IntKind.wrap_i64]; omega
  have ck : IntKind.i64.wrap ((yblk % 2 : Nat) : Int) = ((yblk % 2 : Nat) : Int) := by rw [IntKind.wrap_i64]; omega
  have cr : 0 ≤ ((yblk % 2 : Nat) : Int) ∧ ((yblk % 2 : Nat) : Int) < 2 := by omega
  obtain ⟨c, cq⟩ : ∃ c : Int, ((yblk % 2 : Nat) : Int) = c := ⟨_, rfl⟩
  rw [cq] at ce ck cr
  clear cq
  obtain ⟨wa, hwa, hba, hbb, hxa⟩ : ∃ wa, (W.alloc (.cells #[.int .u8 xd, .int .u8 xbr, .int .u8 xvol, .int .u8 xblk, .int .u8 xa, .int .u8 xb, .int .u8 xc, .int .u8 xy] 57)).alloc (.cells #[.int .u8 yd, .int .u8 ybr, .int .u8 yvol, .int .u8 yblk, .int .u8 ya, .int .u8 yb, .int .u8 yc, .int .u8 yy] 57) = wa ∧ wa.heap[W.heap.size]? = some (.cells #[.int .u8 xd, .int .u8 xbr, .int .u8 xvol, .int .u8 xblk, .int .u8 xa, .int .u8 xb, .int .u8 xc, .int .u8 xy] 57 (0, 0)) ∧ wa.heap[W.heap.size + 1]? = some (.cells #[.int .u8 yd, .int .u8 ybr, .int .u8 yvol, .int .u8 yblk, .int .u8 ya, .int .u8 yb, .int .u8 yc, .int .u8 yy] 57 (0, 0)) ∧ Ex0 W wa := ⟨_, rfl, heap_alloc2_old _ _ _, heap_alloc2_new _ _ _, (Ex.alloc _ _).alloc' _⟩
  have HWA := Lib.hid hwa
  have HBA := Lib.hid hba
  have HCA := Lib.hid hbb
  have HXA := Lib.hid hxa
  have HCO : Hid (∀ q ∈ (wrC p v b (dataA xy)).toArray, q.oneCell' = true) := wrC_one _ _ _ _
  have HCQ : Hid (∀ q ∈ (wrC p u c (dataB yy)).toArray, q.oneCell' = true) := wrC_one _ _ _ _
  clear hs hA ha hx hwa hba hbb hxa g0 g1 g2 g3 g4 g5 g6 k0 k1 k2 k3 k4 k5 k6
  go_enter Tryz.func11, Tryz.ntmps11
  iterate 8 go_step
  rw [HWA.out]
  go_wp2_with fail
  refine (awake_any wa).mono ?_
  rintro e w1 ⟨rfl, hx1⟩
  have HX1 := Lib.hid (HXA.out.trans0 hx1)
  have HB1 : Hid (w1.heap[W.heap.size]? = some (.cells #[.int .u8 xd, .int .u8 xbr, .int .u8 xvol, .int .u8 xblk, .int .u8 xa, .int .u8 xb, .int .u8 xc, .int .u8 xy] 57 (0, 0))) := (hx1.block _ (Array.getElem?_eq_some_iff.1 HBA.out).1 not_false).trans HBA.out
  have HC1 : Hid (w1.heap[W.heap.size + 1]? = some (.cells #[.int .u8 yd, .int .u8 ybr, .int .u8 yvol, .int .u8 yblk, .int .u8 ya, .int .u8 yb, .int .u8 yc, .int .u8 yy] 57 (0, 0))) := (hx1.block _ (Array.getElem?_eq_some_iff.1 HCA.out).1 not_false).trans HCA.out
  clear hx1
  go_wp2_with fail
  refine (HP.out w1 HX1.out).mono ?_
  rintro e w2 ⟨hno, hyes⟩
  cases hlk : lookB n xs.length rs with
  | false =>
    obtain ⟨rfl, hx2⟩ := hno hlk
    have HX2 := Lib.hid (HX1.out.trans0 hx2)
    have HP2 := Lib.hid (HP.out w2 HX2.out)
    have HLK := Lib.hid hlk
    clear hno hyes hlk hx2
    go_wp2_with fail
    refine HP2.out.mono ?_
    rintro e w3 ⟨hno, _⟩
    obtain ⟨rfl, hx3⟩ := hno HLK.out
    have HX3 := Lib.hid (HX2.out.trans0 hx3)
    clear hno hx3
    go_wp2
    go_ret
    exact ⟨rfl, HX3.out.below (Nat.le_refl _) (fun _ h => h.elim)⟩
  | true =>
    obtain ⟨L, D, rfl, hat⟩ := hyes hlk
    have hf := play_facts hln HOK.out hlk
    obtain ⟨s, hs⟩ : ∃ s, playA (s22 rs) xs = s := ⟨_, rfl⟩
    rw [hs] at hat hf
    have HAT := Lib.hid hat
    have HF := Lib.hid hf
    have ht := hf.inv.top
    have ht2 := hf.top
    have HS := Lib.hid hs
    have HLK := Lib.hid hlk
    clear hno hyes hlk hat hf hs
    go_wp2_with fail
    refine (HP.out w2 (HX1.out.trans0 HAT.out.x)).mono ?_
    rintro e w3 ⟨_, hyes⟩
    obtain ⟨M, E, rfl, hat⟩ := hyes HLK.out
    rw [HS.out] at hat
    have HX23 := Lib.hid hat.x
    have H3 := Lib.hid (HAT.out.t3 hat)
    clear hyes hat
    have HB3 : Hid (w3.heap[W.heap.size]? = some (.cells #[.int .u8 xd, .int .u8 xbr, .int .u8 xvol, .int .u8 xblk, .int .u8 xa, .int .u8 xb, .int .u8 xc, .int .u8 xy] 57 (0, 0))) := (H3.out.x.block _ (Array.getElem?_eq_some_iff.1 HB1.out).1 not_false).trans HB1.out
    have HC3 : Hid (w3.heap[W.heap.size + 1]? = some (.cells #[.int .u8 yd, .int .u8 ybr, .int .u8 yvol, .int .u8 yblk, .int .u8 ya, .int .u8 yb, .int .u8 yc, .int .u8 yy] 57 (0, 0))) := (H3.out.x.block _ (Array.getElem?_eq_some_iff.1 HC1.out).1 not_false).trans HC1.out
    have a1 : w3.cell? ⟨W.heap.size, 1, none⟩ = some (.int .u8 xbr) := (by rw [cell_of_row _ _ _ _ _ _ HB3.out]; rfl)
    have a2 : w3.cell? ⟨W.heap.size, 2, none⟩ = some (.int .u8 xvol) := (by rw [cell_of_row _ _ _ _ _ _ HB3.out]; rfl)
    have a3 : w3.cell? ⟨W.heap.size, 3, none⟩ = some (.int .u8 xblk) := (by rw [cell_of_row _ _ _ _ _ _ HB3.out]; rfl)
    have a7 : w3.cell? ⟨W.heap.size, 7, none⟩ = some (.int .u8 xy) := (by rw [cell_of_row _ _ _ _ _ _ HB3.out]; rfl)
    have hlA : W.heap.size < w3.heap.size := World.block_lt_of_cell? _ _ a1
    have HTH : Hid (s.there v b = true) := there_two HF.out.vols HF.out.blocks vr br
    have HTO : Hid (s.there u c = true) := there_two HF.out.vols HF.out.blocks ur cr
    have HLEN : Hid (s.tab.length ≤ 800) := by have := HF.out.len; show _ ≤ _; omega
    have HTOP : Hid (s.top + 1 < 65535) := by show _ < _; omega
    have HPR := Lib.hid pr
    clear HB1 HC1 ht ht2 pr vr br ur cr
    by_cases hvu : v = u
    · by_cases hbc : b = c
      · subst hvu
        subst hbc
        go_wp2_with (first | (refine wpList_store_all rfl 63 (.tmp 15) (.tmp 63) rfl w3.heap.size rfl (wrC p v b (dataA xy)).toArray _ rfl 63 (heap_alloc_new _ _) rfl HCO.out (by kernel_rfl) ?_; rw [World.setRow_alloc_new]; have HXw4 : Hid (Ex0 w3 (w3.alloc (.cells (wrC p v b (dataA xy)).toArray 63))) := Ex.alloc _ _; have HBw4 : Hid ((w3.alloc (.cells (wrC p v b (dataA xy)).toArray 63)).heap[w3.heap.size]? = some (.cells (wrC p v b (dataA xy)).toArray 63 (0, 0))) := heap_alloc_new _ _; obtain ⟨w4, hw4⟩ : ∃ w4, w3.alloc (.cells (wrC p v b (dataA xy)).toArray 63) = w4 := ⟨_, rfl⟩; rw [hw4] at HXw4 HBw4 ⊢; clear hw4; have HC4 : Hid (w4.heap[W.heap.size + 1]? = some (.cells #[.int .u8 yd, .int .u8 ybr, .int .u8 yvol, .int .u8 yblk, .int .u8 ya, .int .u8 yb, .int .u8 yc, .int .u8 yy] 57 (0, 0))) := (HXw4.out.block _ (Array.getElem?_eq_some_iff.1 HC3.out).1 not_false).trans HC3.out; have c2 : w4.cell? ⟨W.heap.size + 1, 2, none⟩ = some (.int .u8 yvol) := (by rw [cell_of_row _ _ _ _ _ _ HC4.out]; rfl); have c3 : w4.cell? ⟨W.heap.size + 1, 3, none⟩ = some (.int .u8 yblk) := (by rw [cell_of_row _ _ _ _ _ _ HC4.out]; rfl); have c7 : w4.cell? ⟨W.heap.size + 1, 7, none⟩ = some (.int .u8 yy) := (by rw [cell_of_row _ _ _ _ _ _ HC4.out]; rfl); have c0 : w4.cell? ⟨w3.heap.size, 0, none⟩ = some (.int .i64 p) := (by rw [cell_of_row _ _ _ _ _ _ HBw4.out]; rfl); have hlC : W.heap.size + 1 < w4.heap.size := World.block_lt_of_cell? _ _ c2; have hlP : w3.heap.size < w4.heap.size := World.block_lt_of_cell? _ _ c0; clear a1 a2 a3 a7 hlA) | (refine wpList_store_all rfl 63 (.tmp 16) (.tmp 79) rfl w4.heap.size rfl (wrC p v b (dataB yy)).toArray _ rfl 63 (heap_alloc_new _ _) rfl HCQ.out (by kernel_rfl) ?_; rw [World.setRow_alloc_new]; have HXw5 : Hid (Ex0 w4 (w4.alloc (.cells (wrC p v b (dataB yy)).toArray 63))) := Ex.alloc _ _; have HBw5 : Hid ((w4.alloc (.cells (wrC p v b (dataB yy)).toArray 63)).heap[w4.heap.size]? = some (.cells (wrC p v b (dataB yy)).toArray 63 (0, 0))) := heap_alloc_new _ _; obtain ⟨w5, hw5⟩ : ∃ w5, w4.alloc (.cells (wrC p v b (dataB yy)).toArray 63) = w5 := ⟨_, rfl⟩; rw [hw5] at HXw5 HBw5 ⊢; clear hw5; have HP5 : Hid (w5.heap[w3.heap.size]? = some (.cells (wrC p v b (dataA xy)).toArray 63 (0, 0))) := (HXw5.out.block _ (Array.getElem?_eq_some_iff.1 HBw4.out).1 not_false).trans HBw4.out; have e0 : w5.cell? ⟨w3.heap.size, 0, none⟩ = some (.int .i64 p) := (by rw [cell_of_row _ _ _ _ _ _ HP5.out]; rfl); have e1 : w5.cell? ⟨w3.heap.size, 1, none⟩ = some (.int .i64 v) := (by rw [cell_of_row _ _ _ _ _ _ HP5.out]; rfl); have e2 : w5.cell? ⟨w3.heap.size, 2, none⟩ = some (.int .i64 b) := (by rw [cell_of_row _ _ _ _ _ _ HP5.out]; rfl); have f0 : w5.cell? ⟨w4.heap.size, 0, none⟩ = some (.int .i64 p) := (by rw [cell_of_row _ _ _ _ _ _ HBw5.out]; rfl); have f1 : w5.cell? ⟨w4.heap.size, 1, none⟩ = some (.int .i64 v) := (by rw [cell_of_row _ _ _ _ _ _ HBw5.out]; rfl); have f2 : w5.cell? ⟨w4.heap.size, 2, none⟩ = some (.int .i64 b) := (by rw [cell_of_row _ _ _ _ _ _ HBw5.out]; rfl); clear hlP; have hlP : w3.heap.size < w5.heap.size := World.block_lt_of_cell? _ _ e0; have hlQ : w4.heap.size < w5.heap.size := World.block_lt_of_cell? _ _ f0; clear c2 c3 c7 c0 hlC) | refine wpList_load_row_g (by rfl) 63 (.tmp 15) rfl w3.heap.size rfl 63 (wrC p v b (dataA xy)).toArray (0, 0) _ HP5.out Tryz.underlying63 rfl (by kernel_rfl) ?_)
        have H5 := Lib.hid (H3.out.ex0 (HXw4.out.trans0 HXw5.out))
        have HX5 : Hid (Ex0 W w5) := (HX1.out.trans0 H5.out.x)
        clear HXw4 HBw4 HXw5 HC4 HC3 HB3 H3
        go_wp2
        go_ret
        exact ⟨rfl, HX5.out.below (Nat.le_refl _) (fun _ h => h.elim)⟩
      · have hne : ¬ (v = u ∧ b = c) := fun h => hbc h.2
        have hbc' : (b == c) = false := by simpa using hbc
        subst hvu
        have HNE := Lib.hid hne
        clear hne
        go_wp2_with (first | (refine wpList_store_all rfl 63 (.tmp 15) (.tmp 63) rfl w3.heap.size rfl (wrC p v b (dataA xy)).toArray _ rfl 63 (heap_alloc_new _ _) rfl HCO.out (by kernel_rfl) ?_; rw [World.setRow_alloc_new]; have HXw4 : Hid (Ex0 w3 (w3.alloc (.cells (wrC p v b (dataA xy)).toArray 63))) := Ex.alloc _ _; have HBw4 : Hid ((w3.alloc (.cells (wrC p v b (dataA xy)).toArray 63)).heap[w3.heap.size]? = some (.cells (wrC p v b (dataA xy)).toArray 63 (0, 0))) := heap_alloc_new _ _; obtain ⟨w4, hw4⟩ : ∃ w4, w3.alloc (.cells (wrC p v b (dataA xy)).toArray 63) = w4 := ⟨_, rfl⟩; rw [hw4] at HXw4 HBw4 ⊢; clear hw4; have HC4 : Hid (w4.heap[W.heap.size + 1]? = some (.cells #[.int .u8 yd, .int .u8 ybr, .int .u8 yvol, .int .u8 yblk, .int .u8 ya, .int .u8 yb, .int .u8 yc, .int .u8 yy] 57 (0, 0))) := (HXw4.out.block _ (Array.getElem?_eq_some_iff.1 HC3.out).1 not_false).trans HC3.out; have c2 : w4.cell? ⟨W.heap.size + 1, 2, none⟩ = some (.int .u8 yvol) := (by rw [cell_of_row _ _ _ _ _ _ HC4.out]; rfl); have c3 : w4.cell? ⟨W.heap.size + 1, 3, none⟩ = some (.int .u8 yblk) := (by rw [cell_of_row _ _ _ _ _ _ HC4.out]; rfl); have c7 : w4.cell? ⟨W.heap.size + 1, 7, none⟩ = some (.int .u8 yy) := (by rw [cell_of_row _ _ _ _ _ _ HC4.out]; rfl); have c0 : w4.cell? ⟨w3.heap.size, 0, none⟩ = some (.int .i64 p) := (by rw [cell_of_row _ _ _ _ _ _ HBw4.out]; rfl); have hlC : W.heap.size + 1 < w4.heap.size := World.block_lt_of_cell? _ _ c2; have hlP : w3.heap.size < w4.heap.size := World.block_lt_of_cell? _ _ c0; clear a1 a2 a3 a7 hlA) | (refine wpList_store_all rfl 63 (.tmp 16) (.tmp 79) rfl w4.heap.size rfl (wrC p v c (dataB yy)).toArray _ rfl 63 (heap_alloc_new _ _) rfl HCQ.out (by kernel_rfl) ?_; rw [World.setRow_alloc_new]; have HXw5 : Hid (Ex0 w4 (w4.alloc (.cells (wrC p v c (dataB yy)).toArray 63))) := Ex.alloc _ _; have HBw5 : Hid ((w4.alloc (.cells (wrC p v c (dataB yy)).toArray 63)).heap[w4.heap.size]? = some (.cells (wrC p v c (dataB yy)).toArray 63 (0, 0))) := heap_alloc_new _ _; obtain ⟨w5, hw5⟩ : ∃ w5, w4.alloc (.cells (wrC p v c (dataB yy)).toArray 63) = w5 := ⟨_, rfl⟩; rw [hw5] at HXw5 HBw5 ⊢; clear hw5; have HP5 : Hid (w5.heap[w3.heap.size]? = some (.cells (wrC p v b (dataA xy)).toArray 63 (0, 0))) := (HXw5.out.block _ (Array.getElem?_eq_some_iff.1 HBw4.out).1 not_false).trans HBw4.out; have e0 : w5.cell? ⟨w3.heap.size, 0, none⟩ = some (.int .i64 p) := (by rw [cell_of_row _ _ _ _ _ _ HP5.out]; rfl); have e1 : w5.cell? ⟨w3.heap.size, 1, none⟩ = some (.int .i64 v) := (by rw [cell_of_row _ _ _ _ _ _ HP5.out]; rfl); have e2 : w5.cell? ⟨w3.heap.size, 2, none⟩ = some (.int .i64 b) := (by rw [cell_of_row _ _ _ _ _ _ HP5.out]; rfl); have f0 : w5.cell? ⟨w4.heap.size, 0, none⟩ = some (.int .i64 p) := (by rw [cell_of_row _ _ _ _ _ _ HBw5.out]; rfl); have f1 : w5.cell? ⟨w4.heap.size, 1, none⟩ = some (.int .i64 v) := (by rw [cell_of_row _ _ _ _ _ _ HBw5.out]; rfl); have f2 : w5.cell? ⟨w4.heap.size, 2, none⟩ = some (.int .i64 c) := (by rw [cell_of_row _ _ _ _ _ _ HBw5.out]; rfl); clear hlP; have hlP : w3.heap.size < w5.heap.size := World.block_lt_of_cell? _ _ e0; have hlQ : w4.heap.size < w5.heap.size := World.block_lt_of_cell? _ _ f0; clear c2 c3 c7 c0 hlC) | refine wpList_load_row_g (by rfl) 63 (.tmp 15) rfl w3.heap.size rfl 63 (wrC p v b (dataA xy)).toArray (0, 0) _ HP5.out Tryz.underlying63 rfl (by kernel_rfl) ?_)
        have H5 := Lib.hid (H3.out.ex0 (HXw4.out.trans0 HXw5.out))
        have HX5 : Hid (Ex0 W w5) := (HX1.out.trans0 H5.out.x)
        clear HXw4 HBw4 HXw5 HC4 HC3 HB3 H3
        have HAO := Lib.hid (apart_ok HF.out.inv HLEN.out (br := p) (v1 := v) (b1 := b) (v2 := v) (b2 := c) (dataA_ok g7) (dataB_ok k7))
        have HAQ := Lib.hid (apart_ok HF.out.inv HLEN.out (br := p) (v1 := v) (b1 := c) (v2 := v) (b2 := b) (dataB_ok k7) (dataA_ok g7))
        have HAP := Lib.hid (apart_plain HF.out.inv HLEN.out (br := p) (dataA_ok g7) (dataB_ok k7) (by have := HPR.out; omega) HTH.out HTO.out HTOP.out (by simpa using HNE.out))
        have HL9 : Hid (s.tab.length ≤ 900) := by have := HLEN.out; show _ ≤ _; omega
        have hn1 := inF_not H5.out.l (⟨_, _, HP5.out⟩ : Ty _ _ 63) (by decide) (by decide) (by decide) (by decide) (by decide) (by decide) (by decide)
        have hn2 := inF_not H5.out.l (⟨_, _, HBw5.out⟩ : Ty _ _ 63) (by decide) (by decide) (by decide) (by decide) (by decide) (by decide) (by decide)
        refine (twrite_any L s p v b (dataA xy) w5 H5.out.l HF.out.inv HL9.out).mono ?_
        rintro e w6 ⟨rfl, hop⟩
        have hxo : Ex L.F w5 w6 := by obtain ⟨_, _, _, hx, _⟩ := hop; exact hx
        have HP6 : Hid (w6.heap[w3.heap.size]? = some (.cells (wrC p v b (dataA xy)).toArray 63 (0, 0))) := (hxo.block _ (Array.getElem?_eq_some_iff.1 HP5.out).1 hn1).trans HP5.out
        have HQ6 : Hid (w6.heap[w4.heap.size]? = some (.cells (wrC p v c (dataB yy)).toArray 63 (0, 0))) := (hxo.block _ (Array.getElem?_eq_some_iff.1 HBw5.out).1 hn2).trans HBw5.out
        obtain ⟨L1, hp1, h6⟩ := H5.out.left hop
        have H6 := Lib.hid h6
        rw [← hp1]
        clear hop hxo h6 hp1 hn1 hn2 e0 e1 e2 f0 f1 f2 hlP hlQ H5 HP5 HBw5
        go_wp2_with (first | refine wpList_load_row_g (by rfl) 63 (.tmp 16) rfl w4.heap.size rfl 63 (wrC p v c (dataB yy)).toArray (0, 0) _ HQ6.out Tryz.underlying63 rfl (by kernel_rfl) ?_)
        have hn1 := inF_not H6.out.l (⟨_, _, HP6.out⟩ : Ty _ _ 63) (by decide) (by decide) (by decide) (by decide) (by decide) (by decide) (by decide)
        have hn2 := inF_not H6.out.l (⟨_, _, HQ6.out⟩ : Ty _ _ 63) (by decide) (by decide) (by decide) (by decide) (by decide) (by decide) (by decide)
        refine (twrite_any L1 (s.write p v b (dataA xy)) p v c (dataB yy) w6 H6.out.l HAO.out.1 HAO.out.2.1).mono ?_
        rintro e w7 ⟨rfl, hop⟩
        have hxo : Ex L1.F w6 w7 := by obtain ⟨_, _, _, hx, _⟩ := hop; exact hx
        have HP7 : Hid (w7.heap[w3.heap.size]? = some (.cells (wrC p v b (dataA xy)).toArray 63 (0, 0))) := (hxo.block _ (Array.getElem?_eq_some_iff.1 HP6.out).1 hn1).trans HP6.out
        have HQ7 : Hid (w7.heap[w4.heap.size]? = some (.cells (wrC p v c (dataB yy)).toArray 63 (0, 0))) := (hxo.block _ (Array.getElem?_eq_some_iff.1 HQ6.out).1 hn2).trans HQ6.out
        obtain ⟨L2, hp2, h7⟩ := H6.out.left hop
        have H7 := Lib.hid h7
        rw [← hp2]
        clear hop hxo h7 hp2 hn1 hn2 H6 HP6 HQ6
        go_wp2_with (first | refine wpList_load_row_g (by rfl) 63 (.tmp 16) rfl w4.heap.size rfl 63 (wrC p v c (dataB yy)).toArray (0, 0) _ HQ7.out Tryz.underlying63 rfl (by kernel_rfl) ?_)
        have hn1 := inF_not H7.out.symm.l (⟨_, _, HP7.out⟩ : Ty _ _ 63) (by decide) (by decide) (by decide) (by decide) (by decide) (by decide) (by decide)
        have hn2 := inF_not H7.out.symm.l (⟨_, _, HQ7.out⟩ : Ty _ _ 63) (by decide) (by decide) (by decide) (by decide) (by decide) (by decide) (by decide)
        refine (twrite_any M s p v c (dataB yy) w7 H7.out.m HF.out.inv HL9.out).mono ?_
        rintro e w8 ⟨rfl, hop⟩
        have hxo : Ex M.F w7 w8 := by obtain ⟨_, _, _, hx, _⟩ := hop; exact hx
        have HP8 : Hid (w8.heap[w3.heap.size]? = some (.cells (wrC p v b (dataA xy)).toArray 63 (0, 0))) := (hxo.block _ (Array.getElem?_eq_some_iff.1 HP7.out).1 hn1).trans HP7.out
        obtain ⟨M1, hq1, h8⟩ := H7.out.right hop
        have H8 := Lib.hid h8
        rw [← hq1]
        clear hop hxo h8 hq1 hn1 hn2 H7 HP7 HQ7
        go_wp2_with (first | refine wpList_load_row_g (by rfl) 63 (.tmp 15) rfl w3.heap.size rfl 63 (wrC p v b (dataA xy)).toArray (0, 0) _ HP8.out Tryz.underlying63 rfl (by kernel_rfl) ?_)
        have hn1 := inF_not H8.out.symm.l (⟨_, _, HP8.out⟩ : Ty _ _ 63) (by decide) (by decide) (by decide) (by decide) (by decide) (by decide) (by decide)
        refine (twrite_any M1 (s.write p v c (dataB yy)) p v b (dataA xy) w8 H8.out.m HAQ.out.1 HAQ.out.2.1).mono ?_
        rintro e w9 ⟨rfl, hop⟩
        have hxo : Ex M1.F w8 w9 := by obtain ⟨_, _, _, hx, _⟩ := hop; exact hx
        have HP9 : Hid (w9.heap[w3.heap.size]? = some (.cells (wrC p v b (dataA xy)).toArray 63 (0, 0))) := (hxo.block _ (Array.getElem?_eq_some_iff.1 HP8.out).1 hn1).trans HP8.out
        obtain ⟨M2, hq2, h9⟩ := H8.out.right hop
        have H9 := Lib.hid h9
        rw [← hq2]
        clear hop hxo h9 hq2 hn1 H8 HP8
        have HI1 := Lib.hid HAO.out.2.2
        have HI2 := Lib.hid HAQ.out.2.2
        obtain ⟨N, hN⟩ : ∃ N, (s.write p v b (dataA xy)).writeN p v c = N := ⟨_, rfl⟩
        obtain ⟨Q, hQ⟩ : ∃ Q, (s.write p v b (dataA xy)).writeE p v c = Q := ⟨_, rfl⟩
        rw [HAP.out.1, HAP.out.2.1, hN, hQ]
        have HRD := Lib.hid HAP.out.2.2
        rw [hN] at HRD
        obtain ⟨s1, hs1⟩ : ∃ s1, (s.write p v b (dataA xy)).write p v c (dataB yy) = s1 := ⟨_, rfl⟩
        obtain ⟨s2, hs2⟩ : ∃ s2, (s.write p v c (dataB yy)).write p v b (dataA xy) = s2 := ⟨_, rfl⟩
        rw [hs1, hs2] at HRD H9
        rw [hs1] at HI1
        rw [hs2] at HI2
        clear hN hQ hs1 hs2 HAP HAO HAQ
        go_wp2_with fail
        refine (top_any L2 s1 w9 H9.out.l).mono ?_
        rintro e w10 ⟨rfl, hw⟩
        rw [hw]
        clear hw w10
        go_wp2_with fail
        refine (top_any M2 s2 w9 H9.out.m).mono ?_
        rintro e w10 ⟨rfl, hw⟩
        rw [hw, HRD.out.1]
        clear hw w10
        go_wp2_with fail
        go_loopw [118] (fun i wr => ∃ k : Nat, k ≤ 2 ∧ i = .int .i64 k ∧ Ex0 w9 wr) (fun i _ => 2 - (intOf i).toNat)
        case atStart => exact ⟨0, by omega, rfl, Ex.refl _ _⟩
        case round =>
          rename World => wo
          obtain ⟨k, hk, rfl, hxr⟩ := hrel
          have HXR := Lib.hid hxr
          have hk0 : (0 : Int) ≤ (k : Int) := by omega
          clear hxr
          by_cases hk2 : (k : Int) < 2
          · go_wp2_with fail
            go_loopw [121] (fun i wx => ∃ j : Nat, j ≤ 2 ∧ i = .int .i64 j ∧ Ex0 wo wx) (fun i _ => 2 - (intOf i).toNat)
            case atStart => exact ⟨0, by omega, rfl, Ex.refl _ _⟩
            case round =>
              rename World => wx
              obtain ⟨j, hj, rfl, hxx⟩ := hrel
              have HXX := Lib.hid (HXR.out.trans0 hxx)
              have HXO := Lib.hid hxx
              clear hxx
              by_cases hj2 : (j : Int) < 2
              · have H10 := Lib.hid (H9.out.ex0 HXX.out)
                have HP10 : Hid (wx.heap[w3.heap.size]? = some (.cells (wrC p v b (dataA xy)).toArray 63 (0, 0))) := (HXX.out.block _ (Array.getElem?_eq_some_iff.1 HP9.out).1 not_false).trans HP9.out
                have e0 : wx.cell? ⟨w3.heap.size, 0, none⟩ = some (.int .i64 p) := (by rw [cell_of_row _ _ _ _ _ _ HP10.out]; rfl)
                have hlP : w3.heap.size < wx.heap.size := World.block_lt_of_cell? _ _ e0
                go_wp2_with fail
                refine (treadA L2 s1 p N k j wx H10.out.l HI1.out.1 HI1.out.2).mono ?_
                rintro e w11 ⟨rfl, hx11⟩
                have H11 := Lib.hid (H10.out.ex0 hx11)
                have HXB := Lib.hid (HXO.out.trans0 hx11)
                have HRL := Lib.hid (readD_len HI1.out.1 p N k j)
                have HRE := Lib.hid (HRD.out.2 k j)
                obtain ⟨d, hd⟩ : ∃ d, s1.readD p N k j = d := ⟨_, rfl⟩
                obtain ⟨q, hq⟩ : ∃ q, s1.readE p N k j = q := ⟨_, rfl⟩
                rw [hd, hq] at HRE
                rw [hd] at HRL
                rw [hd, hq]
                have HEQ := Lib.hid (fun w => eql_blkA d d HRL.out HRL.out w)
                rw [decide_eq_true rfl] at HEQ
                have HDL : Hid ((blkA d).size = 32) := blkA_len d
                have HDO : Hid (∀ zz ∈ blkA d, zz.oneCell' = true) := blkA_one d
                obtain ⟨DA, hDA⟩ : ∃ DA, blkA d = DA := ⟨_, rfl⟩
                have HDA := Lib.hid hDA
                rw [hDA] at HDL HDO HEQ ⊢
                have HP11 : Hid (w11.heap[w3.heap.size]? = some (.cells (wrC p v b (dataA xy)).toArray 63 (0, 0))) := (hx11.block _ (Array.getElem?_eq_some_iff.1 HP10.out).1 not_false).trans HP10.out
                clear hx11 hd hq hDA e0 hlP H10 HP10
                go_wp2_with (first | (refine wpList_store_all rfl 49 (.tmp 23) (.tmp 133) rfl w11.heap.size rfl DA _ rfl 49 (heap_alloc_new _ _) (by rw [HDL.out]; rfl) HDO.out (by rw [HDL.out]; kernel_rfl) ?_; rw [World.setRow_alloc_new]; have HXw12 : Hid (Ex0 w11 (w11.alloc (.cells DA 49))) := Ex.alloc _ _; have HBw12 : Hid ((w11.alloc (.cells DA 49)).heap[w11.heap.size]? = some (.cells DA 49 (0, 0))) := heap_alloc_new _ _; obtain ⟨w12, hw12⟩ : ∃ w12, w11.alloc (.cells DA 49) = w12 := ⟨_, rfl⟩; rw [hw12] at HXw12 HBw12 ⊢; clear hw12; have HP12 : Hid (w12.heap[w3.heap.size]? = some (.cells (wrC p v b (dataA xy)).toArray 63 (0, 0))) := (HXw12.out.block _ (Array.getElem?_eq_some_iff.1 HP11.out).1 not_false).trans HP11.out; have e0 : w12.cell? ⟨w3.heap.size, 0, none⟩ = some (.int .i64 p) := (by rw [cell_of_row _ _ _ _ _ _ HP12.out]; rfl); have hlP : w3.heap.size < w12.heap.size := World.block_lt_of_cell? _ _ e0))
                have H12 := Lib.hid (H11.out.ex0 HXw12.out)
                refine (treadA M2 s2 p N k j w12 H12.out.m HI2.out.1 HI2.out.2).mono ?_
                rintro e w13 ⟨rfl, hx13⟩
                rw [HRE.out.1, HRE.out.2, HDA.out]
                have HB13 : Hid (w13.heap[w11.heap.size]? = some (.cells DA 49 (0, 0))) := (hx13.block _ (Array.getElem?_eq_some_iff.1 HBw12.out).1 not_false).trans HBw12.out
                have HX13 := Lib.hid (HXB.out.trans0 (HXw12.out.trans0 hx13))
                clear hx13 e0 hlP H11 H12 HP11 HP12 HBw12 HXw12
                go_wp2_with (first | (refine wpList_store_all rfl 49 (.tmp 25) (.tmp 144) rfl w13.heap.size rfl DA _ rfl 49 (heap_alloc_new _ _) (by rw [HDL.out]; rfl) HDO.out (by rw [HDL.out]; kernel_rfl) ?_; rw [World.setRow_alloc_new]; have HXw14 : Hid (Ex0 w13 (w13.alloc (.cells DA 49))) := Ex.alloc _ _; have HBw14 : Hid ((w13.alloc (.cells DA 49)).heap[w13.heap.size]? = some (.cells DA 49 (0, 0))) := heap_alloc_new _ _; obtain ⟨w14, hw14⟩ : ∃ w14, w13.alloc (.cells DA 49) = w14 := ⟨_, rfl⟩; rw [hw14] at HXw14 HBw14 ⊢; clear hw14; have HB14 : Hid (w14.heap[w11.heap.size]? = some (.cells DA 49 (0, 0))) := (HXw14.out.block _ (Array.getElem?_eq_some_iff.1 HB13.out).1 not_false).trans HB13.out; have heq := HEQ.out; have hg2 := eqg_blk) | refine wpList_load_row_g (by rfl) 49 (.tmp 23) rfl w11.heap.size rfl 49 DA (0, 0) _ HB14.out Tryz.underlying49 rfl (by rw [HDL.out]; kernel_rfl) ?_ | refine wpList_load_row_g (by rfl) 49 (.tmp 25) rfl w13.heap.size rfl 49 DA (0, 0) _ HBw14.out Tryz.underlying49 rfl (by rw [HDL.out]; kernel_rfl) ?_)
                go_roundw
                case rel => exact ⟨j + 1, by omega, by go_num, HX13.out.trans0 HXw14.out⟩
                case measure => simp [intOf]; omega
              · go_wp2
                go_roundw
                case rel => exact ⟨k + 1, by omega, by go_num, HXR.out.trans0 HXO.out⟩
                case measure => simp [intOf]; omega
          · go_wp2
            go_ret
            exact ⟨rfl, (HX1.out.trans0 (H9.out.ex0 HXR.out).x).below (Nat.le_refl _) (fun _ h => h.elim)⟩
    · have hne : ¬ (v = u ∧ b = c) := fun h => hvu h.1
      have hvu' : (v == u) = false := by simpa using hvu
      have HNE := Lib.hid hne
      clear hne
      go_wp2_with (first | (refine wpList_store_all rfl 63 (.tmp 15) (.tmp 63) rfl w3.heap.size rfl (wrC p v b (dataA xy)).toArray _ rfl 63 (heap_alloc_new _ _) rfl HCO.out (by kernel_rfl) ?_; rw [World.setRow_alloc_new]; have HXw4 : Hid (Ex0 w3 (w3.alloc (.cells (wrC p v b (dataA xy)).toArray 63))) := Ex.alloc _ _; have HBw4 : Hid ((w3.alloc (.cells (wrC p v b (dataA xy)).toArray 63)).heap[w3.heap.size]? = some (.cells (wrC p v b (dataA xy)).toArray 63 (0, 0))) := heap_alloc_new _ _; obtain ⟨w4, hw4⟩ : ∃ w4, w3.alloc (.cells (wrC p v b (dataA xy)).toArray 63) = w4 := ⟨_, rfl⟩; rw [hw4] at HXw4 HBw4 ⊢; clear hw4; have HC4 : Hid (w4.heap[W.heap.size + 1]? = some (.cells #[.int .u8 yd, .int .u8 ybr, .int .u8 yvol, .int .u8 yblk, .int .u8 ya, .int .u8 yb, .int .u8 yc, .int .u8 yy] 57 (0, 0))) := (HXw4.out.block _ (Array.getElem?_eq_some_iff.1 HC3.out).1 not_false).trans HC3.out; have c2 : w4.cell? ⟨W.heap.size + 1, 2, none⟩ = some (.int .u8 yvol) := (by rw [cell_of_row _ _ _ _ _ _ HC4.out]; rfl); have c3 : w4.cell? ⟨W.heap.size + 1, 3, none⟩ = some (.int .u8 yblk) := (by rw [cell_of_row _ _ _ _ _ _ HC4.out]; rfl); have c7 : w4.cell? ⟨W.heap.size + 1, 7, none⟩ = some (.int .u8 yy) := (by rw [cell_of_row _ _ _ _ _ _ HC4.out]; rfl); have c0 : w4.cell? ⟨w3.heap.size, 0, none⟩ = some (.int .i64 p) := (by rw [cell_of_row _ _ _ _ _ _ HBw4.out]; rfl); have hlC : W.heap.size + 1 < w4.heap.size := World.block_lt_of_cell? _ _ c2; have hlP : w3.heap.size < w4.heap.size := World.block_lt_of_cell? _ _ c0; clear a1 a2 a3 a7 hlA) | (refine wpList_store_all rfl 63 (.tmp 16) (.tmp 79) rfl w4.heap.size rfl (wrC p u c (dataB yy)).toArray _ rfl 63 (heap_alloc_new _ _) rfl HCQ.out (by kernel_rfl) ?_; rw [World.setRow_alloc_new]; have HXw5 : Hid (Ex0 w4 (w4.alloc (.cells (wrC p u c (dataB yy)).toArray 63))) := Ex.alloc _ _; have HBw5 : Hid ((w4.alloc (.cells (wrC p u c (dataB yy)).toArray 63)).heap[w4.heap.size]? = some (.cells (wrC p u c (dataB yy)).toArray 63 (0, 0))) := heap_alloc_new _ _; obtain ⟨w5, hw5⟩ : ∃ w5, w4.alloc (.cells (wrC p u c (dataB yy)).toArray 63) = w5 := ⟨_, rfl⟩; rw [hw5] at HXw5 HBw5 ⊢; clear hw5; have HP5 : Hid (w5.heap[w3.heap.size]? = some (.cells (wrC p v b (dataA xy)).toArray 63 (0, 0))) := (HXw5.out.block _ (Array.getElem?_eq_some_iff.1 HBw4.out).1 not_false).trans HBw4.out; have e0 : w5.cell? ⟨w3.heap.size, 0, none⟩ = some (.int .i64 p) := (by rw [cell_of_row _ _ _ _ _ _ HP5.out]; rfl); have e1 : w5.cell? ⟨w3.heap.size, 1, none⟩ = some (.int .i64 v) := (by rw [cell_of_row _ _ _ _ _ _ HP5.out]; rfl); have e2 : w5.cell? ⟨w3.heap.size, 2, none⟩ = some (.int .i64 b) := (by rw [cell_of_row _ _ _ _ _ _ HP5.out]; rfl); have f0 : w5.cell? ⟨w4.heap.size, 0, none⟩ = some (.int .i64 p) := (by rw [cell_of_row _ _ _ _ _ _ HBw5.out]; rfl); have f1 : w5.cell? ⟨w4.heap.size, 1, none⟩ = some (.int .i64 u) := (by rw [cell_of_row _ _ _ _ _ _ HBw5.out]; rfl); have f2 : w5.cell? ⟨w4.heap.size, 2, none⟩ = some (.int .i64 c) := (by rw [cell_of_row _ _ _ _ _ _ HBw5.out]; rfl); clear hlP; have hlP : w3.heap.size < w5.heap.size := World.block_lt_of_cell? _ _ e0; have hlQ : w4.heap.size < w5.heap.size := World.block_lt_of_cell? _ _ f0; clear c2 c3 c7 c0 hlC) | refine wpList_load_row_g (by rfl) 63 (.tmp 15) rfl w3.heap.size rfl 63 (wrC p v b (dataA xy)).toArray (0, 0) _ HP5.out Tryz.underlying63 rfl (by kernel_rfl) ?_)
      have H5 := Lib.hid (H3.out.ex0 (HXw4.out.trans0 HXw5.out))
      have HX5 : Hid (Ex0 W w5) := (HX1.out.trans0 H5.out.x)
      clear HXw4 HBw4 HXw5 HC4 HC3 HB3 H3
      have HAO := Lib.hid (apart_ok HF.out.inv HLEN.out (br := p) (v1 := v) (b1 := b) (v2 := u) (b2 := c) (dataA_ok g7) (dataB_ok k7))
      have HAQ := Lib.hid (apart_ok HF.out.inv HLEN.out (br := p) (v1 := u) (b1 := c) (v2 := v) (b2 := b) (dataB_ok k7) (dataA_ok g7))
      have HAP := Lib.hid (apart_plain HF.out.inv HLEN.out (br := p) (dataA_ok g7) (dataB_ok k7) (by have := HPR.out; omega) HTH.out HTO.out HTOP.out (by simpa using HNE.out))
      have HL9 : Hid (s.tab.length ≤ 900) := by have := HLEN.out; show _ ≤ _; omega
      have hn1 := inF_not H5.out.l (⟨_, _, HP5.out⟩ : Ty _ _ 63) (by decide) (by decide) (by decide) (by decide) (by decide) (by decide) (by decide)
      have hn2 := inF_not H5.out.l (⟨_, _, HBw5.out⟩ : Ty _ _ 63) (by decide) (by decide) (by decide) (by decide) (by decide) (by decide) (by decide)
      refine (twrite_any L s p v b (dataA xy) w5 H5.out.l HF.out.inv HL9.out).mono ?_
      rintro e w6 ⟨rfl, hop⟩
      have hxo : Ex L.F w5 w6 := by obtain ⟨_, _, _, hx, _⟩ := hop; exact hx
      have HP6 : Hid (w6.heap[w3.heap.size]? = some (.cells (wrC p v b (dataA xy)).toArray 63 (0, 0))) := (hxo.block _ (Array.getElem?_eq_some_iff.1 HP5.out).1 hn1).trans HP5.out
      have HQ6 : Hid (w6.heap[w4.heap.size]? = some (.cells (wrC p u c (dataB yy)).toArray 63 (0, 0))) := (hxo.block _ (Array.getElem?_eq_some_iff.1 HBw5.out).1 hn2).trans HBw5.out
      obtain ⟨L1, hp1, h6⟩ := H5.out.left hop
      have H6 := Lib.hid h6
      rw [← hp1]
      clear hop hxo h6 hp1 hn1 hn2 e0 e1 e2 f0 f1 f2 hlP hlQ H5 HP5 HBw5
      go_wp2_with (first | refine wpList_load_row_g (by rfl) 63 (.tmp 16) rfl w4.heap.size rfl 63 (wrC p u c (dataB yy)).toArray (0, 0) _ HQ6.out Tryz.underlying63 rfl (by kernel_rfl) ?_)
      have hn1 := inF_not H6.out.l (⟨_, _, HP6.out⟩ : Ty _ _ 63) (by decide) (by decide) (by decide) (by decide) (by decide) (by decide) (by decide)
      have hn2 := inF_not H6.out.l (⟨_, _, HQ6.out⟩ : Ty _ _ 63) (by decide) (by decide) (by decide) (by decide) (by decide) (by decide) (by decide)
      refine (twrite_any L1 (s.write p v b (dataA xy)) p u c (dataB yy) w6 H6.out.l HAO.out.1 HAO.out.2.1).mono ?_
      rintro e w7 ⟨rfl, hop⟩
      have hxo : Ex L1.F w6 w7 := by obtain ⟨_, _, _, hx, _⟩ := hop; exact hx
      have HP7 : Hid (w7.heap[w3.heap.size]? = some (.cells (wrC p v b (dataA xy)).toArray 63 (0, 0))) := (hxo.block _ (Array.getElem?_eq_some_iff.1 HP6.out).1 hn1).trans HP6.out
      have HQ7 : Hid (w7.heap[w4.heap.size]? = some (.cells (wrC p u c (dataB yy)).toArray 63 (0, 0))) := (hxo.block _ (Array.getElem?_eq_some_iff.1 HQ6.out).1 hn2).trans HQ6.out
      obtain ⟨L2, hp2, h7⟩ := H6.out.left hop
      have H7 := Lib.hid h7
      rw [← hp2]
      clear hop hxo h7 hp2 hn1 hn2 H6 HP6 HQ6
      go_wp2_with (first | refine wpList_load_row_g (by rfl) 63 (.tmp 16) rfl w4.heap.size rfl 63 (wrC p u c (dataB yy)).toArray (0, 0) _ HQ7.out Tryz.underlying63 rfl (by kernel_rfl) ?_)
      have hn1 := inF_not H7.out.symm.l (⟨_, _, HP7.out⟩ : Ty _ _ 63) (by decide) (by decide) (by decide) (by decide) (by decide) (by decide) (by decide)
      have hn2 := inF_not H7.out.symm.l (⟨_, _, HQ7.out⟩ : Ty _ _ 63) (by decide) (by decide) (by decide) (by decide) (by decide) (by decide) (by decide)
      refine (twrite_any M s p u c (dataB yy) w7 H7.out.m HF.out.inv HL9.out).mono ?_
      rintro e w8 ⟨rfl, hop⟩
      have hxo : Ex M.F w7 w8 := by obtain ⟨_, _, _, hx, _⟩ := hop; exact hx
      have HP8 : Hid (w8.heap[w3.heap.size]? = some (.cells (wrC p v b (dataA xy)).toArray 63 (0, 0))) := (hxo.block _ (Array.getElem?_eq_some_iff.1 HP7.out).1 hn1).trans HP7.out
      obtain ⟨M1, hq1, h8⟩ := H7.out.right hop
      have H8 := Lib.hid h8
      rw [← hq1]
      clear hop hxo h8 hq1 hn1 hn2 H7 HP7 HQ7
      go_wp2_with (first | refine wpList_load_row_g (by rfl) 63 (.tmp 15) rfl w3.heap.size rfl 63 (wrC p v b (dataA xy)).toArray (0, 0) _ HP8.out Tryz.underlying63 rfl (by kernel_rfl) ?_)
      have hn1 := inF_not H8.out.symm.l (⟨_, _, HP8.out⟩ : Ty _ _ 63) (by decide) (by decide) (by decide) (by decide) (by decide) (by decide) (by decide)
      refine (twrite_any M1 (s.write p u c (dataB yy)) p v b (dataA xy) w8 H8.out.m HAQ.out.1 HAQ.out.2.1).mono ?_
      rintro e w9 ⟨rfl, hop⟩
      have hxo : Ex M1.F w8 w9 := by obtain ⟨_, _, _, hx, _⟩ := hop; exact hx
      have HP9 : Hid (w9.heap[w3.heap.size]? = some (.cells (wrC p v b (dataA xy)).toArray 63 (0, 0))) := (hxo.block _ (Array.getElem?_eq_some_iff.1 HP8.out).1 hn1).trans HP8.out
      obtain ⟨M2, hq2, h9⟩ := H8.out.right hop
      have H9 := Lib.hid h9
      rw [← hq2]
      clear hop hxo h9 hq2 hn1 H8 HP8
      have HI1 := Lib.hid HAO.out.2.2
      have HI2 := Lib.hid HAQ.out.2.2
      obtain ⟨N, hN⟩ : ∃ N, (s.write p v b (dataA xy)).writeN p u c = N := ⟨_, rfl⟩
      obtain ⟨Q, hQ⟩ : ∃ Q, (s.write p v b (dataA xy)).writeE p u c = Q := ⟨_, rfl⟩
      rw [HAP.out.1, HAP.out.2.1, hN, hQ]
      have HRD := Lib.hid HAP.out.2.2
      rw [hN] at HRD
      obtain ⟨s1, hs1⟩ : ∃ s1, (s.write p v b (dataA xy)).write p u c (dataB yy) = s1 := ⟨_, rfl⟩
      obtain ⟨s2, hs2⟩ : ∃ s2, (s.write p u c (dataB yy)).write p v b (dataA xy) = s2 := ⟨_, rfl⟩
      rw [hs1, hs2] at HRD H9
      rw [hs1] at HI1
      rw [hs2] at HI2
      clear hN hQ hs1 hs2 HAP HAO HAQ
      go_wp2_with fail
      refine (top_any L2 s1 w9 H9.out.l).mono ?_
      rintro e w10 ⟨rfl, hw⟩
      rw [hw]
      clear hw w10
      go_wp2_with fail
      refine (top_any M2 s2 w9 H9.out.m).mono ?_
      rintro e w10 ⟨rfl, hw⟩
      rw [hw, HRD.out.1]
      clear hw w10
      go_wp2_with fail
      go_loopw [118] (fun i wr => ∃ k : Nat, k ≤ 2 ∧ i = .int .i64 k ∧ Ex0 w9 wr) (fun i _ => 2 - (intOf i).toNat)
      case atStart => exact ⟨0, by omega, rfl, Ex.refl _ _⟩
      case round =>
        rename World => wo
        obtain ⟨k, hk, rfl, hxr⟩ := hrel
        have HXR := Lib.hid hxr
        have hk0 : (0 : Int) ≤ (k : Int) := by omega
        clear hxr
        by_cases hk2 : (k : Int) < 2
        · go_wp2_with fail
          go_loopw [121] (fun i wx => ∃ j : Nat, j ≤ 2 ∧ i = .int .i64 j ∧ Ex0 wo wx) (fun i _ => 2 - (intOf i).toNat)
          case atStart => exact ⟨0, by omega, rfl, Ex.refl _ _⟩
          case round =>
            rename World => wx
            obtain ⟨j, hj, rfl, hxx⟩ := hrel
            have HXX := Lib.hid (HXR.out.trans0 hxx)
            have HXO := Lib.hid hxx
            clear hxx
            by_cases hj2 : (j : Int) < 2
            · have H10 := Lib.hid (H9.out.ex0 HXX.out)
              have HP10 : Hid (wx.heap[w3.heap.size]? = some (.cells (wrC p v b (dataA xy)).toArray 63 (0, 0))) := (HXX.out.block _ (Array.getElem?_eq_some_iff.1 HP9.out).1 not_false).trans HP9.out
              have e0 : wx.cell? ⟨w3.heap.size, 0, none⟩ = some (.int .i64 p) := (by rw [cell_of_row _ _ _ _ _ _ HP10.out]; rfl)
              have hlP : w3.heap.size < wx.heap.size := World.block_lt_of_cell? _ _ e0
              go_wp2_with fail
              refine (treadA L2 s1 p N k j wx H10.out.l HI1.out.1 HI1.out.2).mono ?_
              rintro e w11 ⟨rfl, hx11⟩
              have H11 := Lib.hid (H10.out.ex0 hx11)
              have HXB := Lib.hid (HXO.out.trans0 hx11)
              have HRL := Lib.hid (readD_len HI1.out.1 p N k j)
              have HRE := Lib.hid (HRD.out.2 k j)
              obtain ⟨d, hd⟩ : ∃ d, s1.readD p N k j = d := ⟨_, rfl⟩
              obtain ⟨q, hq⟩ : ∃ q, s1.readE p N k j = q := ⟨_, rfl⟩
              rw [hd, hq] at HRE
              rw [hd] at HRL
              rw [hd, hq]
              have HEQ := Lib.hid (fun w => eql_blkA d d HRL.out HRL.out w)
              rw [decide_eq_true rfl] at HEQ
              have HDL : Hid ((blkA d).size = 32) := blkA_len d
              have HDO : Hid (∀ zz ∈ blkA d, zz.oneCell' = true) := blkA_one d
              obtain ⟨DA, hDA⟩ : ∃ DA, blkA d = DA := ⟨_, rfl⟩
              have HDA := Lib.hid hDA
              rw [hDA] at HDL HDO HEQ ⊢
              have HP11 : Hid (w11.heap[w3.heap.size]? = some (.cells (wrC p v b (dataA xy)).toArray 63 (0, 0))) := (hx11.block _ (Array.getElem?_eq_some_iff.1 HP10.out).1 not_false).trans HP10.out
              clear hx11 hd hq hDA e0 hlP H10 HP10
              go_wp2_with (first | (refine wpList_store_all rfl 49 (.tmp 23) (.tmp 133) rfl w11.heap.size rfl DA _ rfl 49 (heap_alloc_new _ _) (by rw [HDL.out]; rfl) HDO.out (by rw [HDL.out]; kernel_rfl) ?_; rw [World.setRow_alloc_new]; have HXw12 : Hid (Ex0 w11 (w11.alloc (.cells DA 49))) := Ex.alloc _ _; have HBw12 : Hid ((w11.alloc (.cells DA 49)).heap[w11.heap.size]? = some (.cells DA 49 (0, 0))) := heap_alloc_new _ _; obtain ⟨w12, hw12⟩ : ∃ w12, w11.alloc (.cells DA 49) = w12 := ⟨_, rfl⟩; rw [hw12] at HXw12 HBw12 ⊢; clear hw12; have HP12 : Hid (w12.heap[w3.heap.size]? = some (.cells (wrC p v b (dataA xy)).toArray 63 (0, 0))) := (HXw12.out.block _ (Array.getElem?_eq_some_iff.1 HP11.out).1 not_false).trans HP11.out; have e0 : w12.cell? ⟨w3.heap.size, 0, none⟩ = some (.int .i64 p) := (by rw [cell_of_row _ _ _ _ _ _ HP12.out]; rfl); have hlP : w3.heap.size < w12.heap.size := World.block_lt_of_cell? _ _ e0))
              have H12 := Lib.hid (H11.out.ex0 HXw12.out)
              refine (treadA M2 s2 p N k j w12 H12.out.m HI2.out.1 HI2.out.2).mono ?_
              rintro e w13 ⟨rfl, hx13⟩
              rw [HRE.out.1, HRE.out.2, HDA.out]
              have HB13 : Hid (w13.heap[w11.heap.size]? = some (.cells DA 49 (0, 0))) := (hx13.block _ (Array.getElem?_eq_some_iff.1 HBw12.out).1 not_false).trans HBw12.out
              have HX13 := Lib.hid (HXB.out.trans0 (HXw12.out.trans0 hx13))
              clear hx13 e0 hlP H11 H12 HP11 HP12 HBw12 HXw12
              go_wp2_with (first | (refine wpList_store_all rfl 49 (.tmp 25) (.tmp 144) rfl w13.heap.size rfl DA _ rfl 49 (heap_alloc_new _ _) (by rw [HDL.out]; rfl) HDO.out (by rw [HDL.out]; kernel_rfl) ?_; rw [World.setRow_alloc_new]; have HXw14 : Hid (Ex0 w13 (w13.alloc (.cells DA 49))) := Ex.alloc _ _; have HBw14 : Hid ((w13.alloc (.cells DA 49)).heap[w13.heap.size]? = some (.cells DA 49 (0, 0))) := heap_alloc_new _ _; obtain ⟨w14, hw14⟩ : ∃ w14, w13.alloc (.cells DA 49) = w14 := ⟨_, rfl⟩; rw [hw14] at HXw14 HBw14 ⊢; clear hw14; have HB14 : Hid (w14.heap[w11.heap.size]? = some (.cells DA 49 (0, 0))) := (HXw14.out.block _ (Array.getElem?_eq_some_iff.1 HB13.out).1 not_false).trans HB13.out; have heq := HEQ.out; have hg2 := eqg_blk) | refine wpList_load_row_g (by rfl) 49 (.tmp 23) rfl w11.heap.size rfl 49 DA (0, 0) _ HB14.out Tryz.underlying49 rfl (by rw [HDL.out]; kernel_rfl) ?_ | refine wpList_load_row_g (by rfl) 49 (.tmp 25) rfl w13.heap.size rfl 49 DA (0, 0) _ HBw14.out Tryz.underlying49 rfl (by rw [HDL.out]; kernel_rfl) ?_)
              go_roundw
              case rel => exact ⟨j + 1, by omega, by go_num, HX13.out.trans0 HXw14.out⟩
              case measure => simp [intOf]; omega
            · go_wp2
              go_roundw
              case rel => exact ⟨k + 1, by omega, by go_num, HXR.out.trans0 HXO.out⟩
              case measure => simp [intOf]; omega
        · go_wp2
          go_ret
          exact ⟨rfl, (HX1.out.trans0 (H9.out.ex0 HXR.out).x).below (Nat.le_refl _) (fun _ h => h.elim)⟩
end Go.Proofs.YtoglddndicmelaaGreat.Tr
