/- Layer 54, the law's side: the walk of do (under way). Layer 54, the law's side: the walk of do: Drop (printed by genlwc.py). Layer 54, the law's side: the walk of do: Fork (printed by genlwc.py). Layer 54, the law's side: the walk of do: Lift (printed by genlwc.py). Layer 54, the law's side: the walk of do: Hold (printed by genlwc.py). Layer 54, the law's side: the walk of do: Tick (printed by genlwc.py). Layer 54, the law's side: the walk of do: Skip (printed by genlwc.py). Layer 54, the law's side: the walk of do: Write (printed by genlwc.py). -/
import Derived.Test.YtoglddndicmelaaGreatLwA
import Derived.Test.YtoglddndicmelaaGreatB9
namespace Go.Proofs.YtoglddndicmelaaGreat.Tr
open Go.RowKit Go.Proofs.YtoglddndicmelaaGreatB Go.Proofs.YtoglddndicmelaaGreat
set_option maxRecDepth 100000

/-- what do leaves -/
def DoP (w0 : World) (L : LstP) (D : RLstP) (s : TS) (w' : World) : Prop := ∃ L' D', L'.p = L.p ∧ D'.p = D.p ∧ At2 w0 w' L' D' s s
set_option maxHeartbeats 8000000 in
theorem do4_any (w0 : World) (L : LstP) (D : RLstP) (s : TS) (d br vol blk a b c y : Nat) (w : World) (h : At2 w0 w L D s s) (hI : Inv s) (hd : d < 256) (hbr : br < 256) (h4 : d % 10 = 4) :
    Calls Tryz.prog 48 #[.pointer (some ⟨L.p, 0, none⟩), .pointer (some ⟨D.p, 0, none⟩), .agg #[.int .u8 d, .int .u8 br, .int .u8 vol, .int .u8 blk, .int .u8 a, .int .u8 b, .int .u8 c, .int .u8 y]] w fun e w' => e = .returned (.int .i64 1) ∧ DoP w0 L D s.mark w' := by
  have ht := hI.top
  have HH := Lib.hid h
  obtain ⟨wa, hwa, hba, hxa⟩ : ∃ wa, w.alloc (.cells #[.int .u8 d, .int .u8 br, .int .u8 vol, .int .u8 blk, .int .u8 a, .int .u8 b, .int .u8 c, .int .u8 y] 57) = wa ∧ wa.heap[w.heap.size]? = some (.cells #[.int .u8 d, .int .u8 br, .int .u8 vol, .int .u8 blk, .int .u8 a, .int .u8 b, .int .u8 c, .int .u8 y] 57 (0, 0)) ∧ Ex0 w wa := ⟨_, rfl, heap_alloc_new _ _, Ex.alloc _ _⟩
  have c0 : wa.cell? ⟨w.heap.size, 0, none⟩ = some (.int .u8 d) := by rw [cell_of_row _ _ _ _ _ _ hba]; rfl
  have c1 : wa.cell? ⟨w.heap.size, 1, none⟩ = some (.int .u8 br) := by rw [cell_of_row _ _ _ _ _ _ hba]; rfl
  have hlt : w.heap.size < wa.heap.size := (Array.getElem?_eq_some_iff.1 hba).1
  have HWA := Lib.hid hwa
  have HXA := Lib.hid hxa
  have HBA := Lib.hid hba
  have e1 : (d : Int).tmod 10 = 4 := by rw [Int.tmod_eq_emod_of_nonneg (by omega)]; omega
  have e2 : (br : Int).tmod 5 = ((br % 5 : Nat) : Int) := by rw [Int.tmod_eq_emod_of_nonneg (by omega)]; omega
  have e3 : IntKind.i64.wrap (br : Int) = br := by rw [IntKind.wrap_i64]; omega
  have e4 : IntKind.i64.wrap ((br % 5 : Nat) : Int) = ((br % 5 : Nat) : Int) := by rw [IntKind.wrap_i64]; omega
  clear h hI hwa hba hxa
  go_enter Tryz.func48, Tryz.ntmps48
  iterate 5 go_step
  rw [HWA.out]
  go_wp2_with fail
  refine (mark_any L s wa (HH.out.ex0 HXA.out).l ht.1).mono ?_
  rintro e w1 ⟨rfl, hop⟩
  obtain ⟨L1, hp1, h1⟩ := (HH.out.ex0 HXA.out).left hop
  have H1 := Lib.hid h1
  clear hop h1 c0 c1
  go_wp2_with fail
  refine (rmark_any D s w1 H1.out.d ht.1).mono ?_
  rintro e w2 ⟨rfl, hop⟩
  obtain ⟨D1, hq1, h2⟩ := H1.out.right hop
  have H2 := Lib.hid h2
  clear hop h2 H1 HH
  rw [← hp1, ← hq1]
  have HPQ : Hid (L1.p = L.p ∧ D1.p = D.p) := ⟨hp1, hq1⟩
  clear hp1 hq1
  go_wp2_with fail
  have H3 : Hid (At2 w0 w2.drew L1 D1 s.mark s.mark) := H2.out.ex0 (Ex.drew w2)
  have hS : (fun w' : World => w'.cell? ⟨D1.p, 3, none⟩ = some (.int .u64 s.mark.top) ∧ D1.p < w'.heap.size) w2.drew := ⟨H3.out.d.cell rfl, H3.out.d.lt⟩
  obtain ⟨s', hs'⟩ : ∃ s', s.mark = s' := ⟨_, rfl⟩
  rw [hs'] at H3 hS
  have HSS := Lib.hid hs'
  clear hs'
  refine wp_region_takes (fun w' : World => w'.cell? ⟨D1.p, 3, none⟩ = some (.int .u64 s'.top) ∧ D1.p < w'.heap.size) (by kernel_rfl) ?_
  simp only [List.length_cons, List.length_nil]
  generalize w2.drew = wd at *
  refine' wpAnyH_do 0 rfl (by kernel_rfl) (fun _ _ _ _ h => h) (by rfl) (by assumption) ⟨_, fun w' hS => ?_, ?_⟩
  rotate_left
  · ((try dsimp only at hS); go_split_ands; go_simp; try (with_reducible rfl))
  simp only [Act.put, List.setIfInBounds_toArray, List.set_cons_zero, List.set_cons_succ]
  refine' wpAnyH_do 1 rfl (by kernel_rfl) (fun _ _ _ _ h => h) (by rfl) (by assumption) ⟨_, fun w' hS => ?_, ?_⟩
  rotate_left
  · ((try dsimp only at hS); go_split_ands; go_simp; try (with_reducible rfl))
  simp only [Act.put, List.setIfInBounds_toArray, List.set_cons_zero, List.set_cons_succ]
  refine' wpAnyH_do 2 rfl (by kernel_rfl) (fun _ _ _ _ h => h) (by rfl) (by assumption) ⟨_, fun w' hS => ?_, ?_⟩
  rotate_left
  · ((try dsimp only at hS); go_split_ands; go_simp; try (with_reducible rfl))
  simp only [Act.put, List.setIfInBounds_toArray, List.set_cons_zero, List.set_cons_succ]
  refine' wpAnyH_do 3 rfl (by kernel_rfl) (fun _ _ _ _ h => h) (by rfl) (by assumption) ⟨_, fun w' hS => ?_, ?_⟩
  rotate_left
  · ((try dsimp only at hS); go_split_ands; go_simp; try (with_reducible rfl))
  simp only [Act.put, List.setIfInBounds_toArray, List.set_cons_zero, List.set_cons_succ]
  refine' wpAnyH_do 5 rfl (by kernel_rfl) (fun _ _ _ _ h => h) (by rfl) (by assumption) ⟨_, fun w' hS => ?_, ?_⟩
  rotate_left
  · ((try dsimp only at hS); go_split_ands; go_simp; try (with_reducible rfl))
  simp only [Act.put, List.setIfInBounds_toArray, List.set_cons_zero, List.set_cons_succ]
  refine' wpAnyH_do 6 rfl (by kernel_rfl) (fun _ _ _ _ h => h) (by rfl) (by assumption) ⟨_, fun w' hS => ?_, ?_⟩
  rotate_left
  · ((try dsimp only at hS); go_split_ands; go_simp; try (with_reducible rfl))
  simp only [Act.put, List.setIfInBounds_toArray, List.set_cons_zero, List.set_cons_succ]
  refine' wpAnyH_do 7 rfl (by kernel_rfl) (fun _ _ _ _ h => h) (by rfl) (by assumption) ⟨_, fun w' hS => ?_, ?_⟩
  rotate_left
  · ((try dsimp only at hS); go_split_ands; go_simp; try (with_reducible rfl))
  simp only [Act.put, List.setIfInBounds_toArray, List.set_cons_zero, List.set_cons_succ]
  refine' wpAnyH_do 8 rfl (by kernel_rfl) (fun _ _ _ _ h => h) (by rfl) (by assumption) ⟨_, fun w' hS => ?_, ?_⟩
  rotate_left
  · ((try dsimp only at hS); go_split_ands; go_simp; try (with_reducible rfl))
  simp only [Act.put, List.setIfInBounds_toArray, List.set_cons_zero, List.set_cons_succ]
  refine wpAnyH_eff 4 rfl (by kernel_rfl) (by rfl) (fun K hK => ?_)
  have HKK := Lib.hid hK
  clear hK
  go_simp
  refine (top_any L1 s' wd H3.out.l).mono ?_
  rintro e w4 ⟨rfl, rfl⟩
  dsimp only
  refine HKK.out _ _ hS ?_
  clear HKK K
  (try simp only [Act.put, List.setIfInBounds_toArray, List.set_cons_zero, List.set_cons_succ])
  refine' wpAnyH_do 9 rfl (by kernel_rfl) (fun _ _ _ _ h => h) (by rfl) (by assumption) ⟨_, fun w' hS => ?_, ?_⟩
  rotate_left
  · ((try dsimp only at hS); go_split_ands; go_simp; try (with_reducible rfl))
  simp only [Act.put, List.setIfInBounds_toArray, List.set_cons_zero, List.set_cons_succ]
  refine' wpAnyH_do 10 rfl (by kernel_rfl) (fun _ _ _ _ h => h) (by rfl) (by assumption) ⟨_, fun w' hS => ?_, ?_⟩
  rotate_left
  · ((try dsimp only at hS); go_split_ands; go_simp; try (with_reducible rfl))
  simp only [Act.put, List.setIfInBounds_toArray, List.set_cons_zero, List.set_cons_succ]
  refine wpAnyH_done (by kernel_rfl) ?_ _
  go_wp2
  go_ret
  exact ⟨rfl, L1, D1, HPQ.out.1, HPQ.out.2, by rw [HSS.out]; exact H3.out⟩
end Go.Proofs.YtoglddndicmelaaGreat.Tr

namespace Go.Proofs.YtoglddndicmelaaGreat.Tr
open Go.RowKit Go.Proofs.YtoglddndicmelaaGreatB Go.Proofs.YtoglddndicmelaaGreat
set_option maxRecDepth 100000

set_option maxHeartbeats 8000000 in
theorem do6_any (w0 : World) (L : LstP) (D : RLstP) (s : TS) (d br vol blk a b c y : Nat) (w : World) (h : At2 w0 w L D s s) (hI : Inv s) (hd : d < 256) (hbr : br < 256) (h4 : d % 10 = 6) :
    Calls Tryz.prog 48 #[.pointer (some ⟨L.p, 0, none⟩), .pointer (some ⟨D.p, 0, none⟩), .agg #[.int .u8 d, .int .u8 br, .int .u8 vol, .int .u8 blk, .int .u8 a, .int .u8 b, .int .u8 c, .int .u8 y]] w fun e w' => e = .returned (.int .i64 1) ∧ DoP w0 L D (s.drop ((br : Int) % 5)) w' := by
  have ht := hI.top
  have HH := Lib.hid h
  have HIV := Lib.hid hI
  obtain ⟨wa, hwa, hba, hxa⟩ : ∃ wa, w.alloc (.cells #[.int .u8 d, .int .u8 br, .int .u8 vol, .int .u8 blk, .int .u8 a, .int .u8 b, .int .u8 c, .int .u8 y] 57) = wa ∧ wa.heap[w.heap.size]? = some (.cells #[.int .u8 d, .int .u8 br, .int .u8 vol, .int .u8 blk, .int .u8 a, .int .u8 b, .int .u8 c, .int .u8 y] 57 (0, 0)) ∧ Ex0 w wa := ⟨_, rfl, heap_alloc_new _ _, Ex.alloc _ _⟩
  have c0 : wa.cell? ⟨w.heap.size, 0, none⟩ = some (.int .u8 d) := by rw [cell_of_row _ _ _ _ _ _ hba]; rfl
  have c1 : wa.cell? ⟨w.heap.size, 1, none⟩ = some (.int .u8 br) := by rw [cell_of_row _ _ _ _ _ _ hba]; rfl
  have hlt : w.heap.size < wa.heap.size := (Array.getElem?_eq_some_iff.1 hba).1
  have HWA := Lib.hid hwa
  have HXA := Lib.hid hxa
  have HBA := Lib.hid hba
  have e1 : (d : Int).tmod 10 = 6 := by rw [Int.tmod_eq_emod_of_nonneg (by omega)]; omega
  have e2 : (br : Int).tmod 5 = ((br % 5 : Nat) : Int) := by rw [Int.tmod_eq_emod_of_nonneg (by omega)]; omega
  have e3 : IntKind.i64.wrap (br : Int) = br := by rw [IntKind.wrap_i64]; omega
  have e4 : IntKind.i64.wrap ((br % 5 : Nat) : Int) = ((br % 5 : Nat) : Int) := by rw [IntKind.wrap_i64]; omega
  clear h hI hwa hba hxa
  go_enter Tryz.func48, Tryz.ntmps48
  iterate 5 go_step
  rw [HWA.out]
  go_wp2_with fail
  refine (tdrop_any L s ((br : Int) % 5) wa (HH.out.ex0 HXA.out).l ht.1).mono ?_
  rintro e w1 ⟨rfl, hop⟩
  obtain ⟨L1, hp1, h1⟩ := (HH.out.ex0 HXA.out).left hop
  have H1 := Lib.hid h1
  clear hop h1 c0 c1
  go_wp2_with fail
  refine (rdrop54_any D s ((br : Int) % 5) w1 H1.out.d HIV.out).mono ?_
  rintro e w2 ⟨rfl, hop⟩
  obtain ⟨D1, hq1, h2⟩ := H1.out.right hop
  have H2 := Lib.hid h2
  clear hop h2 H1 HH
  rw [← hp1, ← hq1]
  have HPQ : Hid (L1.p = L.p ∧ D1.p = D.p) := ⟨hp1, hq1⟩
  clear hp1 hq1
  go_wp2_with fail
  have H3 : Hid (At2 w0 w2.drew L1 D1 (s.drop ((br : Int) % 5)) (s.drop ((br : Int) % 5))) := H2.out.ex0 (Ex.drew w2)
  have hS : (fun w' : World => w'.cell? ⟨D1.p, 3, none⟩ = some (.int .u64 (s.drop ((br : Int) % 5)).top) ∧ D1.p < w'.heap.size) w2.drew := ⟨H3.out.d.cell rfl, H3.out.d.lt⟩
  obtain ⟨s', hs'⟩ : ∃ s', (s.drop ((br : Int) % 5)) = s' := ⟨_, rfl⟩
  rw [hs'] at H3 hS
  have HSS := Lib.hid hs'
  clear hs'
  refine wp_region_takes (fun w' : World => w'.cell? ⟨D1.p, 3, none⟩ = some (.int .u64 s'.top) ∧ D1.p < w'.heap.size) (by kernel_rfl) ?_
  simp only [List.length_cons, List.length_nil]
  generalize w2.drew = wd at *
  refine' wpAnyH_do 0 rfl (by kernel_rfl) (fun _ _ _ _ h => h) (by rfl) (by assumption) ⟨_, fun w' hS => ?_, ?_⟩
  rotate_left
  · ((try dsimp only at hS); go_split_ands; go_simp; try (with_reducible rfl))
  simp only [Act.put, List.setIfInBounds_toArray, List.set_cons_zero, List.set_cons_succ]
  refine' wpAnyH_do 1 rfl (by kernel_rfl) (fun _ _ _ _ h => h) (by rfl) (by assumption) ⟨_, fun w' hS => ?_, ?_⟩
  rotate_left
  · ((try dsimp only at hS); go_split_ands; go_simp; try (with_reducible rfl))
  simp only [Act.put, List.setIfInBounds_toArray, List.set_cons_zero, List.set_cons_succ]
  refine' wpAnyH_do 2 rfl (by kernel_rfl) (fun _ _ _ _ h => h) (by rfl) (by assumption) ⟨_, fun w' hS => ?_, ?_⟩
  rotate_left
  · ((try dsimp only at hS); go_split_ands; go_simp; try (with_reducible rfl))
  simp only [Act.put, List.setIfInBounds_toArray, List.set_cons_zero, List.set_cons_succ]
  refine' wpAnyH_do 3 rfl (by kernel_rfl) (fun _ _ _ _ h => h) (by rfl) (by assumption) ⟨_, fun w' hS => ?_, ?_⟩
  rotate_left
  · ((try dsimp only at hS); go_split_ands; go_simp; try (with_reducible rfl))
  simp only [Act.put, List.setIfInBounds_toArray, List.set_cons_zero, List.set_cons_succ]
  refine' wpAnyH_do 5 rfl (by kernel_rfl) (fun _ _ _ _ h => h) (by rfl) (by assumption) ⟨_, fun w' hS => ?_, ?_⟩
  rotate_left
  · ((try dsimp only at hS); go_split_ands; go_simp; try (with_reducible rfl))
  simp only [Act.put, List.setIfInBounds_toArray, List.set_cons_zero, List.set_cons_succ]
  refine' wpAnyH_do 6 rfl (by kernel_rfl) (fun _ _ _ _ h => h) (by rfl) (by assumption) ⟨_, fun w' hS => ?_, ?_⟩
  rotate_left
  · ((try dsimp only at hS); go_split_ands; go_simp; try (with_reducible rfl))
  simp only [Act.put, List.setIfInBounds_toArray, List.set_cons_zero, List.set_cons_succ]
  refine' wpAnyH_do 7 rfl (by kernel_rfl) (fun _ _ _ _ h => h) (by rfl) (by assumption) ⟨_, fun w' hS => ?_, ?_⟩
  rotate_left
  · ((try dsimp only at hS); go_split_ands; go_simp; try (with_reducible rfl))
  simp only [Act.put, List.setIfInBounds_toArray, List.set_cons_zero, List.set_cons_succ]
  refine' wpAnyH_do 8 rfl (by kernel_rfl) (fun _ _ _ _ h => h) (by rfl) (by assumption) ⟨_, fun w' hS => ?_, ?_⟩
  rotate_left
  · ((try dsimp only at hS); go_split_ands; go_simp; try (with_reducible rfl))
  simp only [Act.put, List.setIfInBounds_toArray, List.set_cons_zero, List.set_cons_succ]
  refine wpAnyH_eff 4 rfl (by kernel_rfl) (by rfl) (fun K hK => ?_)
  have HKK := Lib.hid hK
  clear hK
  go_simp
  refine (top_any L1 s' wd H3.out.l).mono ?_
  rintro e w4 ⟨rfl, rfl⟩
  dsimp only
  refine HKK.out _ _ hS ?_
  clear HKK K
  (try simp only [Act.put, List.setIfInBounds_toArray, List.set_cons_zero, List.set_cons_succ])
  refine' wpAnyH_do 9 rfl (by kernel_rfl) (fun _ _ _ _ h => h) (by rfl) (by assumption) ⟨_, fun w' hS => ?_, ?_⟩
  rotate_left
  · ((try dsimp only at hS); go_split_ands; go_simp; try (with_reducible rfl))
  simp only [Act.put, List.setIfInBounds_toArray, List.set_cons_zero, List.set_cons_succ]
  refine' wpAnyH_do 10 rfl (by kernel_rfl) (fun _ _ _ _ h => h) (by rfl) (by assumption) ⟨_, fun w' hS => ?_, ?_⟩
  rotate_left
  · ((try dsimp only at hS); go_split_ands; go_simp; try (with_reducible rfl))
  simp only [Act.put, List.setIfInBounds_toArray, List.set_cons_zero, List.set_cons_succ]
  refine wpAnyH_done (by kernel_rfl) ?_ _
  go_wp2
  go_ret
  exact ⟨rfl, L1, D1, HPQ.out.1, HPQ.out.2, by rw [HSS.out]; exact H3.out⟩
end Go.Proofs.YtoglddndicmelaaGreat.Tr

namespace Go.Proofs.YtoglddndicmelaaGreat.Tr
open Go.RowKit Go.Proofs.YtoglddndicmelaaGreatB Go.Proofs.YtoglddndicmelaaGreat
set_option maxRecDepth 100000

set_option maxHeartbeats 8000000 in
theorem do5_any (w0 : World) (L : LstP) (D : RLstP) (s : TS) (d br vol blk a b c y : Nat) (w : World) (h : At2 w0 w L D s s) (hI : Inv s) (hd : d < 256) (hbr : br < 256) (h4 : d % 10 = 5) (ha : a < 256) :
    Calls Tryz.prog 48 #[.pointer (some ⟨L.p, 0, none⟩), .pointer (some ⟨D.p, 0, none⟩), .agg #[.int .u8 d, .int .u8 br, .int .u8 vol, .int .u8 blk, .int .u8 a, .int .u8 b, .int .u8 c, .int .u8 y]] w fun e w' => e = .returned (.int .i64 1) ∧ DoP w0 L D (s.fork ((br : Int) % 5) (belowN s.top a)) w' := by
  have ht := hI.top
  have HH := Lib.hid h
  have HIV := Lib.hid hI
  obtain ⟨wa, hwa, hba, hxa⟩ : ∃ wa, w.alloc (.cells #[.int .u8 d, .int .u8 br, .int .u8 vol, .int .u8 blk, .int .u8 a, .int .u8 b, .int .u8 c, .int .u8 y] 57) = wa ∧ wa.heap[w.heap.size]? = some (.cells #[.int .u8 d, .int .u8 br, .int .u8 vol, .int .u8 blk, .int .u8 a, .int .u8 b, .int .u8 c, .int .u8 y] 57 (0, 0)) ∧ Ex0 w wa := ⟨_, rfl, heap_alloc_new _ _, Ex.alloc _ _⟩
  have c0 : wa.cell? ⟨w.heap.size, 0, none⟩ = some (.int .u8 d) := by rw [cell_of_row _ _ _ _ _ _ hba]; rfl
  have c1 : wa.cell? ⟨w.heap.size, 1, none⟩ = some (.int .u8 br) := by rw [cell_of_row _ _ _ _ _ _ hba]; rfl
  have hlt : w.heap.size < wa.heap.size := (Array.getElem?_eq_some_iff.1 hba).1
  have HWA := Lib.hid hwa
  have HXA := Lib.hid hxa
  have HBA := Lib.hid hba
  have e1 : (d : Int).tmod 10 = 5 := by rw [Int.tmod_eq_emod_of_nonneg (by omega)]; omega
  have e2 : (br : Int).tmod 5 = ((br % 5 : Nat) : Int) := by rw [Int.tmod_eq_emod_of_nonneg (by omega)]; omega
  have e3 : IntKind.i64.wrap (br : Int) = br := by rw [IntKind.wrap_i64]; omega
  have e4 : IntKind.i64.wrap ((br % 5 : Nat) : Int) = ((br % 5 : Nat) : Int) := by rw [IntKind.wrap_i64]; omega
  clear h hI hwa hba hxa
  go_enter Tryz.func48, Tryz.ntmps48
  iterate 5 go_step
  rw [HWA.out]
  go_wp2_with fail
  have c4 : wa.cell? ⟨w.heap.size, 4, none⟩ = some (.int .u8 a) := by rw [cell_of_row _ _ _ _ _ _ HBA.out]; rfl
  have HD : Hid (At2 w0 wa.drew L D s s) := HH.out.ex0 (HXA.out.trans0 (Ex.drew wa))
  have hS : (fun w' : World => w'.cell? ⟨D.p, 3, none⟩ = some (.int .u64 s.top) ∧ D.p < w'.heap.size ∧ w'.cell? ⟨w.heap.size, 4, none⟩ = some (.int .u8 a) ∧ w.heap.size < w'.heap.size) wa.drew := ⟨HD.out.d.cell rfl, HD.out.d.lt, c4, hlt⟩
  refine wp_region_takes (fun w' : World => w'.cell? ⟨D.p, 3, none⟩ = some (.int .u64 s.top) ∧ D.p < w'.heap.size ∧ w'.cell? ⟨w.heap.size, 4, none⟩ = some (.int .u8 a) ∧ w.heap.size < w'.heap.size) (by kernel_rfl) ?_
  simp only [List.length_cons, List.length_nil]
  clear c0 c1 c4 hlt
  generalize wa.drew = wb at *
  refine' wpAnyH_do 0 rfl (by kernel_rfl) (fun _ _ _ _ h => h) (by rfl) (by assumption) ⟨_, fun w' hS => ?_, ?_⟩
  rotate_left
  · ((try dsimp only at hS); go_split_ands; go_simp; try (with_reducible rfl))
  simp only [Act.put, List.setIfInBounds_toArray, List.set_cons_zero, List.set_cons_succ]
  refine' wpAnyH_do 1 rfl (by kernel_rfl) (fun _ _ _ _ h => h) (by rfl) (by assumption) ⟨_, fun w' hS => ?_, ?_⟩
  rotate_left
  · ((try dsimp only at hS); go_split_ands; go_simp; try (with_reducible rfl))
  simp only [Act.put, List.setIfInBounds_toArray, List.set_cons_zero, List.set_cons_succ]
  refine' wpAnyH_do 2 rfl (by kernel_rfl) (fun _ _ _ _ h => h) (by rfl) (by assumption) ⟨_, fun w' hS => ?_, ?_⟩
  rotate_left
  · ((try dsimp only at hS); go_split_ands; go_simp; try (with_reducible rfl))
  simp only [Act.put, List.setIfInBounds_toArray, List.set_cons_zero, List.set_cons_succ]
  refine' wpAnyH_do 3 rfl (by kernel_rfl) (fun _ _ _ _ h => h) (by rfl) (by assumption) ⟨_, fun w' hS => ?_, ?_⟩
  rotate_left
  · ((try dsimp only at hS); go_split_ands; go_simp; try (with_reducible rfl))
  simp only [Act.put, List.setIfInBounds_toArray, List.set_cons_zero, List.set_cons_succ]
  refine' wpAnyH_do 4 rfl (by kernel_rfl) (fun _ _ _ _ h => h) (by rfl) (by assumption) ⟨_, fun w' hS => ?_, ?_⟩
  rotate_left
  · ((try dsimp only at hS); go_split_ands; go_simp; try (with_reducible rfl))
  simp only [Act.put, List.setIfInBounds_toArray, List.set_cons_zero, List.set_cons_succ]
  refine' wpAnyH_do 5 rfl (by kernel_rfl) (fun _ _ _ _ h => h) (by rfl) (by assumption) ⟨_, fun w' hS => ?_, ?_⟩
  rotate_left
  · ((try dsimp only at hS); go_split_ands; go_simp; try (with_reducible rfl))
  simp only [Act.put, List.setIfInBounds_toArray, List.set_cons_zero, List.set_cons_succ]
  refine wpAnyH_eff 6 rfl (by kernel_rfl) (by rfl) (fun K hK => ?_)
  have HKK := Lib.hid hK
  clear hK
  go_simp
  refine (below_any s.top a ha ht wb).mono ?_
  rintro e w5 ⟨rfl, rfl⟩
  dsimp only
  refine HKK.out _ _ hS ?_
  clear HKK K
  (try simp only [Act.put, List.setIfInBounds_toArray, List.set_cons_zero, List.set_cons_succ])
  refine' wpAnyH_do 7 rfl (by kernel_rfl) (fun _ _ _ _ h => h) (by rfl) (by assumption) ⟨_, fun w' hS => ?_, ?_⟩
  rotate_left
  · ((try dsimp only at hS); go_split_ands; go_simp; try (with_reducible rfl))
  simp only [Act.put, List.setIfInBounds_toArray, List.set_cons_zero, List.set_cons_succ]
  refine wpAnyH_done (by kernel_rfl) ?_ _
  clear hS
  go_wp2_with fail
  refine (tfork_any L s ((br : Int) % 5) (belowN s.top a) w5 HD.out.l HIV.out).mono ?_
  rintro e w1 ⟨rfl, hop⟩
  obtain ⟨L1, hp1, h1⟩ := HD.out.left hop
  have H1 := Lib.hid h1
  clear HD
  clear hop h1
  go_wp2_with fail
  refine (rfork54_any D s ((br : Int) % 5) (belowN s.top a) w1 H1.out.d HIV.out).mono ?_
  rintro e w2 ⟨rfl, hop⟩
  obtain ⟨D1, hq1, h2⟩ := H1.out.right hop
  have H2 := Lib.hid h2
  clear hop h2 H1 HH
  rw [← hp1, ← hq1]
  have HPQ : Hid (L1.p = L.p ∧ D1.p = D.p) := ⟨hp1, hq1⟩
  clear hp1 hq1
  go_wp2_with fail
  have H3 : Hid (At2 w0 w2.drew L1 D1 (s.fork ((br : Int) % 5) (belowN s.top a)) (s.fork ((br : Int) % 5) (belowN s.top a))) := H2.out.ex0 (Ex.drew w2)
  have hS : (fun w' : World => w'.cell? ⟨D1.p, 3, none⟩ = some (.int .u64 (s.fork ((br : Int) % 5) (belowN s.top a)).top) ∧ D1.p < w'.heap.size) w2.drew := ⟨H3.out.d.cell rfl, H3.out.d.lt⟩
  obtain ⟨s', hs'⟩ : ∃ s', (s.fork ((br : Int) % 5) (belowN s.top a)) = s' := ⟨_, rfl⟩
  rw [hs'] at H3 hS
  have HSS := Lib.hid hs'
  clear hs'
  refine wp_region_takes (fun w' : World => w'.cell? ⟨D1.p, 3, none⟩ = some (.int .u64 s'.top) ∧ D1.p < w'.heap.size) (by kernel_rfl) ?_
  simp only [List.length_cons, List.length_nil]
  generalize w2.drew = wd at *
  refine' wpAnyH_do 0 rfl (by kernel_rfl) (fun _ _ _ _ h => h) (by rfl) (by assumption) ⟨_, fun w' hS => ?_, ?_⟩
  rotate_left
  · ((try dsimp only at hS); go_split_ands; go_simp; try (with_reducible rfl))
  simp only [Act.put, List.setIfInBounds_toArray, List.set_cons_zero, List.set_cons_succ]
  refine' wpAnyH_do 1 rfl (by kernel_rfl) (fun _ _ _ _ h => h) (by rfl) (by assumption) ⟨_, fun w' hS => ?_, ?_⟩
  rotate_left
  · ((try dsimp only at hS); go_split_ands; go_simp; try (with_reducible rfl))
  simp only [Act.put, List.setIfInBounds_toArray, List.set_cons_zero, List.set_cons_succ]
  refine' wpAnyH_do 2 rfl (by kernel_rfl) (fun _ _ _ _ h => h) (by rfl) (by assumption) ⟨_, fun w' hS => ?_, ?_⟩
  rotate_left
  · ((try dsimp only at hS); go_split_ands; go_simp; try (with_reducible rfl))
  simp only [Act.put, List.setIfInBounds_toArray, List.set_cons_zero, List.set_cons_succ]
  refine' wpAnyH_do 3 rfl (by kernel_rfl) (fun _ _ _ _ h => h) (by rfl) (by assumption) ⟨_, fun w' hS => ?_, ?_⟩
  rotate_left
  · ((try dsimp only at hS); go_split_ands; go_simp; try (with_reducible rfl))
  simp only [Act.put, List.setIfInBounds_toArray, List.set_cons_zero, List.set_cons_succ]
  refine' wpAnyH_do 5 rfl (by kernel_rfl) (fun _ _ _ _ h => h) (by rfl) (by assumption) ⟨_, fun w' hS => ?_, ?_⟩
  rotate_left
  · ((try dsimp only at hS); go_split_ands; go_simp; try (with_reducible rfl))
  simp only [Act.put, List.setIfInBounds_toArray, List.set_cons_zero, List.set_cons_succ]
  refine' wpAnyH_do 6 rfl (by kernel_rfl) (fun _ _ _ _ h => h) (by rfl) (by assumption) ⟨_, fun w' hS => ?_, ?_⟩
  rotate_left
  · ((try dsimp only at hS); go_split_ands; go_simp; try (with_reducible rfl))
  simp only [Act.put, List.setIfInBounds_toArray, List.set_cons_zero, List.set_cons_succ]
  refine' wpAnyH_do 7 rfl (by kernel_rfl) (fun _ _ _ _ h => h) (by rfl) (by assumption) ⟨_, fun w' hS => ?_, ?_⟩
  rotate_left
  · ((try dsimp only at hS); go_split_ands; go_simp; try (with_reducible rfl))
  simp only [Act.put, List.setIfInBounds_toArray, List.set_cons_zero, List.set_cons_succ]
  refine' wpAnyH_do 8 rfl (by kernel_rfl) (fun _ _ _ _ h => h) (by rfl) (by assumption) ⟨_, fun w' hS => ?_, ?_⟩
  rotate_left
  · ((try dsimp only at hS); go_split_ands; go_simp; try (with_reducible rfl))
  simp only [Act.put, List.setIfInBounds_toArray, List.set_cons_zero, List.set_cons_succ]
  refine wpAnyH_eff 4 rfl (by kernel_rfl) (by rfl) (fun K hK => ?_)
  have HKK := Lib.hid hK
  clear hK
  go_simp
  refine (top_any L1 s' wd H3.out.l).mono ?_
  rintro e w4 ⟨rfl, rfl⟩
  dsimp only
  refine HKK.out _ _ hS ?_
  clear HKK K
  (try simp only [Act.put, List.setIfInBounds_toArray, List.set_cons_zero, List.set_cons_succ])
  refine' wpAnyH_do 9 rfl (by kernel_rfl) (fun _ _ _ _ h => h) (by rfl) (by assumption) ⟨_, fun w' hS => ?_, ?_⟩
  rotate_left
  · ((try dsimp only at hS); go_split_ands; go_simp; try (with_reducible rfl))
  simp only [Act.put, List.setIfInBounds_toArray, List.set_cons_zero, List.set_cons_succ]
  refine' wpAnyH_do 10 rfl (by kernel_rfl) (fun _ _ _ _ h => h) (by rfl) (by assumption) ⟨_, fun w' hS => ?_, ?_⟩
  rotate_left
  · ((try dsimp only at hS); go_split_ands; go_simp; try (with_reducible rfl))
  simp only [Act.put, List.setIfInBounds_toArray, List.set_cons_zero, List.set_cons_succ]
  refine wpAnyH_done (by kernel_rfl) ?_ _
  go_wp2
  go_ret
  exact ⟨rfl, L1, D1, HPQ.out.1, HPQ.out.2, by rw [HSS.out]; exact H3.out⟩
end Go.Proofs.YtoglddndicmelaaGreat.Tr

namespace Go.Proofs.YtoglddndicmelaaGreat.Tr
open Go.RowKit Go.Proofs.YtoglddndicmelaaGreatB Go.Proofs.YtoglddndicmelaaGreat
set_option maxRecDepth 100000

set_option maxHeartbeats 8000000 in
theorem do8_any (w0 : World) (L : LstP) (D : RLstP) (s : TS) (d br vol blk a b c y : Nat) (w : World) (h : At2 w0 w L D s s) (hI : Inv s) (hd : d < 256) (hbr : br < 256) (h4 : d % 10 = 8) (ha : a < 256) :
    Calls Tryz.prog 48 #[.pointer (some ⟨L.p, 0, none⟩), .pointer (some ⟨D.p, 0, none⟩), .agg #[.int .u8 d, .int .u8 br, .int .u8 vol, .int .u8 blk, .int .u8 a, .int .u8 b, .int .u8 c, .int .u8 y]] w fun e w' => e = .returned (.int .i64 1) ∧ DoP w0 L D (s.lift (belowN s.top a)) w' := by
  have ht := hI.top
  have HH := Lib.hid h
  have HIV := Lib.hid hI
  obtain ⟨wa, hwa, hba, hxa⟩ : ∃ wa, w.alloc (.cells #[.int .u8 d, .int .u8 br, .int .u8 vol, .int .u8 blk, .int .u8 a, .int .u8 b, .int .u8 c, .int .u8 y] 57) = wa ∧ wa.heap[w.heap.size]? = some (.cells #[.int .u8 d, .int .u8 br, .int .u8 vol, .int .u8 blk, .int .u8 a, .int .u8 b, .int .u8 c, .int .u8 y] 57 (0, 0)) ∧ Ex0 w wa := ⟨_, rfl, heap_alloc_new _ _, Ex.alloc _ _⟩
  have c0 : wa.cell? ⟨w.heap.size, 0, none⟩ = some (.int .u8 d) := by rw [cell_of_row _ _ _ _ _ _ hba]; rfl
  have c1 : wa.cell? ⟨w.heap.size, 1, none⟩ = some (.int .u8 br) := by rw [cell_of_row _ _ _ _ _ _ hba]; rfl
  have hlt : w.heap.size < wa.heap.size := (Array.getElem?_eq_some_iff.1 hba).1
  have HWA := Lib.hid hwa
  have HXA := Lib.hid hxa
  have HBA := Lib.hid hba
  have e1 : (d : Int).tmod 10 = 8 := by rw [Int.tmod_eq_emod_of_nonneg (by omega)]; omega
  have e2 : (br : Int).tmod 5 = ((br % 5 : Nat) : Int) := by rw [Int.tmod_eq_emod_of_nonneg (by omega)]; omega
  have e3 : IntKind.i64.wrap (br : Int) = br := by rw [IntKind.wrap_i64]; omega
  have e4 : IntKind.i64.wrap ((br % 5 : Nat) : Int) = ((br % 5 : Nat) : Int) := by rw [IntKind.wrap_i64]; omega
  clear h hI hwa hba hxa
  go_enter Tryz.func48, Tryz.ntmps48
  iterate 5 go_step
  rw [HWA.out]
  go_wp2_with fail
  have c4 : wa.cell? ⟨w.heap.size, 4, none⟩ = some (.int .u8 a) := by rw [cell_of_row _ _ _ _ _ _ HBA.out]; rfl
  have HD : Hid (At2 w0 wa.drew L D s s) := HH.out.ex0 (HXA.out.trans0 (Ex.drew wa))
  have hS : (fun w' : World => w'.cell? ⟨D.p, 3, none⟩ = some (.int .u64 s.top) ∧ D.p < w'.heap.size ∧ w'.cell? ⟨w.heap.size, 4, none⟩ = some (.int .u8 a) ∧ w.heap.size < w'.heap.size) wa.drew := ⟨HD.out.d.cell rfl, HD.out.d.lt, c4, hlt⟩
  refine wp_region_takes (fun w' : World => w'.cell? ⟨D.p, 3, none⟩ = some (.int .u64 s.top) ∧ D.p < w'.heap.size ∧ w'.cell? ⟨w.heap.size, 4, none⟩ = some (.int .u8 a) ∧ w.heap.size < w'.heap.size) (by kernel_rfl) ?_
  simp only [List.length_cons, List.length_nil]
  clear c0 c1 c4 hlt
  generalize wa.drew = wb at *
  refine' wpAnyH_do 0 rfl (by kernel_rfl) (fun _ _ _ _ h => h) (by rfl) (by assumption) ⟨_, fun w' hS => ?_, ?_⟩
  rotate_left
  · ((try dsimp only at hS); go_split_ands; go_simp; try (with_reducible rfl))
  simp only [Act.put, List.setIfInBounds_toArray, List.set_cons_zero, List.set_cons_succ]
  refine' wpAnyH_do 1 rfl (by kernel_rfl) (fun _ _ _ _ h => h) (by rfl) (by assumption) ⟨_, fun w' hS => ?_, ?_⟩
  rotate_left
  · ((try dsimp only at hS); go_split_ands; go_simp; try (with_reducible rfl))
  simp only [Act.put, List.setIfInBounds_toArray, List.set_cons_zero, List.set_cons_succ]
  refine' wpAnyH_do 2 rfl (by kernel_rfl) (fun _ _ _ _ h => h) (by rfl) (by assumption) ⟨_, fun w' hS => ?_, ?_⟩
  rotate_left
  · ((try dsimp only at hS); go_split_ands; go_simp; try (with_reducible rfl))
  simp only [Act.put, List.setIfInBounds_toArray, List.set_cons_zero, List.set_cons_succ]
  refine' wpAnyH_do 3 rfl (by kernel_rfl) (fun _ _ _ _ h => h) (by rfl) (by assumption) ⟨_, fun w' hS => ?_, ?_⟩
  rotate_left
  · ((try dsimp only at hS); go_split_ands; go_simp; try (with_reducible rfl))
  simp only [Act.put, List.setIfInBounds_toArray, List.set_cons_zero, List.set_cons_succ]
  refine' wpAnyH_do 4 rfl (by kernel_rfl) (fun _ _ _ _ h => h) (by rfl) (by assumption) ⟨_, fun w' hS => ?_, ?_⟩
  rotate_left
  · ((try dsimp only at hS); go_split_ands; go_simp; try (with_reducible rfl))
  simp only [Act.put, List.setIfInBounds_toArray, List.set_cons_zero, List.set_cons_succ]
  refine' wpAnyH_do 5 rfl (by kernel_rfl) (fun _ _ _ _ h => h) (by rfl) (by assumption) ⟨_, fun w' hS => ?_, ?_⟩
  rotate_left
  · ((try dsimp only at hS); go_split_ands; go_simp; try (with_reducible rfl))
  simp only [Act.put, List.setIfInBounds_toArray, List.set_cons_zero, List.set_cons_succ]
  refine wpAnyH_eff 6 rfl (by kernel_rfl) (by rfl) (fun K hK => ?_)
  have HKK := Lib.hid hK
  clear hK
  go_simp
  refine (below_any s.top a ha ht wb).mono ?_
  rintro e w5 ⟨rfl, rfl⟩
  dsimp only
  refine HKK.out _ _ hS ?_
  clear HKK K
  (try simp only [Act.put, List.setIfInBounds_toArray, List.set_cons_zero, List.set_cons_succ])
  refine' wpAnyH_do 7 rfl (by kernel_rfl) (fun _ _ _ _ h => h) (by rfl) (by assumption) ⟨_, fun w' hS => ?_, ?_⟩
  rotate_left
  · ((try dsimp only at hS); go_split_ands; go_simp; try (with_reducible rfl))
  simp only [Act.put, List.setIfInBounds_toArray, List.set_cons_zero, List.set_cons_succ]
  refine wpAnyH_done (by kernel_rfl) ?_ _
  clear hS
  go_wp2_with fail
  refine (tlift_any L s (belowN s.top a) w5 HD.out.l ht.1 HIV.out.hlen).mono ?_
  rintro e w1 ⟨rfl, hop⟩
  obtain ⟨L1, hp1, h1⟩ := HD.out.left hop
  have H1 := Lib.hid h1
  clear HD
  clear hop h1
  go_wp2_with fail
  refine (rlift54_any D s (belowN s.top a) w1 H1.out.d HIV.out).mono ?_
  rintro e w2 ⟨rfl, hop⟩
  obtain ⟨D1, hq1, h2⟩ := H1.out.right hop
  have H2 := Lib.hid h2
  clear hop h2 H1 HH
  rw [← hp1, ← hq1]
  have HPQ : Hid (L1.p = L.p ∧ D1.p = D.p) := ⟨hp1, hq1⟩
  clear hp1 hq1
  go_wp2_with fail
  have H3 : Hid (At2 w0 w2.drew L1 D1 (s.lift (belowN s.top a)) (s.lift (belowN s.top a))) := H2.out.ex0 (Ex.drew w2)
  have hS : (fun w' : World => w'.cell? ⟨D1.p, 3, none⟩ = some (.int .u64 (s.lift (belowN s.top a)).top) ∧ D1.p < w'.heap.size) w2.drew := ⟨H3.out.d.cell rfl, H3.out.d.lt⟩
  obtain ⟨s', hs'⟩ : ∃ s', (s.lift (belowN s.top a)) = s' := ⟨_, rfl⟩
  rw [hs'] at H3 hS
  have HSS := Lib.hid hs'
  clear hs'
  refine wp_region_takes (fun w' : World => w'.cell? ⟨D1.p, 3, none⟩ = some (.int .u64 s'.top) ∧ D1.p < w'.heap.size) (by kernel_rfl) ?_
  simp only [List.length_cons, List.length_nil]
  generalize w2.drew = wd at *
  refine' wpAnyH_do 0 rfl (by kernel_rfl) (fun _ _ _ _ h => h) (by rfl) (by assumption) ⟨_, fun w' hS => ?_, ?_⟩
  rotate_left
  · ((try dsimp only at hS); go_split_ands; go_simp; try (with_reducible rfl))
  simp only [Act.put, List.setIfInBounds_toArray, List.set_cons_zero, List.set_cons_succ]
  refine' wpAnyH_do 1 rfl (by kernel_rfl) (fun _ _ _ _ h => h) (by rfl) (by assumption) ⟨_, fun w' hS => ?_, ?_⟩
  rotate_left
  · ((try dsimp only at hS); go_split_ands; go_simp; try (with_reducible rfl))
  simp only [Act.put, List.setIfInBounds_toArray, List.set_cons_zero, List.set_cons_succ]
  refine' wpAnyH_do 2 rfl (by kernel_rfl) (fun _ _ _ _ h => h) (by rfl) (by assumption) ⟨_, fun w' hS => ?_, ?_⟩
  rotate_left
  · ((try dsimp only at hS); go_split_ands; go_simp; try (with_reducible rfl))
  simp only [Act.put, List.setIfInBounds_toArray, List.set_cons_zero, List.set_cons_succ]
  refine' wpAnyH_do 3 rfl (by kernel_rfl) (fun _ _ _ _ h => h) (by rfl) (by assumption) ⟨_, fun w' hS => ?_, ?_⟩
  rotate_left
  · ((try dsimp only at hS); go_split_ands; go_simp; try (with_reducible rfl))
  simp only [Act.put, List.setIfInBounds_toArray, List.set_cons_zero, List.set_cons_succ]
  refine' wpAnyH_do 5 rfl (by kernel_rfl) (fun _ _ _ _ h => h) (by rfl) (by assumption) ⟨_, fun w' hS => ?_, ?_⟩
  rotate_left
  · ((try dsimp only at hS); go_split_ands; go_simp; try (with_reducible rfl))
  simp only [Act.put, List.setIfInBounds_toArray, List.set_cons_zero, List.set_cons_succ]
  refine' wpAnyH_do 6 rfl (by kernel_rfl) (fun _ _ _ _ h => h) (by rfl) (by assumption) ⟨_, fun w' hS => ?_, ?_⟩
  rotate_left
  · ((try dsimp only at hS); go_split_ands; go_simp; try (with_reducible rfl))
  simp only [Act.put, List.setIfInBounds_toArray, List.set_cons_zero, List.set_cons_succ]
  refine' wpAnyH_do 7 rfl (by kernel_rfl) (fun _ _ _ _ h => h) (by rfl) (by assumption) ⟨_, fun w' hS => ?_, ?_⟩
  rotate_left
  · ((try dsimp only at hS); go_split_ands; go_simp; try (with_reducible rfl))
  simp only [Act.put, List.setIfInBounds_toArray, List.set_cons_zero, List.set_cons_succ]
  refine' wpAnyH_do 8 rfl (by kernel_rfl) (fun _ _ _ _ h => h) (by rfl) (by assumption) ⟨_, fun w' hS => ?_, ?_⟩
  rotate_left
  · ((try dsimp only at hS); go_split_ands; go_simp; try (with_reducible rfl))
  simp only [Act.put, List.setIfInBounds_toArray, List.set_cons_zero, List.set_cons_succ]
  refine wpAnyH_eff 4 rfl (by kernel_rfl) (by rfl) (fun K hK => ?_)
  have HKK := Lib.hid hK
  clear hK
  go_simp
  refine (top_any L1 s' wd H3.out.l).mono ?_
  rintro e w4 ⟨rfl, rfl⟩
  dsimp only
  refine HKK.out _ _ hS ?_
  clear HKK K
  (try simp only [Act.put, List.setIfInBounds_toArray, List.set_cons_zero, List.set_cons_succ])
  refine' wpAnyH_do 9 rfl (by kernel_rfl) (fun _ _ _ _ h => h) (by rfl) (by assumption) ⟨_, fun w' hS => ?_, ?_⟩
  rotate_left
  · ((try dsimp only at hS); go_split_ands; go_simp; try (with_reducible rfl))
  simp only [Act.put, List.setIfInBounds_toArray, List.set_cons_zero, List.set_cons_succ]
  refine' wpAnyH_do 10 rfl (by kernel_rfl) (fun _ _ _ _ h => h) (by rfl) (by assumption) ⟨_, fun w' hS => ?_, ?_⟩
  rotate_left
  · ((try dsimp only at hS); go_split_ands; go_simp; try (with_reducible rfl))
  simp only [Act.put, List.setIfInBounds_toArray, List.set_cons_zero, List.set_cons_succ]
  refine wpAnyH_done (by kernel_rfl) ?_ _
  go_wp2
  go_ret
  exact ⟨rfl, L1, D1, HPQ.out.1, HPQ.out.2, by rw [HSS.out]; exact H3.out⟩
end Go.Proofs.YtoglddndicmelaaGreat.Tr

namespace Go.Proofs.YtoglddndicmelaaGreat.Tr
open Go.RowKit Go.Proofs.YtoglddndicmelaaGreatB Go.Proofs.YtoglddndicmelaaGreat
set_option maxRecDepth 100000

set_option maxHeartbeats 8000000 in
theorem do7_any (w0 : World) (L : LstP) (D : RLstP) (s : TS) (d br vol blk a b c y : Nat) (w : World) (h : At2 w0 w L D s s) (hI : Inv s) (hd : d < 256) (hbr : br < 256) (h4 : d % 10 = 7) (ha : a < 256) (hb : b < 256) (hc : c < 256) :
    Calls Tryz.prog 48 #[.pointer (some ⟨L.p, 0, none⟩), .pointer (some ⟨D.p, 0, none⟩), .agg #[.int .u8 d, .int .u8 br, .int .u8 vol, .int .u8 blk, .int .u8 a, .int .u8 b, .int .u8 c, .int .u8 y]] w fun e w' => e = .returned (.int .i64 1) ∧ DoP w0 L D (s.hold a b (s.now + c)) w' := by
  have ht := hI.top
  have HH := Lib.hid h
  have HIV := Lib.hid hI
  obtain ⟨wa, hwa, hba, hxa⟩ : ∃ wa, w.alloc (.cells #[.int .u8 d, .int .u8 br, .int .u8 vol, .int .u8 blk, .int .u8 a, .int .u8 b, .int .u8 c, .int .u8 y] 57) = wa ∧ wa.heap[w.heap.size]? = some (.cells #[.int .u8 d, .int .u8 br, .int .u8 vol, .int .u8 blk, .int .u8 a, .int .u8 b, .int .u8 c, .int .u8 y] 57 (0, 0)) ∧ Ex0 w wa := ⟨_, rfl, heap_alloc_new _ _, Ex.alloc _ _⟩
  have c0 : wa.cell? ⟨w.heap.size, 0, none⟩ = some (.int .u8 d) := by rw [cell_of_row _ _ _ _ _ _ hba]; rfl
  have c1 : wa.cell? ⟨w.heap.size, 1, none⟩ = some (.int .u8 br) := by rw [cell_of_row _ _ _ _ _ _ hba]; rfl
  have hlt : w.heap.size < wa.heap.size := (Array.getElem?_eq_some_iff.1 hba).1
  have HWA := Lib.hid hwa
  have HXA := Lib.hid hxa
  have HBA := Lib.hid hba
  have e1 : (d : Int).tmod 10 = 7 := by rw [Int.tmod_eq_emod_of_nonneg (by omega)]; omega
  have e2 : (br : Int).tmod 5 = ((br % 5 : Nat) : Int) := by rw [Int.tmod_eq_emod_of_nonneg (by omega)]; omega
  have e3 : IntKind.i64.wrap (br : Int) = br := by rw [IntKind.wrap_i64]; omega
  have e4 : IntKind.i64.wrap ((br % 5 : Nat) : Int) = ((br % 5 : Nat) : Int) := by rw [IntKind.wrap_i64]; omega
  clear h hI hwa hba hxa
  go_enter Tryz.func48, Tryz.ntmps48
  iterate 5 go_step
  rw [HWA.out]
  have c4 : wa.cell? ⟨w.heap.size, 4, none⟩ = some (.int .u8 a) := by rw [cell_of_row _ _ _ _ _ _ HBA.out]; rfl
  have c5 : wa.cell? ⟨w.heap.size, 5, none⟩ = some (.int .u8 b) := by rw [cell_of_row _ _ _ _ _ _ HBA.out]; rfl
  have c6 : wa.cell? ⟨w.heap.size, 6, none⟩ = some (.int .u8 c) := by rw [cell_of_row _ _ _ _ _ _ HBA.out]; rfl
  have n2 : wa.cell? ⟨D.p, 2, none⟩ = some (.int .i64 s.now) := (HH.out.ex0 HXA.out).d.cell rfl
  have hlD : D.p < wa.heap.size := (HH.out.ex0 HXA.out).d.lt
  have hnw := HIV.out.now
  have ea : IntKind.i64.wrap (a : Int) = a := by rw [IntKind.wrap_i64]; omega
  have eb : IntKind.i64.wrap (b : Int) = b := by rw [IntKind.wrap_i64]; omega
  have ec : IntKind.i64.wrap (c : Int) = c := by rw [IntKind.wrap_i64]; omega
  have en : IntKind.i64.wrap (s.now + c) = s.now + c := by rw [IntKind.wrap_i64]; omega
  go_wp2_with fail
  go_quiet (fail)
  go_wp2_with fail
  have HD : Hid (At2 w0 (wa.drewN nq) L D s s) := HH.out.ex0 (HXA.out.drewN' nq)
  have hxb : Ex0 wa (wa.drewN nq) := (show Ex0 wa wa from Ex.refl _ _).drewN' nq
  have B4 := Lib.hid (hxb.cellS c4 not_false)
  have B5 := Lib.hid (hxb.cellS c5 not_false)
  have hnF : ¬ L.F w.heap.size := fun hf => by have := HH.out.l.inF _ hf; omega
  clear c0 c1 c4 c5 c6 n2 hlD hlt hxb
  generalize wa.drewN nq = wb at *
  refine (thold_any L s a b (s.now + c) wb HD.out.l HIV.out).mono ?_
  rintro e w1 ⟨rfl, hop⟩
  have hxo : Ex L.F wb w1 := by obtain ⟨_, _, _, hx, _⟩ := hop; exact hx
  have c4 := hxo.cellS B4.out hnF
  have c5 := hxo.cellS B5.out hnF
  have hlt : w.heap.size < w1.heap.size := World.block_lt_of_cell? _ _ c4
  clear hxo B4 B5
  obtain ⟨L1, hp1, h1⟩ := HD.out.left hop
  have H1 := Lib.hid h1
  clear HD
  clear hop h1
  go_wp2_with fail
  refine (rhold54_any D s a b (s.now + c) w1 H1.out.d HIV.out).mono ?_
  rintro e w2 ⟨rfl, hop⟩
  obtain ⟨D1, hq1, h2⟩ := H1.out.right hop
  have H2 := Lib.hid h2
  clear hop h2 H1 HH
  rw [← hp1, ← hq1]
  have HPQ : Hid (L1.p = L.p ∧ D1.p = D.p) := ⟨hp1, hq1⟩
  clear hp1 hq1
  go_wp2_with fail
  have H3 : Hid (At2 w0 w2.drew L1 D1 (s.hold a b (s.now + c)) (s.hold a b (s.now + c))) := H2.out.ex0 (Ex.drew w2)
  have hS : (fun w' : World => w'.cell? ⟨D1.p, 3, none⟩ = some (.int .u64 (s.hold a b (s.now + c)).top) ∧ D1.p < w'.heap.size) w2.drew := ⟨H3.out.d.cell rfl, H3.out.d.lt⟩
  obtain ⟨s', hs'⟩ : ∃ s', (s.hold a b (s.now + c)) = s' := ⟨_, rfl⟩
  rw [hs'] at H3 hS
  have HSS := Lib.hid hs'
  clear hs'
  refine wp_region_takes (fun w' : World => w'.cell? ⟨D1.p, 3, none⟩ = some (.int .u64 s'.top) ∧ D1.p < w'.heap.size) (by kernel_rfl) ?_
  simp only [List.length_cons, List.length_nil]
  generalize w2.drew = wd at *
  refine' wpAnyH_do 0 rfl (by kernel_rfl) (fun _ _ _ _ h => h) (by rfl) (by assumption) ⟨_, fun w' hS => ?_, ?_⟩
  rotate_left
  · ((try dsimp only at hS); go_split_ands; go_simp; try (with_reducible rfl))
  simp only [Act.put, List.setIfInBounds_toArray, List.set_cons_zero, List.set_cons_succ]
  refine' wpAnyH_do 1 rfl (by kernel_rfl) (fun _ _ _ _ h => h) (by rfl) (by assumption) ⟨_, fun w' hS => ?_, ?_⟩
  rotate_left
  · ((try dsimp only at hS); go_split_ands; go_simp; try (with_reducible rfl))
  simp only [Act.put, List.setIfInBounds_toArray, List.set_cons_zero, List.set_cons_succ]
  refine' wpAnyH_do 2 rfl (by kernel_rfl) (fun _ _ _ _ h => h) (by rfl) (by assumption) ⟨_, fun w' hS => ?_, ?_⟩
  rotate_left
  · ((try dsimp only at hS); go_split_ands; go_simp; try (with_reducible rfl))
  simp only [Act.put, List.setIfInBounds_toArray, List.set_cons_zero, List.set_cons_succ]
  refine' wpAnyH_do 3 rfl (by kernel_rfl) (fun _ _ _ _ h => h) (by rfl) (by assumption) ⟨_, fun w' hS => ?_, ?_⟩
  rotate_left
  · ((try dsimp only at hS); go_split_ands; go_simp; try (with_reducible rfl))
  simp only [Act.put, List.setIfInBounds_toArray, List.set_cons_zero, List.set_cons_succ]
  refine' wpAnyH_do 5 rfl (by kernel_rfl) (fun _ _ _ _ h => h) (by rfl) (by assumption) ⟨_, fun w' hS => ?_, ?_⟩
  rotate_left
  · ((try dsimp only at hS); go_split_ands; go_simp; try (with_reducible rfl))
  simp only [Act.put, List.setIfInBounds_toArray, List.set_cons_zero, List.set_cons_succ]
  refine' wpAnyH_do 6 rfl (by kernel_rfl) (fun _ _ _ _ h => h) (by rfl) (by assumption) ⟨_, fun w' hS => ?_, ?_⟩
  rotate_left
  · ((try dsimp only at hS); go_split_ands; go_simp; try (with_reducible rfl))
  simp only [Act.put, List.setIfInBounds_toArray, List.set_cons_zero, List.set_cons_succ]
  refine' wpAnyH_do 7 rfl (by kernel_rfl) (fun _ _ _ _ h => h) (by rfl) (by assumption) ⟨_, fun w' hS => ?_, ?_⟩
  rotate_left
  · ((try dsimp only at hS); go_split_ands; go_simp; try (with_reducible rfl))
  simp only [Act.put, List.setIfInBounds_toArray, List.set_cons_zero, List.set_cons_succ]
  refine' wpAnyH_do 8 rfl (by kernel_rfl) (fun _ _ _ _ h => h) (by rfl) (by assumption) ⟨_, fun w' hS => ?_, ?_⟩
  rotate_left
  · ((try dsimp only at hS); go_split_ands; go_simp; try (with_reducible rfl))
  simp only [Act.put, List.setIfInBounds_toArray, List.set_cons_zero, List.set_cons_succ]
  refine wpAnyH_eff 4 rfl (by kernel_rfl) (by rfl) (fun K hK => ?_)
  have HKK := Lib.hid hK
  clear hK
  go_simp
  refine (top_any L1 s' wd H3.out.l).mono ?_
  rintro e w4 ⟨rfl, rfl⟩
  dsimp only
  refine HKK.out _ _ hS ?_
  clear HKK K
  (try simp only [Act.put, List.setIfInBounds_toArray, List.set_cons_zero, List.set_cons_succ])
  refine' wpAnyH_do 9 rfl (by kernel_rfl) (fun _ _ _ _ h => h) (by rfl) (by assumption) ⟨_, fun w' hS => ?_, ?_⟩
  rotate_left
  · ((try dsimp only at hS); go_split_ands; go_simp; try (with_reducible rfl))
  simp only [Act.put, List.setIfInBounds_toArray, List.set_cons_zero, List.set_cons_succ]
  refine' wpAnyH_do 10 rfl (by kernel_rfl) (fun _ _ _ _ h => h) (by rfl) (by assumption) ⟨_, fun w' hS => ?_, ?_⟩
  rotate_left
  · ((try dsimp only at hS); go_split_ands; go_simp; try (with_reducible rfl))
  simp only [Act.put, List.setIfInBounds_toArray, List.set_cons_zero, List.set_cons_succ]
  refine wpAnyH_done (by kernel_rfl) ?_ _
  go_wp2
  go_ret
  exact ⟨rfl, L1, D1, HPQ.out.1, HPQ.out.2, by rw [HSS.out]; exact H3.out⟩
end Go.Proofs.YtoglddndicmelaaGreat.Tr

namespace Go.Proofs.YtoglddndicmelaaGreat.Tr
open Go.RowKit Go.Proofs.YtoglddndicmelaaGreatB Go.Proofs.YtoglddndicmelaaGreat
set_option maxRecDepth 100000

set_option maxHeartbeats 8000000 in
theorem do3_any (w0 : World) (L : LstP) (D : RLstP) (s : TS) (d br vol blk a b c y : Nat) (w : World) (h : At2 w0 w L D s s) (hI : Inv s) (hd : d < 256) (hbr : br < 256) (h4 : d % 10 = 3) (ha : a < 256) :
    Calls Tryz.prog 48 #[.pointer (some ⟨L.p, 0, none⟩), .pointer (some ⟨D.p, 0, none⟩), .agg #[.int .u8 d, .int .u8 br, .int .u8 vol, .int .u8 blk, .int .u8 a, .int .u8 b, .int .u8 c, .int .u8 y]] w fun e w' => e = .returned (.int .i64 1) ∧ DoP w0 L D (s.tick (s.now + a - 1)) w' := by
  have ht := hI.top
  have HH := Lib.hid h
  have HIV := Lib.hid hI
  obtain ⟨wa, hwa, hba, hxa⟩ : ∃ wa, w.alloc (.cells #[.int .u8 d, .int .u8 br, .int .u8 vol, .int .u8 blk, .int .u8 a, .int .u8 b, .int .u8 c, .int .u8 y] 57) = wa ∧ wa.heap[w.heap.size]? = some (.cells #[.int .u8 d, .int .u8 br, .int .u8 vol, .int .u8 blk, .int .u8 a, .int .u8 b, .int .u8 c, .int .u8 y] 57 (0, 0)) ∧ Ex0 w wa := ⟨_, rfl, heap_alloc_new _ _, Ex.alloc _ _⟩
  have c0 : wa.cell? ⟨w.heap.size, 0, none⟩ = some (.int .u8 d) := by rw [cell_of_row _ _ _ _ _ _ hba]; rfl
  have c1 : wa.cell? ⟨w.heap.size, 1, none⟩ = some (.int .u8 br) := by rw [cell_of_row _ _ _ _ _ _ hba]; rfl
  have hlt : w.heap.size < wa.heap.size := (Array.getElem?_eq_some_iff.1 hba).1
  have HWA := Lib.hid hwa
  have HXA := Lib.hid hxa
  have HBA := Lib.hid hba
  have e1 : (d : Int).tmod 10 = 3 := by rw [Int.tmod_eq_emod_of_nonneg (by omega)]; omega
  have e2 : (br : Int).tmod 5 = ((br % 5 : Nat) : Int) := by rw [Int.tmod_eq_emod_of_nonneg (by omega)]; omega
  have e3 : IntKind.i64.wrap (br : Int) = br := by rw [IntKind.wrap_i64]; omega
  have e4 : IntKind.i64.wrap ((br % 5 : Nat) : Int) = ((br % 5 : Nat) : Int) := by rw [IntKind.wrap_i64]; omega
  clear h hI hwa hba hxa
  go_enter Tryz.func48, Tryz.ntmps48
  iterate 5 go_step
  rw [HWA.out]
  have hnw := HIV.out.now
  have ea : IntKind.i64.wrap (a : Int) = a := by rw [IntKind.wrap_i64]; omega
  have en : IntKind.i64.wrap (s.now + a) = s.now + a := by rw [IntKind.wrap_i64]; omega
  have em : IntKind.i64.wrap (s.now + a - 1) = s.now + a - 1 := by rw [IntKind.wrap_i64]; omega
  have c4 : wa.cell? ⟨w.heap.size, 4, none⟩ = some (.int .u8 a) := by rw [cell_of_row _ _ _ _ _ _ HBA.out]; rfl
  go_wp2_with fail
  have HD : Hid (At2 w0 wa.drew L D s s) := HH.out.ex0 (HXA.out.trans0 (Ex.drew wa))
  have hS : (fun w' : World => w'.cell? ⟨D.p, 2, none⟩ = some (.int .i64 s.now) ∧ D.p < w'.heap.size ∧ w'.cell? ⟨w.heap.size, 4, none⟩ = some (.int .u8 a) ∧ w.heap.size < w'.heap.size) wa.drew := ⟨HD.out.d.cell rfl, HD.out.d.lt, c4, hlt⟩
  have hnF : ¬ L.F w.heap.size := fun hf => by have := HH.out.l.inF _ hf; omega
  have hnD : ¬ L.F D.p := fun hf => HH.out.dj _ hf (.inl (.inl rfl))
  refine wp_region_till (fun w' : World => w'.cell? ⟨D.p, 2, none⟩ = some (.int .i64 s.now) ∧ D.p < w'.heap.size ∧ w'.cell? ⟨w.heap.size, 4, none⟩ = some (.int .u8 a) ∧ w.heap.size < w'.heap.size) 21 (by kernel_rfl) ?_
  simp only [List.length_cons, List.length_nil]
  clear c0 c1 c4 hlt
  generalize wa.drew = wb at *
  refine' wpTill_do 0 rfl (by kernel_rfl) (fun _ _ _ _ h => h) (by rfl) (by assumption) ⟨_, fun w' hS => ?_, ?_⟩
  rotate_left
  · ((try dsimp only at hS); go_split_ands; go_simp; try (with_reducible rfl))
  simp only [Act.put, List.setIfInBounds_toArray, List.set_cons_zero, List.set_cons_succ]
  refine' wpTill_do 1 rfl (by kernel_rfl) (fun _ _ _ _ h => h) (by rfl) (by assumption) ⟨_, fun w' hS => ?_, ?_⟩
  rotate_left
  · ((try dsimp only at hS); go_split_ands; go_simp; try (with_reducible rfl))
  simp only [Act.put, List.setIfInBounds_toArray, List.set_cons_zero, List.set_cons_succ]
  refine' wpTill_do 2 rfl (by kernel_rfl) (fun _ _ _ _ h => h) (by rfl) (by assumption) ⟨_, fun w' hS => ?_, ?_⟩
  rotate_left
  · ((try dsimp only at hS); go_split_ands; go_simp; try (with_reducible rfl))
  simp only [Act.put, List.setIfInBounds_toArray, List.set_cons_zero, List.set_cons_succ]
  refine' wpTill_do 3 rfl (by kernel_rfl) (fun _ _ _ _ h => h) (by rfl) (by assumption) ⟨_, fun w' hS => ?_, ?_⟩
  rotate_left
  · ((try dsimp only at hS); go_split_ands; go_simp; try (with_reducible rfl))
  simp only [Act.put, List.setIfInBounds_toArray, List.set_cons_zero, List.set_cons_succ]
  refine' wpTill_do 4 rfl (by kernel_rfl) (fun _ _ _ _ h => h) (by rfl) (by assumption) ⟨_, fun w' hS => ?_, ?_⟩
  rotate_left
  · ((try dsimp only at hS); go_split_ands; go_simp; try (with_reducible rfl))
  simp only [Act.put, List.setIfInBounds_toArray, List.set_cons_zero, List.set_cons_succ]
  refine' wpTill_do 5 rfl (by kernel_rfl) (fun _ _ _ _ h => h) (by rfl) (by assumption) ⟨_, fun w' hS => ?_, ?_⟩
  rotate_left
  · ((try dsimp only at hS); go_split_ands; go_simp; try (with_reducible rfl))
  simp only [Act.put, List.setIfInBounds_toArray, List.set_cons_zero, List.set_cons_succ]
  refine' wpTill_do 6 rfl (by kernel_rfl) (fun _ _ _ _ h => h) (by rfl) (by assumption) ⟨_, fun w' hS => ?_, ?_⟩
  rotate_left
  · ((try dsimp only at hS); go_split_ands; go_simp; try (with_reducible rfl))
  simp only [Act.put, List.setIfInBounds_toArray, List.set_cons_zero, List.set_cons_succ]
  refine' wpTill_do 7 rfl (by kernel_rfl) (fun _ _ _ _ h => h) (by rfl) (by assumption) ⟨_, fun w' hS => ?_, ?_⟩
  rotate_left
  · ((try dsimp only at hS); go_split_ands; go_simp; try (with_reducible rfl))
  simp only [Act.put, List.setIfInBounds_toArray, List.set_cons_zero, List.set_cons_succ]
  refine' wpTill_do 8 rfl (by kernel_rfl) (fun _ _ _ _ h => h) (by rfl) (by assumption) ⟨_, fun w' hS => ?_, ?_⟩
  rotate_left
  · ((try dsimp only at hS); go_split_ands; go_simp; try (with_reducible rfl))
  simp only [Act.put, List.setIfInBounds_toArray, List.set_cons_zero, List.set_cons_succ]
  refine' wpTill_do 9 rfl (by kernel_rfl) (fun _ _ _ _ h => h) (by rfl) (by assumption) ⟨_, fun w' hS => ?_, ?_⟩
  rotate_left
  · ((try dsimp only at hS); go_split_ands; go_simp; try (with_reducible rfl))
  simp only [Act.put, List.setIfInBounds_toArray, List.set_cons_zero, List.set_cons_succ]
  refine' wpTill_do 11 rfl (by kernel_rfl) (fun _ _ _ _ h => h) (by rfl) (by assumption) ⟨_, fun w' hS => ?_, ?_⟩
  rotate_left
  · ((try dsimp only at hS); go_split_ands; go_simp; try (with_reducible rfl))
  simp only [Act.put, List.setIfInBounds_toArray, List.set_cons_zero, List.set_cons_succ]
  refine' wpTill_do 12 rfl (by kernel_rfl) (fun _ _ _ _ h => h) (by rfl) (by assumption) ⟨_, fun w' hS => ?_, ?_⟩
  rotate_left
  · ((try dsimp only at hS); go_split_ands; go_simp; try (with_reducible rfl))
  simp only [Act.put, List.setIfInBounds_toArray, List.set_cons_zero, List.set_cons_succ]
  refine' wpTill_do 13 rfl (by kernel_rfl) (fun _ _ _ _ h => h) (by rfl) (by assumption) ⟨_, fun w' hS => ?_, ?_⟩
  rotate_left
  · ((try dsimp only at hS); go_split_ands; go_simp; try (with_reducible rfl))
  simp only [Act.put, List.setIfInBounds_toArray, List.set_cons_zero, List.set_cons_succ]
  refine' wpTill_do 14 rfl (by kernel_rfl) (fun _ _ _ _ h => h) (by rfl) (by assumption) ⟨_, fun w' hS => ?_, ?_⟩
  rotate_left
  · ((try dsimp only at hS); go_split_ands; go_simp; try (with_reducible rfl))
  simp only [Act.put, List.setIfInBounds_toArray, List.set_cons_zero, List.set_cons_succ]
  refine' wpTill_do 15 rfl (by kernel_rfl) (fun _ _ _ _ h => h) (by rfl) (by assumption) ⟨_, fun w' hS => ?_, ?_⟩
  rotate_left
  · ((try dsimp only at hS); go_split_ands; go_simp; try (with_reducible rfl))
  simp only [Act.put, List.setIfInBounds_toArray, List.set_cons_zero, List.set_cons_succ]
  refine' wpTill_do 16 rfl (by kernel_rfl) (fun _ _ _ _ h => h) (by rfl) (by assumption) ⟨_, fun w' hS => ?_, ?_⟩
  rotate_left
  · ((try dsimp only at hS); go_split_ands; go_simp; try (with_reducible rfl))
  simp only [Act.put, List.setIfInBounds_toArray, List.set_cons_zero, List.set_cons_succ]
  refine' wpTill_do 17 rfl (by kernel_rfl) (fun _ _ _ _ h => h) (by rfl) (by assumption) ⟨_, fun w' hS => ?_, ?_⟩
  rotate_left
  · ((try dsimp only at hS); go_split_ands; go_simp; try (with_reducible rfl))
  simp only [Act.put, List.setIfInBounds_toArray, List.set_cons_zero, List.set_cons_succ]
  refine' wpTill_do 18 rfl (by kernel_rfl) (fun _ _ _ _ h => h) (by rfl) (by assumption) ⟨_, fun w' hS => ?_, ?_⟩
  rotate_left
  · ((try dsimp only at hS); go_split_ands; go_simp; try (with_reducible rfl))
  simp only [Act.put, List.setIfInBounds_toArray, List.set_cons_zero, List.set_cons_succ]
  refine' wpTill_do 19 rfl (by kernel_rfl) (fun _ _ _ _ h => h) (by rfl) (by assumption) ⟨_, fun w' hS => ?_, ?_⟩
  rotate_left
  · ((try dsimp only at hS); go_split_ands; go_simp; try (with_reducible rfl))
  simp only [Act.put, List.setIfInBounds_toArray, List.set_cons_zero, List.set_cons_succ]
  refine' wpTill_do 20 rfl (by kernel_rfl) (fun _ _ _ _ h => h) (by rfl) (by assumption) ⟨_, fun w' hS => ?_, ?_⟩
  rotate_left
  · ((try dsimp only at hS); go_split_ands; go_simp; try (with_reducible rfl))
  simp only [Act.put, List.setIfInBounds_toArray, List.set_cons_zero, List.set_cons_succ]
  have HS := Lib.hid hS
  clear hS
  refine wpTill_eff 10 rfl (by decide) (by kernel_rfl) (by rfl) (fun K hK => ?_)
  have HKK := Lib.hid hK
  clear hK
  go_simp
  refine (tick_any L s (s.now + a - 1) wb HD.out.l HIV.out).mono ?_
  rintro e w1 ⟨rfl, hop⟩
  have hxo : Ex L.F wb w1 := by obtain ⟨_, _, _, hx, _⟩ := hop; exact hx
  have hS : (fun w' : World => w'.cell? ⟨D.p, 2, none⟩ = some (.int .i64 s.now) ∧ D.p < w'.heap.size ∧ w'.cell? ⟨w.heap.size, 4, none⟩ = some (.int .u8 a) ∧ w.heap.size < w'.heap.size) w1 := ⟨hxo.cellS HS.out.1 hnD, Nat.lt_of_lt_of_le HS.out.2.1 hxo.size, hxo.cellS HS.out.2.2.1 hnF, Nat.lt_of_lt_of_le HS.out.2.2.2 hxo.size⟩
  obtain ⟨L1, hp1, h1⟩ := HD.out.left hop
  have H1 := Lib.hid h1
  clear hop h1 hxo HD hnF hnD HS
  dsimp only
  refine HKK.out _ _ hS ?_
  clear HKK K
  (try simp only [Act.put, List.setIfInBounds_toArray, List.set_cons_zero, List.set_cons_succ])
  clear hS
  refine wpTill_last rfl (by kernel_rfl) (by rfl) (fun K hK => ?_)
  have HKK := Lib.hid hK
  clear hK
  go_simp
  refine (rtick54_any D s (s.now + a - 1) w1 H1.out.d HIV.out).mono ?_
  rintro e w2 ⟨rfl, hop⟩
  obtain ⟨D1, hq1, h2⟩ := H1.out.right hop
  have H2 := Lib.hid h2
  clear hop h2 H1 HH
  dsimp only
  refine HKK.out _ _ ?_
  clear HKK K
  (try simp only [Act.put, List.setIfInBounds_toArray, List.set_cons_zero, List.set_cons_succ])
  refine' wpAny_do 22 rfl (by kernel_rfl) (by kernel_rfl) (by kernel_rfl) (fun _ _ _ _ h => h) (by rfl) ⟨_, fun w' => ?_, ?_⟩
  rotate_left
  · (go_simp; try (with_reducible rfl))
  simp only [Act.put, List.setIfInBounds_toArray, List.set_cons_zero, List.set_cons_succ]
  refine' wpAny_do 23 rfl (by kernel_rfl) (by kernel_rfl) (by kernel_rfl) (fun _ _ _ _ h => h) (by rfl) ⟨_, fun w' => ?_, ?_⟩
  rotate_left
  · (go_simp; try (with_reducible rfl))
  simp only [Act.put, List.setIfInBounds_toArray, List.set_cons_zero, List.set_cons_succ]
  refine wpAny_done (by kernel_rfl) ?_ _
  rw [← hp1, ← hq1]
  have HPQ : Hid (L1.p = L.p ∧ D1.p = D.p) := ⟨hp1, hq1⟩
  clear hp1 hq1
  go_wp2_with fail
  have H3 : Hid (At2 w0 w2.drew L1 D1 (s.tick (s.now + a - 1)) (s.tick (s.now + a - 1))) := H2.out.ex0 (Ex.drew w2)
  have hS : (fun w' : World => w'.cell? ⟨D1.p, 3, none⟩ = some (.int .u64 (s.tick (s.now + a - 1)).top) ∧ D1.p < w'.heap.size) w2.drew := ⟨H3.out.d.cell rfl, H3.out.d.lt⟩
  obtain ⟨s', hs'⟩ : ∃ s', (s.tick (s.now + a - 1)) = s' := ⟨_, rfl⟩
  rw [hs'] at H3 hS
  have HSS := Lib.hid hs'
  clear hs'
  refine wp_region_takes (fun w' : World => w'.cell? ⟨D1.p, 3, none⟩ = some (.int .u64 s'.top) ∧ D1.p < w'.heap.size) (by kernel_rfl) ?_
  simp only [List.length_cons, List.length_nil]
  generalize w2.drew = wd at *
  refine' wpAnyH_do 0 rfl (by kernel_rfl) (fun _ _ _ _ h => h) (by rfl) (by assumption) ⟨_, fun w' hS => ?_, ?_⟩
  rotate_left
  · ((try dsimp only at hS); go_split_ands; go_simp; try (with_reducible rfl))
  simp only [Act.put, List.setIfInBounds_toArray, List.set_cons_zero, List.set_cons_succ]
  refine' wpAnyH_do 1 rfl (by kernel_rfl) (fun _ _ _ _ h => h) (by rfl) (by assumption) ⟨_, fun w' hS => ?_, ?_⟩
  rotate_left
  · ((try dsimp only at hS); go_split_ands; go_simp; try (with_reducible rfl))
  simp only [Act.put, List.setIfInBounds_toArray, List.set_cons_zero, List.set_cons_succ]
  refine' wpAnyH_do 2 rfl (by kernel_rfl) (fun _ _ _ _ h => h) (by rfl) (by assumption) ⟨_, fun w' hS => ?_, ?_⟩
  rotate_left
  · ((try dsimp only at hS); go_split_ands; go_simp; try (with_reducible rfl))
  simp only [Act.put, List.setIfInBounds_toArray, List.set_cons_zero, List.set_cons_succ]
  refine' wpAnyH_do 3 rfl (by kernel_rfl) (fun _ _ _ _ h => h) (by rfl) (by assumption) ⟨_, fun w' hS => ?_, ?_⟩
  rotate_left
  · ((try dsimp only at hS); go_split_ands; go_simp; try (with_reducible rfl))
  simp only [Act.put, List.setIfInBounds_toArray, List.set_cons_zero, List.set_cons_succ]
  refine' wpAnyH_do 5 rfl (by kernel_rfl) (fun _ _ _ _ h => h) (by rfl) (by assumption) ⟨_, fun w' hS => ?_, ?_⟩
  rotate_left
  · ((try dsimp only at hS); go_split_ands; go_simp; try (with_reducible rfl))
  simp only [Act.put, List.setIfInBounds_toArray, List.set_cons_zero, List.set_cons_succ]
  refine' wpAnyH_do 6 rfl (by kernel_rfl) (fun _ _ _ _ h => h) (by rfl) (by assumption) ⟨_, fun w' hS => ?_, ?_⟩
  rotate_left
  · ((try dsimp only at hS); go_split_ands; go_simp; try (with_reducible rfl))
  simp only [Act.put, List.setIfInBounds_toArray, List.set_cons_zero, List.set_cons_succ]
  refine' wpAnyH_do 7 rfl (by kernel_rfl) (fun _ _ _ _ h => h) (by rfl) (by assumption) ⟨_, fun w' hS => ?_, ?_⟩
  rotate_left
  · ((try dsimp only at hS); go_split_ands; go_simp; try (with_reducible rfl))
  simp only [Act.put, List.setIfInBounds_toArray, List.set_cons_zero, List.set_cons_succ]
  refine' wpAnyH_do 8 rfl (by kernel_rfl) (fun _ _ _ _ h => h) (by rfl) (by assumption) ⟨_, fun w' hS => ?_, ?_⟩
  rotate_left
  · ((try dsimp only at hS); go_split_ands; go_simp; try (with_reducible rfl))
  simp only [Act.put, List.setIfInBounds_toArray, List.set_cons_zero, List.set_cons_succ]
  refine wpAnyH_eff 4 rfl (by kernel_rfl) (by rfl) (fun K hK => ?_)
  have HKK := Lib.hid hK
  clear hK
  go_simp
  refine (top_any L1 s' wd H3.out.l).mono ?_
  rintro e w4 ⟨rfl, rfl⟩
  dsimp only
  refine HKK.out _ _ hS ?_
  clear HKK K
  (try simp only [Act.put, List.setIfInBounds_toArray, List.set_cons_zero, List.set_cons_succ])
  refine' wpAnyH_do 9 rfl (by kernel_rfl) (fun _ _ _ _ h => h) (by rfl) (by assumption) ⟨_, fun w' hS => ?_, ?_⟩
  rotate_left
  · ((try dsimp only at hS); go_split_ands; go_simp; try (with_reducible rfl))
  simp only [Act.put, List.setIfInBounds_toArray, List.set_cons_zero, List.set_cons_succ]
  refine' wpAnyH_do 10 rfl (by kernel_rfl) (fun _ _ _ _ h => h) (by rfl) (by assumption) ⟨_, fun w' hS => ?_, ?_⟩
  rotate_left
  · ((try dsimp only at hS); go_split_ands; go_simp; try (with_reducible rfl))
  simp only [Act.put, List.setIfInBounds_toArray, List.set_cons_zero, List.set_cons_succ]
  refine wpAnyH_done (by kernel_rfl) ?_ _
  go_wp2
  go_ret
  exact ⟨rfl, L1, D1, HPQ.out.1, HPQ.out.2, by rw [HSS.out]; exact H3.out⟩
end Go.Proofs.YtoglddndicmelaaGreat.Tr

namespace Go.Proofs.YtoglddndicmelaaGreat.Tr
open Go.RowKit Go.Proofs.YtoglddndicmelaaGreatB Go.Proofs.YtoglddndicmelaaGreat
set_option maxRecDepth 100000

set_option maxHeartbeats 8000000 in
theorem do9_any (w0 : World) (L : LstP) (D : RLstP) (s : TS) (d br vol blk a b c y : Nat) (w : World) (h : At2 w0 w L D s s) (hI : Inv s) (hd : d < 256) (hbr : br < 256) (h4 : d % 10 = 9) (ha : a < 256) :
    Calls Tryz.prog 48 #[.pointer (some ⟨L.p, 0, none⟩), .pointer (some ⟨D.p, 0, none⟩), .agg #[.int .u8 d, .int .u8 br, .int .u8 vol, .int .u8 blk, .int .u8 a, .int .u8 b, .int .u8 c, .int .u8 y]] w fun e w' => e = .returned (.int .i64 1) ∧ DoP w0 L D (s.skip (s.top + a)) w' := by
  have ht := hI.top
  have HH := Lib.hid h
  have HIV := Lib.hid hI
  obtain ⟨wa, hwa, hba, hxa⟩ : ∃ wa, w.alloc (.cells #[.int .u8 d, .int .u8 br, .int .u8 vol, .int .u8 blk, .int .u8 a, .int .u8 b, .int .u8 c, .int .u8 y] 57) = wa ∧ wa.heap[w.heap.size]? = some (.cells #[.int .u8 d, .int .u8 br, .int .u8 vol, .int .u8 blk, .int .u8 a, .int .u8 b, .int .u8 c, .int .u8 y] 57 (0, 0)) ∧ Ex0 w wa := ⟨_, rfl, heap_alloc_new _ _, Ex.alloc _ _⟩
  have c0 : wa.cell? ⟨w.heap.size, 0, none⟩ = some (.int .u8 d) := by rw [cell_of_row _ _ _ _ _ _ hba]; rfl
  have c1 : wa.cell? ⟨w.heap.size, 1, none⟩ = some (.int .u8 br) := by rw [cell_of_row _ _ _ _ _ _ hba]; rfl
  have hlt : w.heap.size < wa.heap.size := (Array.getElem?_eq_some_iff.1 hba).1
  have HWA := Lib.hid hwa
  have HXA := Lib.hid hxa
  have HBA := Lib.hid hba
  have e1 : (d : Int).tmod 10 = 9 := by rw [Int.tmod_eq_emod_of_nonneg (by omega)]; omega
  have e2 : (br : Int).tmod 5 = ((br % 5 : Nat) : Int) := by rw [Int.tmod_eq_emod_of_nonneg (by omega)]; omega
  have e3 : IntKind.i64.wrap (br : Int) = br := by rw [IntKind.wrap_i64]; omega
  have e4 : IntKind.i64.wrap ((br % 5 : Nat) : Int) = ((br % 5 : Nat) : Int) := by rw [IntKind.wrap_i64]; omega
  clear h hI hwa hba hxa
  go_enter Tryz.func48, Tryz.ntmps48
  iterate 5 go_step
  rw [HWA.out]
  have ea : IntKind.u64.wrap (a : Int) = a := by rw [IntKind.wrap_u64]; omega
  have en : IntKind.u64.wrap (s.top + a) = s.top + a := by rw [IntKind.wrap_u64]; omega
  have c4 : wa.cell? ⟨w.heap.size, 4, none⟩ = some (.int .u8 a) := by rw [cell_of_row _ _ _ _ _ _ HBA.out]; rfl
  go_wp2_with fail
  have HD : Hid (At2 w0 wa.drew L D s s) := HH.out.ex0 (HXA.out.trans0 (Ex.drew wa))
  have hS : (fun w' : World => w'.cell? ⟨D.p, 3, none⟩ = some (.int .u64 s.top) ∧ D.p < w'.heap.size ∧ w'.cell? ⟨w.heap.size, 4, none⟩ = some (.int .u8 a) ∧ w.heap.size < w'.heap.size) wa.drew := ⟨HD.out.d.cell rfl, HD.out.d.lt, c4, hlt⟩
  have hnF : ¬ L.F w.heap.size := fun hf => by have := HH.out.l.inF _ hf; omega
  have hnD : ¬ L.F D.p := fun hf => HH.out.dj _ hf (.inl (.inl rfl))
  refine wp_region_till (fun w' : World => w'.cell? ⟨D.p, 3, none⟩ = some (.int .u64 s.top) ∧ D.p < w'.heap.size ∧ w'.cell? ⟨w.heap.size, 4, none⟩ = some (.int .u8 a) ∧ w.heap.size < w'.heap.size) 9 (by kernel_rfl) ?_
  simp only [List.length_cons, List.length_nil]
  clear c0 c1 c4 hlt
  generalize wa.drew = wb at *
  refine' wpTill_do 0 rfl (by kernel_rfl) (fun _ _ _ _ h => h) (by rfl) (by assumption) ⟨_, fun w' hS => ?_, ?_⟩
  rotate_left
  · ((try dsimp only at hS); go_split_ands; go_simp; try (with_reducible rfl))
  simp only [Act.put, List.setIfInBounds_toArray, List.set_cons_zero, List.set_cons_succ]
  refine' wpTill_do 1 rfl (by kernel_rfl) (fun _ _ _ _ h => h) (by rfl) (by assumption) ⟨_, fun w' hS => ?_, ?_⟩
  rotate_left
  · ((try dsimp only at hS); go_split_ands; go_simp; try (with_reducible rfl))
  simp only [Act.put, List.setIfInBounds_toArray, List.set_cons_zero, List.set_cons_succ]
  refine' wpTill_do 2 rfl (by kernel_rfl) (fun _ _ _ _ h => h) (by rfl) (by assumption) ⟨_, fun w' hS => ?_, ?_⟩
  rotate_left
  · ((try dsimp only at hS); go_split_ands; go_simp; try (with_reducible rfl))
  simp only [Act.put, List.setIfInBounds_toArray, List.set_cons_zero, List.set_cons_succ]
  refine' wpTill_do 3 rfl (by kernel_rfl) (fun _ _ _ _ h => h) (by rfl) (by assumption) ⟨_, fun w' hS => ?_, ?_⟩
  rotate_left
  · ((try dsimp only at hS); go_split_ands; go_simp; try (with_reducible rfl))
  simp only [Act.put, List.setIfInBounds_toArray, List.set_cons_zero, List.set_cons_succ]
  refine' wpTill_do 4 rfl (by kernel_rfl) (fun _ _ _ _ h => h) (by rfl) (by assumption) ⟨_, fun w' hS => ?_, ?_⟩
  rotate_left
  · ((try dsimp only at hS); go_split_ands; go_simp; try (with_reducible rfl))
  simp only [Act.put, List.setIfInBounds_toArray, List.set_cons_zero, List.set_cons_succ]
  refine' wpTill_do 5 rfl (by kernel_rfl) (fun _ _ _ _ h => h) (by rfl) (by assumption) ⟨_, fun w' hS => ?_, ?_⟩
  rotate_left
  · ((try dsimp only at hS); go_split_ands; go_simp; try (with_reducible rfl))
  simp only [Act.put, List.setIfInBounds_toArray, List.set_cons_zero, List.set_cons_succ]
  refine' wpTill_do 6 rfl (by kernel_rfl) (fun _ _ _ _ h => h) (by rfl) (by assumption) ⟨_, fun w' hS => ?_, ?_⟩
  rotate_left
  · ((try dsimp only at hS); go_split_ands; go_simp; try (with_reducible rfl))
  simp only [Act.put, List.setIfInBounds_toArray, List.set_cons_zero, List.set_cons_succ]
  refine' wpTill_do 7 rfl (by kernel_rfl) (fun _ _ _ _ h => h) (by rfl) (by assumption) ⟨_, fun w' hS => ?_, ?_⟩
  rotate_left
  · ((try dsimp only at hS); go_split_ands; go_simp; try (with_reducible rfl))
  simp only [Act.put, List.setIfInBounds_toArray, List.set_cons_zero, List.set_cons_succ]
  refine' wpTill_do 8 rfl (by kernel_rfl) (fun _ _ _ _ h => h) (by rfl) (by assumption) ⟨_, fun w' hS => ?_, ?_⟩
  rotate_left
  · ((try dsimp only at hS); go_split_ands; go_simp; try (with_reducible rfl))
  simp only [Act.put, List.setIfInBounds_toArray, List.set_cons_zero, List.set_cons_succ]
  have HS := Lib.hid hS
  clear hS
  refine wpTill_last rfl (by kernel_rfl) (by rfl) (fun K hK => ?_)
  have HKK := Lib.hid hK
  clear hK
  go_simp
  refine (skip_any L s (s.top + a) wb HD.out.l).mono ?_
  rintro e w1 ⟨rfl, hop⟩
  have hxo : Ex L.F wb w1 := by obtain ⟨_, _, _, hx, _⟩ := hop; exact hx
  have hS1 : (fun w' : World => w'.cell? ⟨D.p, 3, none⟩ = some (.int .u64 s.top) ∧ D.p < w'.heap.size ∧ w'.cell? ⟨w.heap.size, 4, none⟩ = some (.int .u8 a) ∧ w.heap.size < w'.heap.size) w1 := ⟨hxo.cellS HS.out.1 hnD, Nat.lt_of_lt_of_le HS.out.2.1 hxo.size, hxo.cellS HS.out.2.2.1 hnF, Nat.lt_of_lt_of_le HS.out.2.2.2 hxo.size⟩
  obtain ⟨L1, hp1, h1⟩ := HD.out.left hop
  have H1' := Lib.hid h1
  clear hop h1 hxo HD hnF hnD HS
  dsimp only
  refine HKK.out _ _ ?_
  clear HKK K
  (try simp only [Act.put, List.setIfInBounds_toArray, List.set_cons_zero, List.set_cons_succ])
  refine wpAny_done (by kernel_rfl) ?_ _
  go_wp2_with fail
  have H1 : Hid (At2 w0 w1.drew L1 D (s.skip (s.top + a)) s) := H1'.out.ex0 (Ex.drew w1)
  have hS : (fun w' : World => w'.cell? ⟨D.p, 3, none⟩ = some (.int .u64 s.top) ∧ D.p < w'.heap.size ∧ w'.cell? ⟨w.heap.size, 4, none⟩ = some (.int .u8 a) ∧ w.heap.size < w'.heap.size) w1.drew := hS1
  clear hS1 H1'
  refine wp_region_till (fun w' : World => w'.cell? ⟨D.p, 3, none⟩ = some (.int .u64 s.top) ∧ D.p < w'.heap.size ∧ w'.cell? ⟨w.heap.size, 4, none⟩ = some (.int .u8 a) ∧ w.heap.size < w'.heap.size) 9 (by kernel_rfl) ?_
  simp only [List.length_cons, List.length_nil]
  generalize w1.drew = wc at *
  refine' wpTill_do 0 rfl (by kernel_rfl) (fun _ _ _ _ h => h) (by rfl) (by assumption) ⟨_, fun w' hS => ?_, ?_⟩
  rotate_left
  · ((try dsimp only at hS); go_split_ands; go_simp; try (with_reducible rfl))
  simp only [Act.put, List.setIfInBounds_toArray, List.set_cons_zero, List.set_cons_succ]
  refine' wpTill_do 1 rfl (by kernel_rfl) (fun _ _ _ _ h => h) (by rfl) (by assumption) ⟨_, fun w' hS => ?_, ?_⟩
  rotate_left
  · ((try dsimp only at hS); go_split_ands; go_simp; try (with_reducible rfl))
  simp only [Act.put, List.setIfInBounds_toArray, List.set_cons_zero, List.set_cons_succ]
  refine' wpTill_do 2 rfl (by kernel_rfl) (fun _ _ _ _ h => h) (by rfl) (by assumption) ⟨_, fun w' hS => ?_, ?_⟩
  rotate_left
  · ((try dsimp only at hS); go_split_ands; go_simp; try (with_reducible rfl))
  simp only [Act.put, List.setIfInBounds_toArray, List.set_cons_zero, List.set_cons_succ]
  refine' wpTill_do 3 rfl (by kernel_rfl) (fun _ _ _ _ h => h) (by rfl) (by assumption) ⟨_, fun w' hS => ?_, ?_⟩
  rotate_left
  · ((try dsimp only at hS); go_split_ands; go_simp; try (with_reducible rfl))
  simp only [Act.put, List.setIfInBounds_toArray, List.set_cons_zero, List.set_cons_succ]
  refine' wpTill_do 4 rfl (by kernel_rfl) (fun _ _ _ _ h => h) (by rfl) (by assumption) ⟨_, fun w' hS => ?_, ?_⟩
  rotate_left
  · ((try dsimp only at hS); go_split_ands; go_simp; try (with_reducible rfl))
  simp only [Act.put, List.setIfInBounds_toArray, List.set_cons_zero, List.set_cons_succ]
  refine' wpTill_do 5 rfl (by kernel_rfl) (fun _ _ _ _ h => h) (by rfl) (by assumption) ⟨_, fun w' hS => ?_, ?_⟩
  rotate_left
  · ((try dsimp only at hS); go_split_ands; go_simp; try (with_reducible rfl))
  simp only [Act.put, List.setIfInBounds_toArray, List.set_cons_zero, List.set_cons_succ]
  refine' wpTill_do 6 rfl (by kernel_rfl) (fun _ _ _ _ h => h) (by rfl) (by assumption) ⟨_, fun w' hS => ?_, ?_⟩
  rotate_left
  · ((try dsimp only at hS); go_split_ands; go_simp; try (with_reducible rfl))
  simp only [Act.put, List.setIfInBounds_toArray, List.set_cons_zero, List.set_cons_succ]
  refine' wpTill_do 7 rfl (by kernel_rfl) (fun _ _ _ _ h => h) (by rfl) (by assumption) ⟨_, fun w' hS => ?_, ?_⟩
  rotate_left
  · ((try dsimp only at hS); go_split_ands; go_simp; try (with_reducible rfl))
  simp only [Act.put, List.setIfInBounds_toArray, List.set_cons_zero, List.set_cons_succ]
  refine' wpTill_do 8 rfl (by kernel_rfl) (fun _ _ _ _ h => h) (by rfl) (by assumption) ⟨_, fun w' hS => ?_, ?_⟩
  rotate_left
  · ((try dsimp only at hS); go_split_ands; go_simp; try (with_reducible rfl))
  simp only [Act.put, List.setIfInBounds_toArray, List.set_cons_zero, List.set_cons_succ]
  clear hS
  refine wpTill_last rfl (by kernel_rfl) (by rfl) (fun K hK => ?_)
  have HKK := Lib.hid hK
  clear hK
  go_simp
  refine (rskip_any D s (s.top + a) wc H1.out.d).mono ?_
  rintro e w2 ⟨rfl, hop⟩
  obtain ⟨D1, hq1, h2⟩ := H1.out.right hop
  have H2 := Lib.hid h2
  clear hop h2 H1 HH
  dsimp only
  refine HKK.out _ _ ?_
  clear HKK K
  (try simp only [Act.put, List.setIfInBounds_toArray, List.set_cons_zero, List.set_cons_succ])
  refine wpAny_done (by kernel_rfl) ?_ _
  rw [← hp1, ← hq1]
  have HPQ : Hid (L1.p = L.p ∧ D1.p = D.p) := ⟨hp1, hq1⟩
  clear hp1 hq1
  go_wp2_with fail
  have H3 : Hid (At2 w0 w2.drew L1 D1 (s.skip (s.top + a)) (s.skip (s.top + a))) := H2.out.ex0 (Ex.drew w2)
  have hS : (fun w' : World => w'.cell? ⟨D1.p, 3, none⟩ = some (.int .u64 (s.skip (s.top + a)).top) ∧ D1.p < w'.heap.size) w2.drew := ⟨H3.out.d.cell rfl, H3.out.d.lt⟩
  obtain ⟨s', hs'⟩ : ∃ s', (s.skip (s.top + a)) = s' := ⟨_, rfl⟩
  rw [hs'] at H3 hS
  have HSS := Lib.hid hs'
  clear hs'
  refine wp_region_takes (fun w' : World => w'.cell? ⟨D1.p, 3, none⟩ = some (.int .u64 s'.top) ∧ D1.p < w'.heap.size) (by kernel_rfl) ?_
  simp only [List.length_cons, List.length_nil]
  generalize w2.drew = wd at *
  refine' wpAnyH_do 0 rfl (by kernel_rfl) (fun _ _ _ _ h => h) (by rfl) (by assumption) ⟨_, fun w' hS => ?_, ?_⟩
  rotate_left
  · ((try dsimp only at hS); go_split_ands; go_simp; try (with_reducible rfl))
  simp only [Act.put, List.setIfInBounds_toArray, List.set_cons_zero, List.set_cons_succ]
  refine' wpAnyH_do 1 rfl (by kernel_rfl) (fun _ _ _ _ h => h) (by rfl) (by assumption) ⟨_, fun w' hS => ?_, ?_⟩
  rotate_left
  · ((try dsimp only at hS); go_split_ands; go_simp; try (with_reducible rfl))
  simp only [Act.put, List.setIfInBounds_toArray, List.set_cons_zero, List.set_cons_succ]
  refine' wpAnyH_do 2 rfl (by kernel_rfl) (fun _ _ _ _ h => h) (by rfl) (by assumption) ⟨_, fun w' hS => ?_, ?_⟩
  rotate_left
  · ((try dsimp only at hS); go_split_ands; go_simp; try (with_reducible rfl))
  simp only [Act.put, List.setIfInBounds_toArray, List.set_cons_zero, List.set_cons_succ]
  refine' wpAnyH_do 3 rfl (by kernel_rfl) (fun _ _ _ _ h => h) (by rfl) (by assumption) ⟨_, fun w' hS => ?_, ?_⟩
  rotate_left
  · ((try dsimp only at hS); go_split_ands; go_simp; try (with_reducible rfl))
  simp only [Act.put, List.setIfInBounds_toArray, List.set_cons_zero, List.set_cons_succ]
  refine' wpAnyH_do 5 rfl (by kernel_rfl) (fun _ _ _ _ h => h) (by rfl) (by assumption) ⟨_, fun w' hS => ?_, ?_⟩
  rotate_left
  · ((try dsimp only at hS); go_split_ands; go_simp; try (with_reducible rfl))
  simp only [Act.put, List.setIfInBounds_toArray, List.set_cons_zero, List.set_cons_succ]
  refine' wpAnyH_do 6 rfl (by kernel_rfl) (fun _ _ _ _ h => h) (by rfl) (by assumption) ⟨_, fun w' hS => ?_, ?_⟩
  rotate_left
  · ((try dsimp only at hS); go_split_ands; go_simp; try (with_reducible rfl))
  simp only [Act.put, List.setIfInBounds_toArray, List.set_cons_zero, List.set_cons_succ]
  refine' wpAnyH_do 7 rfl (by kernel_rfl) (fun _ _ _ _ h => h) (by rfl) (by assumption) ⟨_, fun w' hS => ?_, ?_⟩
  rotate_left
  · ((try dsimp only at hS); go_split_ands; go_simp; try (with_reducible rfl))
  simp only [Act.put, List.setIfInBounds_toArray, List.set_cons_zero, List.set_cons_succ]
  refine' wpAnyH_do 8 rfl (by kernel_rfl) (fun _ _ _ _ h => h) (by rfl) (by assumption) ⟨_, fun w' hS => ?_, ?_⟩
  rotate_left
  · ((try dsimp only at hS); go_split_ands; go_simp; try (with_reducible rfl))
  simp only [Act.put, List.setIfInBounds_toArray, List.set_cons_zero, List.set_cons_succ]
  refine wpAnyH_eff 4 rfl (by kernel_rfl) (by rfl) (fun K hK => ?_)
  have HKK := Lib.hid hK
  clear hK
  go_simp
  refine (top_any L1 s' wd H3.out.l).mono ?_
  rintro e w4 ⟨rfl, rfl⟩
  dsimp only
  refine HKK.out _ _ hS ?_
  clear HKK K
  (try simp only [Act.put, List.setIfInBounds_toArray, List.set_cons_zero, List.set_cons_succ])
  refine' wpAnyH_do 9 rfl (by kernel_rfl) (fun _ _ _ _ h => h) (by rfl) (by assumption) ⟨_, fun w' hS => ?_, ?_⟩
  rotate_left
  · ((try dsimp only at hS); go_split_ands; go_simp; try (with_reducible rfl))
  simp only [Act.put, List.setIfInBounds_toArray, List.set_cons_zero, List.set_cons_succ]
  refine' wpAnyH_do 10 rfl (by kernel_rfl) (fun _ _ _ _ h => h) (by rfl) (by assumption) ⟨_, fun w' hS => ?_, ?_⟩
  rotate_left
  · ((try dsimp only at hS); go_split_ands; go_simp; try (with_reducible rfl))
  simp only [Act.put, List.setIfInBounds_toArray, List.set_cons_zero, List.set_cons_succ]
  refine wpAnyH_done (by kernel_rfl) ?_ _
  go_wp2
  go_ret
  exact ⟨rfl, L1, D1, HPQ.out.1, HPQ.out.2, by rw [HSS.out]; exact H3.out⟩
end Go.Proofs.YtoglddndicmelaaGreat.Tr

namespace Go.Proofs.YtoglddndicmelaaGreat.Tr
open Go.RowKit Go.Proofs.YtoglddndicmelaaGreatB Go.Proofs.YtoglddndicmelaaGreat
set_option maxRecDepth 100000

set_option maxHeartbeats 8000000 in
theorem do0_any (w0 : World) (L : LstP) (D : RLstP) (s : TS) (d br vol blk a b c y : Nat) (w : World) (h : At2 w0 w L D s s) (hI : Inv s) (hd : d < 256) (hbr : br < 256) (h4 : d % 10 < 3) (hvol : vol < 256) (hblk : blk < 256) (_ : y < 256) (hlen : s.tab.length ≤ 900) :
    Calls Tryz.prog 48 #[.pointer (some ⟨L.p, 0, none⟩), .pointer (some ⟨D.p, 0, none⟩), .agg #[.int .u8 d, .int .u8 br, .int .u8 vol, .int .u8 blk, .int .u8 a, .int .u8 b, .int .u8 c, .int .u8 y]] w fun e w' => e = .returned (.int .i64 1) ∧ DoP w0 L D (s.write ((br % 5 : Nat) : Int) ((vol % 3 : Nat) : Int) ((blk % 3 : Nat) : Int) (dataA y)) w' := by
  have ht := hI.top
  have HH := Lib.hid h
  have HIV := Lib.hid hI
  obtain ⟨wa, hwa, hba, hxa⟩ : ∃ wa, w.alloc (.cells #[.int .u8 d, .int .u8 br, .int .u8 vol, .int .u8 blk, .int .u8 a, .int .u8 b, .int .u8 c, .int .u8 y] 57) = wa ∧ wa.heap[w.heap.size]? = some (.cells #[.int .u8 d, .int .u8 br, .int .u8 vol, .int .u8 blk, .int .u8 a, .int .u8 b, .int .u8 c, .int .u8 y] 57 (0, 0)) ∧ Ex0 w wa := ⟨_, rfl, heap_alloc_new _ _, Ex.alloc _ _⟩
  have c0 : wa.cell? ⟨w.heap.size, 0, none⟩ = some (.int .u8 d) := by rw [cell_of_row _ _ _ _ _ _ hba]; rfl
  have c1 : wa.cell? ⟨w.heap.size, 1, none⟩ = some (.int .u8 br) := by rw [cell_of_row _ _ _ _ _ _ hba]; rfl
  have hlt : w.heap.size < wa.heap.size := (Array.getElem?_eq_some_iff.1 hba).1
  have HWA := Lib.hid hwa
  have HXA := Lib.hid hxa
  have HBA := Lib.hid hba
  obtain ⟨m, e1, m3⟩ : ∃ m : Nat, (d : Int).tmod 10 = m ∧ m < 3 := ⟨d % 10, by rw [Int.tmod_eq_emod_of_nonneg (by omega)]; omega, h4⟩
  have n3 : ¬ (m : Int) = 3 := by omega
  have n4 : ¬ (m : Int) = 4 := by omega
  have n5 : ¬ (m : Int) = 5 := by omega
  have n6 : ¬ (m : Int) = 6 := by omega
  have n7 : ¬ (m : Int) = 7 := by omega
  have n8 : ¬ (m : Int) = 8 := by omega
  have n9 : ¬ (m : Int) = 9 := by omega
  have v2 : (vol : Int).tmod 3 = ((vol % 3 : Nat) : Int) := by rw [Int.tmod_eq_emod_of_nonneg (by omega)]; omega
  have v3 : IntKind.i64.wrap (vol : Int) = vol := by rw [IntKind.wrap_i64]; omega
  have v4 : IntKind.i64.wrap ((vol % 3 : Nat) : Int) = ((vol % 3 : Nat) : Int) := by rw [IntKind.wrap_i64]; omega
  have b2 : (blk : Int).tmod 3 = ((blk % 3 : Nat) : Int) := by rw [Int.tmod_eq_emod_of_nonneg (by omega)]; omega
  have b3 : IntKind.i64.wrap (blk : Int) = blk := by rw [IntKind.wrap_i64]; omega
  have b4 : IntKind.i64.wrap ((blk % 3 : Nat) : Int) = ((blk % 3 : Nat) : Int) := by rw [IntKind.wrap_i64]; omega
  have em : IntKind.u8.wrap (m : Int) = m := by rw [IntKind.wrap_u8]; omega
  have e2 : (br : Int).tmod 5 = ((br % 5 : Nat) : Int) := by rw [Int.tmod_eq_emod_of_nonneg (by omega)]; omega
  have e3 : IntKind.i64.wrap (br : Int) = br := by rw [IntKind.wrap_i64]; omega
  have e4 : IntKind.i64.wrap ((br % 5 : Nat) : Int) = ((br % 5 : Nat) : Int) := by rw [IntKind.wrap_i64]; omega
  obtain ⟨p1, q1⟩ : ∃ q : Int, ((br % 5 : Nat) : Int) = q := ⟨_, rfl⟩
  obtain ⟨p2, q2⟩ : ∃ q : Int, ((vol % 3 : Nat) : Int) = q := ⟨_, rfl⟩
  obtain ⟨p3, q3⟩ : ∃ q : Int, ((blk % 3 : Nat) : Int) = q := ⟨_, rfl⟩
  rw [q1] at e2 e4 ⊢
  rw [q2] at v2 v4 ⊢
  rw [q3] at b2 b4 ⊢
  clear q1 q2 q3
  clear h hI hwa hba hxa
  go_enter Tryz.func48, Tryz.ntmps48
  iterate 5 go_step
  rw [HWA.out]
  have c2 : wa.cell? ⟨w.heap.size, 2, none⟩ = some (.int .u8 vol) := by rw [cell_of_row _ _ _ _ _ _ HBA.out]; rfl
  have c3 : wa.cell? ⟨w.heap.size, 3, none⟩ = some (.int .u8 blk) := by rw [cell_of_row _ _ _ _ _ _ HBA.out]; rfl
  have c7 : wa.cell? ⟨w.heap.size, 7, none⟩ = some (.int .u8 y) := by rw [cell_of_row _ _ _ _ _ _ HBA.out]; rfl
  have HCO : Hid (∀ v ∈ (wrC p1 p2 p3 (dataA y)).toArray, v.oneCell' = true) := fun v hv => by
    have hv' : v ∈ wrC p1 p2 p3 (dataA y) := by simpa using hv
    unfold wrC at hv'
    simp only [List.mem_cons] at hv'
    rcases hv' with rfl | rfl | rfl | hv'
    · rfl
    · rfl
    · rfl
    · exact encN_one 32 _ v hv'
  go_wp2_with (first | (refine wpList_store_all rfl 63 (.tmp 20) (.tmp 45) rfl wa.heap.size rfl (wrC p1 p2 p3 (dataA y)).toArray _ rfl 63 (heap_alloc_new _ _) rfl HCO.out (by kernel_rfl) ?_; rw [World.setRow_alloc_new]; have HXB : Hid (Ex0 wa (wa.alloc (.cells (wrC p1 p2 p3 (dataA y)).toArray 63))) := Ex.alloc _ _; have HBB : Hid ((wa.alloc (.cells (wrC p1 p2 p3 (dataA y)).toArray 63)).heap[wa.heap.size]? = some (.cells (wrC p1 p2 p3 (dataA y)).toArray 63 (0, 0))) := heap_alloc_new _ _; obtain ⟨wb, hwb⟩ : ∃ wb, wa.alloc (.cells (wrC p1 p2 p3 (dataA y)).toArray 63) = wb := ⟨_, rfl⟩; rw [hwb] at HXB HBB ⊢; clear hwb) | refine wpList_load_row_g (by rfl) 63 (.tmp 20) rfl wa.heap.size rfl 63 (wrC p1 p2 p3 (dataA y)).toArray (0, 0) _ HBB.out Tryz.underlying63 rfl (by kernel_rfl) ?_)
  have HA1 : Hid (At2 w0 wb L D s s) := HH.out.ex0 (HXA.out.trans0 HXB.out)
  have HLN := Lib.hid hlen
  have hnF : ¬ L.F wa.heap.size := fun hf => by have := (HH.out.ex0 HXA.out).l.inF _ hf; omega
  refine (twrite_any L s p1 p2 p3 (dataA y) wb HA1.out.l HIV.out HLN.out).mono ?_
  rintro e w1 ⟨rfl, hop⟩
  have hxo : Ex L.F wb w1 := by obtain ⟨_, _, _, hx, _⟩ := hop; exact hx
  have HB1 : Hid (w1.heap[wa.heap.size]? = some (.cells (wrC p1 p2 p3 (dataA y)).toArray 63 (0, 0))) := (hxo.block _ (Array.getElem?_eq_some_iff.1 HBB.out).1 hnF).trans HBB.out
  obtain ⟨L1, hp1, h1⟩ := HA1.out.left hop
  have H1 := Lib.hid h1
  clear hop h1 hxo c0 c1 c2 c3 c7 HA1 hnF hlen HBB HXB
  go_wp2_with (refine wpList_load_row_g (by rfl) 63 (.tmp 20) rfl wa.heap.size rfl 63 (wrC p1 p2 p3 (dataA y)).toArray (0, 0) _ HB1.out Tryz.underlying63 rfl (by kernel_rfl) ?_)
  refine (rwrite54_any D s p1 p2 p3 (dataA y) w1 H1.out.d HIV.out HLN.out).mono ?_
  rintro e w2 ⟨rfl, hop⟩
  obtain ⟨D1, hq1, h2⟩ := H1.out.right hop
  have H2 := Lib.hid h2
  clear hop h2 H1 HH
  rw [← hp1, ← hq1]
  have HPQ : Hid (L1.p = L.p ∧ D1.p = D.p) := ⟨hp1, hq1⟩
  clear hp1 hq1
  go_wp2_with fail
  have H3 : Hid (At2 w0 w2.drew L1 D1 (s.write p1 p2 p3 (dataA y)) (s.write p1 p2 p3 (dataA y))) := H2.out.ex0 (Ex.drew w2)
  have hS : (fun w' : World => w'.cell? ⟨D1.p, 3, none⟩ = some (.int .u64 (s.write p1 p2 p3 (dataA y)).top) ∧ D1.p < w'.heap.size) w2.drew := ⟨H3.out.d.cell rfl, H3.out.d.lt⟩
  obtain ⟨s', hs'⟩ : ∃ s', (s.write p1 p2 p3 (dataA y)) = s' := ⟨_, rfl⟩
  rw [hs'] at H3 hS
  have HSS := Lib.hid hs'
  clear hs'
  refine wp_region_takes (fun w' : World => w'.cell? ⟨D1.p, 3, none⟩ = some (.int .u64 s'.top) ∧ D1.p < w'.heap.size) (by kernel_rfl) ?_
  simp only [List.length_cons, List.length_nil]
  generalize w2.drew = wd at *
  refine' wpAnyH_do 0 rfl (by kernel_rfl) (fun _ _ _ _ h => h) (by rfl) (by assumption) ⟨_, fun w' hS => ?_, ?_⟩
  rotate_left
  · ((try dsimp only at hS); go_split_ands; go_simp; try (with_reducible rfl))
  simp only [Act.put, List.setIfInBounds_toArray, List.set_cons_zero, List.set_cons_succ]
  refine' wpAnyH_do 1 rfl (by kernel_rfl) (fun _ _ _ _ h => h) (by rfl) (by assumption) ⟨_, fun w' hS => ?_, ?_⟩
  rotate_left
  · ((try dsimp only at hS); go_split_ands; go_simp; try (with_reducible rfl))
  simp only [Act.put, List.setIfInBounds_toArray, List.set_cons_zero, List.set_cons_succ]
  refine' wpAnyH_do 2 rfl (by kernel_rfl) (fun _ _ _ _ h => h) (by rfl) (by assumption) ⟨_, fun w' hS => ?_, ?_⟩
  rotate_left
  · ((try dsimp only at hS); go_split_ands; go_simp; try (with_reducible rfl))
  simp only [Act.put, List.setIfInBounds_toArray, List.set_cons_zero, List.set_cons_succ]
  refine' wpAnyH_do 3 rfl (by kernel_rfl) (fun _ _ _ _ h => h) (by rfl) (by assumption) ⟨_, fun w' hS => ?_, ?_⟩
  rotate_left
  · ((try dsimp only at hS); go_split_ands; go_simp; try (with_reducible rfl))
  simp only [Act.put, List.setIfInBounds_toArray, List.set_cons_zero, List.set_cons_succ]
  refine' wpAnyH_do 5 rfl (by kernel_rfl) (fun _ _ _ _ h => h) (by rfl) (by assumption) ⟨_, fun w' hS => ?_, ?_⟩
  rotate_left
  · ((try dsimp only at hS); go_split_ands; go_simp; try (with_reducible rfl))
  simp only [Act.put, List.setIfInBounds_toArray, List.set_cons_zero, List.set_cons_succ]
  refine' wpAnyH_do 6 rfl (by kernel_rfl) (fun _ _ _ _ h => h) (by rfl) (by assumption) ⟨_, fun w' hS => ?_, ?_⟩
  rotate_left
  · ((try dsimp only at hS); go_split_ands; go_simp; try (with_reducible rfl))
  simp only [Act.put, List.setIfInBounds_toArray, List.set_cons_zero, List.set_cons_succ]
  refine' wpAnyH_do 7 rfl (by kernel_rfl) (fun _ _ _ _ h => h) (by rfl) (by assumption) ⟨_, fun w' hS => ?_, ?_⟩
  rotate_left
  · ((try dsimp only at hS); go_split_ands; go_simp; try (with_reducible rfl))
  simp only [Act.put, List.setIfInBounds_toArray, List.set_cons_zero, List.set_cons_succ]
  refine' wpAnyH_do 8 rfl (by kernel_rfl) (fun _ _ _ _ h => h) (by rfl) (by assumption) ⟨_, fun w' hS => ?_, ?_⟩
  rotate_left
  · ((try dsimp only at hS); go_split_ands; go_simp; try (with_reducible rfl))
  simp only [Act.put, List.setIfInBounds_toArray, List.set_cons_zero, List.set_cons_succ]
  refine wpAnyH_eff 4 rfl (by kernel_rfl) (by rfl) (fun K hK => ?_)
  have HKK := Lib.hid hK
  clear hK
  go_simp
  refine (top_any L1 s' wd H3.out.l).mono ?_
  rintro e w4 ⟨rfl, rfl⟩
  dsimp only
  refine HKK.out _ _ hS ?_
  clear HKK K
  (try simp only [Act.put, List.setIfInBounds_toArray, List.set_cons_zero, List.set_cons_succ])
  refine' wpAnyH_do 9 rfl (by kernel_rfl) (fun _ _ _ _ h => h) (by rfl) (by assumption) ⟨_, fun w' hS => ?_, ?_⟩
  rotate_left
  · ((try dsimp only at hS); go_split_ands; go_simp; try (with_reducible rfl))
  simp only [Act.put, List.setIfInBounds_toArray, List.set_cons_zero, List.set_cons_succ]
  refine' wpAnyH_do 10 rfl (by kernel_rfl) (fun _ _ _ _ h => h) (by rfl) (by assumption) ⟨_, fun w' hS => ?_, ?_⟩
  rotate_left
  · ((try dsimp only at hS); go_split_ands; go_simp; try (with_reducible rfl))
  simp only [Act.put, List.setIfInBounds_toArray, List.set_cons_zero, List.set_cons_succ]
  refine wpAnyH_done (by kernel_rfl) ?_ _
  go_wp2
  go_ret
  exact ⟨rfl, L1, D1, HPQ.out.1, HPQ.out.2, by rw [HSS.out]; exact H3.out⟩
end Go.Proofs.YtoglddndicmelaaGreat.Tr
