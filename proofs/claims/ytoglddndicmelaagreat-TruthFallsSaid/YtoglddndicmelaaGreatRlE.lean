/- Layer 54: the document's New. -/
import Derived.Test.YtoglddndicmelaaGreatRlD
namespace Go.Proofs.YtoglddndicmelaaGreat.Tr
open Go.RowKit Go.Proofs.YtoglddndicmelaaGreatB Go.Proofs.YtoglddndicmelaaGreat
set_option maxRecDepth 100000

theorem brs_fs0 : brs fs0 = [] := rfl
/-- what the document's New gives -/
def RNewPost (vols blocks : Int) (rs : List Rul) (A : Option Addr) (cap : Nat) (w : World) (e : Ending) (w' : World) : Prop :=
  Ex0 w w' ∧ ∃ D : RLstP, e = .returned (.pointer (some ⟨D.p, 0, none⟩)) ∧ RLstAt w' D (TS.init vols blocks rs) ∧ Fr w.heap.size D.G ∧ D.P.R = A ∧ D.P.cR = cap
theorem rnew_put {vols blocks : Int} {rs : List Rul} {A : Option Addr} {cap : Nat} {w wc : World} {p1 p2 : Nat} (hx : Ex0 w wc) (h1 : wc.heap[p1]? = some (.cells #[.slice none 0 0, .slice none 0 0, .slice none 0 0] 79 (0, 0))) (h2 : wc.heap[p2]? = some (.cells #[.slice none 0 0] 94 (0, 0))) (hp1 : w.heap.size ≤ p1) (hp2 : w.heap.size ≤ p2) (hA : ∀ b, Bl A b → b < w.heap.size) (hs : Sl w 3 A rs.length (rs.flatMap Rul.cells)) :
    RNewPost vols blocks rs A cap w (.returned (.pointer (some ⟨wc.heap.size, 0, none⟩))) (wc.alloc (.cells #[.int .i64 vols, .int .i64 blocks, .int .i64 0, .int .u64 0, .slice none 0 0, .pointer (some ⟨p1, 0, none⟩), .slice A rs.length cap, .slice none 0 0, .pointer (some ⟨p2, 0, none⟩)] 48)) := by
  have hxa := Ex.alloc wc (.cells #[.int .i64 vols, .int .i64 blocks, .int .i64 0, .int .u64 0, .slice none 0 0, .pointer (some ⟨p1, 0, none⟩), .slice A rs.length cap, .slice none 0 0, .pointer (some ⟨p2, 0, none⟩)] 48)
  have hb := heap_alloc_new wc (.cells #[.int .i64 vols, .int .i64 blocks, .int .i64 0, .int .u64 0, .slice none 0 0, .pointer (some ⟨p1, 0, none⟩), .slice A rs.length cap, .slice none 0 0, .pointer (some ⟨p2, 0, none⟩)] 48)
  generalize wc.alloc (.cells #[.int .i64 vols, .int .i64 blocks, .int .i64 0, .int .u64 0, .slice none 0 0, .pointer (some ⟨p1, 0, none⟩), .slice A rs.length cap, .slice none 0 0, .pointer (some ⟨p2, 0, none⟩)] 48) = wd at *
  have hno : ∀ (b : Nat), ¬ Bl none b := fun b hb => by cases hb
  have hsl : ∀ (sz : Nat) , Sl wd sz none 0 [] := fun sz => ⟨by simp, by omega, fun h => by omega⟩
  have g1 := (hxa.block _ (Array.getElem?_eq_some_iff.1 h1).1 id).trans h1
  have g2 := (hxa.block _ (Array.getElem?_eq_some_iff.1 h2).1 id).trans h2
  have hsz := hx.size
  refine ⟨hx.trans0 hxa, ⟨wc.heap.size, none, 0, ⟨p1, ⟨none, none, none, 0, 0, 0⟩, A, cap, none, 0, p2, none, 0⟩⟩, rfl, ⟨hb, hsl 36, fun _ => rfl, ⟨⟨g1, hsl 1, hsl 1, hsl 1, fun _ => rfl, fun _ => rfl, fun _ => rfl, fun b hb => ?_, Nat.le_refl _, Nat.le_refl _, Nat.le_refl _⟩, hs.ex0 (hx.trans0 hxa), hsl 6, fun b hb => (hno b hb).elim, fun _ => rfl, ⟨g2, hsl 4, fun b hb => (hno b hb).elim, fun _ => rfl, Nat.le_refl _, Nat.zero_le _⟩⟩, fun b hb => ?_⟩, fun b hb => ?_, rfl, rfl⟩
  · rcases hb with hb | hb | hb <;> exact (hno b hb).elim
  · rcases hb with (hb | hb | hb | hb) | hb
    · exact (hno b hb).elim
    · rcases hb with hb | hb | hb <;> exact (hno b hb).elim
    · exact (hno b hb).elim
    · exact (hno b hb).elim
    · have := hA b hb
      have hw := hxa.size
      refine ⟨fun hm => ?_, by omega⟩
      rcases hm with hm | hm | hm
      · have e : b = wc.heap.size := hm; omega
      · have e : b = p1 := hm; omega
      · have e : b = p2 := hm; omega
  · rcases hb with (hb | hb | hb) | hb | hb | hb | hb
    · have e : b = wc.heap.size := hb; omega
    · have e : b = p1 := hb; omega
    · have e : b = p2 := hb; omega
    · exact (hno b hb).elim
    · rcases hb with hb | hb | hb <;> exact (hno b hb).elim
    · exact (hno b hb).elim
    · exact (hno b hb).elim
set_option maxHeartbeats 4000000 in
theorem rnew54_any (C : Array Value) (vols blocks : Int) (A : Option Addr) (cap : Nat) (rs : List Rul) (w : World) (h2 : C[2]? = some (.int .i64 vols)) (h3 : C[3]? = some (.int .i64 blocks)) (h36 : C[36]? = some (.slice A rs.length cap)) (hs : Sl w 3 A rs.length (rs.flatMap Rul.cells)) (hA : ∀ b, Bl A b → b < w.heap.size) :
    Calls Tryz.prog 47 #[.agg C] w (RNewPost vols blocks rs A cap w) := by
  obtain ⟨wa, hwa⟩ : ∃ wa, w.alloc (.cells C 26) = wa := ⟨_, rfl⟩
  have hB : wa.heap[w.heap.size]? = some (.cells C 26 (0, 0)) := by rw [← hwa]; exact heap_alloc_new _ _
  have HXA : Hid (Ex0 w wa) := by show Ex0 _ _; rw [← hwa]; exact Ex.alloc _ _
  have HWA := Lib.hid hwa
  have hS0 : wa.cell? ⟨w.heap.size, 2, none⟩ = some (.int .i64 vols) ∧ wa.cell? ⟨w.heap.size, 3, none⟩ = some (.int .i64 blocks) ∧ wa.cell? ⟨w.heap.size, 36, none⟩ = some (.slice A rs.length cap) :=
    ⟨by rw [cell_of_row _ _ _ _ _ _ hB]; exact h2, by rw [cell_of_row _ _ _ _ _ _ hB]; exact h3, by rw [cell_of_row _ _ _ _ _ _ hB]; exact h36⟩
  have HS0 := Lib.hid hS0
  have HSL := Lib.hid hs
  have HAL := Lib.hid hA
  clear hwa hB h2 h3 h36 hs hA hS0
  go_enter Tryz.func47, Tryz.ntmps47
  iterate 5 go_step
  rw [HWA.out]
  obtain ⟨c2, c3, c36⟩ := HS0.out
  have hlb : w.heap.size < wa.heap.size := World.block_lt_of_cell? _ _ c2
  go_wp2
  go_ret
  have hp := rnew_put (vols := vols) (blocks := blocks) (cap := cap) (p1 := wa.heap.size) (p2 := wa.heap.size + 1) ((HXA.out.alloc' _).alloc' _) (heap_alloc2_old _ _ _) (heap_alloc2_new _ _ _) HXA.out.size (Nat.le_succ_of_le HXA.out.size) HAL.out HSL.out
  rw [World.size_alloc, World.size_alloc] at hp
  exact hp
end Go.Proofs.YtoglddndicmelaaGreat.Tr
