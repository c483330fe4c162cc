/- Layer 54: which setups may be: the law's walk. -/
import Derived.Test.YtoglddndicmelaaGreatLawA
import Derived.Test.YtoglddndicmelaaGreatTruOpen
namespace Go.Proofs.YtoglddndicmelaaGreat.Tr
open Go.RowKit Go.Proofs.YtoglddndicmelaaGreatB Go.Proofs.YtoglddndicmelaaGreat
set_option maxRecDepth 100000

theorem init_all (vols blocks : Int) (rs : List Rul) : (TS.init vols blocks rs).all = [] := rfl
set_option maxHeartbeats 4000000 in
theorem tnew_walk (C : Array Value) (vols blocks : Int) (A : Option Addr) (n cap : Nat) (rs : List Rul) (W : World) (hC : C.size = 38) (h2 : C[2]? = some (.int .i64 vols)) (h3 : C[3]? = some (.int .i64 blocks)) (h36 : C[36]? = some (.slice A n cap)) (hs : Sl W 3 A n (rs.flatMap Rul.cells)) :
    Calls Tryz.prog 3 #[.agg C] W fun e W' => e = .returned (.bool true) ∧ Below W.heap.size W W' := by
  have hln : rs.length = n := by have := hs.len; rw [flat_len Rul.cells 3 Rul.length] at this; omega
  have hm := hs.small
  have HCS := Lib.hid hC
  have H2 := Lib.hid h2
  have H3 := Lib.hid h3
  have H36 := Lib.hid h36
  obtain ⟨w0, hw0⟩ : ∃ w0, W.alloc (.cells C 26) = w0 := ⟨_, rfl⟩
  have HB : Hid (w0.heap[W.heap.size]? = some (.cells C 26 (0, 0))) := by show _ = _; rw [← hw0]; exact heap_alloc_new _ _
  have HX0 : Hid (Ex0 W w0) := by show Ex0 _ _; rw [← hw0]; exact Ex.alloc _ _
  have HW0 := Lib.hid hw0
  have HSL := Lib.hid hs
  clear hw0 h2 h3 h36 hs hC
  go_enter Tryz.func3, Tryz.ntmps3
  iterate 5 go_step
  rw [HW0.out]
  go_wp2_with fail
  refine (awake_any w0).mono ?_
  rintro e w1 ⟨rfl, hx1⟩
  have HX1 := Lib.hid (HX0.out.trans0 hx1)
  have HB1 : Hid (w1.heap[W.heap.size]? = some (.cells C 26 (0, 0))) := (hx1.block _ (Array.getElem?_eq_some_iff.1 HB.out).1 id).trans HB.out
  have hlb : W.heap.size < w1.heap.size := (Array.getElem?_eq_some_iff.1 HB1.out).1
  have c36 : w1.cell? ⟨W.heap.size, 36, none⟩ = some (.slice A n cap) := by rw [cell_of_row _ _ _ _ _ _ HB1.out]; exact H36.out
  clear hx1 HX0 HB
  by_cases hn : 40 < n
  · have hni : (40 : Int) < (n : Int) := by omega
    go_wp2_with fail
    refine (awake_any w1).mono ?_
    rintro e w2 ⟨rfl, hx2⟩
    go_wp2
    go_ret
    exact ⟨rfl, (HX1.out.trans0 hx2).below (Nat.le_refl _) (fun _ h => h.elim)⟩
  have hni : ¬ (40 : Int) < (n : Int) := by omega
  go_wp2_with (refine wpList_load_row rfl 26 (.tmp 1) rfl W.heap.size rfl 26 C (0, 0) _ HB1.out Tryz.underlying26 rfl (by rw [HCS.out]; kernel_rfl) ?_)
  refine (tnew_any C vols blocks A n cap rs w1 HCS.out H2.out H3.out H36.out hm (fun _ => HSL.out.ex0 HX1.out)).mono ?_
  rintro e w2 ⟨hx2, hno, hyes⟩
  have HX2 := Lib.hid (HX1.out.trans0 hx2)
  have HB2 : Hid (w2.heap[W.heap.size]? = some (.cells C 26 (0, 0))) := (hx2.block _ (Array.getElem?_eq_some_iff.1 HB1.out).1 id).trans HB1.out
  have HMY := Lib.hid (rmay_any C vols blocks A n cap rs w2 H2.out H3.out H36.out (HSL.out.ex0 HX2.out))
  clear hx2 c36 hlb hni hn
  cases hmy : mayS vols blocks n rs with
  | false =>
    rw [hno hmy]
    rw [hmy] at HMY
    clear hno hyes hmy
    go_wp2_with (refine wpList_load_row rfl 26 (.tmp 1) rfl W.heap.size rfl 26 C (0, 0) _ HB2.out Tryz.underlying26 rfl (by rw [HCS.out]; kernel_rfl) ?_)
    refine HMY.out.mono ?_
    rintro e w3 ⟨rfl, hx3⟩
    have HX3 := Lib.hid (HX2.out.trans0 hx3)
    clear hx3
    go_wp2_with fail
    refine (top_nil w3).mono ?_
    rintro e w4 ⟨rfl, hx4⟩
    have HX4 := Lib.hid (HX3.out.trans0 hx4)
    clear hx4
    go_wp2_with fail
    refine (promised_nil w4).mono ?_
    rintro e w5 ⟨rfl, hx5⟩
    have HX5 := Lib.hid (HX4.out.trans0 hx5)
    clear hx5
    go_wp2
    go_ret
    exact ⟨rfl, HX5.out.below (Nat.le_refl _) (fun _ h => h.elim)⟩
  | true =>
    obtain ⟨L, rfl, hL, _⟩ := hyes hmy
    rw [hmy] at HMY
    have HL := Lib.hid hL
    have HIN := Lib.hid (inv_init hmy hln)
    clear hno hyes hmy hL
    go_wp2_with (refine wpList_load_row rfl 26 (.tmp 1) rfl W.heap.size rfl 26 C (0, 0) _ HB2.out Tryz.underlying26 rfl (by rw [HCS.out]; kernel_rfl) ?_)
    refine HMY.out.mono ?_
    rintro e w3 ⟨rfl, hx3⟩
    have HX3 := Lib.hid (HX2.out.trans0 hx3)
    have HL3 := Lib.hid (HL.out.ex0 hx3)
    clear hx3
    go_wp2_with fail
    refine (top_any L (TS.init vols blocks rs) w3 HL3.out).mono ?_
    rintro e w4 ⟨rfl, rfl⟩
    have ht : (TS.init vols blocks rs).top = 0 := rfl
    rw [ht]
    go_wp2_with fail
    refine (promised_any L (TS.init vols blocks rs) w4 HL3.out HIN.out).mono ?_
    rintro e w5 ⟨v5, rfl, ho5, hx5⟩
    rw [init_all] at ho5
    obtain ⟨A5, c5, rfl, _⟩ := own_sl ho5
    have HX5 := Lib.hid (HX3.out.trans0 hx5)
    clear hx5 ho5 ht
    have hl0 : ([] : List Int).length = 0 := rfl
    rw [hl0]
    go_wp2
    go_ret
    exact ⟨rfl, HX5.out.below (Nat.le_refl _) (fun _ h => h.elim)⟩
end Go.Proofs.YtoglddndicmelaaGreat.Tr
