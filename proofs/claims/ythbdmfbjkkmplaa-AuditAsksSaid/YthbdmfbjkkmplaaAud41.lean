/- The walk of AuditAsks: the law. -/
import Derived.Test.YthbdmfbjkkmplaaAud39
namespace Go.Proofs.Ythbdmfbjkkmplaa
open Go.RowKit Go.Proofs.YthbdmfbjkkmplaaB Go.Proofs.Ythbdmfbjkkmplaa.Sha

theorem u8_wf {a : Int} (h : (Lit.int .u8 a).wf = true) : 0 ≤ a ∧ a < 256 := by
  simp [Lit.wf, IntKind.min, IntKind.max, IntKind.signed, IntKind.bits] at h
  omega
set_option maxRecDepth 100000 in
set_option maxHeartbeats 1000000 in
theorem asks_walk (x y : Int) (hx00 : 0 ≤ x) (hx1 : x < 256) (hy0 : 0 ≤ y) (hy1 : y < 256) (w : World) :
    Calls Try.prog 7 #[.int .u8 x, .int .u8 y] w fun e w' => e = .returned (.bool true) ∧ Below w.heap.size w w' := by
  obtain ⟨v, hv⟩ : ∃ v : Nat, (v : Int) = 1 + x % 8 := ⟨(1 + x % 8).toNat, by omega⟩
  obtain ⟨n, hn⟩ : ∃ n : Nat, (n : Int) = 1 + y % 24 := ⟨(1 + y % 24).toNat, by omega⟩
  have hv1 : 1 ≤ v ∧ v ≤ 8 := by omega
  have hn1 : 1 ≤ n ∧ n ≤ 24 := by omega
  have HV : Hid (1 + x % 8 = (v : Int)) := hv.symm
  have HN : Hid (1 + y % 24 = (n : Int)) := hn.symm
  clear hv hn
  go_enter Try.func7, Try.ntmps7
  go_wp2_with fail
  rw [HV.out, HN.out]
  generalize hW : World.alloc w _ = W
  have hx0 : Ex0 w W := by rw [← hW]; exact Ex.alloc _ _
  have h6 : W.heap[w.heap.size]? = some (.cells #[.int .i64 n] 3 (0, 0)) := by rw [← hW]; exact heap_alloc_new w _
  obtain ⟨cn, en⟩ : ∃ b, b = w.heap.size := ⟨_, rfl⟩
  rw [← en] at h6 ⊢
  have H6 := Lib.hid h6
  have HX0 := Lib.hid hx0
  clear hW hx0 h6 en
  refine (awake_any _).mono ?_
  rintro e w1 ⟨rfl, hx1⟩
  have HX1 := Lib.hid hx1
  have g6 := (hx1.block _ (Array.getElem?_eq_some_iff.1 H6.out).1 not_false).trans H6.out
  have d6 : ∀ o1 o2, ((w1.alloc o1).alloc o2).cell? ⟨cn, 0, none⟩ = some (.int .i64 n) := fun o1 o2 => by
    rw [cell_of_row _ _ _ _ _ _ (((((Ex.alloc w1 o1).alloc' o2 : Ex0 _ _)).block _ (Array.getElem?_eq_some_iff.1 g6).1 not_false).trans g6)]; rfl
  have G6 := Lib.hid g6
  have hmf : ∀ (fn : Fn) (first cap : Array Value) (w : World), (Instr.makeFunc fn first cap).run Try.prog w = .ok (.func fn first cap) w := fun _ _ _ _ => rfl
  clear hx1 g6
  go_wp2_with fail
  generalize hW : World.alloc (World.alloc w1 _) _ = W3
  have hx3 : Ex0 w1 W3 := by rw [← hW]; exact (Ex.alloc _ _).alloc' _
  have g7 : W3.heap[w1.heap.size]? = some (.cells #[.int .i64 0] 3 (0, 0)) := by rw [← hW]; exact heap_alloc2_old w1 _ _
  have g8 : W3.heap[w1.heap.size + 1]? = some (.cells #[.bool true] 4 (0, 0)) := by rw [← hW]; exact heap_alloc2_new w1 _ _
  have g6 := (hx3.block _ (Array.getElem?_eq_some_iff.1 G6.out).1 not_false).trans G6.out
  obtain ⟨ca, ea⟩ : ∃ b, b = w1.heap.size := ⟨_, rfl⟩
  obtain ⟨cr, er⟩ : ∃ b, b = w1.heap.size + 1 := ⟨_, rfl⟩
  have lcn : cn < w1.heap.size := (Array.getElem?_eq_some_iff.1 G6.out).1
  have l3 : w.heap.size ≤ w1.heap.size := (HX0.out.trans0 HX1.out).size
  have n1 : cr ≠ ca := by omega
  have n2 : cr ≠ cn := by omega
  have n3 : ca ≠ cn := by omega
  have LOW : Hid (w.heap.size ≤ ca ∧ w.heap.size ≤ cr) := ⟨by omega, by omega⟩
  rw [← ea] at g7
  rw [← er] at g8
  have HRT := Lib.hid (aroot_yes v n hv1.1 hv1.2 hn1.1 (by omega) asksFn #[.pointer (some ⟨cr, 0, none⟩), .pointer (some ⟨ca, 0, none⟩), .pointer (some ⟨cn, 0, none⟩)] asksF (fun k => k = cr ∨ k = ca) (AsksI cr ca cn n) W3 (asks_reads n v hv1.2 (by omega) cr ca cn n1 n2 n3 W3 ⟨g8, g7, g6⟩))
  rw [← er, ← ea]
  have HX3 := Lib.hid hx3
  clear hW hx3 g6 g7 g8 ea er n1 n2 n3 l3 lcn d6
  have hvn2 : v * n ≤ 8 * 24 := Nat.mul_le_mul hv1.2 hn1.2
  have hvn1 : 1 ≤ v * n := Nat.mul_pos hv1.1 hn1.1
  have hmul : (v : Int) * (n : Int) = ((v * n : Nat) : Int) := by simp
  have ht16 : (treeS (leafN asksF n (v * n))).length = 16 := treeS_len (by rw [leafN_len]; omega)
  obtain ⟨N, hN⟩ : ∃ N, N = v * n := ⟨_, rfl⟩
  rw [← hN] at hvn1 hvn2 hmul HRT ht16
  obtain ⟨CA, hCA⟩ : ∃ CA, CA = (u8s (treeS (leafN asksF n N))).toArray := ⟨_, rfl⟩
  have hsz : CA.size = 16 := by rw [hCA]; simp [u8s_len, ht16]
  have H1C : Hid (∀ v ∈ CA, v.oneCell' = true) := by show ∀ v ∈ CA, _; rw [hCA]; simpa using u8s_one _
  rw [← hCA] at HRT
  clear hN hCA ht16
  refine HRT.out.mono ?_
  rintro e w4 ⟨rfl, hI, hx4⟩
  have HI := Lib.hid hI
  have HX4 := Lib.hid hx4
  clear hI hx4
  go_wp2_with (refine wpList_store_all rfl 28 (.tmp 9) (.tmp 26) rfl w4.heap.size rfl CA _ rfl 28 (heap_alloc_new _ _) (by rw [hsz]; rfl) H1C.out (by rw [hsz]; kernel_rfl) ?_; rw [World.setRow_alloc_new]; obtain ⟨w5, hw5⟩ : ∃ w5, w5 = w4.alloc (.cells CA 28) := ⟨_, rfl⟩; rw [← hw5]; have HX5 : Hid (Ex0 w4 w5) := (by rw [hw5]; exact Ex.alloc _ _); have d8 : w5.cell? ⟨cr, 0, none⟩ = some (.bool true) := HX5.out.cellS (by rw [cell_of_row _ _ _ _ _ _ HI.out.1]; rfl) not_false; have d7 : w5.cell? ⟨ca, 0, none⟩ = some (.int .i64 N) := HX5.out.cellS (by rw [cell_of_row _ _ _ _ _ _ HI.out.2.1]; rfl) not_false; have d6 : w5.cell? ⟨cn, 0, none⟩ = some (.int .i64 n) := HX5.out.cellS (by rw [cell_of_row _ _ _ _ _ _ HI.out.2.2]; rfl) not_false; clear hw5)
  go_ret
  refine ⟨rfl, ?_⟩
  have hx : Ex (fun k => k = cr ∨ k = ca) w w5 := ((((HX0.out.trans0 HX1.out).trans0 HX3.out).trans HX4.out (fun _ _ h => h.elim) (fun _ _ h => h))).trans0 HX5.out
  exact hx.below (Nat.le_refl _) (fun k h => by rcases h with rfl | rfl; exact LOW.out.2; exact LOW.out.1)
end Go.Proofs.Ythbdmfbjkkmplaa
