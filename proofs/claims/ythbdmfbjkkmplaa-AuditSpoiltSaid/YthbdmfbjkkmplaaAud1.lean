/- Contracts of layer 61: the small functions of sha. Three blocks that are made. -/
import Derived.Test.YthbdmfbjkkmplaaProg
import Derived.WalkKit
import Derived.ProofKit
import Derived.Lib.Hide
import Derived.Outline
import Derived.Laws.Rows
import Derived.BigQuiet
import Derived.Deep.QuietTactic
import Derived.Deep.RegionHeld3
import Derived.Deep.AppendLies
import Derived.StillTailTactics
import Derived.Test.YthbdmfbjkkmplaaAud0
import Derived.Test.YthbdmfbjkkmplaaB9
namespace Go.Proofs.Ythbdmfbjkkmplaa
open Go.RowKit Go.Proofs.YthbdmfbjkkmplaaB Go.Proofs.Ythbdmfbjkkmplaa.Sha

theorem ret_int {k : IntKind} {a b : Int} (h : a = b) : Ending.returned (.int k a) = .returned (.int k b) := by rw [h]
theorem ret_bool {a b : Bool} (h : a = b) : Ending.returned (.bool a) = .returned (.bool b) := by rw [h]

theorem turned_mask (n : Nat) (h : n ∈ [2, 3, 6, 7, 11, 13, 17, 18, 19, 22, 25]) : bits .and .u64 (IntKind.u64.wrap (-(n : Int))) 31 = ((32 - n : Nat) : Int) ∧ 1 ≤ n ∧ n ≤ 25 := by
  simp only [List.mem_cons, List.not_mem_nil, or_false] at h
  rcases h with rfl | rfl | rfl | rfl | rfl | rfl | rfl | rfl | rfl | rfl | rfl <;> exact ⟨by decide, by decide, by decide⟩

theorem rotate_any (x n : Nat) (hx : x < 4294967296) (hn : n ∈ [2, 3, 6, 7, 11, 13, 17, 18, 19, 22, 25]) (w : World) :
    Calls Try.prog 64 #[.int .u32 x, .int .i64 (-n)] w fun e w' => e = .returned (.int .u32 (rotr x n)) ∧ w' = w := by
  obtain ⟨hm, h1, h2⟩ := turned_mask n hn
  obtain ⟨k, hk⟩ : ∃ k, k = 32 - n := ⟨_, rfl⟩
  have e2 : (32 : Int) - (k : Int) = (n : Int) := by omega
  have e3 : IntKind.u64.wrap (n : Int) = (n : Int) := by simp [IntKind.wrap, IntKind.bits, IntKind.signed]; omega
  rw [← hk] at hm
  have hs1 := run_shl32 (P := Try.prog) x k (by omega) .u64 w
  have hs2 := run_shr32 (P := Try.prog) x n (by omega) .u64 w
  have HO : Hid (bits .or .u32 ((x : Int) * 2 ^ k % 4294967296) ((x : Int) / 2 ^ n) = ((rotr x n : Nat) : Int)) := by
    have h := or32 (a := x * 2 ^ k % 4294967296) (b := x / 2 ^ n) (Nat.mod_lt _ (by decide)) (div_lt hx)
    rw [hk, rotr_or (n := n) hx (by omega), ← hk] at h
    show _ = _
    rw [← h]; congr 1 <;> simp
  have HH := Lib.hid hn
  clear hn hk h1 h2
  go_enter Try.func64, Try.ntmps64
  go_wp2
  go_ret
  exact ⟨ret_int HO.out, rfl⟩

theorem turn_any (x n : Nat) (hx : x < 4294967296) (hn : n ∈ [2, 3, 6, 7, 11, 13, 17, 18, 19, 22, 25]) (w : World) :
    Calls Try.prog 58 #[.int .u32 x, .int .i64 n] w fun e w' => e = .returned (.int .u32 (rotr x n)) ∧ w' = w := by
  have e3 : IntKind.i64.wrap (-(n : Int)) = -(n : Int) := by
    obtain ⟨_, h1, h2⟩ := turned_mask n hn
    simp [IntKind.wrap, IntKind.bits, IntKind.signed]; omega
  have H := Lib.hid (rotate_any x n hx hn w)
  clear hn
  go_enter Try.func58, Try.ntmps58
  go_wp2_with fail
  refine H.out.mono ?_
  rintro e w1 ⟨rfl, rfl⟩
  go_wp2
  go_ret
  exact ⟨rfl, rfl⟩

theorem or_add {x y K : Nat} (k : Nat) (hK : K = 2 ^ k) (h : y < K) : x * K ||| y = x * K + y := by subst hK; rw [← Nat.shiftLeft_eq, ← Nat.shiftLeft_add_eq_or_of_lt h]
theorem word_or {a b c d : Nat} (ha : a < 256) (hb : b < 256) (hc : c < 256) (hd : d < 256) :
    bits .or .u32 (bits .or .u32 (bits .or .u32 ((a : Int) * 16777216) ((b : Int) * 65536)) ((c : Int) * 256)) (d : Int) =
      ((a * 16777216 + b * 65536 + c * 256 + d : Nat) : Int) := by
  rw [show (a : Int) * 16777216 = ((a * 16777216 : Nat) : Int) by omega, show (b : Int) * 65536 = ((b * 65536 : Nat) : Int) by omega,
    show (c : Int) * 256 = ((c * 256 : Nat) : Int) by omega, or32 (by omega) (by omega)]
  have e1 := or_add (x := a) (y := b * 65536) (K := 16777216) 24 rfl (by omega)
  rw [e1, or32 (by omega) (by omega)]
  have e2 := or_add (x := a * 256 + b) (y := c * 256) (K := 65536) 16 rfl (by omega)
  rw [show a * 16777216 + b * 65536 = (a * 256 + b) * 65536 by omega, e2, or32 (by omega) (by omega)]
  have e3 := or_add (x := (a * 256 + b) * 256 + c) (y := d) (K := 256) 8 rfl (by omega)
  rw [show (a * 256 + b) * 65536 + c * 256 = ((a * 256 + b) * 256 + c) * 256 by omega, e3]

theorem word_any (g off n cap : Nat) (b : List Nat) (hb : ∀ x ∈ b, x < 256) (hn : 4 ≤ n) (hl : 4 ≤ b.length) (w : World) (hr : RowAt w ⟨g, off, none⟩ (u8s b)) :
    Calls Try.prog 57 #[.slice (some ⟨g, off, none⟩) n cap] w fun e w' => e = .returned (.int .u32 (word4 b 0)) ∧ Ex0 w w' := by
  have hc : ∀ j, j < 4 → ∃ x : Nat, b.getD j 0 = x ∧ x < 256 ∧ w.cell? ⟨g, off + j, none⟩ = some (.int .u8 x) := fun j hj => by
    have h := hr j _ (u8s_get (by omega))
    rw [Addr.add_lit] at h
    exact ⟨_, rfl, by rw [List.getD_eq_getElem?_getD, List.getElem?_eq_getElem (by omega)]; exact hb _ (List.getElem_mem _), h⟩
  obtain ⟨x0, e0, l0, h0⟩ := hc 0 (by omega)
  rw [Nat.add_zero] at h0
  obtain ⟨x1, e1, l1, h1⟩ := hc 1 (by omega)
  obtain ⟨x2, e2, l2, h2⟩ := hc 2 (by omega)
  obtain ⟨x3, e3, l3, h3⟩ := hc 3 (by omega)
  have H0 : Hid (word4 b 0 = x0 * 16777216 + x1 * 65536 + x2 * 256 + x3) := by show _ = _; unfold word4; simp only [Nat.mul_zero, Nat.zero_add, e0, e1, e2, e3]
  clear hc hr hb e0 e1 e2 e3
  go_enter Try.func57, Try.ntmps57
  go_wp2_with fail
  go_quiet (fail)
  go_wp2
  go_ret
  refine ⟨ret_int ?_, (Ex.refl _ _).drewN' _⟩
  rw [word_or l0 l1 l2 l3, H0.out]


theorem first_any (w : World) :
    Calls Try.prog 50 #[] w fun e w' => e = .returned (.agg (u32s h0).toArray) ∧ Ex0 w w' := by
  go_enter Try.func50, Try.ntmps50
  go_wp2_with fail
  refine bodyPost_ret (results_cell_row rfl _ _ w.heap.size _ _ _ _ rfl (heap_alloc_new _ _) Try.underlying85 rfl (by kernel_rfl)) rfl ?_
  exact ⟨rfl, Ex.alloc _ _⟩

set_option maxRecDepth 100000 in
theorem rounds_any (w : World) :
    Calls Try.prog 59 #[] w fun e w' => e = .returned (.agg (u32s ks).toArray) ∧ Ex0 w w' := by
  go_enter Try.func59, Try.ntmps59
  iterate 10 go_step
  generalize hW : World.alloc w _ = W
  have hb : ∃ C : Array Value, C.size = 64 ∧ W.heap[w.heap.size]? = some (.cells C 93 (0, 0)) := ⟨_, rfl, by rw [← hW]; exact heap_alloc_new _ _⟩
  have hx : Ex0 w W := by rw [← hW]; exact Ex.alloc _ _
  clear hW
  obtain ⟨C, hC, hb⟩ := hb
  go_step
  refine wpList_yields rfl (.agg (u32s ks).toArray) (by kernel_rfl) ?_
  refine wpList_store_all rfl 93 (.tmp 0) (.tmp 1) rfl w.heap.size rfl _ C rfl _ hb (by rw [hC]; rfl) (by simpa using u32s_one ks) (by kernel_rfl) ?_
  have hb2 := setRow_heap W w.heap.size C (u32s ks).toArray _ _ hb
  have hx2 : Ex0 w (W.setRow w.heap.size (u32s ks).toArray) := hx.trans (ex_setRow _ _ _) (fun _ _ h => h) (fun i hi h => by omega)
  have hsz : (u32s ks).toArray.size = 64 := rfl
  generalize W.setRow w.heap.size (u32s ks).toArray = W2 at *
  generalize hKS : (u32s ks).toArray = KS at *
  have HK := Lib.hid hKS
  clear hb hx hKS
  dsimp only [Act.put]
  go_wp2
  refine bodyPost_ret (results_cell_row rfl _ _ w.heap.size _ _ _ _ rfl hb2 Try.underlying93 rfl (by rw [hsz]; kernel_rfl)) rfl ?_
  exact ⟨by rw [HK.out], hx2⟩
end Go.Proofs.Ythbdmfbjkkmplaa

namespace Go.Proofs.Ythbdmfbjkkmplaa
open Go.RowKit Go.Proofs.YthbdmfbjkkmplaaB

theorem alloc3 (w : World) (A B C : Obj) : (((w.alloc A).alloc B).alloc C).heap[w.heap.size]? = some A ∧ (((w.alloc A).alloc B).alloc C).heap[w.heap.size + 1]? = some B ∧
    (((w.alloc A).alloc B).alloc C).heap[w.heap.size + 1 + 1]? = some C ∧ (((w.alloc A).alloc B).alloc C).heap.size = w.heap.size + 3 := by
  have e1 : (w.alloc A).heap.size = w.heap.size + 1 := by simp
  have e2 : ((w.alloc A).alloc B).heap.size = w.heap.size + 1 + 1 := by simp
  refine ⟨?_, ?_, ?_, by simp⟩
  · rw [Below.heap_alloc _ _ _ (by omega), Below.heap_alloc _ _ _ (by omega), heap_alloc_new]
  · rw [Below.heap_alloc _ _ _ (by omega), ← e1, heap_alloc_new]
  · rw [← e2, heap_alloc_new]

end Go.Proofs.Ythbdmfbjkkmplaa
