/- Contracts of layer 61: the disk of a list. -/
import Derived.Test.YthbdmfbjkkmplaaAud33
namespace Go.Proofs.Ythbdmfbjkkmplaa
open Go.RowKit Go.Proofs.YthbdmfbjkkmplaaB Go.Proofs.Ythbdmfbjkkmplaa.Sha

abbrev diskFn : Nat := 26
abbrev diskCap (c1 c2 : Nat) : Array Value := #[.pointer (some ⟨c1, 0, none⟩), .pointer (some ⟨c2, 0, none⟩)]
/-- what a disk keeps -/
def DiskI (c1 c2 : Nat) (x : Int) (bl : List (List Nat)) (A : Option Addr) (cap : Nat) (w : World) : Prop :=
  w.heap[c1]? = some (.cells #[.int .i64 x] 3 (0, 0)) ∧ w.heap[c2]? = some (.cells #[.slice A bl.length cap] 22 (0, 0)) ∧ Sl w 32 A bl.length (rowN 32 bl)
theorem DiskI.ex {c1 c2 : Nat} {x : Int} {bl : List (List Nat)} {A : Option Addr} {cap : Nat} {w w' : World} {S : Nat → Prop} (h : DiskI c1 c2 x bl A cap w) (hx : Ex S w w') (h1 : ¬ S c1) (h2 : ¬ S c2) (h3 : ∀ b, Bl A b → ¬ S b) : DiskI c1 c2 x bl A cap w' :=
  ⟨(hx.block _ (Array.getElem?_eq_some_iff.1 h.1).1 h1).trans h.1, (hx.block _ (Array.getElem?_eq_some_iff.1 h.2.1).1 h2).trans h.2.1, h.2.2.ex hx h3⟩

set_option maxRecDepth 100000 in
set_option maxHeartbeats 1000000 in
theorem disk_any (x : Int) (A : Option Addr) (L cap : Nat) (w : World) :
    Calls Try.prog 12 #[.int .i64 x, .slice A L cap] w fun e w' => e = .returned (.func (.func diskFn) #[] (diskCap w.heap.size (w.heap.size + 1))) ∧ w'.heap[w.heap.size]? = some (.cells #[.int .i64 x] 3 (0, 0)) ∧ w'.heap[w.heap.size + 1]? = some (.cells #[.slice A L cap] 22 (0, 0)) ∧ Ex0 w w' := by
  have hmf : ∀ (fn : Fn) (first cap : Array Value) (w : World), (Instr.makeFunc fn first cap).run Try.prog w = .ok (.func fn first cap) w := fun _ _ _ _ => rfl
  go_enter Try.func12, Try.ntmps12
  go_wp2
  go_ret
  exact ⟨rfl, heap_alloc2_old w _ _, heap_alloc2_new w _ _, (Ex.alloc _ _).alloc' _⟩

set_option maxRecDepth 100000 in
set_option maxHeartbeats 1000000 in
theorem disk1_any (a b n : Nat) (ha : a < 8) (hb : b < n) (hn : n ≤ 256) (c1 c2 : Nat) (bl : List (List Nat)) (hbl : AllB 32 bl) (A : Option Addr) (cap : Nat) (w : World) (h : DiskI c1 c2 n bl A cap w) :
    Calls Try.prog diskFn #[.int .i64 a, .int .i64 b, .pointer (some ⟨c1, 0, none⟩), .pointer (some ⟨c2, 0, none⟩)] w fun e w' => e = .returned (.tuple #[.agg (u8s (blkAt bl (a * n + b))).toArray, .bool (decide (a * n + b < bl.length))]) ∧ Ex0 w w' := by
  obtain ⟨L, hLe⟩ : ∃ L, L = bl.length := ⟨_, rfl⟩
  have hbk := blkAt_ok hbl (a * n + b)
  have hmb := mul_bound ha (Nat.le_refl 8) hn
  have H := Lib.hid h
  obtain ⟨i, hi⟩ : ∃ i, i = a * n + b := ⟨_, rfl⟩
  obtain ⟨na, hna⟩ : ∃ na, na = a * n := ⟨_, rfl⟩
  have ena : (a : Int) * (n : Int) = (na : Int) := by rw [hna]; simp
  have ei : (na : Int) + (b : Int) = (i : Int) := by rw [hi, hna]; simp
  have hnab : na ≤ 2048 := by rw [hna]; exact hmb.2
  have hib : i ≤ 2304 := by rw [hi]; omega
  rw [← hi] at hbk ⊢
  rw [← hLe]
  have ibn : (b : Int) < (n : Int) := by omega
  have c1' : w.cell? ⟨c1, 0, none⟩ = some (.int .i64 n) := by rw [cell_of_row _ _ _ _ _ _ h.1]; rfl
  have c2' : w.cell? ⟨c2, 0, none⟩ = some (.slice A L cap) := by rw [cell_of_row _ _ _ _ _ _ h.2.1, hLe]; rfl
  obtain ⟨w1, hw1⟩ : ∃ w1, w1 = w.alloc (.cells (u8s z32).toArray 24) := ⟨_, rfl⟩
  have hx1 : Ex0 w w1 := by rw [hw1]; exact Ex.alloc _ _
  have h6 : w1.heap[w.heap.size]? = some (.cells (u8s z32).toArray 24 (0, 0)) := by rw [hw1]; exact heap_alloc_new w _
  have H6 := Lib.hid h6
  have HW1 := Lib.hid hw1
  have d1 := hx1.cellS c1' not_false
  have d2 := hx1.cellS c2' not_false
  have HLE := Lib.hid hLe
  have HX := Lib.hid hx1
  have HZB : Hid (∀ u ∈ (u8s z32).toArray, u.oneCell' = true) := by show ∀ u ∈ _, _; simpa using u8s_one z32
  by_cases hiL : i < L
  · have iiL : (i : Int) < (L : Int) := by omega
    have e : bl.getD i [] = blkAt bl i := by
      unfold blkAt
      simp [List.getD_eq_getElem?_getD, List.getElem?_eq_getElem (show i < bl.length by rw [← hLe]; exact hiL)]
    obtain ⟨g, off, hA, hr⟩ := (h.2.2.ex0 hx1).elemN (by decide) rfl (i := i) (by rw [← hLe]; exact hiL) (by rw [e]; exact hbk.1)
    rw [e] at hr
    subst hA
    obtain ⟨V, hV⟩ : ∃ V, V = (u8s (blkAt bl i)).toArray := ⟨_, rfl⟩
    rw [show u8s (blkAt bl i) = V.toList by rw [hV]] at hr
    have hvs : V.size = 32 := by rw [hV]; simp [u8s_len, hbk.1]
    have H1V : Hid (∀ u ∈ V, u.oneCell' = true) := by show ∀ u ∈ _, _; rw [hV]; simpa using u8s_one (blkAt bl i)
    rw [← hV]
    have hd : decide (i < L) = true := decide_eq_true hiL
    rw [hd]
    have HR := Lib.hid hr
    clear hr e hV hbk hmb h hi hna c1' c2' hx1 hLe hd hw1 h6
    go_enter Try.func26, Try.ntmps26
    iterate 6 go_step
    generalize hW : World.alloc w _ = W'
    obtain rfl : W' = w1 := by rw [HW1.out, ← hW]; rfl
    clear hW
    go_wp2_with (first | refine wpList_load_at rfl 24 (.tmp 34) rfl ⟨g, off + i * 32, none⟩ rfl V.toList _ HR.out Try.underlying24 rfl (by rw [Array.length_toList, hvs]; kernel_rfl) ?_ | (refine wpList_store_all rfl 24 (.tmp 6) (.tmp 35) rfl w.heap.size rfl V _ rfl 24 H6.out (by rw [hvs]; rfl) H1V.out (by rw [hvs]; kernel_rfl) ?_))
    refine bodyPost_ret (results_row_tmp rfl _ _ w.heap.size _ _ _ _ rfl (setRow_heap _ _ _ _ _ _ H6.out) Try.underlying24 rfl (by rw [hvs]; kernel_rfl) (.bool true) rfl) rfl ?_
    exact ⟨rfl, HX.out.trans (ex_setRow _ _ _) (fun _ _ h => h) (fun i hi h => by omega)⟩
  · have iiL : ¬ (i : Int) < (L : Int) := by omega
    have e : blkAt bl i = z32 := by
      unfold blkAt
      rw [List.getD_eq_getElem?_getD, List.getElem?_eq_none (by rw [← hLe]; omega)]; rfl
    rw [e]
    have hd : decide (i < L) = false := decide_eq_false hiL
    rw [hd]
    clear e hbk hmb h hi hna c1' c2' hx1 hLe hd hw1 h6
    go_enter Try.func26, Try.ntmps26
    iterate 6 go_step
    generalize hW : World.alloc w _ = W'
    obtain rfl : W' = w1 := by rw [HW1.out, ← hW]; rfl
    clear hW
    go_wp2_with (refine wpList_store_all rfl 24 (.tmp 6) (.tmp 31) rfl w.heap.size rfl (u8s z32).toArray _ rfl 24 H6.out (by rfl) HZB.out (by kernel_rfl) ?_)
    refine bodyPost_ret (results_row_tmp rfl _ _ w.heap.size _ _ _ _ rfl (setRow_heap _ _ _ _ _ _ H6.out) Try.underlying24 rfl (by kernel_rfl) (.bool false) rfl) rfl ?_
    exact ⟨rfl, HX.out.trans (ex_setRow _ _ _) (fun _ _ h => h) (fun i hi h => by omega)⟩

theorem reads_disk (v n : Nat) (hv : v ≤ 8) (hn : n ≤ 256) (c1 c2 : Nat) (bl : List (List Nat)) (hbl : AllB 32 bl) (A : Option Addr) (cap : Nat) (w : World) (h : DiskI c1 c2 n bl A cap w) (hA : ∀ b, Bl A b → b < w.heap.size) :
    Reads v n diskFn (diskCap c1 c2) (blkAt bl) (fun _ => False) (fun _ w' => DiskI c1 c2 n bl A cap w') w where
  ok := blkAt_ok hbl
  low := fun b hb => hb.elim
  start := h
  keep := fun i w1 w2 h1 hx => h1.ex hx (by have := (Array.getElem?_eq_some_iff.1 h.1).1; omega) (by have := (Array.getElem?_eq_some_iff.1 h.2.1).1; omega) (fun b hb => by have := hA b hb; omega)
  ent := fun args w => by rfl
  call := fun a b ha hb w' hi => by
    refine (disk1_any a b n (by omega) hb hn c1 c2 bl hbl A cap w' hi).mono ?_
    rintro e w'' ⟨rfl, hx⟩
    refine ⟨_, _, rfl, blkAt_ok hbl _, ?_, hi.ex hx not_false not_false (fun _ _ => not_false), hx⟩
    by_cases h1 : a * n + b < bl.length
    · simp [h1]
    · simp only [h1, decide_false, Bool.false_eq_true, if_false]
      unfold blkAt
      rw [List.getD_eq_getElem?_getD, List.getElem?_eq_none (by omega)]; rfl
end Go.Proofs.Ythbdmfbjkkmplaa
