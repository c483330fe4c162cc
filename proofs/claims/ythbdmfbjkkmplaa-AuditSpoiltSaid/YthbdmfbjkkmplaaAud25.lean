/- Contracts of layer 61: merkle's New, Root and Proof. -/
import Derived.Test.YthbdmfbjkkmplaaAud23
import Derived.Test.YthbdmfbjkkmplaaAud24
import Derived.Test.YthbdmfbjkkmplaaAud4
namespace Go.Proofs.Ythbdmfbjkkmplaa
open Go.RowKit Go.Proofs.YthbdmfbjkkmplaaB Go.Proofs.Ythbdmfbjkkmplaa.Sha

/-- a tree behind its pointer -/
def Rooted (w : World) (bt : Nat) (l : List (List Nat)) : Prop := ∃ b, w.heap[bt]? = some (.cells #[.pointer (some ⟨b, 0, none⟩)] 71 (0, 0)) ∧ TreeAt w b l
theorem Rooted.ex0 {w w' : World} {bt : Nat} {l : List (List Nat)} (h : Rooted w bt l) (hx : Ex0 w w') : Rooted w' bt l := by
  obtain ⟨b, h1, h2⟩ := h
  exact ⟨b, (hx.block _ (Array.getElem?_eq_some_iff.1 h1).1 not_false).trans h1, h2.ex0 hx⟩

set_option maxRecDepth 100000 in
set_option maxHeartbeats 1000000 in
theorem mnew_any (ls : List (List Nat)) (A : Option Addr) (cap : Nat) (w : World) (h0 : 0 < ls.length) (hL : ls.length ≤ 65536) (hok : AllB 16 ls) (hcap : ls.length ≤ cap) (hs : Sl w 16 A ls.length (rowN 16 ls)) :
    Calls Try.prog 24 #[.slice A ls.length cap] w fun e w' => ∃ b, e = .returned (.pointer (some ⟨b, 0, none⟩)) ∧ Rooted w' b ls ∧ Ex0 w w' := by
  have HG := Lib.hid (grow_aux ls.length ls A cap w h0 (Nat.le_refl _) (by omega) hok hcap hs)
  obtain ⟨n, hn⟩ : ∃ n, n = ls.length := ⟨_, rfl⟩
  rw [← hn] at h0 hL hcap HG ⊢
  have hsl : ∀ w', (Instr.sliceAt 37 (.slice A n cap) none (some (.int .i64 n)) none).run Try.prog w' = .ok (.slice A n cap) w' := fun w' =>
    run_sliceAt_high (P := Try.prog) (sz := 16) Try.underlying37 (by kernel_rfl) A n cap n (by omega) w'
  have hn0 : ¬ (n : Int) = 0 := by omega
  have hmin : min (n : Int) 65536 = (n : Int) := by omega
  have hle : (n : Int) ≤ 65536 := by omega
  clear hn hok hs
  go_enter Try.func24, Try.ntmps24
  go_wp2_with (refine HG.out.mono ?_; rintro e w2 ⟨b, rfl, ht, hx2⟩; have HT := Lib.hid ht; have HX := Lib.hid hx2; clear ht hx2)
  go_ret
  refine ⟨_, rfl, ⟨b, heap_alloc_new _ _, HT.out.ex0 (Ex.alloc _ _)⟩, HX.out.alloc' _⟩

theorem root_ptr (bt b : Nat) (w : World) (h : w.heap[bt]? = some (.cells #[.pointer (some ⟨b, 0, none⟩)] 71 (0, 0))) :
    Calls Try.prog 37 #[.pointer (some ⟨bt, 0, none⟩)] w fun e w' => e = .returned (.pointer (some ⟨b, 0, none⟩)) ∧ w = w' := by
  have hc : w.cell? ⟨bt, 0, none⟩ = some (.pointer (some ⟨b, 0, none⟩)) := by rw [cell_of_row _ _ _ _ _ _ h]; rfl
  clear h
  go_enter Try.func37, Try.ntmps37
  go_wp2
  go_ret
  exact ⟨rfl, rfl⟩
theorem len_any (bt : Nat) (l : List (List Nat)) (w : World) (h : Rooted w bt l) :
    Calls Try.prog 43 #[.pointer (some ⟨bt, 0, none⟩)] w fun e w' => e = .returned (.int .i64 l.length) ∧ w = w' := by
  obtain ⟨b, h1, h2⟩ := h
  have hc := h2.num
  have HR := Lib.hid (root_ptr bt b w h1)
  clear h1 h2
  go_enter Try.func43, Try.ntmps43
  go_wp2_with (refine HR.out.mono ?_; rintro e w2 ⟨rfl, rfl⟩)
  go_ret
  exact ⟨rfl, rfl⟩
set_option maxRecDepth 100000 in
set_option maxHeartbeats 1000000 in
theorem root_any (bt : Nat) (l : List (List Nat)) (w : World) (h : Rooted w bt l) :
    Calls Try.prog 25 #[.pointer (some ⟨bt, 0, none⟩)] w fun e w' => e = .returned (.agg (u8s (treeS l)).toArray) ∧ Ex0 w w' := by
  obtain ⟨b, h1, h2⟩ := h
  have hx : Ex0 w (w.alloc (.cells (u8s (List.replicate 16 0)).toArray 28)) := Ex.alloc _ _
  have HROW := Lib.hid (h2.row.ex hx not_false)
  have ht16 : (u8s (treeS l)).length = 16 := by rw [u8s_len]; exact treeS_len h2.pos
  have HR := Lib.hid (root_ptr bt b _ ((hx.block _ (Array.getElem?_eq_some_iff.1 h1).1 not_false).trans h1))
  have H1C : Hid (∀ v ∈ (u8s (treeS l)).toArray, v.oneCell' = true) := by show ∀ v ∈ _, _; simpa using u8s_one (treeS l)
  obtain ⟨TS, hTS⟩ : ∃ V, V = u8s (treeS l) := ⟨_, rfl⟩
  rw [← hTS] at HROW ht16 H1C ⊢
  have HX := Lib.hid hx
  clear h1 h2 hTS hx
  go_enter Try.func25, Try.ntmps25
  go_wp2_with (first | (refine HR.out.mono ?_; rintro e w2 ⟨rfl, rfl⟩) | refine wpList_load_at rfl 28 (.tmp 10) rfl ⟨b, 0, none⟩ rfl TS _ HROW.out Try.underlying28 rfl (by rw [ht16]; kernel_rfl) ?_ | refine wpList_store_all rfl 28 (.tmp 2) (.tmp 11) rfl w.heap.size rfl TS.toArray _ rfl 28 (heap_alloc_new w _) (by rw [List.size_toArray, List.size_toArray, ht16]; rfl) H1C.out (by rw [List.size_toArray, ht16]; kernel_rfl) ?_)
  refine bodyPost_ret (results_cell_row rfl _ _ w.heap.size _ _ _ _ rfl (setRow_heap _ _ _ _ _ _ (heap_alloc_new w _)) Try.underlying28 rfl (by rw [List.size_toArray, ht16]; kernel_rfl)) rfl ?_
  exact ⟨rfl, HX.out.trans (ex_setRow _ _ _) (fun _ _ h => h) (fun i hi h => by omega)⟩
end Go.Proofs.Ythbdmfbjkkmplaa
