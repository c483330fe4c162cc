/- Contracts of layer 61: merkle's Check and the document's. Printed by genaud22.py. -/
import Derived.Test.YthbdmfbjkkmplaaAud21
import Derived.Test.YthbdmfbjkkmplaaB9
namespace Go.Proofs.Ythbdmfbjkkmplaa
open Go.RowKit Go.Proofs.YthbdmfbjkkmplaaB Go.Proofs.Ythbdmfbjkkmplaa.Sha

def checkS (root : List Nat) (n i : Nat) (x : List Nat) (ls : List (List Nat)) : Bool := (comeS n i x ls).2 && decide ((comeS n i x ls).1 = root)

set_option maxRecDepth 100000 in
set_option maxHeartbeats 1000000 in
theorem mcheck_any (root : List Nat) (hr : root.length = 16) (n i : Nat) (x : List Nat) (ls : List (List Nat)) (A : Option Addr) (cap : Nat) (w : World) (h0 : 0 < n) (hL : n ≤ 100000) (hi : i < n) (hx : x.length = 16 ∧ ∀ y ∈ x, y < 256) (hok : AllB 16 ls) (hl : ls.length ≤ 100000) (hcap : ls.length ≤ cap) (hs : Sl w 16 A ls.length (rowN 16 ls)) :
    Calls Try.prog 34 #[.agg (u8s root).toArray, .int .i64 n, .int .i64 i, .agg (u8s x).toArray, .slice A ls.length cap] w fun e w' => e = .returned (.bool (checkS root n i x ls)) ∧ Ex0 w w' := by
  have HCO := Lib.hid (fun w' (h : Ex0 w w') => climb_aux n n i x ls A cap w' h0 (Nat.le_refl _) hL hi hx hok hl hcap (hs.ex0 h))
  have hcok := comeS_ok n i x ls h0
  obtain ⟨C, hC⟩ : ∃ C, C = (comeS n i x ls).1 := ⟨_, rfl⟩
  obtain ⟨B, hB⟩ : ∃ B, B = (comeS n i x ls).2 := ⟨_, rfl⟩
  have HCH : Hid (checkS root n i x ls = (B && decide (C = root))) := by rw [hC, hB]; exact rfl
  rw [← hC] at hcok HCO
  rw [← hB] at HCO
  rw [HCH.out]
  have heq : ∀ w', (Op.equalIn 10000 28 (.agg (u8s C).toArray) (.agg (u8s root).toArray)).run Try.prog w' = .ok (decide (C = root)) w' := fun w' =>
    run_eql_bytes (P := Try.prog) w' 28 5 16 .u8 Try.underlying28 Try.underlying5 (by kernel_rfl) (fun w => by kernel_rfl) C root hcok.1 hr
  have hgd : Try.prog.eqGuardType Try.prog.depth 28 = false := by kernel_rfl
  obtain ⟨CA, hCA⟩ : ∃ V, V = (u8s C).toArray := ⟨_, rfl⟩
  obtain ⟨RA, hRA⟩ : ∃ V, V = (u8s root).toArray := ⟨_, rfl⟩
  obtain ⟨XA, hXA⟩ : ∃ V, V = (u8s x).toArray := ⟨_, rfl⟩
  have hCs : CA.size = 16 := by rw [hCA]; simp [u8s_len, hcok.1]
  have hRs : RA.size = 16 := by rw [hRA]; simp [u8s_len, hr]
  have hXs : XA.size = 16 := by rw [hXA]; simp [u8s_len, hx.1]
  have H1C : Hid (∀ v ∈ CA, v.oneCell' = true) := by show ∀ v ∈ CA, _; rw [hCA]; simpa using u8s_one C
  rw [← hCA] at heq HCO
  rw [← hRA] at heq ⊢
  rw [← hXA] at HCO ⊢
  obtain ⟨D, hD⟩ : ∃ D, D = decide (C = root) := ⟨_, rfl⟩
  rw [← hD] at heq ⊢
  obtain ⟨L, hLe⟩ : ∃ L, L = ls.length := ⟨_, rfl⟩
  rw [← hLe] at HCO ⊢
  have ii0 : ¬ (i : Int) < 0 := by omega
  have iin : (i : Int) < (n : Int) := by omega
  clear hC hB HCH hcok hCA hRA hXA hD hLe hx hok hs hcap hl
  go_enter Try.func34, Try.ntmps34
  iterate 9 go_step
  generalize hW : World.alloc (World.alloc w _) _ = W
  have h5 : W.heap[w.heap.size]? = some (.cells RA 28 (0, 0)) := by rw [← hW]; exact heap_alloc2_old w _ _
  have h8 : W.heap[w.heap.size + 1]? = some (.cells XA 28 (0, 0)) := by rw [← hW]; exact heap_alloc2_new w _ _
  have hx2 : Ex0 w W := by rw [← hW]; exact (Ex.alloc _ _).alloc' _
  obtain ⟨b5, e5⟩ : ∃ b, b = w.heap.size := ⟨_, rfl⟩
  obtain ⟨b8, e8⟩ : ∃ b, b = w.heap.size + 1 := ⟨_, rfl⟩
  rw [← e8] at h8
  rw [← e5] at h5
  rw [← e8, ← e5]
  have H5 := Lib.hid h5
  have HX := Lib.hid hx2
  clear hW hx2 e5 e8 h5
  cases B
  all_goals
    go_wp2_with (first | refine wpList_load_row rfl 28 (.tmp 8) rfl b8 rfl 28 XA (0, 0) _ h8 Try.underlying28 rfl (by rw [hXs]; kernel_rfl) ?_ | (refine (HCO.out _ HX.out).mono ?_; rintro e w3 ⟨rfl, hx3⟩; have HX3 := Lib.hid hx3; clear hx3) | (refine wpList_store_all rfl 28 (.tmp 11) (.tmp 26) rfl w3.heap.size rfl CA _ rfl 28 (heap_alloc_new _ _) (by rw [hCs]; rfl) H1C.out (by rw [hCs]; kernel_rfl) ?_; rw [World.setRow_alloc_new]; obtain ⟨w7, hw7⟩ : ∃ w7, w7 = w3.alloc (.cells CA 28) := ⟨_, rfl⟩; rw [← hw7]; have hx7 : Ex0 w3 w7 := (by rw [hw7]; exact Ex.alloc _ _); have h11 : w7.heap[w3.heap.size]? = some (.cells CA 28 (0, 0)) := (by rw [hw7]; exact heap_alloc_new _ _); have HX7 : Hid (Ex0 W w7) := (HX3.out.trans0 hx7); have h5 : w7.heap[b5]? = some (.cells RA 28 (0, 0)) := ((HX7.out.block _ (Array.getElem?_eq_some_iff.1 H5.out).1 not_false).trans H5.out); clear hw7 hx7) | refine wpList_load_row_g rfl 28 (.tmp 11) rfl w3.heap.size rfl 28 CA (0, 0) _ h11 Try.underlying28 rfl (by rw [hCs]; kernel_rfl) ?_ | refine wpList_load_row_g rfl 28 (.tmp 5) rfl b5 rfl 28 RA (0, 0) _ h5 Try.underlying28 rfl (by rw [hRs]; kernel_rfl) ?_)
    go_ret
    exact ⟨rfl, HX.out.trans0 HX7.out⟩

set_option maxRecDepth 100000 in
set_option maxHeartbeats 1000000 in
theorem rcheck_any (root : List Nat) (hr : root.length = 16) (n i : Nat) (x : List Nat) (ls : List (List Nat)) (A : Option Addr) (cap : Nat) (w : World) (h0 : 0 < n) (hL : n ≤ 100000) (hi : i < n) (hx : x.length = 16 ∧ ∀ y ∈ x, y < 256) (hok : AllB 16 ls) (hl : ls.length ≤ 100000) (hcap : ls.length ≤ cap) (hs : Sl w 16 A ls.length (rowN 16 ls)) :
    Calls Try.prog 35 #[.agg (u8s root).toArray, .int .i64 n, .int .i64 i, .agg (u8s x).toArray, .slice A ls.length cap] w fun e w' => e = .returned (.bool (checkS root n i x ls)) ∧ Ex0 w w' := by
  have HCO := Lib.hid (fun w' (h : Ex0 w w') => rcome_aux n n i x ls A cap w' h0 (Nat.le_refl _) hL hi hx hok hl hcap (hs.ex0 h))
  have hcok := comeS_ok n i x ls h0
  obtain ⟨C, hC⟩ : ∃ C, C = (comeS n i x ls).1 := ⟨_, rfl⟩
  obtain ⟨B, hB⟩ : ∃ B, B = (comeS n i x ls).2 := ⟨_, rfl⟩
  have HCH : Hid (checkS root n i x ls = (B && decide (C = root))) := by rw [hC, hB]; exact rfl
  rw [← hC] at hcok HCO
  rw [← hB] at HCO
  rw [HCH.out]
  have heq : ∀ w', (Op.equalIn 10000 28 (.agg (u8s C).toArray) (.agg (u8s root).toArray)).run Try.prog w' = .ok (decide (C = root)) w' := fun w' =>
    run_eql_bytes (P := Try.prog) w' 28 5 16 .u8 Try.underlying28 Try.underlying5 (by kernel_rfl) (fun w => by kernel_rfl) C root hcok.1 hr
  have hgd : Try.prog.eqGuardType Try.prog.depth 28 = false := by kernel_rfl
  obtain ⟨CA, hCA⟩ : ∃ V, V = (u8s C).toArray := ⟨_, rfl⟩
  obtain ⟨RA, hRA⟩ : ∃ V, V = (u8s root).toArray := ⟨_, rfl⟩
  obtain ⟨XA, hXA⟩ : ∃ V, V = (u8s x).toArray := ⟨_, rfl⟩
  have hCs : CA.size = 16 := by rw [hCA]; simp [u8s_len, hcok.1]
  have hRs : RA.size = 16 := by rw [hRA]; simp [u8s_len, hr]
  have hXs : XA.size = 16 := by rw [hXA]; simp [u8s_len, hx.1]
  have H1C : Hid (∀ v ∈ CA, v.oneCell' = true) := by show ∀ v ∈ CA, _; rw [hCA]; simpa using u8s_one C
  rw [← hCA] at heq HCO
  rw [← hRA] at heq ⊢
  rw [← hXA] at HCO ⊢
  obtain ⟨D, hD⟩ : ∃ D, D = decide (C = root) := ⟨_, rfl⟩
  rw [← hD] at heq ⊢
  obtain ⟨L, hLe⟩ : ∃ L, L = ls.length := ⟨_, rfl⟩
  rw [← hLe] at HCO ⊢
  have ii0 : ¬ (i : Int) < 0 := by omega
  have iin : (i : Int) < (n : Int) := by omega
  clear hC hB HCH hcok hCA hRA hXA hD hLe hx hok hs hcap hl
  go_enter Try.func35, Try.ntmps35
  iterate 9 go_step
  generalize hW : World.alloc (World.alloc w _) _ = W
  have h5 : W.heap[w.heap.size]? = some (.cells RA 28 (0, 0)) := by rw [← hW]; exact heap_alloc2_old w _ _
  have h8 : W.heap[w.heap.size + 1]? = some (.cells XA 28 (0, 0)) := by rw [← hW]; exact heap_alloc2_new w _ _
  have hx2 : Ex0 w W := by rw [← hW]; exact (Ex.alloc _ _).alloc' _
  obtain ⟨b5, e5⟩ : ∃ b, b = w.heap.size := ⟨_, rfl⟩
  obtain ⟨b8, e8⟩ : ∃ b, b = w.heap.size + 1 := ⟨_, rfl⟩
  rw [← e8] at h8
  rw [← e5] at h5
  rw [← e8, ← e5]
  have H5 := Lib.hid h5
  have HX := Lib.hid hx2
  clear hW hx2 e5 e8 h5
  cases B
  all_goals
    go_wp2_with (first | refine wpList_load_row rfl 28 (.tmp 8) rfl b8 rfl 28 XA (0, 0) _ h8 Try.underlying28 rfl (by rw [hXs]; kernel_rfl) ?_ | (refine (HCO.out _ HX.out).mono ?_; rintro e w3 ⟨rfl, hx3⟩; have HX3 := Lib.hid hx3; clear hx3) | (refine wpList_store_all rfl 28 (.tmp 11) (.tmp 26) rfl w3.heap.size rfl CA _ rfl 28 (heap_alloc_new _ _) (by rw [hCs]; rfl) H1C.out (by rw [hCs]; kernel_rfl) ?_; rw [World.setRow_alloc_new]; obtain ⟨w7, hw7⟩ : ∃ w7, w7 = w3.alloc (.cells CA 28) := ⟨_, rfl⟩; rw [← hw7]; have hx7 : Ex0 w3 w7 := (by rw [hw7]; exact Ex.alloc _ _); have h11 : w7.heap[w3.heap.size]? = some (.cells CA 28 (0, 0)) := (by rw [hw7]; exact heap_alloc_new _ _); have HX7 : Hid (Ex0 W w7) := (HX3.out.trans0 hx7); have h5 : w7.heap[b5]? = some (.cells RA 28 (0, 0)) := ((HX7.out.block _ (Array.getElem?_eq_some_iff.1 H5.out).1 not_false).trans H5.out); clear hw7 hx7) | refine wpList_load_row_g rfl 28 (.tmp 11) rfl w3.heap.size rfl 28 CA (0, 0) _ h11 Try.underlying28 rfl (by rw [hCs]; kernel_rfl) ?_ | refine wpList_load_row_g rfl 28 (.tmp 5) rfl b5 rfl 28 RA (0, 0) _ h5 Try.underlying28 rfl (by rw [hRs]; kernel_rfl) ?_)
    go_ret
    exact ⟨rfl, HX.out.trans0 HX7.out⟩

end Go.Proofs.Ythbdmfbjkkmplaa
