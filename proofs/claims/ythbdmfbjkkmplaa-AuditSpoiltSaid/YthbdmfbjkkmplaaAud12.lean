/- Contracts of layer 61: the document's words (printed by genaud12.py). -/
import Derived.Test.YthbdmfbjkkmplaaAud11
namespace Go.Proofs.Ythbdmfbjkkmplaa
open Go.RowKit Go.Proofs.YthbdmfbjkkmplaaB Go.Proofs.Ythbdmfbjkkmplaa.Sha

def rowrfirst (k : Nat) : List Nat := h0.take k ++ List.replicate (8 - k) 0
theorem rowrfirst_len {k : Nat} (hk : k ≤ 8) : (rowrfirst k).length = 8 := by
  have : h0.length = 8 := rfl
  simp [rowrfirst, this]; omega
theorem rowrfirst_set {k : Nat} (hk : k < 8) : (rowrfirst k).set k (h0.getD k 0) = rowrfirst (k + 1) := by
  have hl0 : h0.length = 8 := rfl
  have hl : (h0.take k).length = k := by rw [List.length_take, hl0]; omega
  unfold rowrfirst
  rw [List.set_append_right _ _ (by omega), hl, Nat.sub_self, show 8 - k = (8 - (k + 1)) + 1 by omega, List.replicate_succ, List.set_cons_zero,
    List.take_succ_eq_append_getElem (by rw [hl0]; exact hk), List.append_assoc, List.getD_eq_getElem?_getD, List.getElem?_eq_getElem (by rw [hl0]; exact hk)]
  rfl
theorem rowrfirst_all : rowrfirst 8 = h0 := rfl

def rowrrounds (k : Nat) : List Nat := ks.take k ++ List.replicate (64 - k) 0
theorem rowrrounds_len {k : Nat} (hk : k ≤ 64) : (rowrrounds k).length = 64 := by
  have : ks.length = 64 := rfl
  simp [rowrrounds, this]; omega
theorem rowrrounds_set {k : Nat} (hk : k < 64) : (rowrrounds k).set k (ks.getD k 0) = rowrrounds (k + 1) := by
  have hl0 : ks.length = 64 := rfl
  have hl : (ks.take k).length = k := by rw [List.length_take, hl0]; omega
  unfold rowrrounds
  rw [List.set_append_right _ _ (by omega), hl, Nat.sub_self, show 64 - k = (64 - (k + 1)) + 1 by omega, List.replicate_succ, List.set_cons_zero,
    List.take_succ_eq_append_getElem (by rw [hl0]; exact hk), List.append_assoc, List.getD_eq_getElem?_getD, List.getElem?_eq_getElem (by rw [hl0]; exact hk)]
  rfl
theorem rowrrounds_all : rowrrounds 64 = ks := rfl

set_option maxRecDepth 100000 in
set_option maxHeartbeats 2000000 in
theorem rfirst (w : World) :
    Calls Try.prog 54 #[] w fun e w' => e = .returned (.agg (u32s h0).toArray) ∧ Ex0 w w' := by
  go_enter Try.func54, Try.ntmps54
  iterate 10 go_step
  generalize hW : World.alloc w _ = W
  have h0 : W32 W w.heap.size 85 (List.replicate 8 0) := by rw [← hW]; exact heap_alloc_new w _
  have hx : Ex0 w W := by rw [← hW]; exact Ex.alloc _ _
  obtain ⟨b0, e0⟩ : ∃ b, b = w.heap.size := ⟨_, rfl⟩
  rw [← e0] at h0 ⊢
  have E0 := Lib.hid e0
  have H0 := Lib.hid h0
  have HX := Lib.hid hx
  have HZ1 : Hid (∀ v ∈ (u32s (List.replicate 8 0)).toArray, v.oneCell' = true) := by show ∀ v ∈ _, _; simpa using u32s_one (List.replicate 8 0)
  clear hW e0 h0 hx
  go_wp2_with (refine wpList_store_all rfl 85 (.tmp 1) (.tmp 4) rfl W.heap.size rfl (u32s (List.replicate 8 0)).toArray _ rfl 85 (heap_alloc_new _ _) (by rfl) HZ1.out (by kernel_rfl) ?_)
  rw [World.setRow_alloc_new]
  generalize hW1 : World.alloc W _ = W1
  have h1 : W32 W1 W.heap.size 85 (rowrfirst 0) := by rw [← hW1]; exact heap_alloc_new W _
  have hx1 : Ex0 W W1 := by rw [← hW1]; exact Ex.alloc W _
  clear hW1
  obtain ⟨b1, e1⟩ : ∃ b, b = W.heap.size := ⟨_, rfl⟩
  rw [← e1] at h1 ⊢
  have E1 := Lib.hid e1
  clear e1
  refine (primes_any 8 (by decide) _).mono ?_
  rintro e w2 ⟨v, rfl, ho, hx2⟩
  obtain ⟨A, cap, rfl, hsl, _⟩ := own_sl ho
  obtain ⟨g, off, rfl, hrow⟩ := hsl.at_ (by decide)
  have HR := Lib.hid hrow
  have H1 := Lib.hid (h1.ex (S := fun _ => False) hx2 not_false)
  have HX2 := Lib.hid (hx1.trans0 hx2)
  have HGB := Lib.hid (show g ≠ b1 by
    have := (ho.lt g rfl).1
    have := h1.lt
    omega)
  clear h1 hx1 hx2 ho hsl hrow
  go_wp2_with fail
  go_loopw [3] (fun i wr => ∃ k : Nat, k ≤ 8 ∧ i = .int .i64 k ∧ W32 wr b1 85 (rowrfirst k) ∧ Ex (· = b1) w2 wr) (fun i _ => 8 - (intOf i).toNat)
  case atStart => exact ⟨0, by omega, rfl, H1.out, Ex.refl _ _⟩
  case round =>
    obtain ⟨k, hk, rfl, hw, hxr⟩ := hrel
    have HW := Lib.hid hw
    have HXR := Lib.hid hxr
    clear hw hxr
    by_cases hlt : k < 8
    · have ik : (k : Int) < 8 := by omega
      have cl := HR.out k _ (i64s_get (l := pl.take 8) (i := k) (by rw [List.length_take, pl_len]; omega))
      rw [Addr.add_lit] at cl
      have cl := HXR.out.cellS cl HGB.out
      have epl : (pl.take 8).getD k 0 = pl.getD k 0 := by
        rw [List.getD_eq_getElem?_getD, List.getElem?_take, if_pos hlt, ← List.getD_eq_getElem?_getD]
      obtain ⟨p, hp⟩ : ∃ p, p = pl.getD k 0 := ⟨_, rfl⟩
      rw [epl, ← hp] at cl
      have hpb : p < 1000 := by rw [hp]; exact getD_lt (by decide : ∀ x ∈ pl, x < 1000) (by decide) k
      have HRT : Hid (rootN p 2 = h0.getD k 0) := by rw [hp]; exact h0_root hlt
      have HPB := Lib.hid hpb
      clear hp epl hpb
      go_wp2_with fail
      refine (root2_any p HPB.out _).mono ?_
      rintro e w3 ⟨rfl, hx3⟩
      have hW3 := HW.out.ex hx3 not_false
      have c3 := hW3.cell (j := k) (by rw [rowrfirst_len hk]; exact hlt)
      have f3 := hW3.frozen k
      have HW3 := Lib.hid hW3
      have HX3 := Lib.hid (HXR.out.trans0 hx3)
      rw [HRT.out]
      clear hW3 hx3 cl
      go_wp2_with fail
      go_roundw
      case rel =>
        refine ⟨k + 1, by omega, by go_num, ?_, HX3.out.trans (Ex.setCell _ _ _) (fun _ _ h => h) (fun _ _ h => h)⟩
        rw [← rowrfirst_set hlt]
        exact HW3.out.set k _
      case measure => simp [intOf] <;> omega
    · have HO6 : Hid (W32 wr b1 85 h0) := by
        have := HW.out
        rw [show k = 8 by omega, rowrfirst_all] at this
        exact this
      have HHB2 := Lib.hid ((H0.out.ex HX2.out not_false).ex HXR.out (by rw [E1.out]; have := H0.out.lt; omega))
      obtain ⟨CA, hCA⟩ : ∃ A, A = (u32s h0).toArray := ⟨_, rfl⟩
      have h9 : wr.heap[b1]? = some (.cells CA 85 (0, 0)) := by rw [hCA]; exact HO6.out
      have hsz : CA.size = 8 := by rw [hCA]; rfl
      have H1C : Hid (∀ v ∈ CA, v.oneCell' = true) := by show ∀ v ∈ CA, _; rw [hCA]; simpa using u32s_one h0
      have HCA := Lib.hid hCA
      clear hCA
      go_wp2_with (first | refine wpList_load_row rfl 85 (.tmp 1) rfl b1 rfl 85 CA (0, 0) _ h9 Try.underlying85 rfl (by rw [hsz]; kernel_rfl) ?_ | refine wpList_store_all rfl 85 (.tmp 0) (.tmp 17) rfl b0 rfl CA _ rfl 85 HHB2.out (by rw [hsz]; rfl) H1C.out (by rw [hsz]; kernel_rfl) ?_)
      refine bodyPost_ret (results_cell_row rfl _ _ b0 _ _ _ _ rfl (setRow_heap _ _ _ _ _ _ HHB2.out) Try.underlying85 rfl (by rw [hsz]; kernel_rfl)) rfl ?_
      refine ⟨by rw [HCA.out], ?_⟩
      have q1 : Ex0 w w2 := HX.out.trans0 HX2.out
      have q2 : Ex0 w _ := q1.trans HXR.out (fun _ _ h => h) (fun i hi h => by rw [E1.out] at h; have := HX.out.size; omega)
      exact q2.trans (ex_setRow _ _ _) (fun _ _ h => h) (fun i hi h => by rw [E0.out] at h; omega)

set_option maxRecDepth 100000 in
set_option maxHeartbeats 2000000 in
theorem rrounds (w : World) :
    Calls Try.prog 63 #[] w fun e w' => e = .returned (.agg (u32s ks).toArray) ∧ Ex0 w w' := by
  go_enter Try.func63, Try.ntmps63
  iterate 10 go_step
  generalize hW : World.alloc w _ = W
  have h0 : W32 W w.heap.size 93 (List.replicate 64 0) := by rw [← hW]; exact heap_alloc_new w _
  have hx : Ex0 w W := by rw [← hW]; exact Ex.alloc _ _
  obtain ⟨b0, e0⟩ : ∃ b, b = w.heap.size := ⟨_, rfl⟩
  rw [← e0] at h0 ⊢
  have E0 := Lib.hid e0
  have H0 := Lib.hid h0
  have HX := Lib.hid hx
  have HZ1 : Hid (∀ v ∈ (u32s (List.replicate 64 0)).toArray, v.oneCell' = true) := by show ∀ v ∈ _, _; simpa using u32s_one (List.replicate 64 0)
  clear hW e0 h0 hx
  go_wp2_with (refine wpList_store_all rfl 93 (.tmp 1) (.tmp 4) rfl W.heap.size rfl (u32s (List.replicate 64 0)).toArray _ rfl 93 (heap_alloc_new _ _) (by rfl) HZ1.out (by kernel_rfl) ?_)
  rw [World.setRow_alloc_new]
  generalize hW1 : World.alloc W _ = W1
  have h1 : W32 W1 W.heap.size 93 (rowrrounds 0) := by rw [← hW1]; exact heap_alloc_new W _
  have hx1 : Ex0 W W1 := by rw [← hW1]; exact Ex.alloc W _
  clear hW1
  obtain ⟨b1, e1⟩ : ∃ b, b = W.heap.size := ⟨_, rfl⟩
  rw [← e1] at h1 ⊢
  have E1 := Lib.hid e1
  clear e1
  refine (primes_any 64 (by decide) _).mono ?_
  rintro e w2 ⟨v, rfl, ho, hx2⟩
  obtain ⟨A, cap, rfl, hsl, _⟩ := own_sl ho
  obtain ⟨g, off, rfl, hrow⟩ := hsl.at_ (by decide)
  have HR := Lib.hid hrow
  have H1 := Lib.hid (h1.ex (S := fun _ => False) hx2 not_false)
  have HX2 := Lib.hid (hx1.trans0 hx2)
  have HGB := Lib.hid (show g ≠ b1 by
    have := (ho.lt g rfl).1
    have := h1.lt
    omega)
  clear h1 hx1 hx2 ho hsl hrow
  go_wp2_with fail
  go_loopw [3] (fun i wr => ∃ k : Nat, k ≤ 64 ∧ i = .int .i64 k ∧ W32 wr b1 93 (rowrrounds k) ∧ Ex (· = b1) w2 wr) (fun i _ => 64 - (intOf i).toNat)
  case atStart => exact ⟨0, by omega, rfl, H1.out, Ex.refl _ _⟩
  case round =>
    obtain ⟨k, hk, rfl, hw, hxr⟩ := hrel
    have HW := Lib.hid hw
    have HXR := Lib.hid hxr
    clear hw hxr
    by_cases hlt : k < 64
    · have ik : (k : Int) < 64 := by omega
      have cl := HR.out k _ (i64s_get (l := pl.take 64) (i := k) (by rw [List.length_take, pl_len]; omega))
      rw [Addr.add_lit] at cl
      have cl := HXR.out.cellS cl HGB.out
      have epl : (pl.take 64).getD k 0 = pl.getD k 0 := by
        rw [List.getD_eq_getElem?_getD, List.getElem?_take, if_pos hlt, ← List.getD_eq_getElem?_getD]
      obtain ⟨p, hp⟩ : ∃ p, p = pl.getD k 0 := ⟨_, rfl⟩
      rw [epl, ← hp] at cl
      have hpb : p < 1000 := by rw [hp]; exact getD_lt (by decide : ∀ x ∈ pl, x < 1000) (by decide) k
      have HRT : Hid (rootN p 3 = ks.getD k 0) := by rw [hp]; exact ks_root hlt
      have HPB := Lib.hid hpb
      clear hp epl hpb
      go_wp2_with fail
      refine (root3_any p HPB.out _).mono ?_
      rintro e w3 ⟨rfl, hx3⟩
      have hW3 := HW.out.ex hx3 not_false
      have c3 := hW3.cell (j := k) (by rw [rowrrounds_len hk]; exact hlt)
      have f3 := hW3.frozen k
      have HW3 := Lib.hid hW3
      have HX3 := Lib.hid (HXR.out.trans0 hx3)
      rw [HRT.out]
      clear hW3 hx3 cl
      go_wp2_with fail
      go_roundw
      case rel =>
        refine ⟨k + 1, by omega, by go_num, ?_, HX3.out.trans (Ex.setCell _ _ _) (fun _ _ h => h) (fun _ _ h => h)⟩
        rw [← rowrrounds_set hlt]
        exact HW3.out.set k _
      case measure => simp [intOf] <;> omega
    · have HO6 : Hid (W32 wr b1 93 ks) := by
        have := HW.out
        rw [show k = 64 by omega, rowrrounds_all] at this
        exact this
      have HHB2 := Lib.hid ((H0.out.ex HX2.out not_false).ex HXR.out (by rw [E1.out]; have := H0.out.lt; omega))
      obtain ⟨CA, hCA⟩ : ∃ A, A = (u32s ks).toArray := ⟨_, rfl⟩
      have h9 : wr.heap[b1]? = some (.cells CA 93 (0, 0)) := by rw [hCA]; exact HO6.out
      have hsz : CA.size = 64 := by rw [hCA]; rfl
      have H1C : Hid (∀ v ∈ CA, v.oneCell' = true) := by show ∀ v ∈ CA, _; rw [hCA]; simpa using u32s_one ks
      have HCA := Lib.hid hCA
      clear hCA
      go_wp2_with (first | refine wpList_load_row rfl 93 (.tmp 1) rfl b1 rfl 93 CA (0, 0) _ h9 Try.underlying93 rfl (by rw [hsz]; kernel_rfl) ?_ | refine wpList_store_all rfl 93 (.tmp 0) (.tmp 17) rfl b0 rfl CA _ rfl 93 HHB2.out (by rw [hsz]; rfl) H1C.out (by rw [hsz]; kernel_rfl) ?_)
      refine bodyPost_ret (results_cell_row rfl _ _ b0 _ _ _ _ rfl (setRow_heap _ _ _ _ _ _ HHB2.out) Try.underlying93 rfl (by rw [hsz]; kernel_rfl)) rfl ?_
      refine ⟨by rw [HCA.out], ?_⟩
      have q1 : Ex0 w w2 := HX.out.trans0 HX2.out
      have q2 : Ex0 w _ := q1.trans HXR.out (fun _ _ h => h) (fun i hi h => by rw [E1.out] at h; have := HX.out.size; omega)
      exact q2.trans (ex_setRow _ _ _) (fun _ _ h => h) (fun i hi h => by rw [E0.out] at h; omega)
end Go.Proofs.Ythbdmfbjkkmplaa
