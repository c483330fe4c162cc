/- Contracts of layer 61: seal's half and Chain. -/
import Derived.Test.YthbdmfbjkkmplaaAud5
namespace Go.Proofs.Ythbdmfbjkkmplaa
open Go.RowKit Go.Proofs.YthbdmfbjkkmplaaB Go.Proofs.Ythbdmfbjkkmplaa.Sha

theorem run_sliceAt_to {P : Program} {t e n : Nat} (hu : P.underlying t = some (.array n e)) (hs : (P.info? e).map (·.size) = some 1) (g o h : Nat) (hh : h ≤ n) (hn : 0 < n) (w : World) :
    (Instr.sliceAt t (.pointer (some ⟨g, o, none⟩)) none (some (.int .i64 h)) none).run P w = .ok (.slice (some ⟨g, o, none⟩) h n) w := by
  have h1 : ¬ n = 0 := by omega
  have h2 : (h : Int) ≤ n := by omega
  simp [Instr.sliceAt, Instr.sureAddr, run_underlying hu, Instr.sliceBounds, run_sliceBound, Go.Proofs.YthbdmfbjkkmplaaB.run_sizeOf hs, Addr.add, h2]

set_option maxRecDepth 100000 in
set_option maxHeartbeats 1000000 in
theorem half_any (k : List Nat) (hk : k.length = 32) (w : World) :
    Calls Try.prog 38 #[.agg (u8s k).toArray] w fun e w' => e = .returned (.agg (u8s (k.take 16)).toArray) ∧ Ex0 w w' := by
  obtain ⟨KA, hKA⟩ : ∃ KA, KA = (u8s k).toArray := ⟨_, rfl⟩
  rw [← hKA]
  have HKA := Lib.hid hKA
  clear hKA
  have hsl : ∀ w', (Instr.sliceAt 77 (.pointer (some ⟨w.heap.size, 0, none⟩)) none (some (.int .i64 16)) none).run Try.prog w' = .ok (.slice (some ⟨w.heap.size, 0, none⟩) 16 32) w' :=
    run_sliceAt_to (P := Try.prog) Try.underlying77 (by kernel_rfl) w.heap.size 0 16 (by decide) (by decide)
  have harr : ∀ w', (Instr.arrayAt 28 (.slice (some ⟨w.heap.size, 0, none⟩) 16 32)).run Try.prog w' = .ok (.pointer (some ⟨w.heap.size, 0, none⟩)) w' := run_arrayAt (P := Try.prog) Try.underlying28 (some ⟨w.heap.size, 0, none⟩) 16 32 (by decide)
  have hk16 : (k.take 16).length = 16 := by rw [List.length_take]; omega
  have hks : (u8s (k.take 16)).length = 16 := by rw [u8s_len]; exact hk16
  go_enter Try.func38, Try.ntmps38
  iterate 9 go_step
  generalize hW : World.alloc (World.alloc w _) _ = W
  have h0 : W8 W w.heap.size 77 k := by rw [← hW]; subst HKA; exact heap_alloc2_old w _ _
  have h1 : W8 W (w.heap.size + 1) 28 (List.replicate 16 0) := by rw [← hW]; exact heap_alloc2_new w _ _
  have hx : Ex0 w W := by rw [← hW]; exact (Ex.alloc _ _).alloc' _
  have H0 := Lib.hid h0
  have H1 := Lib.hid h1
  have HX := Lib.hid hx
  clear hW h0 h1 hx
  have H1C : Hid (∀ v ∈ (u8s (k.take 16)).toArray, v.oneCell' = true) := by show ∀ v ∈ _, _; simpa using u8s_one (k.take 16)
  have hrow : Hid (RowAt W ⟨w.heap.size, 0, none⟩ (u8s (k.take 16))) := (by simpa using H0.out.part 0 16 : RowAt _ _ _)
  obtain ⟨CS, hCS⟩ : ∃ CS, CS = u8s (k.take 16) := ⟨_, rfl⟩
  rw [← hCS] at hrow H1C hks
  have HCS := Lib.hid hCS
  clear hCS
  go_wp2_with (first | refine wpList_load_at rfl 28 (.tmp 4) rfl ⟨w.heap.size, 0, none⟩ rfl CS _ hrow.out Try.underlying28 rfl (by rw [hks]; kernel_rfl) ?_ | refine wpList_store_all rfl 28 (.tmp 2) (.tmp 5) rfl (w.heap.size + 1) rfl CS.toArray _ rfl 28 H1.out (by rw [List.size_toArray, List.size_toArray, hks]; rfl) H1C.out (by rw [List.size_toArray, hks]; kernel_rfl) ?_)
  refine bodyPost_ret (results_cell_row rfl _ _ (w.heap.size + 1) _ _ _ _ rfl (setRow_heap _ _ _ _ _ _ H1.out) Try.underlying28 rfl (by rw [List.size_toArray, hks]; kernel_rfl)) rfl ?_
  exact ⟨by rw [HCS.out], HX.out.trans (ex_setRow _ _ _) (fun _ _ h => h) (fun i hi h => by omega)⟩

set_option maxRecDepth 100000 in
set_option maxHeartbeats 1000000 in
theorem chain_any (pr : List Nat) (hpl : pr.length = 16) (hpb : ∀ x ∈ pr, x < 256) (A : Option Addr) (cap : Nat) (b : List Nat) (hb : ∀ x ∈ b, x < 256) (hL : b.length ≤ 1000000000) (w : World) (hs : Sl w 1 A b.length (u8s b)) (hnil : A = none → cap = 0) :
    Calls Try.prog 27 #[.agg (u8s pr).toArray, .slice A b.length cap] w fun e w' => e = .returned (.agg (u8s (chain pr b)).toArray) ∧ Ex0 w w' := by
  obtain ⟨PA, hPA⟩ : ∃ PA, PA = (u8s pr).toArray := ⟨_, rfl⟩
  rw [← hPA]
  obtain ⟨L, hLe⟩ : ∃ L, L = b.length := ⟨_, rfl⟩
  rw [← hLe]
  have HPA := Lib.hid hPA
  have HLE := Lib.hid hLe
  have HS := Lib.hid hs
  have HPB := Lib.hid hpb
  have HB := Lib.hid hb
  have HNIL := Lib.hid hnil
  clear hPA hLe hs hpb hb hnil
  have hsl : ∀ w', (Instr.sliceAt 28 (.pointer (some ⟨w.heap.size, 0, none⟩)) none none none).run Try.prog w' = .ok (.slice (some ⟨w.heap.size, 0, none⟩) 16 16) w' :=
    run_sliceAt_whole (P := Try.prog) Try.underlying28 (by kernel_rfl) w.heap.size 0 (by decide)
  go_enter Try.func27, Try.ntmps27
  iterate 9 go_step
  generalize hW : World.alloc (World.alloc w _) _ = W
  have h0 : W8 W w.heap.size 28 pr := by rw [← hW]; subst HPA; exact heap_alloc2_old w _ _
  have h1 : W8 W (w.heap.size + 1) 28 (List.replicate 16 0) := by rw [← hW]; exact heap_alloc2_new w _ _
  have hx : Ex0 w W := by rw [← hW]; exact (Ex.alloc _ _).alloc' _
  have H0 := Lib.hid h0
  have H1 := Lib.hid h1
  have HX := Lib.hid hx
  clear hW h0 h1 hx
  go_wp2_with fail
  have hxa : Ex0 W (W.alloc (.cells #[.slice (some ⟨w.heap.size, 0, none⟩) 16 16, .slice A L cap] 58)) := Ex.alloc _ _
  have hca : ∀ j (h : j < 2), (W.alloc (.cells #[.slice (some ⟨w.heap.size, 0, none⟩) 16 16, .slice A L cap] 58)).cell? ⟨W.heap.size, j, none⟩ = some ([Bp.mk (some ⟨w.heap.size, 0, none⟩) 16 pr, Bp.mk A cap b][j].val) := fun j hj => by
    rw [cell_of_row _ _ _ _ _ _ (heap_alloc_new W _)]
    match j, hj with
    | 0, _ => simp [Bp.val, hpl]
    | 1, _ => simp [Bp.val, HLE.out]
  refine (concat_any W.heap.size 2 [Bp.mk (some ⟨w.heap.size, 0, none⟩) 16 pr, Bp.mk A cap b] _ hca ?_ (by simp) (by simp [flat, hpl]; omega) (by simp [flat, hpl]; omega)).mono ?_
  · intro p hp
    simp only [List.mem_cons, List.not_mem_nil, or_false] at hp
    rcases hp with rfl | rfl
    · refine ⟨?_, fun h => by cases h⟩
      have := sl_block (H0.out.ex hxa not_false) (sz := 1) (n := 16) (by simp [u8s_len, hpl]) (by decide)
      rw [hpl]
      simpa using this
    · exact ⟨(HS.out.ex0 HX.out).ex0 hxa, HNIL.out⟩
  rintro e w1 ⟨v, rfl, ho, hx1⟩
  rw [show flat [Bp.mk (some ⟨w.heap.size, 0, none⟩) 16 pr, Bp.mk A cap b] = pr ++ b by simp [flat]] at ho
  obtain ⟨tx, htx⟩ : ∃ tx, tx = pr ++ b := ⟨_, rfl⟩
  rw [← htx] at ho
  have HTX := Lib.hid htx
  have htl : tx.length ≤ 1099511627776 := by rw [htx, List.length_append]; omega
  clear htx
  have hx2 := hxa.trans0 hx1
  obtain ⟨A1, cap1, rfl, hsl1, _⟩ := own_sl ho
  have HX2 := Lib.hid hx2
  have HSL := Lib.hid hsl1
  clear hx1 hx2 hsl1 ho hxa hca
  go_wp2_with fail
  refine (sum_any A1 cap1 tx (fun x hx => by
    rw [HTX.out] at hx
    rcases List.mem_append.1 hx with h | h
    · exact HPB.out x h
    · exact HB.out x h) htl _ HSL.out).mono ?_
  rintro e w2 ⟨rfl, hx3⟩
  have HX3 := Lib.hid (HX2.out.trans0 hx3)
  clear hx3
  go_wp2_with fail
  refine (half_any (sum tx) (sum_len _) _).mono ?_
  rintro e w3 ⟨rfl, hx4⟩
  have HX4 := Lib.hid (HX3.out.trans0 hx4)
  clear hx4
  obtain ⟨CA, hCA⟩ : ∃ CA, CA = (u8s ((sum tx).take 16)).toArray := ⟨_, rfl⟩
  rw [← hCA]
  have hsz : CA.size = 16 := by rw [hCA]; simp [u8s_len, sum_len]
  have H1C : Hid (∀ v ∈ CA, v.oneCell' = true) := by show ∀ v ∈ CA, _; rw [hCA]; simpa using u8s_one ((sum tx).take 16)
  have HCA := Lib.hid hCA
  have HE := Lib.hid (H1.out.ex HX4.out not_false)
  clear hCA
  go_wp2_with (refine wpList_store_all rfl 28 (.tmp 4) (.tmp 10) rfl (w.heap.size + 1) rfl CA _ rfl 28 HE.out (by rw [hsz]; rfl) H1C.out (by rw [hsz]; kernel_rfl) ?_)
  refine bodyPost_ret (results_cell_row rfl _ _ (w.heap.size + 1) _ _ _ _ rfl (setRow_heap _ _ _ _ _ _ HE.out) Try.underlying28 rfl (by rw [hsz]; kernel_rfl)) rfl ?_
  exact ⟨by rw [HCA.out, HTX.out]; rfl, (HX.out.trans0 HX4.out).trans (ex_setRow _ _ _) (fun _ _ h => h) (fun i hi h => by omega)⟩
end Go.Proofs.Ythbdmfbjkkmplaa
