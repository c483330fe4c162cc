/- Contracts of layer 61: audit's Prove. -/
import Derived.Test.YthbdmfbjkkmplaaAud33
import Derived.Test.YthbdmfbjkkmplaaAud31
import Derived.Test.YthbdmfbjkkmplaaB9
namespace Go.Proofs.Ythbdmfbjkkmplaa
open Go.RowKit Go.Proofs.YthbdmfbjkkmplaaB Go.Proofs.Ythbdmfbjkkmplaa.Sha

theorem proofC_len (v n a b : Int) {B : List Nat} (h : B.length = 32) (A : Option Addr) (m cap : Nat) : (proofC v n a b B A m cap).length = 37 := by simp [proofC, u8s_len, h]
theorem proofC_one (v n a b : Int) (B : List Nat) (A : Option Addr) (m cap : Nat) : ∀ u ∈ proofC v n a b B A m cap, u.oneCell' = true := by
  intro u hu
  simp only [proofC, List.cons_append, List.nil_append, List.mem_cons, List.mem_append, List.not_mem_nil, or_false] at hu
  rcases hu with rfl | rfl | rfl | rfl | h | rfl
  · rfl
  · rfl
  · rfl
  · rfl
  · exact u8s_one B u h
  · rfl
def zeroP : Array Value := (proofC 0 0 0 0 z32 none 0 0).toArray
theorem proof_fold (v n a b : Int) (V : Array Value) (h : V.size = 32) : ∃ P : Array Value, P.size = 37 ∧ Array.foldl (fun (cs : Array Value) (x : Value × Nat) => cs.setIfInBounds (4 + x.snd) x.fst)
      #[.int .i64 v, .int .i64 n, .int .i64 a, .int .i64 b, .int .u8 0, .int .u8 0, .int .u8 0, .int .u8 0, .int .u8 0, .int .u8 0, .int .u8 0, .int .u8 0, .int .u8 0, .int .u8 0, .int .u8 0, .int .u8 0, .int .u8 0, .int .u8 0, .int .u8 0, .int .u8 0,
        .int .u8 0, .int .u8 0, .int .u8 0, .int .u8 0, .int .u8 0, .int .u8 0, .int .u8 0, .int .u8 0, .int .u8 0, .int .u8 0, .int .u8 0, .int .u8 0, .int .u8 0, .int .u8 0, .int .u8 0, .int .u8 0, .slice none 0 0] V.zipIdx 0 32 = P ∧
    P = ([Value.int .i64 v, Value.int .i64 n, Value.int .i64 a, Value.int .i64 b] ++ (V.toList ++ [Value.slice none 0 0])).toArray := by
  refine ⟨_, ?_, fold_lay_at _ V 4 32 h.symm (by rw [h]; simp), ?_⟩
  · simp [h]
  · rw [h]; simp
theorem proof_set (v n a b : Int) (B : List Nat) (hB : B.length = 32) (P : Array Value) (hP : P = ([Value.int .i64 v, Value.int .i64 n, Value.int .i64 a, Value.int .i64 b] ++ ((u8s B).toArray.toList ++ [Value.slice none 0 0])).toArray) (A : Option Addr) (m cap : Nat) :
    P.setIfInBounds 36 (.slice A m cap) = (proofC v n a b B A m cap).toArray := by
  subst hP
  apply Array.ext'
  have hl : (u8s B).length = 32 := by rw [u8s_len]; exact hB
  simp [proofC, hl, List.set_append_right]

set_option maxRecDepth 100000 in
set_option maxHeartbeats 1000000 in
theorem aprove_nil (v n a b : Int) (w : World) :
    Calls Try.prog 17 #[.int .i64 v, .int .i64 n, .int .i64 a, .int .i64 b, .nilFunc] w fun e w' => e = .returned (.tuple #[.agg zeroP, .int .i64 1]) ∧ Ex0 w w' := by
  have HZP : Hid (∀ v ∈ zeroP, v.oneCell' = true) := by show ∀ v ∈ zeroP, _; unfold zeroP; simpa using proofC_one 0 0 0 0 z32 none 0 0
  have hnf := read_nil
  go_enter Try.func17, Try.ntmps17
  go_wp2_with (refine wpList_store_all rfl 41 (.tmp 10) (.tmp 20) rfl w.heap.size rfl zeroP _ rfl 41 (heap_alloc_new w _) (by rfl) HZP.out (by kernel_rfl) ?_; rw [World.setRow_alloc_new])
  refine bodyPost_ret (results_row_tmp rfl _ _ w.heap.size _ _ _ _ rfl (heap_alloc_new w _) Try.underlying41 rfl (by kernel_rfl) (.int .i64 1) rfl) rfl ?_
  exact ⟨rfl, Ex.alloc _ _⟩
set_option maxRecDepth 100000 in
set_option maxHeartbeats 1000000 in
theorem aprove_no (v n a b : Int) (h : placeB v n a b = false) (fid : Nat) (cp : Array Value) (w : World) :
    Calls Try.prog 17 #[.int .i64 v, .int .i64 n, .int .i64 a, .int .i64 b, .func (.func fid) #[] cp] w fun e w' => e = .returned (.tuple #[.agg zeroP, .int .i64 2]) ∧ Ex0 w w' := by
  have HP := Lib.hid (place_no v n a b h)
  clear h
  have HZP : Hid (∀ v ∈ zeroP, v.oneCell' = true) := by show ∀ v ∈ zeroP, _; unfold zeroP; simpa using proofC_one 0 0 0 0 z32 none 0 0
  have hnf := read_func fid cp
  go_enter Try.func17, Try.ntmps17
  go_wp2_with (first | (refine (HP.out _).mono ?_; rintro e w' ⟨rfl, rfl⟩) | (refine wpList_store_all rfl 41 (.tmp 10) (.tmp 31) rfl w.heap.size rfl zeroP _ rfl 41 (heap_alloc_new w _) (by rfl) HZP.out (by kernel_rfl) ?_; rw [World.setRow_alloc_new]))
  refine bodyPost_ret (results_row_tmp rfl _ _ w.heap.size _ _ _ _ rfl (heap_alloc_new w _) Try.underlying41 rfl (by kernel_rfl) (.int .i64 2) rfl) rfl ?_
  exact ⟨rfl, Ex.alloc _ _⟩

set_option maxRecDepth 100000 in
set_option maxHeartbeats 2000000 in
theorem aprove_yes (v n a b : Nat) (hv1 : 1 ≤ v) (hv : v ≤ 8) (hn1 : 1 ≤ n) (hn : n ≤ 256) (ha : a < v) (hb : b < n) (fid : Nat) (cp : Array Value) (f : Nat → List Nat) (C : Nat → Prop) (I : Nat → World → Prop) (w : World) (h : Reads v n fid cp f C I w) :
    Calls Try.prog 17 #[.int .i64 v, .int .i64 n, .int .i64 a, .int .i64 b, .func (.func fid) #[] cp] w fun e w' => ∃ A cap, e = .returned (.tuple #[.agg (proofC v n a b (f (a * n + b)) A (proofS (leafN f n (v * n)) (a * n + b)).length cap).toArray, .int .i64 0]) ∧
      ((proofS (leafN f n (v * n)) (a * n + b)).length ≤ cap ∧ (A = none → cap = 0)) ∧ Sl w' 16 A (proofS (leafN f n (v * n)) (a * n + b)).length (rowN 16 (proofS (leafN f n (v * n)) (a * n + b))) ∧ AllB 16 (proofS (leafN f n (v * n)) (a * n + b)) ∧ I (v * n) w' ∧ Ex C w w' := by
  have hpb : placeB v n a b = true := by
    simp only [placeB, fitsB, Bool.and_eq_true, decide_eq_true_eq]; omega
  have HP := Lib.hid (place_yes v n a b hpb)
  have hmb := mul_bound ha hv hn
  have hvn2 : v * n ≤ 8 * 256 := Nat.mul_le_mul hv hn
  obtain ⟨w1, hw1⟩ : ∃ w1, w1 = w.alloc (.cells zeroP 41) := ⟨_, rfl⟩
  have hx1 : Ex0 w w1 := by rw [hw1]; exact Ex.alloc _ _
  have h10 : w1.heap[w.heap.size]? = some (.cells zeroP 41 (0, 0)) := by rw [hw1]; exact heap_alloc_new w _
  have hr := h.up (hx1.to (fun _ _ h => h.elim))
  have HLV := Lib.hid (leaves_any v n hv hn fid cp f hr.ok C I w1 hr.low hr.start hr.keep hr.ent hr.call)
  have HLOW := Lib.hid h.low
  have HKEEP := Lib.hid h.keep
  have HW1 := Lib.hid hw1
  have HX1 := Lib.hid hx1
  have H10 := Lib.hid h10
  have hlen := leafN_len f n (v * n)
  have HOK := Lib.hid (leafN_ok f n (v * n))
  obtain ⟨M, hM⟩ : ∃ M, M = a * n + b := ⟨_, rfl⟩
  obtain ⟨N, hN⟩ : ∃ N, N = v * n := ⟨_, rfl⟩
  have hMN : M < N := by omega
  rw [← hN] at hvn2 HLV hlen HOK ⊢
  have hfi := h.ok M
  rw [← hM]
  have eM : (n : Int) * (a : Int) + (b : Int) = (M : Int) := by rw [hM, Nat.mul_comm]; simp
  rw [eM] at HP
  have imN : (M : Int) < (N : Int) := by omega
  obtain ⟨LL, hLL⟩ : ∃ L, L = leafN f n N := ⟨_, rfl⟩
  rw [← hLL] at HLV hlen HOK ⊢
  have hdat : ((List.range N).map f).length = N := by simp
  have hdg : ((List.range N).map f).getD M [] = f M := by simp [List.getD_eq_getElem?_getD, hMN]
  have HDAT := Lib.hid (And.intro hdat hdg)
  obtain ⟨VB, hVB⟩ : ∃ V, V = (u8s (f M)).toArray := ⟨_, rfl⟩
  have hvb : VB.size = 32 := by rw [hVB]; simp [u8s_len, hfi.1]
  have HVB := Lib.hid hVB
  obtain ⟨PQ, hPs, hfold, hPQ⟩ := proof_fold v n a b VB hvb
  have HPQ := Lib.hid hPQ
  have HFI := Lib.hid hfi
  have HLEN := Lib.hid hlen
  clear h hw1 hx1 h10 hr hN hM hLL hlen hpb hmb hdat hdg hVB hPQ hfi
  have hnf := read_func fid cp
  go_enter Try.func17, Try.ntmps17
  iterate 6 go_step
  generalize hW : World.alloc w _ = W'
  obtain rfl : W' = w1 := by rw [HW1.out, ← hW]; rfl
  clear hW
  go_wp2_with (first | (refine (HP.out _).mono ?_; rintro e w' ⟨rfl, rfl⟩) | (refine HLV.out.mono ?_; rintro e w2 ⟨vl, vd, rfl, hol, hod, hI, hx2⟩; have HOL := Lib.hid hol; have HOD := Lib.hid hod; have HI := Lib.hid hI; have HX2 := Lib.hid hx2; clear hol hod hI hx2; obtain ⟨A, cap, rfl, hsl, _, hnl⟩ := own_sl' HOL.out; obtain ⟨A2, cap2, rfl, hsl2, _, hnl2⟩ := own_sl' HOD.out; obtain ⟨g, off, hA2, hrow⟩ := hsl2.elemN (by decide) HDAT.out.1.symm hMN (by rw [HDAT.out.2]; exact HFI.out.1); rw [HDAT.out.2, show u8s (f M) = VB.toList by rw [HVB.out]] at hrow; subst hA2; have hcap : N ≤ cap := (by rcases HOL.out.2 with ⟨h, h0⟩ | ⟨g, cp', cur, h, _, _, h4, _⟩ <;> first | omega | (cases h; exact h4)); have HROW := Lib.hid hrow; have HSL := Lib.hid hsl; have HNEW : Hid (Calls Try.prog 24 #[.slice A N cap] w2 fun e w' => ∃ b, e = .returned (.pointer (some ⟨b, 0, none⟩)) ∧ Rooted w' b LL ∧ Ex0 w2 w') := (by have := mnew_any LL A cap w2 (by rw [HLEN.out]; omega) (by rw [HLEN.out]; omega) HOK.out (by rw [HLEN.out]; exact hcap) (by rw [HLEN.out]; exact HSL.out); rw [HLEN.out] at this; exact this); clear hsl hnl hcap hsl2 hnl2 hrow) | (refine HNEW.out.mono ?_; rintro e w3 ⟨bt, rfl, hrt, hx3⟩; have HPRF := Lib.hid (proof_any bt LL M (by rw [HLEN.out]; exact hMN) (by rw [HLEN.out]; omega) w3 hrt); have HX3 := Lib.hid hx3; clear hrt hx3) | (refine HPRF.out.mono ?_; rintro e w4 ⟨A3, cap3, rfl, hc3, hs3, hn3, hok3, hfr3, hx4⟩; have HX4 : Hid (Ex0 w2 w4) := HX3.out.trans0 hx4; have HE : Hid (w4.heap[w.heap.size]? = some (.cells zeroP 41 (0, 0))) := ((HX2.out.trans0 HX4.out).block _ (Array.getElem?_eq_some_iff.1 H10.out).1 (fun h => by have := HLOW.out _ h; omega)).trans H10.out; have HROW4 := Lib.hid (HROW.out.ex HX4.out not_false); have HFR := Lib.hid hfr3; have HZ3 := Lib.hid (Nat.le_trans HX1.out.size (Nat.le_trans HX2.out.size HX3.out.size)); have H3 := Lib.hid (And.intro (And.intro hc3 hn3) (And.intro hs3 hok3)); have HPS := Lib.hid (proof_set v n a b (f M) HFI.out.1 PQ (by rw [HPQ.out, HVB.out]) A3 (proofS LL M).length cap3); have H1P : Hid (∀ u ∈ PQ.setIfInBounds 36 (.slice A3 (proofS LL M).length cap3), u.oneCell' = true) := (by rw [HPS.out]; show ∀ u ∈ _, _; simpa using proofC_one v n a b (f M) A3 (proofS LL M).length cap3); clear hc3 hs3 hn3 hok3 hx4 hfr3) | refine wpList_load_at rfl 24 (.tmp 52) rfl ⟨g, off + M * 32, none⟩ rfl VB.toList _ HROW4.out Try.underlying24 rfl (by rw [Array.length_toList, hvb]; kernel_rfl) ?_ | refine wpList_store_all rfl 41 (.tmp 10) (.tmp 55) rfl w.heap.size rfl (PQ.setIfInBounds 36 (.slice A3 (proofS LL M).length cap3)) _ rfl 41 HE.out (by rw [Array.size_setIfInBounds, hPs]; rfl) H1P.out (by rw [Array.size_setIfInBounds, hPs]; kernel_rfl) ?_)
  refine bodyPost_ret (results_row_tmp rfl _ _ w.heap.size _ _ _ _ rfl (setRow_heap _ _ _ _ _ _ HE.out) Try.underlying41 rfl (by rw [Array.size_setIfInBounds, hPs]; kernel_rfl) (.int .i64 0) rfl) rfl ?_
  refine ⟨A3, cap3, by rw [HPS.out], H3.out.1, ?_, H3.out.2.2, ?_, ?_⟩
  · refine H3.out.2.1.ex (ex_setRow _ _ _) (fun k hk he => ?_)
    have h1 := HFR.out k hk
    have h2 := HX1.out.size
    have h3 : w.heap.size < W'.heap.size := (Array.getElem?_eq_some_iff.1 H10.out).1
    have h4 := HX2.out.size
    have h5 := HX3.out.size
    omega
  · refine HKEEP.out _ _ _ (HKEEP.out _ _ _ HI.out (HX4.out.to (fun _ _ h => h.elim))) ((ex_setRow _ _ _).to (fun j _ h => by omega))
  · exact ((HX1.out.trans HX2.out (fun _ _ h => h.elim) (fun _ _ h => h)).trans0 HX4.out).trans (ex_setRow _ _ _) (fun _ _ h => h) (fun j hj h => by omega)
end Go.Proofs.Ythbdmfbjkkmplaa
