/- Contracts of layer 61: audit's Root. -/
import Derived.Test.YthbdmfbjkkmplaaAud30
import Derived.Test.YthbdmfbjkkmplaaAud26
namespace Go.Proofs.Ythbdmfbjkkmplaa
open Go.RowKit Go.Proofs.YthbdmfbjkkmplaaB Go.Proofs.Ythbdmfbjkkmplaa.Sha

/-- what asks a disk: the blocks f by their numbers, in order; I holds ahead of each ask -/
structure Reads (v n : Nat) (fid : Nat) (cp : Array Value) (f : Nat → List Nat) (C : Nat → Prop) (I : Nat → World → Prop) (w : World) : Prop where
  ok : ∀ i, (f i).length = 32 ∧ ∀ y ∈ f i, y < 256
  low : ∀ b, C b → b < w.heap.size
  start : I 0 w
  keep : ∀ i w1 w2, I i w1 → Ex (fun b => w.heap.size ≤ b) w1 w2 → I i w2
  ent : ∀ args w, (callFunc fid args).run Try.prog w = .ok (.enter fid args) w
  call : ∀ a b, a < v → b < n → ∀ w', I (a * n + b) w' → Calls Try.prog fid (#[.int .i64 a, .int .i64 b] ++ cp) w' fun e w'' => ∃ ok B, e = .returned (.tuple #[.agg (u8s B).toArray, .bool ok]) ∧ (B.length = 32 ∧ ∀ y ∈ B, y < 256) ∧ (if ok then B else z32) = f (a * n + b) ∧ I (a * n + b + 1) w'' ∧ Ex C w' w''
theorem Reads.up {v n fid : Nat} {cp : Array Value} {f : Nat → List Nat} {C : Nat → Prop} {I : Nat → World → Prop} {w w' : World} (h : Reads v n fid cp f C I w) (hx : Ex (fun b => w.heap.size ≤ b) w w') : Reads v n fid cp f C I w' :=
  ⟨h.ok, fun b hb => Nat.lt_of_lt_of_le (h.low b hb) hx.size, h.keep 0 w w' h.start hx, fun i w1 w2 h1 h2 => h.keep i w1 w2 h1 (h2.to (fun j _ hj => Nat.le_trans hx.size hj)), h.ent, h.call⟩

theorem read_nil (w : World) : (binOp .eql 33 .nilFunc .nilFunc).run Try.prog w = .ok (.bool true) w := by
  simp only [binOp]
  simp only [Op.equal, Op.maxDepth, Sem.run_bind, Sem.run_pure]
  rw [show (10000 : Nat) = 9999 + 1 from rfl, Op.equalIn]
  simp [run_underlying Try.underlying33]
theorem read_func (fid : Nat) (cp : Array Value) (w : World) : (binOp .eql 33 (.func (.func fid) #[] cp) .nilFunc).run Try.prog w = .ok (.bool false) w := by
  simp only [binOp]
  simp only [Op.equal, Op.maxDepth, Sem.run_bind, Sem.run_pure]
  rw [show (10000 : Nat) = 9999 + 1 from rfl, Op.equalIn]
  simp [run_underlying Try.underlying33]

set_option maxRecDepth 100000 in
set_option maxHeartbeats 1000000 in
theorem aroot_nil (v n : Int) (w : World) :
    Calls Try.prog 11 #[.int .i64 v, .int .i64 n, .nilFunc] w fun e w' => e = .returned (.tuple #[.agg (u8s z16).toArray, .int .i64 1]) ∧ Ex0 w w' := by
  have HZ16 : Hid (∀ v ∈ (u8s z16).toArray, v.oneCell' = true) := by show ∀ v ∈ _, _; simpa using u8s_one z16
  have hnf := read_nil
  go_enter Try.func11, Try.ntmps11
  go_wp2_with (refine wpList_store_all rfl 28 (.tmp 6) (.tmp 12) rfl w.heap.size rfl (u8s z16).toArray _ rfl 28 (heap_alloc_new w _) (by rfl) HZ16.out (by kernel_rfl) ?_; rw [World.setRow_alloc_new])
  refine bodyPost_ret (results_row_tmp rfl _ _ w.heap.size _ _ _ _ rfl (heap_alloc_new w _) Try.underlying28 rfl (by kernel_rfl) (.int .i64 1) rfl) rfl ?_
  exact ⟨rfl, Ex.alloc _ _⟩
set_option maxRecDepth 100000 in
set_option maxHeartbeats 1000000 in
theorem aroot_no (v n : Int) (h : fitsB v n = false) (fid : Nat) (cp : Array Value) (w : World) :
    Calls Try.prog 11 #[.int .i64 v, .int .i64 n, .func (.func fid) #[] cp] w fun e w' => e = .returned (.tuple #[.agg (u8s z16).toArray, .int .i64 2]) ∧ Ex0 w w' := by
  have HF := Lib.hid h
  clear h
  have HZ16 : Hid (∀ v ∈ (u8s z16).toArray, v.oneCell' = true) := by show ∀ v ∈ _, _; simpa using u8s_one z16
  have hnf := read_func fid cp
  go_enter Try.func11, Try.ntmps11
  go_wp2_with (first | (refine (there_any _ _ _).mono ?_; rintro e w' ⟨rfl, rfl⟩; rw [HF.out]) | (refine wpList_store_all rfl 28 (.tmp 6) (.tmp 17) rfl w.heap.size rfl (u8s z16).toArray _ rfl 28 (heap_alloc_new w _) (by rfl) HZ16.out (by kernel_rfl) ?_; rw [World.setRow_alloc_new]))
  refine bodyPost_ret (results_row_tmp rfl _ _ w.heap.size _ _ _ _ rfl (heap_alloc_new w _) Try.underlying28 rfl (by kernel_rfl) (.int .i64 2) rfl) rfl ?_
  exact ⟨rfl, Ex.alloc _ _⟩

set_option maxRecDepth 100000 in
set_option maxHeartbeats 1000000 in
theorem aroot_yes (v n : Nat) (hv1 : 1 ≤ v) (hv : v ≤ 8) (hn1 : 1 ≤ n) (hn : n ≤ 256) (fid : Nat) (cp : Array Value) (f : Nat → List Nat) (C : Nat → Prop) (I : Nat → World → Prop) (w : World) (h : Reads v n fid cp f C I w) :
    Calls Try.prog 11 #[.int .i64 v, .int .i64 n, .func (.func fid) #[] cp] w fun e w' => e = .returned (.tuple #[.agg (u8s (treeS (leafN f n (v * n)))).toArray, .int .i64 0]) ∧ I (v * n) w' ∧ Ex C w w' := by
  have HF : Hid (fitsB v n = true) := by
    show _ = _
    simp only [fitsB, decide_eq_true_eq]; omega
  have hvn1 : 1 ≤ v * n := Nat.mul_pos hv1 hn1
  have hvn2 : v * n ≤ 8 * 256 := Nat.mul_le_mul hv hn
  obtain ⟨w1, hw1⟩ : ∃ w1, w1 = w.alloc (.cells (u8s z16).toArray 28) := ⟨_, rfl⟩
  have hx1 : Ex0 w w1 := by rw [hw1]; exact Ex.alloc _ _
  have h6 : w1.heap[w.heap.size]? = some (.cells (u8s z16).toArray 28 (0, 0)) := by rw [hw1]; exact heap_alloc_new w _
  have hr := h.up (hx1.to (fun _ _ h => h.elim))
  have HLV := Lib.hid (leaves_any v n hv hn fid cp f hr.ok C I w1 hr.low hr.start hr.keep hr.ent hr.call)
  have HLOW := Lib.hid h.low
  have HKEEP := Lib.hid h.keep
  have HW1 := Lib.hid hw1
  have HX1 := Lib.hid hx1
  have H6 := Lib.hid h6
  have hlen := leafN_len f n (v * n)
  have HOK := Lib.hid (leafN_ok f n (v * n))
  obtain ⟨N, hN⟩ : ∃ N, N = v * n := ⟨_, rfl⟩
  rw [← hN] at hvn1 hvn2 HLV hlen HOK ⊢
  obtain ⟨LL, hLL⟩ : ∃ L, L = leafN f n N := ⟨_, rfl⟩
  rw [← hLL] at HLV hlen HOK ⊢
  have ht16 : (treeS LL).length = 16 := treeS_len (by omega)
  obtain ⟨CA, hCA⟩ : ∃ CA, CA = (u8s (treeS LL)).toArray := ⟨_, rfl⟩
  have hsz : CA.size = 16 := by rw [hCA]; simp [u8s_len, ht16]
  have H1C : Hid (∀ v ∈ CA, v.oneCell' = true) := by show ∀ v ∈ CA, _; rw [hCA]; simpa using u8s_one (treeS LL)
  rw [← hCA]
  have HCA := Lib.hid hCA
  have HLEN := Lib.hid hlen
  clear h hw1 hx1 h6 hr hN hLL hCA hlen ht16
  have hnf := read_func fid cp
  go_enter Try.func11, Try.ntmps11
  iterate 6 go_step
  generalize hW : World.alloc w _ = W'
  obtain rfl : W' = w1 := by rw [HW1.out, ← hW]; rfl
  clear hW
  go_wp2_with (first | (refine (there_any _ _ _).mono ?_; rintro e w' ⟨rfl, rfl⟩; rw [HF.out]) | (refine HLV.out.mono ?_; rintro e w2 ⟨vl, vd, rfl, hol, hod, hI, hx2⟩; have HOL := Lib.hid hol; have HI := Lib.hid hI; have HX2 := Lib.hid hx2; clear hol hod hI hx2; obtain ⟨A, cap, rfl, hsl, _, hnl⟩ := own_sl' HOL.out; have hcap : N ≤ cap := (by rcases HOL.out.2 with ⟨h, h0⟩ | ⟨g, cp', cur, h, _, _, h4, _⟩ <;> first | omega | (cases h; exact h4)); have HSL := Lib.hid hsl; have HNEW : Hid (Calls Try.prog 24 #[.slice A N cap] w2 fun e w' => ∃ b, e = .returned (.pointer (some ⟨b, 0, none⟩)) ∧ Rooted w' b LL ∧ Ex0 w2 w') := (by have := mnew_any LL A cap w2 (by rw [HLEN.out]; omega) (by rw [HLEN.out]; omega) HOK.out (by rw [HLEN.out]; exact hcap) (by rw [HLEN.out]; exact HSL.out); rw [HLEN.out] at this; exact this); clear hsl hnl hcap) | (refine HNEW.out.mono ?_; rintro e w3 ⟨bt, rfl, hrt, hx3⟩; have HRT := Lib.hid (root_any bt LL w3 hrt); rw [← HCA.out] at HRT; have HX3 := Lib.hid hx3; clear hrt hx3) | (refine HRT.out.mono ?_; rintro e w4 ⟨rfl, hx4⟩; have HX4 : Hid (Ex0 w2 w4) := HX3.out.trans0 hx4; have HE : Hid (w4.heap[w.heap.size]? = some (.cells (u8s z16).toArray 28 (0, 0))) := ((HX2.out.trans0 HX4.out).block _ (Array.getElem?_eq_some_iff.1 H6.out).1 (fun h => by have := HLOW.out _ h; omega)).trans H6.out; clear hx4) | refine wpList_store_all rfl 28 (.tmp 6) (.tmp 27) rfl w.heap.size rfl CA _ rfl 28 HE.out (by rw [hsz]; rfl) H1C.out (by rw [hsz]; kernel_rfl) ?_)
  refine bodyPost_ret (results_row_tmp rfl _ _ w.heap.size _ _ _ _ rfl (setRow_heap _ _ _ _ _ _ HE.out) Try.underlying28 rfl (by rw [hsz]; kernel_rfl) (.int .i64 0) rfl) rfl ?_
  refine ⟨rfl, ?_, ?_⟩
  · refine HKEEP.out _ _ _ (HKEEP.out _ _ _ HI.out (HX4.out.to (fun _ _ h => h.elim))) ((ex_setRow _ _ _).to (fun j _ h => by omega))
  · exact ((HX1.out.trans HX2.out (fun _ _ h => h.elim) (fun _ _ h => h)).trans0 HX4.out).trans (ex_setRow _ _ _) (fun _ _ h => h) (fun j hj h => by omega)
end Go.Proofs.Ythbdmfbjkkmplaa
