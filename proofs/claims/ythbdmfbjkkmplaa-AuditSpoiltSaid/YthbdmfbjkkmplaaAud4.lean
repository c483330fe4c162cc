/- Contracts of layer 61: sha.Sum. -/
import Derived.Test.YthbdmfbjkkmplaaAud3
import Derived.Deep.WholeRow
namespace Go.Proofs.Ythbdmfbjkkmplaa
open Go.RowKit Go.Proofs.YthbdmfbjkkmplaaB Go.Proofs.Ythbdmfbjkkmplaa.Sha

def slLen : Value → Nat
  | .slice _ n _ => n
  | _ => 0

theorem pad_lt {b : List Nat} (hb : ∀ x ∈ b, x < 256) : ∀ x ∈ pad b, x < 256 := by
  intro x hx
  simp only [pad, List.mem_append, List.mem_cons] at hx
  rcases hx with h | h | h | h
  · exact hb x h
  · subst h; decide
  · have := List.eq_of_mem_replicate h; subst this; decide
  · obtain ⟨i, _, rfl⟩ := List.mem_map.1 h
    exact Nat.mod_lt _ (by decide)
/-- the first k bytes, and noughts -/
def outK (h : List Nat) (k : Nat) : List Nat := (outB h).take k ++ List.replicate (32 - k) 0
theorem outB_len (h : List Nat) : (outB h).length = 32 := by simp [outB]
theorem outK_len (h : List Nat) {k : Nat} (hk : k ≤ 32) : (outK h k).length = 32 := by simp [outK, outB_len]; omega
theorem outK_set (h : List Nat) {k : Nat} (hk : k < 32) : (outK h k).set k (h.getD (k / 4) 0 / 2 ^ (24 - 8 * (k % 4)) % 256) = outK h (k + 1) := by
  unfold outK
  have hl : ((outB h).take k).length = k := by simp [outB_len]; omega
  rw [List.set_append_right _ _ (by omega), hl, Nat.sub_self, show 32 - k = (32 - (k + 1)) + 1 by omega, List.replicate_succ, List.set_cons_zero,
    List.take_succ_eq_append_getElem (by rw [outB_len]; exact hk), List.append_assoc]
  have e : 2 ^ (24 - 8 * (k % 4)) = 256 ^ (3 - k % 4) := by rw [show 256 = 2 ^ 8 from rfl, ← Nat.pow_mul]; congr 1; omega
  rw [e]
  simp [outB]
theorem outK_all (h : List Nat) : outK h 32 = outB h := by simp [outK, List.take_of_length_le (Nat.le_of_eq (outB_len h))]

theorem run_arrayAt {P : Program} {t e n : Nat} (hu : P.underlying t = some (.array n e)) (a : Option Addr) (len cap : Nat) (h : n ≤ len) (w : World) : (Instr.arrayAt t (.slice a len cap)).run P w = .ok (.pointer a) w := by
  simp [Instr.arrayAt, run_underlying hu]
  intro h; omega

set_option maxRecDepth 100000 in
set_option maxHeartbeats 2000000 in
theorem sum_any (A : Option Addr) (cap : Nat) (b : List Nat) (hb : ∀ x ∈ b, x < 256) (hL : b.length ≤ 1099511627776) (w : World) (hs : Sl w 1 A b.length (u8s b)) :
    Calls Try.prog 39 #[.slice A b.length cap] w fun e w' => e = .returned (.agg (u8s (sum b)).toArray) ∧ Ex0 w w' := by
  have HS := Lib.hid hs
  have HB := Lib.hid hb
  clear hs hb
  obtain ⟨L, hLe⟩ : ∃ L, L = b.length := ⟨_, rfl⟩
  rw [← hLe]
  have HLE := Lib.hid hLe
  rw [← hLe] at hL HS
  clear hLe
  go_enter Try.func39, Try.ntmps39
  iterate 10 go_step
  generalize hW : World.alloc w _ = W
  have h2 : W8 W w.heap.size 77 (List.replicate 32 0) := by rw [← hW]; exact heap_alloc_new w _
  have hx : Ex0 w W := by rw [← hW]; exact Ex.alloc _ _
  obtain ⟨b2, e2⟩ : ∃ b, b = w.heap.size := ⟨_, rfl⟩
  rw [← e2] at h2 ⊢
  have E2 := Lib.hid e2
  have H2 := Lib.hid h2
  have HX := Lib.hid hx
  clear hW e2 h2 hx
  obtain ⟨FA, hFA⟩ : ∃ FA, FA = (u32s h0).toArray := ⟨_, rfl⟩
  have hFs : FA.size = 8 := by rw [hFA]; rfl
  have hF1 : Hid (∀ v ∈ FA, v.oneCell' = true) := by show ∀ v ∈ FA, _; rw [hFA]; simpa using u32s_one h0
  have HFA := Lib.hid hFA
  clear hFA
  go_wp2_with (first | (refine (first_any _).mono ?_; rintro e w1 ⟨rfl, hx1⟩; rw [← HFA.out]; have HX1 := Lib.hid hx1; clear hx1) | refine wpList_store_all rfl 85 (.tmp 3) (.tmp 7) rfl w1.heap.size rfl FA _ rfl 85 (heap_alloc_new _ _) (by rw [hFs]; rfl) hF1.out (by rw [hFs]; kernel_rfl) ?_)
  rw [World.setRow_alloc_new]
  have hx3 : Ex0 W (w1.alloc (.cells FA 85)) := HX1.out.alloc' _
  have h3 : W32 (w1.alloc (.cells FA 85)) w1.heap.size 85 (hashN (pad b) 0) := by show _ = _; rw [heap_alloc_new, HFA.out]; rfl
  obtain ⟨b3, e3⟩ : ∃ b, b = w1.heap.size := ⟨_, rfl⟩
  rw [← e3] at h3 ⊢
  have HE3 := Lib.hid e3
  clear e3
  rw [HLE.out]
  have hL2 := hL
  rw [HLE.out] at hL2
  refine (pad_any A cap b HB.out hL2 _ ((HLE.out ▸ HS.out : Sl w 1 A b.length (u8s b)).ex0 (HX.out.trans0 hx3))).mono ?_
  rintro e w2 ⟨g, rfl, hg, hp, hx2⟩
  rw [← HLE.out]
  obtain ⟨N, hN⟩ : ∃ N, N = (pad b).length := ⟨_, rfl⟩
  obtain ⟨M, hM⟩ : ∃ M, M = N / 64 := ⟨_, rfl⟩
  have hNM : N = 64 * M := by have := pad_mod b; omega
  have hNL : N ≤ L + 72 := by have := pad_len b; unfold padN at this; rw [hN, this, HLE.out]; omega
  rw [← hN]
  have HN := Lib.hid hN
  have HM := Lib.hid (show (pad b).length / 64 = M by rw [← hN, hM])
  have HG := Lib.hid (show g ≠ b3 by rw [HE3.out]; simp at hg; omega)
  have HP := Lib.hid hp
  have H3 := Lib.hid (h3.ex hx2 not_false)
  have HX2 := Lib.hid (hx3.trans0 hx2)
  have HNM := Lib.hid hNM
  clear hx3 h3 hL2 hN hM hp hx2 hg hNM
  go_wp2_with fail
  go_loopw [4] (fun v wr => ∃ j off r : Nat, j ≤ M ∧ v = .slice (some ⟨g, off, none⟩) r r ∧ r = N - 64 * j ∧ (j < M → off = 64 * j) ∧ W32 wr b3 85 (hashN (pad b) j) ∧ Ex (· = b3) w2 wr) (fun v _ => slLen v)
  case atStart => exact ⟨0, 0, N, by omega, rfl, by omega, fun _ => rfl, H3.out, Ex.refl _ _⟩
  case round =>
    obtain ⟨j, off, r, hj, rfl, hr, ho, hw, hx⟩ := hrel
    have HW := Lib.hid hw
    have HXR := Lib.hid hx
    clear hw hx
    by_cases hlt : j < M
    · have hNM := HNM.out
      have hr64 : 64 ≤ r := by omega
      have ir64 : (64 : Int) ≤ (r : Int) := by omega
      have hoff := ho hlt
      have hrb : r ≤ 1099511627776 + 72 := by omega
      have HR := Lib.hid hr
      have HO := Lib.hid hoff
      have hbl : ((pad b).drop off).take 64 = ((pad b).drop (64 * j)).take 64 := by rw [hoff]
      have hbl2 : (((pad b).drop off).take 64).length = 64 := by rw [List.length_take, List.length_drop, ← HN.out]; omega
      obtain ⟨BA, hBA⟩ : ∃ BA, BA = ((pad b).drop off).take 64 := ⟨_, rfl⟩
      rw [← hBA] at hbl hbl2
      have hdr : Ex0 wr wr.drew := Ex.drew _
      have r3 : RowAt wr.drew ⟨b3, 0, none⟩ (u32s (hashN (pad b) j)) := by simpa using (HW.out.ex hdr not_false).row 0
      have rg : RowAt wr.drew ⟨g, off, none⟩ (u8s BA) := by rw [hBA]; exact ((HP.out.ex HXR.out HG.out).ex hdr not_false).part off 64
      have hhl := hashN_len (pad b) j
      have HBL := Lib.hid hbl
      have HBA := Lib.hid hBA
      have HRR := Lib.hid (And.intro r3 (And.intro rg (And.intro hbl2 hhl)))
      clear hr hNM hoff ho hbl hBA r3 rg hbl2 hhl hdr
      have harr : ∀ w, (Instr.arrayAt 89 (.slice (some ⟨g, off, none⟩) 64 r)).run Try.prog w = .ok (.pointer (some ⟨g, off, none⟩)) w := fun w => run_arrayAt (P := Try.prog) Try.underlying89 _ 64 r (Nat.le_refl _) w
      go_wp2_with fail
      refine wp_region_still_tail 5 (by kernel_rfl) (by kernel_rfl) ?_
      simp only [List.take_succ_cons, List.take_zero, List.drop_succ_cons, List.drop_zero]
      refine wpStill_load_at rfl 85 (.tmp 3) rfl ⟨b3, 0, none⟩ rfl (u32s (hashN (pad b) j)) _ HRR.out.1 Try.underlying85 rfl (by rw [u32s_len, HRR.out.2.2.2]; kernel_rfl) ?_
      dsimp only [Act.put]
      iterate 3 still_step
      refine wpStill_load_at rfl 89 (.tmp 18) rfl ⟨g, off, none⟩ rfl (u8s BA) _ HRR.out.2.1 Try.underlying89 rfl (by rw [u8s_len, HRR.out.2.2.1]; kernel_rfl) ?_
      refine wpStill_nil ?_
      dsimp only [Act.put]
      change wpList _ _ _ _ _ wr.drew
      have hWd := HW.out.ex (Ex.drew wr) not_false
      have hXd := HXR.out.drew'
      generalize wr.drew = wd at hWd hXd ⊢
      have HWd := Lib.hid hWd
      have HXd := Lib.hid hXd
      clear hWd hXd harr HRR
      have hpb : ∀ x ∈ pad b, x < 256 := pad_lt HB.out
      have HPB := Lib.hid hpb
      have hBl : BA.length = 64 := by rw [HBA.out]; have := HR.out; rw [List.length_take, List.length_drop, ← HN.out, HO.out]; have := HNM.out; omega
      have HBLN := Lib.hid hBl
      clear hpb hBl
      obtain ⟨CA, hCA⟩ : ∃ CA, CA = (u32s (compress (hashN (pad b) j) BA)).toArray := ⟨_, rfl⟩
      have hCl := compress_len (hashN (pad b) j) BA (hashN_len _ _)
      have hCs : CA.size = 8 := by rw [hCA]; simpa [u32s_len] using hCl
      have hC1 : Hid (∀ v ∈ CA, v.oneCell' = true) := by show ∀ v ∈ CA, _; rw [hCA]; simpa using u32s_one (compress (hashN (pad b) j) BA)
      have HCA := Lib.hid hCA
      clear hCA hCl
      have eq64 : r = 64 ∨ 64 < r := by omega
      rcases eq64 with rfl | h64
      · go_wp2_with (first | (refine (compress_any (hashN (pad b) j) BA (hashN_len _ _) (hashN_lt _ _) HBLN.out (fun x hx => HPB.out x (by rw [HBA.out] at hx; exact List.mem_of_mem_drop (List.mem_of_mem_take hx))) _).mono ?_; rintro e w5 ⟨rfl, hx5⟩; rw [← HCA.out]; have hw5 := HWd.out.ex hx5 not_false; have HW5 := Lib.hid hw5; have HX5 := Lib.hid hx5; clear hw5 hx5) | refine wpList_store_all rfl 85 (.tmp 3) (.tmp 20) rfl b3 rfl CA _ rfl 85 HW5.out (by rw [hCs]; simpa [u32s_len] using hashN_len (pad b) j) hC1.out (by rw [hCs]; kernel_rfl) ?_)
        go_roundw
        case rel =>
          have h1 := HR.out
          have h2 := HNM.out
          have h3 := HO.out
          refine ⟨j + 1, off, 0, by omega, rfl, by omega, fun h => by omega, ?_, ?_⟩
          · unfold W32
            rw [setRow_heap _ _ _ _ _ _ HW5.out, HCA.out, show hashN (pad b) (j + 1) = compress (hashN (pad b) j) BA from by rw [HBL.out]; rfl]
          · exact (HXd.out.trans0 HX5.out).trans (ex_setRow _ _ _) (fun _ _ h => h) (fun _ _ h => h)
        case measure => simp only [slLen]; omega
      · go_wp2_with (first | (refine (compress_any (hashN (pad b) j) BA (hashN_len _ _) (hashN_lt _ _) HBLN.out (fun x hx => HPB.out x (by rw [HBA.out] at hx; exact List.mem_of_mem_drop (List.mem_of_mem_take hx))) _).mono ?_; rintro e w5 ⟨rfl, hx5⟩; rw [← HCA.out]; have hw5 := HWd.out.ex hx5 not_false; have HW5 := Lib.hid hw5; have HX5 := Lib.hid hx5; clear hw5 hx5) | refine wpList_store_all rfl 85 (.tmp 3) (.tmp 20) rfl b3 rfl CA _ rfl 85 HW5.out (by rw [hCs]; simpa [u32s_len] using hashN_len (pad b) j) hC1.out (by rw [hCs]; kernel_rfl) ?_)
        go_roundw
        case rel =>
          have h1 := HR.out
          have h2 := HNM.out
          have h3 := HO.out
          refine ⟨j + 1, off + 64, r - 64, by omega, rfl, by omega, fun h => by omega, ?_, ?_⟩
          · unfold W32
            rw [setRow_heap _ _ _ _ _ _ HW5.out, HCA.out, show hashN (pad b) (j + 1) = compress (hashN (pad b) j) BA from by rw [HBL.out]; rfl]
          · exact (HXd.out.trans0 HX5.out).trans (ex_setRow _ _ _) (fun _ _ h => h) (fun _ _ h => h)
        case measure => simp only [slLen]; omega
    · have hj2 : j = M := by omega
      obtain ⟨H, hH⟩ : ∃ H, H = hashN (pad b) j := ⟨_, rfl⟩
      rw [← hH] at HW
      have hHl : H.length = 8 := by rw [hH]; exact hashN_len _ _
      have HHb : Hid (∀ x ∈ H, x < 4294967296) := by show ∀ x ∈ H, _; rw [hH]; exact hashN_lt _ _
      have HSUM : Hid (sum b = outB H) := by show _ = _; unfold sum; rw [HM.out, ← hj2, ← hH]
      obtain rfl : r = 0 := by have := HNM.out; omega
      clear hH hr ho hj2
      go_wp2_with fail
      generalize hW5 : World.alloc wr _ = W5
      have q5 : W8 W5 wr.heap.size 77 (outK H 0) := by rw [← hW5]; exact heap_alloc_new wr _
      have x5 : Ex0 wr W5 := by rw [← hW5]; exact Ex.alloc _ _
      obtain ⟨b5, e5⟩ : ∃ b, b = wr.heap.size := ⟨_, rfl⟩
      rw [← e5] at q5 ⊢
      have H35 := HW.out.ex x5 not_false
      have HNE : Hid (b3 ≠ b5) := by have := HW.out.lt; show b3 ≠ b5; omega
      have HNE2 : Hid (b2 ≠ b5) := by have := (((H2.out.ex HX2.out not_false).ex HXR.out (by have := H2.out.lt; have := HX1.out.size; rw [HE3.out]; omega))).lt; show b2 ≠ b5; omega
      have H25 := (((H2.out.ex HX2.out not_false).ex HXR.out (by have := H2.out.lt; have := HX1.out.size; rw [HE3.out]; omega))).ex x5 not_false
      have E5 := Lib.hid e5
      have Q5 := Lib.hid q5
      have X5 := Lib.hid x5
      have H35 := Lib.hid H35
      have H25 := Lib.hid H25
      clear hW5 q5 x5 e5
      go_loopw [6, 21] (fun _ i w6 => ∃ k : Nat, k ≤ 32 ∧ i = .int .i64 k ∧ W8 w6 b5 77 (outK H k) ∧ Ex (· = b5) W5 w6) (fun _ i _ => 32 - (intOf i).toNat)
      case atStart => exact ⟨0, by omega, rfl, Q5.out, Ex.refl _ _⟩
      case round =>
        obtain ⟨k, hk, rfl, hv, hxr⟩ := hrel
        have HV := Lib.hid hv
        have HX6 := Lib.hid hxr
        clear hv hxr
        by_cases hlt : k < 32
        · obtain ⟨q, hq⟩ : ∃ q, q = k / 4 := ⟨_, rfl⟩
          obtain ⟨m, hm⟩ : ∃ m, m = 24 - 8 * (k % 4) := ⟨_, rfl⟩
          have e1 : (k : Int) / 4 = (q : Int) := by omega
          have e2 : (24 : Int) - 8 * ((k : Int) % 4) = (m : Int) := by omega
          have hq8 : q < 8 := by omega
          have iq8 : (q : Int) < 8 := by omega
          have hm1 : m < 32 := by omega
          have ik : (k : Int) < 32 := by omega
          have ch := (H35.out.ex HX6.out HNE.out).cell (j := q) (by omega)
          have ck := HV.out.cell (j := k) (by rw [outK_len H hk]; exact hlt)
          have fk := HV.out.frozen k
          obtain ⟨xh, hxh⟩ : ∃ x, x = H.getD q 0 := ⟨_, rfl⟩
          rw [← hxh] at ch
          have HS6 := outK_set H hlt
          rw [← hq, ← hm, ← hxh] at HS6
          have HS6 := Lib.hid HS6
          clear hq hm hxh
          go_wp2
          go_roundw
          case rel =>
            refine ⟨k + 1, by omega, by go_num, ?_, ?_⟩
            · rw [← HS6.out]
              simpa using HV.out.set k (xh / 2 ^ m % 256)
            · exact HX6.out.trans (Ex.setCell _ _ _) (fun _ _ h => h) (fun _ _ h => h)
          case measure => simp [intOf]; omega
        · have HO6 : Hid (W8 wr b5 77 (outB H)) := by
            have := HV.out
            rw [show k = 32 by omega, outK_all] at this
            exact this
          have HHB2 := Lib.hid (H25.out.ex HX6.out HNE2.out)
          obtain ⟨CA, hCA⟩ : ∃ A, A = (u8s (outB H)).toArray := ⟨_, rfl⟩
          have h9 : wr.heap[b5]? = some (.cells CA 77 (0, 0)) := by rw [hCA]; exact HO6.out
          have hsz : CA.size = 32 := by rw [hCA]; simpa [u8s_len] using outB_len H
          have H1C : Hid (∀ v ∈ CA, v.oneCell' = true) := by show ∀ v ∈ CA, _; rw [hCA]; simpa using u8s_one (outB H)
          have HCA := Lib.hid hCA
          clear hCA
          go_wp2_with (first | refine wpList_load_row rfl 77 (.tmp 5) rfl b5 rfl 77 CA (0, 0) _ h9 Try.underlying77 rfl (by rw [hsz]; kernel_rfl) ?_ | refine wpList_store_all rfl 77 (.tmp 2) (.tmp 37) rfl b2 rfl CA _ rfl 77 HHB2.out (by rw [hsz]; rfl) H1C.out (by rw [hsz]; kernel_rfl) ?_)
          refine bodyPost_ret (results_cell_row rfl _ _ b2 _ _ _ _ rfl (setRow_heap _ _ _ _ _ _ HHB2.out) Try.underlying77 rfl (by rw [hsz]; kernel_rfl)) rfl ?_
          refine ⟨by rw [HCA.out, HSUM.out], ?_⟩
          have q1 : Ex0 w w2 := HX.out.trans0 HX2.out
          have q2 : Ex0 w _ := q1.trans HXR.out (fun _ _ h => h) (fun i hi h => by rw [HE3.out] at h; have := HX.out.size; have := HX1.out.size; omega)
          have q3 := q2.trans0 X5.out
          have q4 : Ex0 w _ := q3.trans HX6.out (fun _ _ h => h) (fun i hi h => by rw [E5.out] at h; have := q2.size; omega)
          exact q4.trans (ex_setRow _ _ _) (fun _ _ h => h) (fun i hi h => by rw [E2.out] at h; omega)
end Go.Proofs.Ythbdmfbjkkmplaa
