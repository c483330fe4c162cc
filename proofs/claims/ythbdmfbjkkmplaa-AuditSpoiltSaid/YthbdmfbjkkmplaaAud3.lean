/- Contracts of layer 61: sha.Pad. -/
import Derived.Test.YthbdmfbjkkmplaaAud2
import Derived.Laws.CopyOwn
namespace Go.Proofs.Ythbdmfbjkkmplaa
open Go.RowKit Go.Proofs.YthbdmfbjkkmplaaB Go.Proofs.Ythbdmfbjkkmplaa.Sha

theorem u8s_append (a b : List Nat) : u8s (a ++ b) = u8s a ++ u8s b := by simp [u8s]
theorem u8s_drop (a : List Nat) (n : Nat) : u8s (a.drop n) = (u8s a).drop n := by simp [u8s]
theorem u8s_take (a : List Nat) (n : Nat) : u8s (a.take n) = (u8s a).take n := by simp [u8s]
theorem made8 (n : Nat) : madeCells (#[.int .u8 0] : Array Value) n = (u8s (List.replicate n 0)).toArray := by
  apply Array.ext'
  simp only [madeCells, u8s, List.map_replicate]
  apply List.ext_getElem
  · simp
  · intro i h1 h2
    simp [Nat.mod_one]
theorem run_shr64 {P : Program} (x m : Nat) (hm : m < 64) (c : IntKind) (w : World) : (Op.shift .shr .u64 x c m).run P w = .ok (.int .u64 ((x / 2 ^ m : Nat) : Int)) w := by
  have h : min m 64 = m := by omega
  simp only [Op.shift, show ¬ ((m : Nat) : Int) < 0 by omega, if_false, Int.toNat_natCast, IntKind.bits, h, Sem.run_pure]
  rw [Int.fdiv_eq_ediv_of_nonneg _ (by exact_mod_cast Nat.zero_le _)]; simp

/-- the padded text, of the length the last k bytes -/
def padK (b : List Nat) (k : Nat) : List Nat := b ++ 128 :: (List.replicate (padN b.length) 0 ++ (List.replicate (8 - k) 0 ++ (lenB b.length).drop (8 - k)))
theorem lenB_len (n : Nat) : (lenB n).length = 8 := by simp [lenB]
theorem padK_len (b : List Nat) {k : Nat} (_hk : k ≤ 8) : (padK b k).length = (pad b).length := by
  simp [padK, pad, lenB_len] <;> omega
theorem padK_8 (b : List Nat) : padK b 8 = pad b := by simp [padK, pad]
theorem padK_set (b : List Nat) {k : Nat} (hk : k < 8) : (padK b k).set ((pad b).length - 1 - k) (8 * b.length / 2 ^ (8 * k) % 256) = padK b (k + 1) := by
  have hl : (pad b).length = b.length + 9 + padN b.length := pad_len b
  unfold padK
  rw [List.set_append_right _ _ (by omega), show (pad b).length - 1 - k - b.length = padN b.length + (7 - k) + 1 by omega, List.set_cons_succ,
    List.set_append_right _ _ (by simp), List.length_replicate, show padN b.length + (7 - k) - padN b.length = 7 - k by omega,
    List.set_append_left _ _ (by simp; omega), show 8 - k = (8 - (k + 1)) + 1 by omega, List.replicate_succ', List.set_append_right _ _ (by simp <;> omega)]
  simp only [List.length_replicate]
  rw [show 7 - k - (8 - (k + 1)) = 0 by omega, List.set_cons_zero, List.append_assoc, List.drop_eq_getElem_cons (l := lenB b.length) (i := 8 - (k + 1)) (Nat.lt_of_lt_of_eq (by omega : 8 - (k + 1) < 8) (lenB_len _).symm)]
  simp only [lenB, List.getElem_map, List.getElem_range, List.singleton_append]
  rw [show 7 - (8 - (k + 1)) = k by omega, Nat.mul_comm 8 b.length, Nat.pow_mul]

theorem splice_pad (b : List Nat) {N : Nat} (_h : b.length ≤ N) : splice (u8s (List.replicate N 0)) 0 (u8s b) = u8s (b ++ List.replicate (N - b.length) 0) := by
  simp [splice, u8s]
theorem padK_0 (b : List Nat) : (b ++ List.replicate ((pad b).length - b.length) 0).set b.length 128 = padK b 0 := by
  rw [pad_len, List.set_append_right _ _ (Nat.le_refl _), Nat.sub_self, show b.length + 9 + padN b.length - b.length = (padN b.length + 8) + 1 by omega, List.replicate_succ, List.set_cons_zero]
  unfold padK
  rw [show 8 - 0 = 8 from rfl, List.drop_of_length_le (by rw [lenB_len]; exact Nat.le_refl _), List.append_nil, List.replicate_append_replicate]

theorem infoU8 : (Try.prog.info? 5).map (fun i => (i.zero, i.size, i.bytes)) = some (some (.int .u8 0), 1, 1) := by kernel_rfl
set_option maxRecDepth 100000 in
set_option maxHeartbeats 1000000 in
theorem pad_any (A : Option Addr) (cap : Nat) (b : List Nat) (hb : ∀ x ∈ b, x < 256) (hL : b.length ≤ 1099511627776) (w : World) (hs : Sl w 1 A b.length (u8s b)) :
    Calls Try.prog 51 #[.slice A b.length cap] w fun e w' => ∃ g, e = .returned (.slice (some ⟨g, 0, none⟩) (pad b).length (pad b).length) ∧ w.heap.size ≤ g ∧ W8 w' g 5 (pad b) ∧ Ex0 w w' := by
  obtain ⟨N, hN⟩ : ∃ N, N = (pad b).length := ⟨_, rfl⟩
  have hNl : N = b.length + 9 + padN b.length := by rw [hN, pad_len]
  have hN2 : N ≤ b.length + 9 + 63 := by rw [hNl]; unfold padN; omega
  have hN3 : b.length + 9 ≤ N := by omega
  obtain ⟨L, hLe⟩ : ∃ L, L = b.length := ⟨_, rfl⟩
  rw [← hLe] at hL hs hN2 hN3
  rw [← hN, ← hLe]
  have eN : ((L : Int) + 9 + -(((L : Int) + 9) % 64) % 64) = (N : Int) := by rw [hNl, ← hLe]; unfold padN; omega
  have hmk : ∀ w, (Instr.makeSlice 58 (.int .i64 N) (.int .i64 N)).run Try.prog w = .ok (.slice (some ⟨w.heap.size, 0, none⟩) N N) (w.alloc (.cells (u8s (List.replicate N 0)).toArray 5)) := fun w => by
    obtain ⟨i, hi, hz, h1, h2⟩ := info_parts infoU8
    have := run_make (P := Try.prog) w 58 5 i _ Try.underlying58 hi hz .i64 .i64 N N (by omega) (by omega) (by rw [h2]; omega) (by omega)
    rw [this]
    simp only [Int.toNat_natCast, h1, Nat.mul_one]
    rw [← made8]; rfl
  have HSP : Hid (∀ w4 : World, w4.heap[w.heap.size]? = some (.cells (splice (u8s (List.replicate N 0)) 0 (u8s b)).toArray 5 (0, 0)) → W8 w4 w.heap.size 5 (b ++ List.replicate (N - L) 0)) := fun w4 h => by
    unfold W8; rw [h, splice_pad b (by omega), ← hLe]
  have HS := Lib.hid hs
  have HB := Lib.hid hb
  have HNE := Lib.hid hN
  have HLE := Lib.hid hLe
  have HNL := Lib.hid hNl
  clear hs hb hN hNl hLe
  go_enter Try.func51, Try.ntmps51
  have hW0 : W8 (w.alloc (.cells (u8s (List.replicate N 0)).toArray 5)) w.heap.size 5 (List.replicate N 0) := W8.new _ _ _
  go_wp2_with (refine wpList_copy_splice rfl (.tmp 17) (.tmp 18) 58 58 rfl 5 Try.underlying58 (by kernel_rfl) (some ⟨w.heap.size, 0, none⟩) A N N L cap rfl rfl w.heap.size 0 (u8s (List.replicate N 0)) 5 hW0 (u8s b) (by rw [u8s_len, ← HLE.out]; exact (Nat.min_eq_left (by omega)).symm) (fun h0 => ⟨rfl, by
    obtain ⟨g, off, hA, hr⟩ := (HS.out.ex0 (Ex.alloc w _)).at_ (by rw [u8s_len, ← HLE.out] at h0; exact h0)
    exact ⟨_, hA, hr⟩⟩) (by rw [u8s_len, u8s_len, ← HLE.out]; simp; omega) (u8s_one b) w.heap.size w ((Ex.alloc w _).below (Nat.le_refl _) (fun _ h => h.elim)) (Nat.le_refl _) ?_; intro w4 hg4 hb4; have hW4 := HSP.out w4 hg4.out; have hc4 := hW4.cell (j := L) (by have := HLE.out; rw [List.length_append, List.length_replicate]; omega); have hf4 := hW4.frozen L; have HW4 := Lib.hid hW4; have HB4 := Lib.hid hb4; clear hW4 hb4)
  go_loopw [5, 24] (fun _ i wr => ∃ k : Nat, k ≤ 8 ∧ i = .int .i64 k ∧ W8 wr w.heap.size 5 (padK b k) ∧ Below w.heap.size w wr) (fun _ i _ => 8 - (intOf i).toNat)
  case atStart =>
    refine ⟨0, by omega, rfl, ?_, HB4.out.setCell (Nat.le_refl _) _⟩
    rw [← padK_0, ← HNE.out, ← HLE.out]
    exact HW4.out.set L 128
  case round =>
    obtain ⟨k, hk, rfl, hw, hb4⟩ := hrel
    have HW := Lib.hid hw
    have HBW := Lib.hid hb4
    clear hw hb4
    by_cases hlt : k < 8
    · obtain ⟨m, hm⟩ : ∃ m, m = 8 * k := ⟨_, rfl⟩
      obtain ⟨j, hj⟩ : ∃ j, j = N - 1 - k := ⟨_, rfl⟩
      have e1 : (8 : Int) * (k : Int) = (m : Int) := by omega
      have e2 : (N : Int) - 1 - (k : Int) = (j : Int) := by omega
      have hm1 : m < 64 := by omega
      have hj1 : j < N := by omega
      have hcj := HW.out.cell (j := j) (by rw [padK_len b hk, ← HNE.out]; exact hj1)
      have hfj := HW.out.frozen j
      have hsh : ∀ w, (Op.shift .shr .u64 ((L : Int) * 8) .i64 m).run Try.prog w = .ok (.int .u64 ((L * 8 / 2 ^ m : Nat) : Int)) w := fun w => by
        simp
      obtain ⟨q, hq⟩ : ∃ q, q = L * 8 / 2 ^ m := ⟨_, rfl⟩
      rw [← hq] at hsh
      have HJ := Lib.hid (And.intro hm (And.intro hj hq))
      clear hm hj hq
      go_wp2
      go_roundw
      case rel =>
        refine ⟨k + 1, by omega, by go_num, ?_, ?_⟩
        · have e := padK_set b hlt
          rw [← HNE.out, ← HLE.out, ← HJ.out.1, ← HJ.out.2.1, Nat.mul_comm 8 L] at e
          rw [← e]
          simpa using HW.out.set j (L * 8 / 2 ^ m % 256)
        · exact HBW.out.setCell (Nat.le_refl _) _
      case measure => simp [intOf]; omega
    · go_wp2
      go_ret
      refine ⟨w.heap.size, rfl, Nat.le_refl _, ?_, Ex.ofBelow HBW.out⟩
      have := HW.out
      rw [show k = 8 by omega, padK_8] at this
      exact this
end Go.Proofs.Ythbdmfbjkkmplaa
