/- Contracts of layer 61: slices.Grow and slices.Concat of bytes; seal's Chain. -/
import Derived.Test.YthbdmfbjkkmplaaAud4
import Derived.Lib.AppendZerosOnto
import Derived.Lib.AppendZeros
namespace Go.Proofs.Ythbdmfbjkkmplaa
open Go.RowKit Go.Proofs.YthbdmfbjkkmplaaB Go.Proofs.Ythbdmfbjkkmplaa.Sha

set_option maxRecDepth 100000 in
set_option maxHeartbeats 2000000 in
theorem grow_nil (n : Nat) (h0 : 0 < n) (hn : n ≤ 1099511627776) (w : World) :
    Calls Try.prog 53 #[.slice none 0 0, .int .i64 n] w fun e w' => ∃ v, e = .returned v ∧ w'.ownsRow w.heap.size 5 1 v 0 [] ∧ Ex0 w w' := by
  obtain ⟨i, hi, hz, h1, h2⟩ := info_parts infoU8
  have hrz : ∀ ty, (Builtin.append_ #[58, 3] ty #[.slice none 0 0, .int .i64 n]).run Try.prog w = .ok (.slice (some ⟨w.heap.size, 0, none⟩) n (grownCap w n 0 5))
      (w.drew.alloc (.cells (#[] ++ Builtin.zeroCells (Value.int .u8 0).cells n ++ Builtin.zeroCells (Value.int .u8 0).cells (grownCap w n 0 5 - n)) 5)) := fun ty => by
    have := Lib.run_append_grow_zeros (P := Try.prog) w 58 3 ty 5 i (.int .u8 0) .i64 .i64 Try.underlying58 Try.underlying3 hi hz none 0 0 [] (run_firstCells_none w.drew i.size 0 0 0) n h0 (by rw [h1]; decide) (by omega) (by omega) (by rw [h2]; omega)
      (by rw [h2]; exact growslice_fits (by omega) (by omega))
    simpa using this
  have hge := grownCap_ge w n 0 5
  have hle := grownCap_le_maxLen w n 0 5 (by unfold maxLen; omega)
  generalize grownCap w n 0 5 = G at hrz hge hle
  have hG63 : G ≤ 9223372036854775807 := by unfold maxLen at hle; omega
  obtain ⟨C, hC⟩ : ∃ C, C = (#[] ++ Builtin.zeroCells (Value.int .u8 0).cells n ++ Builtin.zeroCells (Value.int .u8 0).cells (G - n)) := ⟨_, rfl⟩
  have hCs : C.size = G := by rw [hC]; simp [Builtin.zeroCells, Value.cells]; omega
  rw [← hC] at hrz
  have HLE := Lib.hid hle
  clear hC hle
  go_enter Try.func53, Try.ntmps53
  go_wp2_with (refine Lib.wpList_append_run _ rfl (.tmp 20) (.tmp 21) 58 3 rfl _ _ rfl rfl _ _ (hrz _) ?_)
  go_ret
  refine ⟨_, rfl, ⟨by simp, .inr ⟨w.heap.size, G, C, rfl, Nat.le_refl _, heap_alloc_new w.drew _, by omega, HLE.out, by omega, by simp⟩⟩, (Ex.drew _).alloc' _⟩

/-- slices of bytes -/
structure Bp where
  A : Option Addr
  cap : Nat
  bs : List Nat
def Bp.val (p : Bp) : Value := .slice p.A p.bs.length p.cap
structure Bp.At (w : World) (p : Bp) : Prop where
  sl : Sl w 1 p.A p.bs.length (u8s p.bs)
  nil : p.A = none → p.cap = 0
def flat (ps : List Bp) : List Nat := ps.flatMap (·.bs)
theorem flat_succ {ps : List Bp} {k : Nat} (h : k < ps.length) : flat (ps.take (k + 1)) = flat (ps.take k) ++ ps[k].bs := by
  unfold flat
  rw [List.take_succ_eq_append_getElem h, List.flatMap_append]; simp
theorem flat_le (ps : List Bp) (k : Nat) : (flat (ps.take k)).length ≤ (flat ps).length := by
  have : flat ps = flat (ps.take k) ++ flat (ps.drop k) := by unfold flat; rw [← List.flatMap_append, List.take_append_drop]
  rw [this, List.length_append]; omega

set_option maxRecDepth 100000 in
set_option maxHeartbeats 2000000 in
theorem concat_any (gs cap : Nat) (ps : List Bp) (w : World) (hc : ∀ j (h : j < ps.length), w.cell? ⟨gs, j, none⟩ = some (ps[j].val)) (hp : ∀ p ∈ ps, p.At w) (hm : ps.length ≤ 100) (h0 : 0 < (flat ps).length) (hn : (flat ps).length ≤ 1099511627776) :
    Calls Try.prog 40 #[.slice (some ⟨gs, 0, none⟩) ps.length cap] w fun e w' => ∃ v, e = .returned v ∧ w'.ownsRow w.heap.size 5 1 v (flat ps).length (u8s (flat ps)) ∧ Ex0 w w' := by
  obtain ⟨m, hme⟩ : ∃ m, m = ps.length := ⟨_, rfl⟩
  rw [← hme]
  have HME := Lib.hid hme
  rw [← hme] at hm
  have HC := Lib.hid hc
  have HP := Lib.hid hp
  have H0 := Lib.hid h0
  have HN := Lib.hid hn
  clear hc hp h0 hn hme
  go_enter Try.func40, Try.ntmps40
  go_wp2_with fail
  go_loopw [3, 5, 11] (fun s _ i wr => ∃ k : Nat, k ≤ m ∧ i = .int .i64 k ∧ s = .int .i64 (flat (ps.take k)).length ∧ wr = w) (fun _ _ i _ => m - (intOf i).toNat)
  case atStart => exact ⟨0, by omega, rfl, rfl, rfl⟩
  case round =>
    obtain ⟨k, hk, rfl, rfl, rfl⟩ := hrel
    by_cases hlt : k < m
    · have hlp : k < ps.length := by rw [← HME.out]; exact hlt
      have hcell := HC.out k hlp
      have HF := Lib.hid (flat_succ hlp)
      have hl1 := flat_le ps k
      have hl2 := flat_le ps (k + 1)
      rw [HF.out, List.length_append] at hl2
      have := HN.out
      unfold Bp.val at hcell
      obtain ⟨p, hpe⟩ : ∃ p, p = ps[k] := ⟨_, rfl⟩
      rw [← hpe] at hcell hl2
      have HPE := Lib.hid hpe
      obtain ⟨l, hle⟩ : ∃ l, l = (flat (ps.take k)).length := ⟨_, rfl⟩
      rw [← hle] at hl1 hl2 ⊢
      obtain ⟨l2, hle2⟩ : ∃ l, l = p.bs.length := ⟨_, rfl⟩
      rw [← hle2] at hl2 hcell
      have hb1 : l + l2 ≤ 1099511627776 := by omega
      have HLL := Lib.hid (And.intro hle hle2)
      clear hpe hle hle2 this hl1 hl2
      go_wp2
      go_roundw
      case rel =>
        refine ⟨k + 1, by omega, by go_num, ?_, by trivial⟩
        rw [HF.out, List.length_append, ← HPE.out, ← HLL.out.1, ← HLL.out.2]
        go_num
      case measure => simp [intOf]; omega
    · have hkm : flat (ps.take k) = flat ps := by rw [List.take_of_length_le (by have := HME.out; omega)]
      rw [hkm]
      obtain ⟨n, hne⟩ : ∃ n, n = (flat ps).length := ⟨_, rfl⟩
      rw [← hne]
      have HG := Lib.hid (grow_nil n (by rw [hne]; exact H0.out) (by rw [hne]; exact HN.out) wr)
      have hn1 : n ≤ 1099511627776 := by rw [hne]; exact HN.out
      have HNE := Lib.hid hne
      clear hne hkm
      go_wp2_with fail
      refine HG.out.mono ?_
      rintro e w1 ⟨v, rfl, ho, hx⟩
      have HO := Lib.hid ho
      have HX := Lib.hid hx
      clear ho hx
      go_wp2_with fail
      obtain ⟨i0, hi0, hz0, hz1, hz2⟩ := info_parts infoU8
      go_loopw [6, 8, 27] (fun v _ i w2 => ∃ k : Nat, k ≤ m ∧ i = .int .i64 k ∧ w2.ownsRow wr.heap.size 5 1 v (flat (ps.take k)).length (u8s (flat (ps.take k))) ∧ Ex0 wr w2) (fun _ _ i _ => m - (intOf i).toNat)
      case atStart => exact ⟨0, by omega, rfl, HO.out, HX.out⟩
      case round =>
        obtain ⟨k, hk, rfl, ho, hx⟩ := hrel
        rename_i v6 _ _
        have HO := Lib.hid ho
        have HX := Lib.hid hx
        clear ho hx
        by_cases hlt : k < m
        · have hlp : k < ps.length := by rw [← HME.out]; exact hlt
          have hcell := HX.out.cellS (HC.out k hlp) not_false
          have HF := Lib.hid (flat_succ hlp)
          have hl2 := flat_le ps (k + 1)
          rw [HF.out, List.length_append] at hl2
          have HAT := Lib.hid (HP.out _ (List.getElem_mem hlp))
          have := HN.out
          unfold Bp.val at hcell
          obtain ⟨p, hpe⟩ : ∃ p, p = ps[k] := ⟨_, rfl⟩
          rw [← hpe] at hcell hl2 HF HAT
          have HL2 := Lib.hid (show (flat (ps.take k)).length + p.bs.length ≤ 1099511627776 by omega)
          clear hpe this hl2
          go_wp2_with (refine wpList_append_sl rfl (.tmp 31) (.tmp 32) 58 rfl _ 5 i0 _ 1 1 Try.underlying58 hi0 hz0 hz1 hz2 rfl (by decide) _ _ _ rfl HO.out p.A p.bs.length p.cap (u8s p.bs) rfl (HAT.out.sl.ex0 HX.out) HAT.out.nil (u8s_one _) (by unfold maxLen; have := HL2.out; omega) (by have := HL2.out; omega) (HX.out.size) ?_; intro v2 w3 ho3 hg3 hb3; have HO3 := Lib.hid ho3; have HG3 := Lib.hid hg3; have HB3 := Lib.hid hb3; clear ho3 hg3 hb3)
          go_roundw
          case rel =>
            refine ⟨k + 1, by omega, by go_num, ?_, ?_⟩
            · rw [HF.out, List.length_append, u8s_append]; exact HO3.out
            · exact ex_of_new HX.out HG3.out (fun b hb => (HO.out.lt b hb).1)
          case measure => simp [intOf]; omega
        · have hkm : flat (ps.take k) = flat ps := by rw [List.take_of_length_le (by have := HME.out; omega)]
          go_wp2
          go_ret
          refine ⟨_, rfl, ?_, HX.out⟩
          rw [← hkm]; exact HO.out
end Go.Proofs.Ythbdmfbjkkmplaa
