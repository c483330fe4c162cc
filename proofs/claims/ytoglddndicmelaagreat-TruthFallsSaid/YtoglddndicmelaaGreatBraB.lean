/- Contracts of layer 29: the walk over those that are alive. Contracts of layer 29: Bases. -/
import Derived.Test.YtoglddndicmelaaGreatBraA
import Derived.Test.YtoglddndicmelaaGreatB7
import Derived.Test.YtoglddndicmelaaGreatSrtB
import Derived.RangeFuncCalls
import Derived.Shelf.Abstract
namespace Go.Proofs.YtoglddndicmelaaGreat.Tr
open Go.RowKit Go.Proofs.YtoglddndicmelaaGreatB Go.Proofs.YtoglddndicmelaaGreat
set_option maxRecDepth 100000

def idsN (fs : List Tw) (k : Nat) : List Int := ((List.range k).filter fun (i : Nat) => alive fs (i : Int)).map fun (i : Nat) => (i : Int)
/-- those that are alive, rising -/
def idsF (fs : List Tw) : List Int := idsN fs 16
theorem idsN_succ (fs : List Tw) (k : Nat) : idsN fs (k + 1) = if alive fs (k : Int) then idsN fs k ++ [(k : Int)] else idsN fs k := by
  unfold idsN
  rw [List.range_succ, List.filter_append, List.map_append]
  cases h : alive fs (k : Int) <;> simp [h]
theorem idsN_pre (fs : List Tw) {k : Nat} (hk : k ≤ 16) : idsN fs k <+: idsF fs := by
  unfold idsF idsN
  have e : List.range 16 = List.range k ++ (List.range (16 - k)).map (k + ·) := by rw [← List.range_add]; congr 1; omega
  rw [e, List.filter_append, List.map_append]
  exact List.prefix_append _ _
theorem idsN_len (fs : List Tw) (k : Nat) : (idsN fs k).length ≤ k := by
  unfold idsN
  rw [List.length_map]
  have := List.length_filter_le (fun i => alive fs ((i : Nat) : Int)) (List.range k)
  simpa using this
theorem idsN_lt (fs : List Tw) {k : Nat} (hk : k < 16) (ha : alive fs (k : Int) = true) : (idsN fs k).length < (idsF fs).length := by
  have h1 := (idsN_pre fs (show k + 1 ≤ 16 by omega)).length_le
  rw [idsN_succ, if_pos ha] at h1
  simp at h1
  omega
theorem ForAt.kc {S : Nat → Prop} {w w' : World} {p : Nat} {fs : List Tw} (h : ForAt w p fs) (hx : Kc S w w') (hS : ¬ S p) : ForAt w' p fs := ⟨hx.cells h.blk hS, h.len⟩

theorem fall_any (p : Option Addr) (w : World) :
    Calls Tryz.prog 38 #[.pointer p] w fun e w' => e = .returned (.func (.func 74) #[] #[.pointer (some ⟨w.heap.size, 0, none⟩)]) ∧ w' = w.alloc (.cells #[.pointer p] 87) := by
  go_enter Tryz.func38, Tryz.ntmps38
  go_wp2
  go_ret
  exact ⟨rfl, rfl⟩

set_option maxHeartbeats 2000000 in
theorem fall1_in (l Bn p : Nat) (fs : List Tw) (S0 : Nat → Prop) (J Jx : List Int → World → Prop)
    (hY : ∀ pre x W, J pre W → pre.length < (idsF fs).length → YieldAt Fence.wide 8 Tryz.prog l #[.int .i64 x] W fun e W' =>
      (e = .returned (.bool true) ∧ J (pre ++ [x]) W' ∧ Kc S0 W W') ∨ (e = .returned (.bool false) ∧ Jx (pre ++ [x]) W'))
    (W : World) (hJ : AbidesFrom W.heap.size J) (hBn : W.cell? ⟨Bn, 0, none⟩ = some (.pointer (some ⟨p, 0, none⟩))) (hT : ForAt W p fs) (hSB : ¬ S0 Bn) (hSp : ¬ S0 p) (h0 : J [] W) :
    CallsIn Fence.wide 9 Tryz.prog 74 #[.func (.yield l) #[] #[], .pointer (some ⟨Bn, 0, none⟩)] W fun e W' => (∃ v, e = .returned v) ∧
      ((∃ ys, ys = idsF fs ∧ J ys W') ∨ (∃ pre, pre <+: idsF fs ∧ Jx pre W')) := by
  refine callsIn_of_wp Tryz.func74 rfl trivial ?_ rfl
  simp only [Tryz.ntmps74, List.size_toArray, List.length_cons, List.length_nil, Nat.reduceAdd, Nat.reduceSub, Array.replicate_succ, Array.replicate_zero, List.push_toArray, List.append_toArray, List.nil_append, List.cons_append]
  gi_wp2
  gi_loopw [4] (fun i wr => ∃ k : Nat, k ≤ 16 ∧ i = .int .i64 k ∧ ForAt wr p fs ∧ wr.cell? ⟨Bn, 0, none⟩ = some (.pointer (some ⟨p, 0, none⟩)) ∧ W.heap.size ≤ wr.heap.size ∧ J (idsN fs k) wr)
    (fun i _ => 16 - (intOf i).toNat)
  case atStart => exact ⟨0, by omega, rfl, hT, hBn, Nat.le_refl _, h0⟩
  case round =>
    obtain ⟨k, hk, rfl, hF, hB, hsz, hJs⟩ := hrel
    by_cases hlt : k < 16
    · have hk1 : (k : Int) < 16 := by omega
      have HF := Lib.hid hF
      have HA := Lib.hid (alive_any p fs k wr hF)
      have HSU := Lib.hid (idsN_succ fs k)
      have HLT := Lib.hid (fun h => idsN_lt fs hlt h)
      have HJ2 : Hid (∀ W2, Ex0 wr W2 → J (idsN fs k) W2) := fun W2 hx => hJ _ _ W2 none hJs (grownOfEx hx) (fun r e => by cases e)
      have HBB := Lib.hid hB
      clear hF hJs
      cases ha : alive fs (k : Int) with
      | false =>
        rw [ha] at HA
        have HSF : Hid (idsN fs (k + 1) = idsN fs k) := by show _ = _; rw [HSU.out, ha]; rfl
        clear ha HLT HSU
        gi_wp2_with fail
        refine ⟨trivial, (callsIn_wide.2 HA.out).mono ?_⟩
        rintro e w1 ⟨rfl, hx1⟩
        have HX := Lib.hid hx1
        clear hx1 hB
        gi_wp2_with fail
        refine ⟨fun f h => (by cases h), ?_⟩
        gi_wp2
        go_roundw
        case rel => exact ⟨k + 1, by omega, by go_num, HF.out.ex0 HX.out, HX.out.cellS HBB.out not_false, by have := HX.out.size; omega, by rw [HSF.out]; exact HJ2.out _ HX.out⟩
        case measure => simp [intOf]; omega
      | true =>
        rw [ha] at HA
        have HSF : Hid (idsN fs (k + 1) = idsN fs k ++ [(k : Int)]) := by show _ = _; rw [HSU.out, ha]; rfl
        have hlen := HLT.out ha
        have HPRE := Lib.hid (idsN_pre fs (show k + 1 ≤ 16 by omega))
        clear ha HLT HSU
        gi_wp2_with fail
        refine ⟨trivial, (callsIn_wide.2 HA.out).mono ?_⟩
        rintro e w1 ⟨rfl, hx1⟩
        have HX := Lib.hid hx1
        obtain ⟨fn, tmps, assign, body, hy, hR⟩ := hY (idsN fs k) k w1 (HJ2.out _ hx1) hlen
        have HR := Lib.hid hR
        clear hx1 hB hR hlen
        gi_wp2_with fail
        refine HR.out.mono ?_
        rintro e W3 (⟨rfl, hJ3, hk3⟩ | ⟨rfl, hJx3⟩)
        · have HJ3 := Lib.hid hJ3
          clear hJ3
          gi_wp2
          go_roundw
          case rel => exact ⟨k + 1, by omega, by go_num, (HF.out.ex0 HX.out).kc hk3 hSp, hk3.cellS (HX.out.cellS HBB.out not_false) hSB, by have := hk3.size; have := HX.out.size; omega, by rw [HSF.out]; exact HJ3.out⟩
          case measure => simp [intOf]; omega
        · have HJ3 := Lib.hid hJx3
          clear hJx3
          gi_wp2
          refine bodyPost_ret (results_none rfl _ _ _) rfl ?_
          exact ⟨⟨_, rfl⟩, .inr ⟨idsN fs (k + 1), HPRE.out, by rw [HSF.out]; exact HJ3.out⟩⟩
    · obtain rfl : k = 16 := by omega
      gi_wp2
      go_end0
      exact ⟨⟨_, rfl⟩, .inl ⟨_, rfl, hJs⟩⟩

theorem fall_seq (Bn p : Nat) (fs : List Tw) (S0 : Nat → Prop) (w : World) (hBn : w.cell? ⟨Bn, 0, none⟩ = some (.pointer (some ⟨p, 0, none⟩))) (hT : ForAt w p fs) (hSB : ¬ S0 Bn) (hSp : ¬ S0 p) :
    SeqStopsK Fence.wide 9 Tryz.prog 74 #[.pointer (some ⟨Bn, 0, none⟩)] (fun x : Int => #[.int .i64 x]) (Kc S0) (fun ys => ys = idsF fs) (fun pre => pre <+: idsF fs) (idsF fs).length w := fun l J Jx W hW hJ _ hY h0 =>
  fall1_in l Bn p fs S0 J Jx hY W hJ ((Ex.ofBelow hW).cellS hBn not_false) (hT.ex0 (Ex.ofBelow hW)) hSB hSp h0
end Go.Proofs.YtoglddndicmelaaGreat.Tr

namespace Go.Proofs.YtoglddndicmelaaGreat.Tr
open Go.RowKit Go.Proofs.YtoglddndicmelaaGreatB Go.Proofs.YtoglddndicmelaaGreat Go.Shelf
set_option maxRecDepth 100000
attribute [local go_sem] Oper.semAt_some

def bOf (fs : List Tw) (x : Int) : List Int := if alive fs x && !(x == 0) then [(tg fs x.toNat).ba] else []
def basesL (fs : List Tw) (pre : List Int) : List Int := pre.flatMap (bOf fs)
theorem basesL_len (fs : List Tw) (pre : List Int) : (basesL fs pre).length ≤ pre.length := by
  unfold basesL
  induction pre with
  | nil => simp
  | cons x l ih =>
    rw [List.flatMap_cons, List.length_append, List.length_cons]
    have : (bOf fs x).length ≤ 1 := by unfold bOf; split <;> simp
    omega
theorem basesL_mem {fs : List Tw} (hf : FOk fs) (x : Int) : x ∈ basesL fs (idsF fs) ↔ (brs fs).any (fun b => b.ba == x) = true := by
  unfold basesL idsF idsN
  rw [List.any_eq_true]
  simp only [List.mem_flatMap, List.mem_map, List.mem_filter, List.mem_range, beq_iff_eq]
  constructor
  · rintro ⟨_, ⟨i, ⟨hi, ha⟩, rfl⟩, hx⟩
    unfold bOf at hx
    split at hx
    · rename_i hc
      rw [Bool.and_eq_true] at hc
      have h0 : i ≠ 0 := by intro e; rw [e] at hc; simp at hc
      rw [alive_nat] at ha
      simp only [Bool.and_eq_true, decide_eq_true_eq, Bool.or_eq_true] at ha
      refine ⟨brOf fs i, brs_mem.2 ⟨i, hi, ha.2.resolve_left h0, rfl⟩, ?_⟩
      rw [List.mem_singleton.1 hx, Int.toNat_natCast]; rfl
    · cases hx
  · rintro ⟨b, hb, rfl⟩
    obtain ⟨i, hi, ha, rfl⟩ := brs_mem.1 hb
    have h0 := hf.pos ha
    have hal : alive fs (i : Int) = true := by rw [alive_nat]; simp [hi, ha]
    refine ⟨i, ⟨i, ⟨hi, hal⟩, rfl⟩, ?_⟩
    unfold bOf
    rw [if_pos (by rw [hal]; simp [h0]), Int.toNat_natCast]
    exact List.mem_singleton.2 rfl
theorem idsF_len (fs : List Tw) : (idsF fs).length ≤ 16 := idsN_len fs 16
theorem infoU64 : (Tryz.prog.info? 31).map (fun i => (i.zero, i.size, i.bytes)) = some (some (.int .u64 0), 1, 8) := by kernel_rfl

theorem basesN_len (fs : List Tw) : ∀ k, (basesL fs (idsN fs (k + 1))).length ≤ k := by
  have hone : ∀ x, (bOf fs x).length ≤ 1 := fun x => by unfold bOf; split <;> simp
  intro k
  induction k with
  | zero =>
    rw [idsN_succ]
    have e : idsN fs 0 = [] := rfl
    have h0 : alive fs ((0 : Nat) : Int) = true := alive_root fs
    rw [e, if_pos h0]
    simp [basesL, bOf]
  | succ k ih =>
    rw [idsN_succ]
    split
    · unfold basesL at ih ⊢
      rw [List.flatMap_append, List.length_append]
      have := hone ((k + 1 : Nat) : Int)
      simp only [List.flatMap_cons, List.flatMap_nil, List.append_nil]
      omega
    · omega
theorem others_exo {W W' : World} {b : Nat} {e : TypeId} {sz : Nat} {v : Value} {n : Nat} {cs : List Value} (ho : W.ownsRow b e sz v n cs) (hx : Ex (fun b => v.ownBlock = some b) W W') : KeepsOthers W W' :=
  others_own ho ⟨hx.os, hx.tape, hx.output, hx.size, fun k hk hr => hx.block k hk (fun h => hr h.symm)⟩
/-- what holds through the walk -/
structure BasI (w : World) (p : Nat) (fs : List Tw) (pre : List Int) (W : World) : Prop where
  b1 : Boxed W w.heap.size 87 (.pointer (some ⟨p, 0, none⟩))
  bl : ∃ v, Boxed W (w.heap.size + 1) 33 v ∧ W.ownsRow (w.heap.size + 3) 31 1 v (basesL fs pre).length ((basesL fs pre).map (Value.int .u64))
  fo : ForAt W p fs
  bel : Below w.heap.size w W
theorem BasI.kc {w : World} {p : Nat} {fs : List Tw} {pre : List Int} {W W' : World} (h : BasI w p fs pre W) (hx : Kc0 W W') (hb : Below w.heap.size w W') : BasI w p fs pre W' := by
  obtain ⟨v, h1, h2⟩ := h.bl
  exact ⟨boxed_kc h.b1 hx id, ⟨v, boxed_kc h1 hx id, own_kc h2 hx (fun _ _ => id)⟩, h.fo.kc hx id, hb⟩

set_option maxHeartbeats 4000000 in
theorem bases_any (p : Nat) (fs : List Tw) (w : World) (h : ForAt w p fs) (hf : FOk fs) :
    Calls Tryz.prog 98 #[.pointer (some ⟨p, 0, none⟩)] w fun e w' => ∃ (v : Value) (n : Nat) (bs : List Int), e = .returned v ∧ w'.ownsRow w.heap.size 31 1 v n (bs.map (Value.int .u64)) ∧ (∀ x, x ∈ bs ↔ (brs fs).any (fun b => b.ba == x) = true) ∧ Ex0 w w' := by
  have hlp := h.lt
  have HF := Lib.hid hf
  have HW := Lib.hid h
  obtain ⟨i0, hi0, hz0, hz1, hz2⟩ := info_parts infoU64
  clear hf
  refine (callsIn_wide (n := 10)).1 (callsIn_of_wp_marks Tryz.func98 rfl trivial ?_ rfl)
  simp only [Tryz.ntmps98, List.size_toArray, List.length_cons, List.length_nil, Nat.reduceAdd, Nat.reduceSub, Array.replicate_succ, Array.replicate_zero, List.push_toArray, List.append_toArray, List.nil_append, List.cons_append]
  refine wpIn_wide.2 ?_
  go_wp2_with fail
  refine (fall_any _ _).mono ?_
  rintro e w' ⟨rfl, rfl⟩
  go_wp2_with fail
  refine (wpIn_wide (n := 10)).1 ?_
  refine wpIn_named fun a0 ha => ?_
  obtain ⟨w1, hw1⟩ : ∃ w1, w1 = w.alloc (.cells #[.pointer (some ⟨p, 0, none⟩)] 87) := ⟨_, rfl⟩
  obtain ⟨w2, hw2⟩ : ∃ w2, w2 = w1.alloc (.cells #[.slice none 0 0] 33) := ⟨_, rfl⟩
  obtain ⟨w3, hw3⟩ : ∃ w3, w3 = w2.alloc (.cells #[.pointer (some ⟨p, 0, none⟩)] 87) := ⟨_, rfl⟩
  rw [← hw1, ← hw2, ← hw3]
  have hs1 : w1.heap.size = w.heap.size + 1 := by rw [hw1]; simp
  have hs2 : w2.heap.size = w.heap.size + 2 := by rw [hw2, World.size_alloc, hs1]
  have hs3 : w3.heap.size = w.heap.size + 3 := by rw [hw3, World.size_alloc, hs2]
  have b1 : Boxed w3 w.heap.size 87 (.pointer (some ⟨p, 0, none⟩)) := by rw [hw3, hw2, hw1]; exact ((Boxed.new w _ _).alloc _).alloc _
  have bl : Boxed w3 (w.heap.size + 1) 33 (.slice none 0 0) := by rw [hw3, hw2, ← hs1]; exact (Boxed.new w1 _ _).alloc _
  have ba : Boxed w3 (w.heap.size + 2) 87 (.pointer (some ⟨p, 0, none⟩)) := by rw [hw3, ← hs2]; exact Boxed.new w2 _ _
  have hx3 : Ex0 w w3 := by rw [hw3, hw2, hw1]; exact ((Ex.alloc _ _).alloc' _).alloc' _
  have hI0 : BasI w p fs [] w3 := ⟨b1, ⟨_, bl, World.ownsRow_nil _ _ _ _⟩, h.ex0 hx3, hx3.below (Nat.le_refl _) (fun _ h => h.elim)⟩
  clear hw1 hw2 hw3 hs1 hs2
  clear w1 w2
  refine wpIn_rangeFunc_ownH rfl (by omega) (gf := 74) (lb := #[.pointer (some ⟨w.heap.size + 2, 0, none⟩)]) (by rw [ha]; rfl) trivial (enters_of Tryz.func74 (by kernel_rfl) rfl)
    (fall_seq (w.heap.size + 2) p fs (fun b => b = w.heap.size + 1 ∨ w.heap.size + 3 ≤ b) _ ba.cell (h.ex0 hx3) (by omega) (by omega)) kc_t kc_b (Below.refl _ _) (fun _ => rfl)
    (BasI w p fs) (fun _ _ _ => False)
    (ownFrom_kc (w0 := w) (Nat.le_refl _) hx3.size (fun _ _ _ h hx hb => h.kc hx hb) (fun _ _ h => h.bel)) (fun _ _ _ _ _ hs _ _ => hs)
    hI0
    (fun x a' W => a' = { tmps := (a0.tmps.setIfInBounds 10 (.int .i64 x)).setIfInBounds 4 (.int .i64 x), defers := [] })
    (fun x a' s X Y row h hg hrow => h) ?assign ?body ?done ?stop
  case assign =>
    intro l' pre x W K hI hK
    rw [ha] at hK ⊢
    simp only [List.setIfInBounds_toArray, List.set_cons_zero, List.set_cons_succ] at hK
    gi_wp2
    exact hK _ _ (KeepsFrom.refl _ _) (Kc.refl _ _) hI rfl
  case body =>
    rintro l' pre x a' W hl' hr hI hA hlt
    rw [ha] at hA
    simp only [List.setIfInBounds_toArray, List.set_cons_zero, List.set_cons_succ] at hA
    subst hA
    have c1 := hI.b1.cell
    have HII := Lib.hid hI
    obtain ⟨v, hbl, hown⟩ := hI.bl
    have HBL := Lib.hid hbl
    have HO := Lib.hid hown
    have hlen : (basesL fs pre).length ≤ 16 := by have := basesL_len fs pre; have := idsF_len fs; omega
    have HPA := Lib.hid (parent_any p fs x W hI.fo)
    have HAP : Hid (basesL fs (pre ++ [x]) = basesL fs pre ++ bOf fs x) := by show _ = _; unfold basesL; rw [List.flatMap_append]; simp
    have hI3 : Hid (w3.heap.size ≤ W.heap.size) := by obtain ⟨r, hr'⟩ := hr; have := (Array.getElem?_eq_some_iff.1 hr').1; show _ ≤ _; omega
    clear hI hbl hown hr hlt ha
    cases hc : (alive fs x && !(x == 0)) with
    | false =>
      have HB0 : Hid (bOf fs x = []) := by show _ = _; unfold bOf; rw [hc]; rfl
      rw [hc] at HPA
      clear hc
      gi_wp2_with fail
      refine ⟨trivial, (CallsIn.inRound l' (callsIn_wide.2 HPA.out)).mono ?_⟩
      rintro e W2 ⟨rfl, hx2⟩
      have HX2 := Lib.hid hx2
      clear hx2 c1
      gi_wp2
      refine ⟨(others_ex0 HX2.out).from _, (Kc.ofEx HX2.out).to (fun _ h => h.elim), ⟨boxed_kc HII.out.b1 (Kc.ofEx HX2.out) id, ⟨v, boxed_kc HBL.out (Kc.ofEx HX2.out) id, ?_⟩, HII.out.fo.ex0 HX2.out, HII.out.bel.trans (HX2.out.below HII.out.bel.size (fun _ h => h.elim))⟩⟩
      rw [HAP.out, HB0.out, List.append_nil]
      exact own_ex HO.out HX2.out (fun _ _ => id)
    | true =>
      have HB0 : Hid (bOf fs x = [(tg fs x.toNat).ba]) := by show _ = _; unfold bOf; rw [hc]; rfl
      rw [hc] at HPA
      clear hc
      generalize (tg fs x.toNat).ba = ba at HB0 HPA
      generalize (tg fs x.toNat).pa = pa at HPA
      gi_wp2_with fail
      refine ⟨trivial, (CallsIn.inRound l' (callsIn_wide.2 HPA.out)).mono ?_⟩
      rintro e W2 ⟨rfl, hx2⟩
      have HX2 := Lib.hid hx2
      have hbl2 := boxed_kc HBL.out (Kc.ofEx hx2) id
      have HBL2 := Lib.hid hbl2
      have HO2 := Lib.hid (own_ex HO.out hx2 (fun _ _ => id))
      have cl := hbl2.cell
      have fl := hbl2.frozen
      have hsz := HII.out.bel.size
      have hsz2 := hx2.size
      have hWs : w.heap.size + 3 ≤ W.heap.size := by have := hI3.out; omega
      clear hx2 c1 hbl2
      gi_wp2_with (refine wpListIn_append_own_at _ rfl (.tmp 19) (.tmp 21) 33 rfl (w.heap.size + 3) 31 i0 _ 1 8 Tryz.underlying33 hi0 hz0 hz1 hz2 rfl (by decide) v _ _ rfl (HO2.out.alloc _) ⟨W2.heap.size, 0, none⟩ 1 1 [.int .u64 ba] rfl rfl (World.news_of_block (cs := #[.int .u64 ba]) (t := 31) (fr := (0, 0)) (heap_alloc_new W2 _)) (by simp [Value.oneCell']) (by unfold maxLen; omega) (by omega) (by simp; omega) ?_)
      intro v2 w4 hown4 hgrow _ _
      obtain ⟨g2, cap2, hv2⟩ := ownsRow_succ hown4
      have HO4 := Lib.hid hown4
      subst hv2
      have hlv : ∀ b, v.ownBlock = some b → w.heap.size + 3 ≤ b := fun b hb => (HO2.out.lt b hb).1
      have hx4 : Ex (fun b => v.ownBlock = some b) W w4 := (HX2.out.alloc' _).trans (Ex.ofGrown hgrow) (fun _ _ h => h.elim) (fun _ _ h => h)
      have hb4 : Boxed w4 (w.heap.size + 1) 33 v := boxed_kc (HBL.out) (Kc.ofEx hx4) (fun e => by have := hlv _ e; omega)
      have hko : KeepsOthers W w4 := ((others_ex0 HX2.out).trans (KeepsOthers.alloc _ _)).trans (others_own (HO2.out.alloc _) hgrow)
      have cl4 := hb4.cell
      have fl4 := hb4.frozen
      have HX4 := Lib.hid hx4
      have HB4 := Lib.hid hb4
      have HKO := Lib.hid hko
      have HLV := Lib.hid hlv
      clear hown4 hgrow hlv hx4 hb4 hko cl fl
      gi_wp2
      have hx5 : Ex (fun b => v.ownBlock = some b ∨ b = w.heap.size + 1) W (w4.setCell ⟨w.heap.size + 1, 0, none⟩ (.slice (some ⟨g2, 0, none⟩) ((basesL fs pre).length + 1) cap2)) := HX4.out.trans (Ex.setCell _ _ _) (fun _ _ h => .inl h) (fun _ _ h => .inr h)
      have hne2 : (Value.slice (some ⟨g2, 0, none⟩) ((basesL fs pre).length + 1) cap2).ownBlock ≠ some (w.heap.size + 1) := fun e => by have := (HO4.out.lt _ e).1; omega
      refine ⟨(HKO.out.trans (KeepsOthers.setCell _ _ _)).from _, (Kc.ofEx hx5).to (fun i h => h.elim (fun h => .inr (HLV.out i h)) .inl), ⟨boxed_kc HII.out.b1 (Kc.ofEx hx5) (fun h => h.elim (fun h => by have := HLV.out _ h; omega) (fun h => by omega)), ⟨_, HB4.out.set _, ?_⟩, HII.out.fo.ex hx5 (fun h => h.elim (fun h => by have := HLV.out _ h; omega) (fun h => by omega)), HII.out.bel.trans (hx5.below HII.out.bel.size (fun i h => h.elim (fun h => by have := HLV.out _ h; omega) (fun h => by omega)))⟩⟩
      rw [HAP.out, HB0.out, List.length_append, List.map_append]
      exact own_ex HO4.out (Ex.setCell _ _ _) (fun b hb e => hne2 (by rw [hb, e]))
  case done =>
    rintro D xs W hD rfl hI hK
    obtain ⟨v, hbl, hown⟩ := hI.bl
    have cl := hbl.cell
    have HO := Lib.hid hown
    have HII := Lib.hid hI
    have HBL := Lib.hid hbl
    have HK := Lib.hid hK
    have hlen : (basesL fs (idsF fs)).length ≤ 15 := basesN_len fs 15
    have hsz := hI.bel.size
    rw [ha]
    clear hown hI hbl hK ha
    dsimp only
    have hlv : ∀ b, v.ownBlock = some b → w.heap.size + 3 ≤ b := fun b hb => (HO.out.lt b hb).1
    have HLV := Lib.hid hlv
    clear hlv
    go_wp2_with fail
    refine (So.sort_own (w.heap.size + 3) _ v (basesL fs (idsF fs)) W HO.out hlen).mono ?_
    rintro e W2 ⟨rfl, ⟨zs, hp, ho2⟩, hx2⟩
    have hb2 := boxed_kc HBL.out (Kc.ofEx hx2) (fun e => by have := HLV.out _ e; omega)
    have cl2 := hb2.cell
    have HO2 := Lib.hid ho2
    have HX2 := Lib.hid hx2
    have HP := Lib.hid hp
    have HK2 := Lib.hid ((others_exo HO.out hx2).same D _ HK.out rfl)
    clear hb2 cl ho2 hx2 hp
    go_wp2_with fail
    refine (So.compact_own (w.heap.size + 3) _ v zs W2 HO2.out (by omega)).mono ?_
    rintro e W3 ⟨v', k, us, rfl, ho3, hmem, hx3'⟩
    have HO3 := Lib.hid ho3
    have HX3 : Hid (Ex (fun b => v.ownBlock = some b) W W3) := HX2.out.trans hx3' (fun _ _ h => h) (fun _ _ h => h)
    have hK3 := (others_exo HO2.out hx3').same D _ HK2.out rfl
    have HMEM := Lib.hid hmem
    clear ho3 hx3' hmem cl2
    go_wp2
    refine ⟨by simp, .inl ⟨_, _, rfl, run_takeDeferred hK3, ?_⟩⟩
    have hbl3 : Below w.heap.size w W3 := HII.out.bel.trans (HX3.out.below hsz (fun i e => by have := HLV.out _ e; omega))
    have hmem : ∀ x, x ∈ us ↔ (brs fs).any (fun b => b.ba == x) = true := fun x => by rw [HMEM.out x, HP.out.mem_iff]; exact basesL_mem HF.out x
    have ho3 := own_base (c := w.heap.size) HO3.out (fun q hq => by have := (HO3.out.lt q hq).1; omega)
    exact ⟨_, results_tmp rfl _ _ _, v', k, us, rfl, ownsRow_putObj ho3 _ hK3 rfl, hmem, Ex.ofBelow (hbl3.trans (belowK_b (w := w) (Nat.le_refl _) W3 D _ _ (by have := hx3.size; omega) hK3 rfl rfl))⟩
  case stop =>
    rintro D c pre W _ _ h _
    exact h.elim
end Go.Proofs.YtoglddndicmelaaGreat.Tr
