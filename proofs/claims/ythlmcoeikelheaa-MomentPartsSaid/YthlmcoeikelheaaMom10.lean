/- Contracts of layer 28: the document's Drop. -/
import Derived.Test.YthlmcoeikelheaaMom9
import Derived.Test.YthlmcoeikelheaaB2
namespace Go.Proofs.Ythlmcoeikelheaa
open Go.RowKit Go.Proofs.YthlmcoeikelheaaB Go.Shelf

def C3 (p : Nat) (v0 v1 v2 : Value) (w : World) : Prop := w.cell? ⟨p, 0, none⟩ = some v0 ∧ w.cell? ⟨p, 1, none⟩ = some v1 ∧ w.cell? ⟨p, 2, none⟩ = some v2
theorem C3.ex0 {p : Nat} {v0 v1 v2 : Value} {w W : World} (h : C3 p v0 v1 v2 w) (hx : Ex0 w W) : C3 p v0 v1 v2 W := ⟨hx.cellS h.1 not_false, hx.cellS h.2.1 not_false, hx.cellS h.2.2 not_false⟩

theorem sl_take {w : World} {g off n : Nat} {xs : List Value} (h : Sl w 1 (some ⟨g, off, none⟩) n xs) (i : Nat) (hi : i ≤ n) : Sl w 1 (some ⟨g, off, none⟩) i (xs.take i) := by
  refine ⟨by rw [List.length_take, h.len]; omega, by have := h.small; omega, fun hp => ?_⟩
  obtain ⟨g', off', he, hr⟩ := h.at_ (by omega)
  cases he
  refine ⟨g, off, rfl, fun j u hj => hr j u ?_⟩
  rw [List.getElem?_take] at hj
  split at hj
  · exact hj
  · cases hj
theorem sl_drop {w : World} {g off n cap : Nat} {xs : List Value} (h : Sl w 1 (some ⟨g, off, none⟩) n xs) (i : Nat) (hi : i ≤ n) (hc : n ≤ cap) : Sl w 1 (if cap = i then some ⟨g, off, none⟩ else some ⟨g, off + i, none⟩) (n - i) (xs.drop i) := by
  refine ⟨by rw [List.length_drop, h.len]; omega, by have := h.small; omega, fun hp => ?_⟩
  obtain ⟨g', off', he, hr⟩ := h.at_ (by omega)
  cases he
  rw [if_neg (by omega)]
  refine ⟨g, off + i, rfl, fun j u hj => ?_⟩
  rw [List.getElem?_drop] at hj
  have := hr (i + j) u hj
  rw [Addr.add_lit] at this ⊢
  rwa [Nat.add_assoc]

set_option maxRecDepth 100000 in
set_option maxHeartbeats 8000000 in
theorem rdrop_any (p : Nat) (d : DocV) (l : List It) (num : Int) (w : World) (hD : DocAt w p d l) (hk : TabOk l) :
    Calls Try.prog 38 #[.pointer (some ⟨p, 0, none⟩), .int .u64 num] w (DocPost p d (dropL num l) (dropE num l) w) := by
  obtain ⟨iu, hiu, hzu0, hzu1, hzu2⟩ := info_parts infoU
  obtain ⟨ii, hii, hzi0, hzi1, hzi2⟩ := info_parts infoI
  obtain ⟨ib, hib, hzb0, hzb1, hzb2⟩ := info_parts infoB
  have hn := hk.len
  go_enter Try.func38, Try.ntmps38
  go_wp2_with fail
  refine (rfind_any p d l num _ hD hk).mono ?_
  rintro e w1 ⟨rfl, hx⟩
  have hD1 := Lib.hid (hD.ex0 hx)
  have HX := Lib.hid hx
  have HD := Lib.hid hD
  clear hD hx
  rcases idxI_cases num l with ⟨hh, hi⟩ | ⟨hh, hi⟩
  · have HH := Lib.hid hh
    rw [hi]
    clear hh hi
    go_wp2
    go_ret
    have e0 : dropE num l = 4 := by unfold dropE; rw [HH.out]; rfl
    rw [show dropL num l = l by unfold dropL; rw [e0]; rfl, e0]
    exact docPost_same HD.out HX.out
  · rw [hi]
    obtain ⟨hlo, _⟩ := has_get hk.srt hh
    obtain ⟨n0, n1, n2⟩ := hD1.out.cells
    have hpl := hD1.out.lt
    obtain ⟨g, off, hA, hg, hc⟩ := hD1.out.sO.one hlo
    obtain ⟨gN, oN, hN, hgN, _⟩ := hD1.out.sN.one hlo
    obtain ⟨gM, oM, hM, hgM, _⟩ := hD1.out.sM.one hlo
    rw [hA] at n2
    rw [← gt_get hlo] at hc
    have hrl : dropE num l = if (gt l (lo num l)).out then 0 else 7 := by unfold dropE; rw [hh]; rfl
    have hll : dropL num l = if dropE num l = 0 then l.eraseIdx (lo num l) else l := rfl
    have HRL := Lib.hid hrl
    have HLL := Lib.hid hll
    have hi0 : (0 : Int) ≤ (lo num l : Int) := Int.natCast_nonneg _
    have hi1 : (lo num l : Int) < (l.length : Int) := by omega
    have hi2 : ¬ ((lo num l : Int) < 0) := by omega
    clear hrl hll hh hi
    generalize gt l (lo num l) = x at *
    generalize lo num l = i at *
    obtain ⟨x1, x2, x3⟩ := x
    dsimp only at hc
    cases x3 with
    | false =>
      go_wp2
      go_ret
      have e0 : dropE num l = 7 := by rw [HRL.out]; rfl
      rw [show dropL num l = l by rw [HLL.out, e0]; rfl, e0]
      exact docPost_same HD.out HX.out
    | true =>
      have D0 := Lib.hid (Doc3.of hD1.out)
      obtain ⟨dN, dM, dO, cN, cM, cO⟩ := d
      dsimp only at hA hN hM
      subst hA; subst hN; subst hM
      dsimp only at n0 n1 n2 D0
      have k0 := D0.out.k0
      have k1 := D0.out.k1
      have k2 := D0.out.k2
      have q0 : i ≤ cN := by omega
      have q1 : i ≤ cM := by omega
      have q2 : i ≤ cO := by omega
      have q3 : (0 : Int) ≤ (i : Int) + 1 := by omega
      have q4 : (i : Int) + 1 ≤ (l.length : Int) := by omega
      have q5 : ((i : Int) + 1).toNat = i + 1 := by omega
      have q6 : IntKind.i64.wrap ((i : Int) + 1) = (i : Int) + 1 := by rw [IntKind.wrap_i64]; omega
      have X0 := Lib.hid (Ex.refl (fun b => b = p) w1)
      have HC0 := Lib.hid hc
      go_wp2_with fail
      -- region 6
      have hS : w1.drew.cell? ⟨p, 0, none⟩ = some (.slice (some ⟨gN, oN, none⟩) l.length cN) ∧ w1.drew.cell? ⟨p, 1, none⟩ = some (.slice (some ⟨gM, oM, none⟩) l.length cM) ∧ w1.drew.cell? ⟨p, 2, none⟩ = some (.slice (some ⟨g, off, none⟩) l.length cO) := ⟨n0, n1, n2⟩
      refine wp_region_head (fun w' => w'.cell? ⟨p, 0, none⟩ = some (.slice (some ⟨gN, oN, none⟩) l.length cN) ∧ w'.cell? ⟨p, 1, none⟩ = some (.slice (some ⟨gM, oM, none⟩) l.length cM) ∧ w'.cell? ⟨p, 2, none⟩ = some (.slice (some ⟨g, off, none⟩) l.length cO)) 17 (by kernel_rfl) (by decide) ?_
      simp only [List.length_cons, List.length_nil, List.drop_succ_cons, List.drop_zero]
      refine' wpHead_do 0 rfl (by kernel_rfl) (fun _ _ _ _ h => h) (by rfl) (by assumption) ⟨_, fun w' hS => ?_, ?_⟩
      rotate_left
      · ((try dsimp only at hS); go_split_ands; go_simp; try (with_reducible rfl))
      simp only [Act.put, List.setIfInBounds_toArray, List.set_cons_zero, List.set_cons_succ]
      refine' wpHead_do 2 rfl (by kernel_rfl) (fun _ _ _ _ h => h) (by rfl) (by assumption) ⟨_, fun w' hS => ?_, ?_⟩
      rotate_left
      · ((try dsimp only at hS); go_split_ands; go_simp; try (with_reducible rfl))
      simp only [Act.put, List.setIfInBounds_toArray, List.set_cons_zero, List.set_cons_succ]
      refine' wpHead_do 3 rfl (by kernel_rfl) (fun _ _ _ _ h => h) (by rfl) (by assumption) ⟨_, fun w' hS => ?_, ?_⟩
      rotate_left
      · ((try dsimp only at hS); go_split_ands; go_simp; try (with_reducible rfl))
      simp only [Act.put, List.setIfInBounds_toArray, List.set_cons_zero, List.set_cons_succ]
      refine' wpHead_do 4 rfl (by kernel_rfl) (fun _ _ _ _ h => h) (by rfl) (by assumption) ⟨_, fun w' hS => ?_, ?_⟩
      rotate_left
      · ((try dsimp only at hS); go_split_ands; go_simp; try (with_reducible rfl))
      simp only [Act.put, List.setIfInBounds_toArray, List.set_cons_zero, List.set_cons_succ]
      refine' wpHead_do 5 rfl (by kernel_rfl) (fun _ _ _ _ h => h) (by rfl) (by assumption) ⟨_, fun w' hS => ?_, ?_⟩
      rotate_left
      · ((try dsimp only at hS); go_split_ands; go_simp; try (with_reducible rfl))
      simp only [Act.put, List.setIfInBounds_toArray, List.set_cons_zero, List.set_cons_succ]
      refine' wpHead_do 6 rfl (by kernel_rfl) (fun _ _ _ _ h => h) (by rfl) (by assumption) ⟨_, fun w' hS => ?_, ?_⟩
      rotate_left
      · ((try dsimp only at hS); go_split_ands; go_simp; try (with_reducible rfl))
      simp only [Act.put, List.setIfInBounds_toArray, List.set_cons_zero, List.set_cons_succ]
      refine' wpHead_do 7 rfl (by kernel_rfl) (fun _ _ _ _ h => h) (by rfl) (by assumption) ⟨_, fun w' hS => ?_, ?_⟩
      rotate_left
      · ((try dsimp only at hS); go_split_ands; go_simp; try (with_reducible rfl))
      simp only [Act.put, List.setIfInBounds_toArray, List.set_cons_zero, List.set_cons_succ]
      refine' wpHead_do 9 rfl (by kernel_rfl) (fun _ _ _ _ h => h) (by rfl) (by assumption) ⟨_, fun w' hS => ?_, ?_⟩
      rotate_left
      · ((try dsimp only at hS); go_split_ands; go_simp; try (with_reducible rfl))
      simp only [Act.put, List.setIfInBounds_toArray, List.set_cons_zero, List.set_cons_succ]
      refine' wpHead_do 10 rfl (by kernel_rfl) (fun _ _ _ _ h => h) (by rfl) (by assumption) ⟨_, fun w' hS => ?_, ?_⟩
      rotate_left
      · ((try dsimp only at hS); go_split_ands; go_simp; try (with_reducible rfl))
      simp only [Act.put, List.setIfInBounds_toArray, List.set_cons_zero, List.set_cons_succ]
      refine' wpHead_do 11 rfl (by kernel_rfl) (fun _ _ _ _ h => h) (by rfl) (by assumption) ⟨_, fun w' hS => ?_, ?_⟩
      rotate_left
      · ((try dsimp only at hS); go_split_ands; go_simp; try (with_reducible rfl))
      simp only [Act.put, List.setIfInBounds_toArray, List.set_cons_zero, List.set_cons_succ]
      refine' wpHead_do 12 rfl (by kernel_rfl) (fun _ _ _ _ h => h) (by rfl) (by assumption) ⟨_, fun w' hS => ?_, ?_⟩
      rotate_left
      · ((try dsimp only at hS); go_split_ands; go_simp; try (with_reducible rfl))
      simp only [Act.put, List.setIfInBounds_toArray, List.set_cons_zero, List.set_cons_succ]
      refine' wpHead_do 13 rfl (by kernel_rfl) (fun _ _ _ _ h => h) (by rfl) (by assumption) ⟨_, fun w' hS => ?_, ?_⟩
      rotate_left
      · ((try dsimp only at hS); go_split_ands; go_simp; try (with_reducible rfl))
      simp only [Act.put, List.setIfInBounds_toArray, List.set_cons_zero, List.set_cons_succ]
      refine' wpHead_do 14 rfl (by kernel_rfl) (fun _ _ _ _ h => h) (by rfl) (by assumption) ⟨_, fun w' hS => ?_, ?_⟩
      rotate_left
      · ((try dsimp only at hS); go_split_ands; go_simp; try (with_reducible rfl))
      simp only [Act.put, List.setIfInBounds_toArray, List.set_cons_zero, List.set_cons_succ]
      refine' wpHead_do 15 rfl (by kernel_rfl) (fun _ _ _ _ h => h) (by rfl) (by assumption) ⟨_, fun w' hS => ?_, ?_⟩
      rotate_left
      · ((try dsimp only at hS); go_split_ands; go_simp; try (with_reducible rfl))
      simp only [Act.put, List.setIfInBounds_toArray, List.set_cons_zero, List.set_cons_succ]
      refine wpHead_eff 1 rfl (by kernel_rfl) (by rfl) (fun K hK => ?_)
      go_simp
      have hxa : Ex0 w1 (w1.alloc (.cells #[] 23)).drew := (Ex.alloc _ _).drew'
      have hSW : C3 p (.slice (some ⟨gN, oN, none⟩) l.length cN) (.slice (some ⟨gM, oM, none⟩) l.length cM) (.slice (some ⟨g, off, none⟩) l.length cO) w1 := hS
      refine hK _ _ (hSW.ex0 hxa) ?_
      clear hK K
      refine wpHead_eff 8 rfl (by kernel_rfl) (by rfl) (fun K hK => ?_)
      refine wp_append_sl (.tmp 20) (.tmp 26) 28 rfl w1.heap.size 23 iu _ 1 8 Try.underlying28 hiu hzu0 hzu1 hzu2 rfl (by decide) (.slice (some ⟨w1.heap.size, 0, none⟩) 0 0) 0 [] rfl (own_empty (heap_alloc_new _ _) _ (by first | exact Nat.le_refl _ | (simp; done))) (some ⟨gN, oN, none⟩) i cN ((l.map (fun x : It => Value.int .u64 x.num)).take i) rfl (sl_take (D0.out.s0.ex0 hxa) i (by omega)) (fun h => by cases h) (fun u hu => one_map _ l (fun _ => rfl) u (List.mem_of_mem_take hu)) (by unfold maxLen; omega) (by omega) (by simp) ?_
      intro v01 w01 ho hg1 hat
      have hx01 : Ex0 w1 w01 := ex_of_new hxa hg1 (by intro b hb; simp [Value.ownBlock] at hb; first | omega | (rw [size_set]; omega))
      refine hK _ _ (hSW.ex0 hx01) ?_
      clear hK K
      have HO01 := Lib.hid ho
      have HX01 := Lib.hid hx01
      clear ho hg1 hat
      refine wpHead_eff 16 rfl (by kernel_rfl) (by rfl) (fun K hK => ?_)
      refine wp_append_sl (.tmp 27) (.tmp 34) 28 rfl w1.heap.size 23 iu _ 1 8 Try.underlying28 hiu hzu0 hzu1 hzu2 rfl (by decide) _ _ _ rfl HO01.out (if cN = i + 1 then some ⟨gN, oN, none⟩ else some ⟨gN, oN + (i + 1), none⟩) (l.length - (i + 1)) (cN - (i + 1)) ((l.map (fun x : It => Value.int .u64 x.num)).drop (i + 1)) rfl (sl_drop (D0.out.s0.ex0 HX01.out) (i + 1) (by omega) k0) (fun h => by split at h <;> cases h) (fun u hu => one_map _ l (fun _ => rfl) u (List.mem_of_mem_drop hu)) (by unfold maxLen; omega) (by omega) (by have h9 := HX01.out.size; first | exact h9 | (rw [size_set] at h9; exact h9)) ?_
      intro v02 w02 ho hg2 hat
      have hx02 : Ex0 w1 w02 := ex_of_new HX01.out hg2 (by intro b hb; have h9 := (HO01.out.lt b hb).1; first | exact h9 | (rw [size_set]; exact h9))
      refine hK _ _ (hSW.ex0 hx02) ?_
      clear hK K
      have HX02 := Lib.hid hx02
      rw [show 0 + i + (l.length - (i + 1)) = (l.eraseIdx i).length by rw [List.length_eraseIdx, if_pos hlo]; omega, show ([] ++ (l.map (fun x : It => Value.int .u64 x.num)).take i ++ (l.map (fun x : It => Value.int .u64 x.num)).drop (i + 1)) = (l.eraseIdx i).map (fun x : It => Value.int .u64 x.num) by rw [List.nil_append, ← List.map_take, ← List.map_drop, ← List.map_append, List.eraseIdx_eq_take_drop_succ]] at ho
      obtain ⟨A02, cap02, rfl, hsl, hbl, hcp⟩ := own_sl' ho
      have D1 := Lib.hid (D0.out.set0 hx02 hsl (fun b hb => by have h9 := ho.lt b (by rw [hbl]; exact hb); first | exact h9 | (rw [size_set]; exact h9)) hcp (own_cap ho))
      have X1 := Lib.hid ((X0.out.trans hx02 (T := fun _ => False) (U := fun b => b = p) (fun _ _ h => h) (fun _ _ h => h.elim)).trans (Ex.setCell w02 ⟨p, 0, none⟩ (.slice A02 (l.eraseIdx i).length cap02)) (U := fun b => b = p) (fun _ _ h => h) (fun _ _ h => h))
      have L1 := Lib.hid (show ∀ b, Bl A02 b → w1.heap.size ≤ b from fun b hb => by have h8 := X0.out.size; have h9 := (ho.lt b (by rw [hbl]; exact hb)).1; first | omega | (rw [size_set] at h8; omega))
      clear ho hg2 hat hx02 hsl hbl hcp hS hSW n0 n1 n2 hxa
      obtain ⟨m0, m1, m2, f0, f1, f2⟩ := (D0.out.ex0 HX02.out).cells
      have hpl2 := (D0.out.ex0 HX02.out).lt
      generalize (if cN = i + 1 then (some ⟨gN, oN, none⟩ : Option Addr) else some ⟨gN, oN + (i + 1), none⟩) = sA0
      refine wpHead_tail (by kernel_rfl) ?_
      go_wp2_with fail
      clear m0 m1 m2 f0 f1 f2 hpl2
      obtain ⟨n0, n1, n2, f0, f1, f2⟩ := D1.out.cells
      clear f0 f1 f2
      -- region 7
      have hS : (w02.setCell ⟨p, 0, none⟩ (.slice A02 (l.eraseIdx i).length cap02)).drew.cell? ⟨p, 0, none⟩ = some (.slice A02 (l.eraseIdx i).length cap02) ∧ (w02.setCell ⟨p, 0, none⟩ (.slice A02 (l.eraseIdx i).length cap02)).drew.cell? ⟨p, 1, none⟩ = some (.slice (some ⟨gM, oM, none⟩) l.length cM) ∧ (w02.setCell ⟨p, 0, none⟩ (.slice A02 (l.eraseIdx i).length cap02)).drew.cell? ⟨p, 2, none⟩ = some (.slice (some ⟨g, off, none⟩) l.length cO) := ⟨n0, n1, n2⟩
      refine wp_region_head (fun w' => w'.cell? ⟨p, 0, none⟩ = some (.slice A02 (l.eraseIdx i).length cap02) ∧ w'.cell? ⟨p, 1, none⟩ = some (.slice (some ⟨gM, oM, none⟩) l.length cM) ∧ w'.cell? ⟨p, 2, none⟩ = some (.slice (some ⟨g, off, none⟩) l.length cO)) 17 (by kernel_rfl) (by decide) ?_
      simp only [List.length_cons, List.length_nil, List.drop_succ_cons, List.drop_zero]
      refine' wpHead_do 0 rfl (by kernel_rfl) (fun _ _ _ _ h => h) (by rfl) (by assumption) ⟨_, fun w' hS => ?_, ?_⟩
      rotate_left
      · ((try dsimp only at hS); go_split_ands; go_simp; try (with_reducible rfl))
      simp only [Act.put, List.setIfInBounds_toArray, List.set_cons_zero, List.set_cons_succ]
      refine' wpHead_do 2 rfl (by kernel_rfl) (fun _ _ _ _ h => h) (by rfl) (by assumption) ⟨_, fun w' hS => ?_, ?_⟩
      rotate_left
      · ((try dsimp only at hS); go_split_ands; go_simp; try (with_reducible rfl))
      simp only [Act.put, List.setIfInBounds_toArray, List.set_cons_zero, List.set_cons_succ]
      refine' wpHead_do 3 rfl (by kernel_rfl) (fun _ _ _ _ h => h) (by rfl) (by assumption) ⟨_, fun w' hS => ?_, ?_⟩
      rotate_left
      · ((try dsimp only at hS); go_split_ands; go_simp; try (with_reducible rfl))
      simp only [Act.put, List.setIfInBounds_toArray, List.set_cons_zero, List.set_cons_succ]
      refine' wpHead_do 4 rfl (by kernel_rfl) (fun _ _ _ _ h => h) (by rfl) (by assumption) ⟨_, fun w' hS => ?_, ?_⟩
      rotate_left
      · ((try dsimp only at hS); go_split_ands; go_simp; try (with_reducible rfl))
      simp only [Act.put, List.setIfInBounds_toArray, List.set_cons_zero, List.set_cons_succ]
      refine' wpHead_do 5 rfl (by kernel_rfl) (fun _ _ _ _ h => h) (by rfl) (by assumption) ⟨_, fun w' hS => ?_, ?_⟩
      rotate_left
      · ((try dsimp only at hS); go_split_ands; go_simp; try (with_reducible rfl))
      simp only [Act.put, List.setIfInBounds_toArray, List.set_cons_zero, List.set_cons_succ]
      refine' wpHead_do 6 rfl (by kernel_rfl) (fun _ _ _ _ h => h) (by rfl) (by assumption) ⟨_, fun w' hS => ?_, ?_⟩
      rotate_left
      · ((try dsimp only at hS); go_split_ands; go_simp; try (with_reducible rfl))
      simp only [Act.put, List.setIfInBounds_toArray, List.set_cons_zero, List.set_cons_succ]
      refine' wpHead_do 7 rfl (by kernel_rfl) (fun _ _ _ _ h => h) (by rfl) (by assumption) ⟨_, fun w' hS => ?_, ?_⟩
      rotate_left
      · ((try dsimp only at hS); go_split_ands; go_simp; try (with_reducible rfl))
      simp only [Act.put, List.setIfInBounds_toArray, List.set_cons_zero, List.set_cons_succ]
      refine' wpHead_do 9 rfl (by kernel_rfl) (fun _ _ _ _ h => h) (by rfl) (by assumption) ⟨_, fun w' hS => ?_, ?_⟩
      rotate_left
      · ((try dsimp only at hS); go_split_ands; go_simp; try (with_reducible rfl))
      simp only [Act.put, List.setIfInBounds_toArray, List.set_cons_zero, List.set_cons_succ]
      refine' wpHead_do 10 rfl (by kernel_rfl) (fun _ _ _ _ h => h) (by rfl) (by assumption) ⟨_, fun w' hS => ?_, ?_⟩
      rotate_left
      · ((try dsimp only at hS); go_split_ands; go_simp; try (with_reducible rfl))
      simp only [Act.put, List.setIfInBounds_toArray, List.set_cons_zero, List.set_cons_succ]
      refine' wpHead_do 11 rfl (by kernel_rfl) (fun _ _ _ _ h => h) (by rfl) (by assumption) ⟨_, fun w' hS => ?_, ?_⟩
      rotate_left
      · ((try dsimp only at hS); go_split_ands; go_simp; try (with_reducible rfl))
      simp only [Act.put, List.setIfInBounds_toArray, List.set_cons_zero, List.set_cons_succ]
      refine' wpHead_do 12 rfl (by kernel_rfl) (fun _ _ _ _ h => h) (by rfl) (by assumption) ⟨_, fun w' hS => ?_, ?_⟩
      rotate_left
      · ((try dsimp only at hS); go_split_ands; go_simp; try (with_reducible rfl))
      simp only [Act.put, List.setIfInBounds_toArray, List.set_cons_zero, List.set_cons_succ]
      refine' wpHead_do 13 rfl (by kernel_rfl) (fun _ _ _ _ h => h) (by rfl) (by assumption) ⟨_, fun w' hS => ?_, ?_⟩
      rotate_left
      · ((try dsimp only at hS); go_split_ands; go_simp; try (with_reducible rfl))
      simp only [Act.put, List.setIfInBounds_toArray, List.set_cons_zero, List.set_cons_succ]
      refine' wpHead_do 14 rfl (by kernel_rfl) (fun _ _ _ _ h => h) (by rfl) (by assumption) ⟨_, fun w' hS => ?_, ?_⟩
      rotate_left
      · ((try dsimp only at hS); go_split_ands; go_simp; try (with_reducible rfl))
      simp only [Act.put, List.setIfInBounds_toArray, List.set_cons_zero, List.set_cons_succ]
      refine' wpHead_do 15 rfl (by kernel_rfl) (fun _ _ _ _ h => h) (by rfl) (by assumption) ⟨_, fun w' hS => ?_, ?_⟩
      rotate_left
      · ((try dsimp only at hS); go_split_ands; go_simp; try (with_reducible rfl))
      simp only [Act.put, List.setIfInBounds_toArray, List.set_cons_zero, List.set_cons_succ]
      refine wpHead_eff 1 rfl (by kernel_rfl) (by rfl) (fun K hK => ?_)
      go_simp
      have hxa : Ex0 (w02.setCell ⟨p, 0, none⟩ (.slice A02 (l.eraseIdx i).length cap02)) ((w02.setCell ⟨p, 0, none⟩ (.slice A02 (l.eraseIdx i).length cap02)).alloc (.cells #[] 3)).drew := (Ex.alloc _ _).drew'
      have hSW : C3 p (.slice A02 (l.eraseIdx i).length cap02) (.slice (some ⟨gM, oM, none⟩) l.length cM) (.slice (some ⟨g, off, none⟩) l.length cO) (w02.setCell ⟨p, 0, none⟩ (.slice A02 (l.eraseIdx i).length cap02)) := hS
      refine hK _ _ (hSW.ex0 hxa) ?_
      clear hK K
      refine wpHead_eff 8 rfl (by kernel_rfl) (by rfl) (fun K hK => ?_)
      refine wp_append_sl (.tmp 39) (.tmp 45) 29 rfl w02.heap.size 3 ii _ 1 8 Try.underlying29 hii hzi0 hzi1 hzi2 rfl (by decide) (.slice (some ⟨w02.heap.size, 0, none⟩) 0 0) 0 [] rfl (own_empty (heap_alloc_set _ _ _ _) _ (by first | exact Nat.le_refl _ | (simp; done))) (some ⟨gM, oM, none⟩) i cM ((l.map (fun x : It => Value.int .i64 x.min)).take i) rfl (sl_take (D1.out.s1.ex0 hxa) i (by omega)) (fun h => by cases h) (fun u hu => one_map _ l (fun _ => rfl) u (List.mem_of_mem_take hu)) (by unfold maxLen; omega) (by omega) (by simp) ?_
      intro v11 w11 ho hg1 hat
      have hx11 : Ex0 (w02.setCell ⟨p, 0, none⟩ (.slice A02 (l.eraseIdx i).length cap02)) w11 := ex_of_new hxa hg1 (by intro b hb; simp [Value.ownBlock] at hb; first | omega | (rw [size_set]; omega))
      refine hK _ _ (hSW.ex0 hx11) ?_
      clear hK K
      have HO11 := Lib.hid ho
      have HX11 := Lib.hid hx11
      clear ho hg1 hat
      refine wpHead_eff 16 rfl (by kernel_rfl) (by rfl) (fun K hK => ?_)
      refine wp_append_sl (.tmp 46) (.tmp 53) 29 rfl w02.heap.size 3 ii _ 1 8 Try.underlying29 hii hzi0 hzi1 hzi2 rfl (by decide) _ _ _ rfl HO11.out (if cM = i + 1 then some ⟨gM, oM, none⟩ else some ⟨gM, oM + (i + 1), none⟩) (l.length - (i + 1)) (cM - (i + 1)) ((l.map (fun x : It => Value.int .i64 x.min)).drop (i + 1)) rfl (sl_drop (D1.out.s1.ex0 HX11.out) (i + 1) (by omega) k1) (fun h => by split at h <;> cases h) (fun u hu => one_map _ l (fun _ => rfl) u (List.mem_of_mem_drop hu)) (by unfold maxLen; omega) (by omega) (by have h9 := HX11.out.size; first | exact h9 | (rw [size_set] at h9; exact h9)) ?_
      intro v12 w12 ho hg2 hat
      have hx12 : Ex0 (w02.setCell ⟨p, 0, none⟩ (.slice A02 (l.eraseIdx i).length cap02)) w12 := ex_of_new HX11.out hg2 (by intro b hb; have h9 := (HO11.out.lt b hb).1; first | exact h9 | (rw [size_set]; exact h9))
      refine hK _ _ (hSW.ex0 hx12) ?_
      clear hK K
      have HX12 := Lib.hid hx12
      rw [show 0 + i + (l.length - (i + 1)) = (l.eraseIdx i).length by rw [List.length_eraseIdx, if_pos hlo]; omega, show ([] ++ (l.map (fun x : It => Value.int .i64 x.min)).take i ++ (l.map (fun x : It => Value.int .i64 x.min)).drop (i + 1)) = (l.eraseIdx i).map (fun x : It => Value.int .i64 x.min) by rw [List.nil_append, ← List.map_take, ← List.map_drop, ← List.map_append, List.eraseIdx_eq_take_drop_succ]] at ho
      obtain ⟨A12, cap12, rfl, hsl, hbl, hcp⟩ := own_sl' ho
      have D2 := Lib.hid (D1.out.set1 hx12 hsl (fun b hb => by have h9 := ho.lt b (by rw [hbl]; exact hb); first | exact h9 | (rw [size_set]; exact h9)) hcp (own_cap ho))
      have X2 := Lib.hid ((X1.out.trans hx12 (T := fun _ => False) (U := fun b => b = p) (fun _ _ h => h) (fun _ _ h => h.elim)).trans (Ex.setCell w12 ⟨p, 1, none⟩ (.slice A12 (l.eraseIdx i).length cap12)) (U := fun b => b = p) (fun _ _ h => h) (fun _ _ h => h))
      have L2 := Lib.hid (show ∀ b, Bl A12 b → w1.heap.size ≤ b from fun b hb => by have h8 := X1.out.size; have h9 := (ho.lt b (by rw [hbl]; exact hb)).1; first | omega | (rw [size_set] at h8; omega))
      clear ho hg2 hat hx12 hsl hbl hcp hS hSW n0 n1 n2 hxa
      obtain ⟨m0, m1, m2, f0, f1, f2⟩ := (D1.out.ex0 HX12.out).cells
      have hpl2 := (D1.out.ex0 HX12.out).lt
      generalize (if cM = i + 1 then (some ⟨gM, oM, none⟩ : Option Addr) else some ⟨gM, oM + (i + 1), none⟩) = sA1
      refine wpHead_tail (by kernel_rfl) ?_
      go_wp2_with fail
      clear m0 m1 m2 f0 f1 f2 hpl2
      obtain ⟨n0, n1, n2, f0, f1, f2⟩ := D2.out.cells
      clear f0 f1 f2
      -- region 8
      have hS : (w12.setCell ⟨p, 1, none⟩ (.slice A12 (l.eraseIdx i).length cap12)).drew.cell? ⟨p, 0, none⟩ = some (.slice A02 (l.eraseIdx i).length cap02) ∧ (w12.setCell ⟨p, 1, none⟩ (.slice A12 (l.eraseIdx i).length cap12)).drew.cell? ⟨p, 1, none⟩ = some (.slice A12 (l.eraseIdx i).length cap12) ∧ (w12.setCell ⟨p, 1, none⟩ (.slice A12 (l.eraseIdx i).length cap12)).drew.cell? ⟨p, 2, none⟩ = some (.slice (some ⟨g, off, none⟩) l.length cO) := ⟨n0, n1, n2⟩
      refine wp_region_head (fun w' => w'.cell? ⟨p, 0, none⟩ = some (.slice A02 (l.eraseIdx i).length cap02) ∧ w'.cell? ⟨p, 1, none⟩ = some (.slice A12 (l.eraseIdx i).length cap12) ∧ w'.cell? ⟨p, 2, none⟩ = some (.slice (some ⟨g, off, none⟩) l.length cO)) 17 (by kernel_rfl) (by decide) ?_
      simp only [List.length_cons, List.length_nil, List.drop_succ_cons, List.drop_zero]
      refine' wpHead_do 0 rfl (by kernel_rfl) (fun _ _ _ _ h => h) (by rfl) (by assumption) ⟨_, fun w' hS => ?_, ?_⟩
      rotate_left
      · ((try dsimp only at hS); go_split_ands; go_simp; try (with_reducible rfl))
      simp only [Act.put, List.setIfInBounds_toArray, List.set_cons_zero, List.set_cons_succ]
      refine' wpHead_do 2 rfl (by kernel_rfl) (fun _ _ _ _ h => h) (by rfl) (by assumption) ⟨_, fun w' hS => ?_, ?_⟩
      rotate_left
      · ((try dsimp only at hS); go_split_ands; go_simp; try (with_reducible rfl))
      simp only [Act.put, List.setIfInBounds_toArray, List.set_cons_zero, List.set_cons_succ]
      refine' wpHead_do 3 rfl (by kernel_rfl) (fun _ _ _ _ h => h) (by rfl) (by assumption) ⟨_, fun w' hS => ?_, ?_⟩
      rotate_left
      · ((try dsimp only at hS); go_split_ands; go_simp; try (with_reducible rfl))
      simp only [Act.put, List.setIfInBounds_toArray, List.set_cons_zero, List.set_cons_succ]
      refine' wpHead_do 4 rfl (by kernel_rfl) (fun _ _ _ _ h => h) (by rfl) (by assumption) ⟨_, fun w' hS => ?_, ?_⟩
      rotate_left
      · ((try dsimp only at hS); go_split_ands; go_simp; try (with_reducible rfl))
      simp only [Act.put, List.setIfInBounds_toArray, List.set_cons_zero, List.set_cons_succ]
      refine' wpHead_do 5 rfl (by kernel_rfl) (fun _ _ _ _ h => h) (by rfl) (by assumption) ⟨_, fun w' hS => ?_, ?_⟩
      rotate_left
      · ((try dsimp only at hS); go_split_ands; go_simp; try (with_reducible rfl))
      simp only [Act.put, List.setIfInBounds_toArray, List.set_cons_zero, List.set_cons_succ]
      refine' wpHead_do 6 rfl (by kernel_rfl) (fun _ _ _ _ h => h) (by rfl) (by assumption) ⟨_, fun w' hS => ?_, ?_⟩
      rotate_left
      · ((try dsimp only at hS); go_split_ands; go_simp; try (with_reducible rfl))
      simp only [Act.put, List.setIfInBounds_toArray, List.set_cons_zero, List.set_cons_succ]
      refine' wpHead_do 7 rfl (by kernel_rfl) (fun _ _ _ _ h => h) (by rfl) (by assumption) ⟨_, fun w' hS => ?_, ?_⟩
      rotate_left
      · ((try dsimp only at hS); go_split_ands; go_simp; try (with_reducible rfl))
      simp only [Act.put, List.setIfInBounds_toArray, List.set_cons_zero, List.set_cons_succ]
      refine' wpHead_do 9 rfl (by kernel_rfl) (fun _ _ _ _ h => h) (by rfl) (by assumption) ⟨_, fun w' hS => ?_, ?_⟩
      rotate_left
      · ((try dsimp only at hS); go_split_ands; go_simp; try (with_reducible rfl))
      simp only [Act.put, List.setIfInBounds_toArray, List.set_cons_zero, List.set_cons_succ]
      refine' wpHead_do 10 rfl (by kernel_rfl) (fun _ _ _ _ h => h) (by rfl) (by assumption) ⟨_, fun w' hS => ?_, ?_⟩
      rotate_left
      · ((try dsimp only at hS); go_split_ands; go_simp; try (with_reducible rfl))
      simp only [Act.put, List.setIfInBounds_toArray, List.set_cons_zero, List.set_cons_succ]
      refine' wpHead_do 11 rfl (by kernel_rfl) (fun _ _ _ _ h => h) (by rfl) (by assumption) ⟨_, fun w' hS => ?_, ?_⟩
      rotate_left
      · ((try dsimp only at hS); go_split_ands; go_simp; try (with_reducible rfl))
      simp only [Act.put, List.setIfInBounds_toArray, List.set_cons_zero, List.set_cons_succ]
      refine' wpHead_do 12 rfl (by kernel_rfl) (fun _ _ _ _ h => h) (by rfl) (by assumption) ⟨_, fun w' hS => ?_, ?_⟩
      rotate_left
      · ((try dsimp only at hS); go_split_ands; go_simp; try (with_reducible rfl))
      simp only [Act.put, List.setIfInBounds_toArray, List.set_cons_zero, List.set_cons_succ]
      refine' wpHead_do 13 rfl (by kernel_rfl) (fun _ _ _ _ h => h) (by rfl) (by assumption) ⟨_, fun w' hS => ?_, ?_⟩
      rotate_left
      · ((try dsimp only at hS); go_split_ands; go_simp; try (with_reducible rfl))
      simp only [Act.put, List.setIfInBounds_toArray, List.set_cons_zero, List.set_cons_succ]
      refine' wpHead_do 14 rfl (by kernel_rfl) (fun _ _ _ _ h => h) (by rfl) (by assumption) ⟨_, fun w' hS => ?_, ?_⟩
      rotate_left
      · ((try dsimp only at hS); go_split_ands; go_simp; try (with_reducible rfl))
      simp only [Act.put, List.setIfInBounds_toArray, List.set_cons_zero, List.set_cons_succ]
      refine' wpHead_do 15 rfl (by kernel_rfl) (fun _ _ _ _ h => h) (by rfl) (by assumption) ⟨_, fun w' hS => ?_, ?_⟩
      rotate_left
      · ((try dsimp only at hS); go_split_ands; go_simp; try (with_reducible rfl))
      simp only [Act.put, List.setIfInBounds_toArray, List.set_cons_zero, List.set_cons_succ]
      refine wpHead_eff 1 rfl (by kernel_rfl) (by rfl) (fun K hK => ?_)
      go_simp
      have hxa : Ex0 (w12.setCell ⟨p, 1, none⟩ (.slice A12 (l.eraseIdx i).length cap12)) ((w12.setCell ⟨p, 1, none⟩ (.slice A12 (l.eraseIdx i).length cap12)).alloc (.cells #[] 4)).drew := (Ex.alloc _ _).drew'
      have hSW : C3 p (.slice A02 (l.eraseIdx i).length cap02) (.slice A12 (l.eraseIdx i).length cap12) (.slice (some ⟨g, off, none⟩) l.length cO) (w12.setCell ⟨p, 1, none⟩ (.slice A12 (l.eraseIdx i).length cap12)) := hS
      refine hK _ _ (hSW.ex0 hxa) ?_
      clear hK K
      refine wpHead_eff 8 rfl (by kernel_rfl) (by rfl) (fun K hK => ?_)
      refine wp_append_sl (.tmp 58) (.tmp 64) 30 rfl w12.heap.size 4 ib _ 1 1 Try.underlying30 hib hzb0 hzb1 hzb2 rfl (by decide) (.slice (some ⟨w12.heap.size, 0, none⟩) 0 0) 0 [] rfl (own_empty (heap_alloc_set _ _ _ _) _ (by first | exact Nat.le_refl _ | (simp; done))) (some ⟨g, off, none⟩) i cO ((l.map (fun x : It => Value.bool x.out)).take i) rfl (sl_take (D2.out.s2.ex0 hxa) i (by omega)) (fun h => by cases h) (fun u hu => one_map _ l (fun _ => rfl) u (List.mem_of_mem_take hu)) (by unfold maxLen; omega) (by omega) (by simp) ?_
      intro v21 w21 ho hg1 hat
      have hx21 : Ex0 (w12.setCell ⟨p, 1, none⟩ (.slice A12 (l.eraseIdx i).length cap12)) w21 := ex_of_new hxa hg1 (by intro b hb; simp [Value.ownBlock] at hb; first | omega | (rw [size_set]; omega))
      refine hK _ _ (hSW.ex0 hx21) ?_
      clear hK K
      have HO21 := Lib.hid ho
      have HX21 := Lib.hid hx21
      clear ho hg1 hat
      refine wpHead_eff 16 rfl (by kernel_rfl) (by rfl) (fun K hK => ?_)
      refine wp_append_sl (.tmp 65) (.tmp 72) 30 rfl w12.heap.size 4 ib _ 1 1 Try.underlying30 hib hzb0 hzb1 hzb2 rfl (by decide) _ _ _ rfl HO21.out (if cO = i + 1 then some ⟨g, off, none⟩ else some ⟨g, off + (i + 1), none⟩) (l.length - (i + 1)) (cO - (i + 1)) ((l.map (fun x : It => Value.bool x.out)).drop (i + 1)) rfl (sl_drop (D2.out.s2.ex0 HX21.out) (i + 1) (by omega) k2) (fun h => by split at h <;> cases h) (fun u hu => one_map _ l (fun _ => rfl) u (List.mem_of_mem_drop hu)) (by unfold maxLen; omega) (by omega) (by have h9 := HX21.out.size; first | exact h9 | (rw [size_set] at h9; exact h9)) ?_
      intro v22 w22 ho hg2 hat
      have hx22 : Ex0 (w12.setCell ⟨p, 1, none⟩ (.slice A12 (l.eraseIdx i).length cap12)) w22 := ex_of_new HX21.out hg2 (by intro b hb; have h9 := (HO21.out.lt b hb).1; first | exact h9 | (rw [size_set]; exact h9))
      refine hK _ _ (hSW.ex0 hx22) ?_
      clear hK K
      have HX22 := Lib.hid hx22
      rw [show 0 + i + (l.length - (i + 1)) = (l.eraseIdx i).length by rw [List.length_eraseIdx, if_pos hlo]; omega, show ([] ++ (l.map (fun x : It => Value.bool x.out)).take i ++ (l.map (fun x : It => Value.bool x.out)).drop (i + 1)) = (l.eraseIdx i).map (fun x : It => Value.bool x.out) by rw [List.nil_append, ← List.map_take, ← List.map_drop, ← List.map_append, List.eraseIdx_eq_take_drop_succ]] at ho
      obtain ⟨A22, cap22, rfl, hsl, hbl, hcp⟩ := own_sl' ho
      have D3 := Lib.hid (D2.out.set2 hx22 hsl (fun b hb => by have h9 := ho.lt b (by rw [hbl]; exact hb); first | exact h9 | (rw [size_set]; exact h9)) hcp (own_cap ho))
      have X3 := Lib.hid ((X2.out.trans hx22 (T := fun _ => False) (U := fun b => b = p) (fun _ _ h => h) (fun _ _ h => h.elim)).trans (Ex.setCell w22 ⟨p, 2, none⟩ (.slice A22 (l.eraseIdx i).length cap22)) (U := fun b => b = p) (fun _ _ h => h) (fun _ _ h => h))
      have L3 := Lib.hid (show ∀ b, Bl A22 b → w1.heap.size ≤ b from fun b hb => by have h8 := X2.out.size; have h9 := (ho.lt b (by rw [hbl]; exact hb)).1; first | omega | (rw [size_set] at h8; omega))
      clear ho hg2 hat hx22 hsl hbl hcp hS hSW n0 n1 n2 hxa
      obtain ⟨m0, m1, m2, f0, f1, f2⟩ := (D2.out.ex0 HX22.out).cells
      have hpl2 := (D2.out.ex0 HX22.out).lt
      generalize (if cO = i + 1 then (some ⟨g, off, none⟩ : Option Addr) else some ⟨g, off + (i + 1), none⟩) = sA2
      refine wpHead_tail (by kernel_rfl) ?_
      go_wp2
      go_ret
      clear m0 m1 m2 f0 f1 f2 hpl2
      obtain ⟨n0, n1, n2, f0, f1, f2⟩ := D3.out.cells
      clear f0 f1 f2
      have e0 : dropE num l = 0 := by rw [HRL.out]; rfl
      have eL : dropL num l = l.eraseIdx i := by rw [HLL.out, e0]; rfl
      rw [eL, e0]
      refine ⟨⟨A02, A12, A22, cap02, cap12, cap22⟩, rfl, Doc3.to D3.out, fun b hb => .inr ?_, HX.out.trans X3.out (fun _ _ h => h.elim) (fun _ _ h => h)⟩
      have h9 := HX.out.size
      rcases hb with hb | hb | hb
      · have := L1.out b hb; omega
      · have := L2.out b hb; omega
      · have := L3.out b hb; omega
end Go.Proofs.Ythlmcoeikelheaa
