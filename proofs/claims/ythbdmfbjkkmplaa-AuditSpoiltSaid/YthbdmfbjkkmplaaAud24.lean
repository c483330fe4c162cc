/- Contracts of layer 61: slices.Reverse of sums. -/
import Derived.Test.YthbdmfbjkkmplaaAud17
import Derived.Test.YthbdmfbjkkmplaaB9
namespace Go.Proofs.Ythbdmfbjkkmplaa
open Go.RowKit Go.Proofs.YthbdmfbjkkmplaaB Go.Proofs.Ythbdmfbjkkmplaa.Sha

theorem rowN_set (N : Nat) (L : List (List Nat)) (rest : List Value) (i : Nat) (x : List Nat) (hi : i < L.length) (hx : x.length = N) : lay (rowN N L ++ rest) (i * N) (u8s x) = rowN N (L.set i x) ++ rest := by
  have e : rowN N L = rowN N (L.take i) ++ (encN N L[i] ++ rowN N (L.drop (i + 1))) := by
    have h : L = L.take i ++ L[i] :: L.drop (i + 1) := by rw [← List.drop_eq_getElem_cons hi, List.take_append_drop]
    conv => lhs; rw [h]
    rw [rowN_append]; simp only [rowN, List.flatMap_cons]
  have e2 : rowN N (L.set i x) = rowN N (L.take i) ++ (u8s x ++ rowN N (L.drop (i + 1))) := by
    rw [List.set_eq_take_append_cons_drop, if_pos hi, rowN_append]
    simp [rowN, encN_eq hx]
  have hl : (rowN N (L.take i)).length = i * N := by rw [rowN_len, List.length_take, Nat.min_eq_left (by omega)]
  have hxl : (u8s x).length = N := by rw [u8s_len]; exact hx
  have hel := encN_len N L[i]
  unfold lay
  rw [e, e2]
  simp only [List.append_assoc]
  congr 1
  · rw [List.take_append_of_le_length (by omega), List.take_of_length_le (by omega)]
  · congr 1
    rw [hxl, ← hl, ← List.drop_drop, List.drop_left]
    rw [List.drop_append_of_le_length (by omega), List.drop_of_length_le (by omega), List.nil_append]

/-- the first i pairs are changed -/
def revN (l : List (List Nat)) (i : Nat) : List (List Nat) := (List.range l.length).map fun k => if k < i ∨ l.length - i ≤ k then l.getD (l.length - 1 - k) [] else l.getD k []
theorem revN_len (l : List (List Nat)) (i : Nat) : (revN l i).length = l.length := by simp [revN]
theorem revN_0 (l : List (List Nat)) : revN l 0 = l := by
  apply List.ext_getElem
  · simp [revN]
  · intro k h1 h2
    simp only [revN, List.getElem_map, List.getElem_range]
    rw [if_neg (by rw [revN_len] at h1; omega)]
    simp [List.getD_eq_getElem?_getD, List.getElem?_eq_getElem h2]
theorem revN_get (l : List (List Nat)) (i k : Nat) (hk : k < l.length) : (revN l i).getD k [] = if k < i ∨ l.length - i ≤ k then l.getD (l.length - 1 - k) [] else l.getD k [] := by
  simp [revN, List.getD_eq_getElem?_getD, hk]
theorem revN_step (l : List (List Nat)) {i : Nat} (hi : i < l.length - 1 - i) : ((revN l i).set i (l.getD (l.length - 1 - i) [])).set (l.length - 1 - i) (l.getD i []) = revN l (i + 1) := by
  apply List.ext_getElem
  · simp [revN]
  · intro k h1 h2
    have hk : k < l.length := by rw [revN_len] at h2; exact h2
    rw [List.getElem_set, List.getElem_set]
    simp only [revN, List.getElem_map, List.getElem_range]
    by_cases c1 : l.length - 1 - i = k
    · rw [if_pos c1, if_pos (by omega)]
      congr 1; omega
    · rw [if_neg c1]
      by_cases c2 : i = k
      · rw [if_pos c2, if_pos (by omega), c2]
      · rw [if_neg c2]
        by_cases c3 : k < i ∨ l.length - i ≤ k
        · rw [if_pos c3, if_pos (by omega)]
        · rw [if_neg c3, if_neg (by omega)]
theorem revN_all (l : List (List Nat)) {i : Nat} (hi : ¬ i < l.length - 1 - i) : revN l i = l.reverse := by
  apply List.ext_getElem
  · simp [revN]
  · intro k h1 h2
    have hk : k < l.length := by rw [revN_len] at h1; exact h1
    simp only [revN, List.getElem_map, List.getElem_range, List.getElem_reverse]
    split
    · simp [List.getD_eq_getElem?_getD, List.getElem?_eq_getElem (show l.length - 1 - k < l.length by omega)]
    · have : l.length - 1 - k = k := by omega
      simp [List.getD_eq_getElem?_getD, hk, this]

set_option maxRecDepth 100000 in
set_option maxHeartbeats 1000000 in
theorem reverse_any (g cap : Nat) (l : List (List Nat)) (rest : List Value) (t : TypeId) (w : World) (hg : w.heap[g]? = some (.cells (rowN 16 l ++ rest).toArray t (0, 0))) (hl : l.length ≤ 100000) (hok : AllB 16 l) :
    Calls Try.prog 44 #[.slice (some ⟨g, 0, none⟩) l.length cap] w fun e w' => e = .returned (.tuple #[]) ∧ w'.heap[g]? = some (.cells (rowN 16 l.reverse ++ rest).toArray t (0, 0)) ∧ Ex (· = g) w w' := by
  obtain ⟨n, hn⟩ : ∃ n, n = l.length := ⟨_, rfl⟩
  rw [← hn] at hl ⊢
  have HN := Lib.hid hn
  have HG := Lib.hid hg
  have HOK := Lib.hid hok
  clear hn hg hok
  go_enter Try.func44, Try.ntmps44
  go_wp2_with fail
  go_loopw [2, 3] (fun i j wr => ∃ k : Nat, 2 * k ≤ n + 1 ∧ i = .int .i64 k ∧ j = .int .i64 ((n : Int) - 1 - k) ∧ wr.heap[g]? = some (.cells (rowN 16 (revN l k) ++ rest).toArray t (0, 0)) ∧ Ex (· = g) w wr) (fun i _ _ => n + 1 - (intOf i).toNat)
  case atStart => exact ⟨0, by omega, rfl, by go_num, by rw [revN_0]; exact HG.out, Ex.refl _ _⟩
  case round =>
    obtain ⟨k, hk, rfl, rfl, hw, hx⟩ := hrel
    have HW := Lib.hid hw
    have HX := Lib.hid hx
    clear hw hx
    by_cases hlt : k < n - 1 - k
    · obtain ⟨j, hj⟩ : ∃ j, j = n - 1 - k := ⟨_, rfl⟩
      have ej : (n : Int) - 1 - (k : Int) = (j : Int) := by omega
      have ikj : (k : Int) < (j : Int) := by omega
      have hjn : j < n := by omega
      have hkn : k < n := by omega
      have HRL := Lib.hid (revN_len l k)
      have hxk := HOK.out.get (i := k) (by rw [← HN.out]; exact hkn)
      have hxj := HOK.out.get (i := j) (by rw [← HN.out]; exact hjn)
      have HKJ := Lib.hid (show (revN l k).getD k [] = l.getD k [] by rw [revN_get l k k (by rw [← HN.out]; exact hkn), if_neg (by rw [← HN.out]; omega)])
      have HJJ := Lib.hid (show (revN l k).getD j [] = l.getD j [] by rw [revN_get l k j (by rw [← HN.out]; exact hjn), if_neg (by rw [← HN.out]; omega)])
      have HST := Lib.hid (revN_step l (i := k) (by rw [← HN.out]; omega))
      rw [← HN.out, ← hj] at HST
      obtain ⟨X, hX⟩ : ∃ X, X = l.getD k [] := ⟨_, rfl⟩
      obtain ⟨Y, hY⟩ : ∃ Y, Y = l.getD j [] := ⟨_, rfl⟩
      rw [← hX] at hxk HKJ HST
      rw [← hY] at hxj HJJ HST
      have hSl : Sl wr 16 (some ⟨g, 0, none⟩) n (rowN 16 (revN l k)) := ⟨by rw [rowN_len, HRL.out, HN.out], by omega, fun _ => ⟨g, 0, rfl, fun q u hu => by
        rw [Addr.add_lit, cell_of_row _ _ _ _ _ _ HW.out]
        have hq : q < (rowN 16 (revN l k)).length := (List.getElem?_eq_some_iff.1 hu).1
        simpa [List.getElem?_append_left hq] using hu⟩⟩
      obtain ⟨g1, o1, he1, hr1⟩ := hSl.elemN (by decide) (by rw [HRL.out, HN.out]) (i := k) hkn (by rw [HKJ.out]; exact hxk.1)
      obtain ⟨g2, o2, he2, hr2⟩ := hSl.elemN (by decide) (by rw [HRL.out, HN.out]) (i := j) hjn (by rw [HJJ.out]; exact hxj.1)
      cases he1
      cases he2
      rw [HKJ.out, Nat.zero_add] at hr1
      rw [HJJ.out, Nat.zero_add] at hr2
      have hXs : (u8s X).length = 16 := by rw [u8s_len]; exact hxk.1
      have hYs : (u8s Y).length = 16 := by rw [u8s_len]; exact hxj.1
      have HR := Lib.hid (And.intro hr1 hr2)
      have HXY := Lib.hid (And.intro hxk hxj)
      have HJ := Lib.hid hj
      clear hX hY hxk hxj hSl hr1 hr2 hj
      obtain ⟨XS, hXS⟩ : ∃ V, V = u8s X := ⟨_, rfl⟩
      obtain ⟨YS, hYS⟩ : ∃ V, V = u8s Y := ⟨_, rfl⟩
      rw [← hXS] at HR hXs
      rw [← hYS] at HR hYs
      have HVV := Lib.hid (And.intro hXS hYS)
      have hld : ∀ (c : Nat) (V : List Value) (x : Operand) (o : Oper) (a : Act) (w' : World), V.length = 16 → o.op = .load 28 x → a.eval x = .pointer (some ⟨g, c, none⟩) → RowAt w' ⟨g, c, none⟩ V → (execOp a.eval o).run Try.prog w' = .ok (.value (.agg V.toArray)) w' := fun c V x o a w' hv h1 h2 h3 => exec_load_at 28 x h1 _ h2 V _ h3 Try.underlying28 rfl (by rw [hv]; kernel_rfl)
      have HLD := Lib.hid hld
      clear hXS hYS hld
      go_wp2_with fail
      have hS : RowAt wr.drew ⟨g, k * 16, none⟩ XS ∧ RowAt wr.drew ⟨g, j * 16, none⟩ YS := ⟨HR.out.1.ex (Ex.drew _) not_false, HR.out.2.ex (Ex.drew _) not_false⟩
      refine wp_region_all (by kernel_rfl) ?_
      simp only [List.length_cons, List.length_nil]
      refine' wpAny_do 2 rfl (by kernel_rfl) (by kernel_rfl) (by kernel_rfl) (fun _ _ _ _ h => h) (by rfl) ⟨_, fun w' => ?_, ?_⟩
      rotate_left
      · (go_simp; try (with_reducible rfl))
      simp only [Act.put, List.setIfInBounds_toArray, List.set_cons_zero, List.set_cons_succ]
      refine' wpAny_do 3 rfl (by kernel_rfl) (by kernel_rfl) (by kernel_rfl) (fun _ _ _ _ h => h) (by rfl) ⟨_, fun w' => ?_, ?_⟩
      rotate_left
      · (go_simp; try (with_reducible rfl))
      simp only [Act.put, List.setIfInBounds_toArray, List.set_cons_zero, List.set_cons_succ]
      refine' wpAny_do 8 rfl (by kernel_rfl) (by kernel_rfl) (by kernel_rfl) (fun _ _ _ _ h => h) (by rfl) ⟨_, fun w' => ?_, ?_⟩
      rotate_left
      · (go_simp; try (with_reducible rfl))
      simp only [Act.put, List.setIfInBounds_toArray, List.set_cons_zero, List.set_cons_succ]
      refine' wpAny_do 9 rfl (by kernel_rfl) (by kernel_rfl) (by kernel_rfl) (fun _ _ _ _ h => h) (by rfl) ⟨_, fun w' => ?_, ?_⟩
      rotate_left
      · (go_simp; try (with_reducible rfl))
      simp only [Act.put, List.setIfInBounds_toArray, List.set_cons_zero, List.set_cons_succ]
      refine' wpAny_do 10 rfl (by kernel_rfl) (by kernel_rfl) (by kernel_rfl) (fun _ _ _ _ h => h) (by rfl) ⟨_, fun w' => ?_, ?_⟩
      rotate_left
      · (go_simp; try (with_reducible rfl))
      simp only [Act.put, List.setIfInBounds_toArray, List.set_cons_zero, List.set_cons_succ]
      refine wpAny_fore (fun w' => RowAt w' ⟨g, k * 16, none⟩ XS ∧ RowAt w' ⟨g, j * 16, none⟩ YS) 13 8 3 rfl ?_
      have HSS := Lib.hid hS
      clear hS
      have hS := HSS.out
      refine' wpFore_do 0 rfl (by kernel_rfl) (fun _ _ _ _ h => h) (by rfl) (by assumption) ⟨_, fun w' hS => ?_, ?_⟩
      rotate_left
      · ((try dsimp only at hS); go_split_ands; go_simp; try (with_reducible rfl))
      simp only [Act.put, List.setIfInBounds_toArray, List.set_cons_zero, List.set_cons_succ]
      refine' wpFore_do 1 rfl (by kernel_rfl) (fun _ _ _ _ h => h) (by rfl) (by assumption) ⟨_, fun w' hS => ?_, ?_⟩
      rotate_left
      · ((try dsimp only at hS); go_split_ands; go_simp; try (with_reducible rfl))
      simp only [Act.put, List.setIfInBounds_toArray, List.set_cons_zero, List.set_cons_succ]
      refine' wpFore_do 4 rfl (by kernel_rfl) (fun _ _ _ _ h => h) (by rfl) (by assumption) ⟨_, fun w' hS => ?_, ?_⟩
      rotate_left
      · ((try dsimp only at hS); go_split_ands; go_simp; try (with_reducible rfl))
      simp only [Act.put, List.setIfInBounds_toArray, List.set_cons_zero, List.set_cons_succ]
      refine' wpFore_do 5 rfl (by kernel_rfl) (fun _ _ _ _ h => h) (by rfl) (by assumption) ⟨_, fun w' hS => ?_, ?_⟩
      rotate_left
      · ((try dsimp only at hS); go_split_ands; go_simp; try (with_reducible rfl))
      simp only [Act.put, List.setIfInBounds_toArray, List.set_cons_zero, List.set_cons_succ]
      refine' wpFore_do 6 rfl (by kernel_rfl) (fun _ _ _ _ h => h) (by rfl) (by assumption) ⟨_, fun w' hS => ?_, ?_⟩
      rotate_left
      · ((try dsimp only at hS); go_split_ands; go_simp; try (with_reducible rfl))
      simp only [Act.put, List.setIfInBounds_toArray, List.set_cons_zero, List.set_cons_succ]
      refine' wpFore_do 7 rfl (by kernel_rfl) (fun _ _ _ _ h => h) (by rfl) (by assumption) ⟨_, fun w' hS => HLD.out (j * 16) YS (.tmp 20) _ _ _ hYs rfl rfl hS.2, ?_⟩
      simp only [Act.put, List.setIfInBounds_toArray, List.set_cons_zero, List.set_cons_succ]
      refine' wpFore_do 11 rfl (by kernel_rfl) (fun _ _ _ _ h => h) (by rfl) (by assumption) ⟨_, fun w' hS => HLD.out (k * 16) XS (.tmp 24) _ _ _ hXs rfl rfl hS.1, ?_⟩
      simp only [Act.put, List.setIfInBounds_toArray, List.set_cons_zero, List.set_cons_succ]
      refine' wpFore_do 12 rfl (by kernel_rfl) (fun _ _ _ _ h => h) (by rfl) (by assumption) ⟨_, fun w' hS => ?_, ?_⟩
      rotate_left
      · ((try dsimp only at hS); go_split_ands; go_simp; try (with_reducible rfl))
      simp only [Act.put, List.setIfInBounds_toArray, List.set_cons_zero, List.set_cons_succ]
      refine wpFore_end (by kernel_rfl) ?_
      refine wpAny_eff 13 rfl (by kernel_rfl) (by rfl) (fun K hK => ?_)
      have HKK := Lib.hid hK
      clear hK
      have HC1 : Hid (wr.drew.heap[g]? = some (.cells (rowN 16 (revN l k) ++ rest).toArray t (0, 0))) := HW.out
      have hkl : k < (revN l k).length := by rw [HRL.out, ← HN.out]; exact hkn
      refine wp_store_lay 28 (.tmp 26) (.tmp 21) rfl g (k * 16) rfl YS _ rfl rfl t (rowN 16 (revN l k) ++ rest) HC1.out (by rw [hYs, List.length_append, rowN_len]; omega) (by rw [HVV.out.2]; exact u8s_one Y) (by rw [hYs]; kernel_rfl) ?_
      rw [show lay (rowN 16 (revN l k) ++ rest) (k * 16) YS = rowN 16 ((revN l k).set k Y) ++ rest by rw [HVV.out.2]; exact rowN_set 16 _ rest k Y hkl HXY.out.2.1]
      generalize hw5 : World.setRow _ _ _ = w5
      have hg5 : w5.heap[g]? = some (.cells (rowN 16 ((revN l k).set k Y) ++ rest).toArray t (0, 0)) := by rw [← hw5]; exact setRow_heap _ _ _ _ _ _ HC1.out
      have hx5 : Ex (· = g) wr w5 := by rw [← hw5]; exact (Ex.drew wr).trans (ex_setRow _ _ _) (fun _ _ h => h.elim) (fun _ _ h => h)
      have HG5 := Lib.hid hg5
      have HX5 := Lib.hid hx5
      clear hw5 hg5 hx5 hS HSS
      refine HKK.out _ _ ?_
      clear HKK K
      simp only [Act.put]
      refine' wpAny_do 14 rfl (by kernel_rfl) (by kernel_rfl) (by kernel_rfl) (fun _ _ _ _ h => h) (by rfl) ⟨_, fun w' => ?_, ?_⟩
      rotate_left
      · (go_simp; try (with_reducible rfl))
      simp only [Act.put, List.setIfInBounds_toArray, List.set_cons_zero, List.set_cons_succ]
      refine wpAny_eff 15 rfl (by kernel_rfl) (by rfl) (fun K hK => ?_)
      have HKK := Lib.hid hK
      clear hK
      have hjl : j < ((revN l k).set k Y).length := by rw [List.length_set, HRL.out, ← HN.out]; exact hjn
      refine wp_store_lay 28 (.tmp 27) (.tmp 25) rfl g (j * 16) rfl XS _ rfl rfl t (rowN 16 ((revN l k).set k Y) ++ rest) HG5.out (by rw [hXs, List.length_append, rowN_len]; omega) (by rw [HVV.out.1]; exact u8s_one X) (by rw [hXs]; kernel_rfl) ?_
      rw [show lay (rowN 16 ((revN l k).set k Y) ++ rest) (j * 16) XS = rowN 16 (revN l (k + 1)) ++ rest by rw [HVV.out.1, rowN_set 16 _ rest j X hjl HXY.out.1.1, HST.out]]
      generalize hw6 : World.setRow _ _ _ = w6
      have hg6 : w6.heap[g]? = some (.cells (rowN 16 (revN l (k + 1)) ++ rest).toArray t (0, 0)) := by rw [← hw6]; exact setRow_heap _ _ _ _ _ _ HG5.out
      have hx6 : Ex (· = g) w w6 := by rw [← hw6]; exact HX.out.trans (HX5.out.trans (ex_setRow _ _ _) (U := (· = g)) (fun _ _ h => h) (fun _ _ h => h)) (fun _ _ h => h) (fun _ _ h => h)
      have HG6 := Lib.hid hg6
      have HX6 := Lib.hid hx6
      clear hw6 hg6 hx6
      refine HKK.out _ _ ?_
      clear HKK K
      simp only [Act.put]
      refine wpAny_done (by kernel_rfl) ?_ _
      go_wp2_with fail
      go_roundw
      case rel => exact ⟨k + 1, by have := HJ.out; omega, by go_num, by go_num, HG6.out, HX6.out⟩
      case measure => simp [intOf]; omega
    · have ikj : ¬ (k : Int) < (n : Int) - 1 - (k : Int) := by omega
      have HRV := Lib.hid (revN_all l (i := k) (by rw [← HN.out]; exact hlt))
      go_wp2_with fail
      go_end0
      exact ⟨rfl, by rw [← HRV.out]; exact HW.out, HX.out⟩
end Go.Proofs.Ythbdmfbjkkmplaa
