/- Layer 54: the document's May. -/
import Derived.Test.YtoglddndicmelaaGreatLawA
namespace Go.Proofs.YtoglddndicmelaaGreat.Tr
open Go.RowKit Go.Proofs.YtoglddndicmelaaGreatB Go.Proofs.YtoglddndicmelaaGreat
set_option maxRecDepth 100000

theorem right34_any (r : Rul) (w : World) : Calls Tryz.prog 45 #[r.val] w fun e w' => e = .returned (.bool (rightB r)) ∧ Ex0 w w' := by
  obtain ⟨k, l, t⟩ := r
  unfold Rul.val
  by_cases h1 : t < 1
  · have HE : Hid (rightB ⟨k, l, t⟩ = false) := by
      have hs : spanB t = false := by simp [spanB]; omega
      show _ = _; unfold rightB; rw [hs]; simp
    go_enter Tryz.func45, Tryz.ntmps45
    go_wp2
    go_ret
    exact ⟨ret_bool HE.out.symm, Ex.alloc _ _⟩
  by_cases h2 : 1073741824 < t
  · have HE : Hid (rightB ⟨k, l, t⟩ = false) := by
      have hs : spanB t = false := by simp [spanB]; omega
      show _ = _; unfold rightB; rw [hs]; simp
    go_enter Tryz.func45, Tryz.ntmps45
    go_wp2
    go_ret
    exact ⟨ret_bool HE.out.symm, Ex.alloc _ _⟩
  have HS : Hid (spanB t = true) := by show _ = _; simp [spanB]; omega
  by_cases h3 : k = 1
  · subst h3
    have HE : Hid (rightB ⟨1, l, t⟩ = (l == 0)) := by show _ = _; unfold rightB; rw [if_pos (.inl rfl), HS.out]; simp
    go_enter Tryz.func45, Tryz.ntmps45
    go_wp2
    go_ret
    exact ⟨ret_bool HE.out.symm, Ex.alloc _ _⟩
  by_cases h4 : k = 4
  · subst h4
    have HE : Hid (rightB ⟨4, l, t⟩ = (l == 0)) := by show _ = _; unfold rightB; rw [if_pos (.inr rfl), HS.out]; simp
    go_enter Tryz.func45, Tryz.ntmps45
    go_wp2
    go_ret
    exact ⟨ret_bool HE.out.symm, Ex.alloc _ _⟩
  have HK : Hid (¬ (k = 1 ∨ k = 4)) := fun h => h.elim h3 h4
  by_cases h5 : k = 2 ∨ k = 3
  · have HE : Hid (rightB ⟨k, l, t⟩ = spanB l) := by show _ = _; unfold rightB; rw [if_neg HK.out, if_pos h5, HS.out]; simp
    by_cases h6 : 1 ≤ l
    · by_cases h7 : l ≤ 1073741824
      · have HL : Hid (spanB l = true) := by show _ = _; simp [spanB]; omega
        rcases h5 with h5 | h5
        all_goals
          subst h5
          go_enter Tryz.func45, Tryz.ntmps45
          go_wp2
          go_ret
          exact ⟨ret_bool (HE.out.trans HL.out).symm, Ex.alloc _ _⟩
      · have HL : Hid (spanB l = false) := by show _ = _; simp [spanB]; omega
        rcases h5 with h5 | h5
        all_goals
          subst h5
          go_enter Tryz.func45, Tryz.ntmps45
          go_wp2
          go_ret
          exact ⟨ret_bool (HE.out.trans HL.out).symm, Ex.alloc _ _⟩
    · have HL : Hid (spanB l = false) := by show _ = _; simp [spanB]; omega
      rcases h5 with h5 | h5
      all_goals
        subst h5
        go_enter Tryz.func45, Tryz.ntmps45
        go_wp2
        go_ret
        exact ⟨ret_bool (HE.out.trans HL.out).symm, Ex.alloc _ _⟩
  · have b1 : (k == 1) = false := by simpa using h3
    have b4 : (k == 4) = false := by simpa using h4
    have b2 : (k == 2) = false := by simpa using fun h => h5 (.inl h)
    have b3 : (k == 3) = false := by simpa using fun h => h5 (.inr h)
    have h5a : ¬ k = 2 := fun h => h5 (.inl h)
    have h5b : ¬ k = 3 := fun h => h5 (.inr h)
    have HE : Hid (rightB ⟨k, l, t⟩ = false) := by show _ = _; unfold rightB; rw [if_neg HK.out, if_neg h5]
    clear h5
    go_enter Tryz.func45, Tryz.ntmps45
    go_wp2
    go_ret
    exact ⟨ret_bool HE.out.symm, Ex.alloc _ _⟩
theorem rights_take {rs : List Rul} (h : ∀ j (hj : j < rs.length), rightB rs[j] = true) : rightsB rs = true := by
  unfold rightsB
  rw [List.all_eq_true]
  intro x hx
  obtain ⟨j, hj, rfl⟩ := List.getElem_of_mem hx
  exact h j hj
theorem rights_not {rs : List Rul} {j : Nat} (hj : j < rs.length) (h : rightB rs[j] = false) : rightsB rs = false := by
  unfold rightsB
  rw [List.all_eq_false]
  exact ⟨_, List.getElem_mem hj, by rw [h]; simp⟩
set_option maxHeartbeats 4000000 in
theorem rmay_any (C : Array Value) (vols blocks : Int) (A : Option Addr) (n cap : Nat) (rs : List Rul) (w : World) (h2 : C[2]? = some (.int .i64 vols)) (h3 : C[3]? = some (.int .i64 blocks)) (h36 : C[36]? = some (.slice A n cap)) (hs : Sl w 3 A n (rs.flatMap Rul.cells)) :
    Calls Tryz.prog 15 #[.agg C] w fun e w' => e = .returned (.bool (mayS vols blocks n rs)) ∧ Ex0 w w' := by
  have hln : rs.length = n := by have := hs.len; rw [flat_len Rul.cells 3 Rul.length] at this; omega
  have hm := hs.small
  have HNO : Hid (∀ w', Ex0 w w' → (vols < 1 ∨ 8 < vols ∨ blocks < 1 ∨ 256 < blocks ∨ ¬ (n ≤ 16 ∧ rightsB rs = true)) → Ending.returned (.bool false) = .returned (.bool (mayS vols blocks n rs)) ∧ Ex0 w w') :=
    fun w' hx h => ⟨ret_bool (mayS_no h).symm, hx⟩
  obtain ⟨wa, hwa⟩ : ∃ wa, w.alloc (.cells C 26) = wa := ⟨_, rfl⟩
  have hB : wa.heap[w.heap.size]? = some (.cells C 26 (0, 0)) := by rw [← hwa]; exact heap_alloc_new _ _
  have HXA : Hid (Ex0 w wa) := by show Ex0 _ _; rw [← hwa]; exact Ex.alloc _ _
  have HWA := Lib.hid hwa
  have HB := Lib.hid hB
  have hlb : w.heap.size < wa.heap.size := (Array.getElem?_eq_some_iff.1 hB).1
  have c2 : wa.cell? ⟨w.heap.size, 2, none⟩ = some (.int .i64 vols) := by rw [cell_of_row _ _ _ _ _ _ hB]; exact h2
  have c3 : wa.cell? ⟨w.heap.size, 3, none⟩ = some (.int .i64 blocks) := by rw [cell_of_row _ _ _ _ _ _ hB]; exact h3
  have c36 : wa.cell? ⟨w.heap.size, 36, none⟩ = some (.slice A n cap) := by rw [cell_of_row _ _ _ _ _ _ hB]; exact h36
  have HSL := Lib.hid (hs.ex0 HXA.out)
  clear hwa hB h2 h3 h36 hs
  go_enter Tryz.func15, Tryz.ntmps15
  iterate 5 go_step
  rw [HWA.out]
  by_cases q1 : vols < 1
  · have Q := Lib.hid q1
    go_wp2
    go_ret
    exact HNO.out _ HXA.out (.inl Q.out)
  by_cases q2 : 8 < vols
  · have Q := Lib.hid q2
    go_wp2
    go_ret
    exact HNO.out _ HXA.out (.inr (.inl Q.out))
  by_cases q3 : blocks < 1
  · have Q := Lib.hid q3
    go_wp2
    go_ret
    exact HNO.out _ HXA.out (.inr (.inr (.inl Q.out)))
  by_cases q4 : 256 < blocks
  · have Q := Lib.hid q4
    go_wp2
    go_ret
    exact HNO.out _ HXA.out (.inr (.inr (.inr (.inl Q.out))))
  by_cases q5 : 16 < n
  · have Q := Lib.hid q5
    have q6 : (16 : Int) < (n : Int) := by omega
    go_wp2
    go_ret
    exact HNO.out _ HXA.out (.inr (.inr (.inr (.inr (fun h => by have := Q.out; omega)))))
  have q6 : ¬ (16 : Int) < (n : Int) := by omega
  have HQ : Hid (1 ≤ vols ∧ vols ≤ 8 ∧ 1 ≤ blocks ∧ blocks ≤ 256 ∧ n ≤ 16) := ⟨by omega, by omega, by omega, by omega, by omega⟩
  go_wp2
  have HC36 : Hid (∀ w', Ex0 wa w' → w'.cell? ⟨w.heap.size, 36, none⟩ = some (.slice A n cap)) := fun w' hx => hx.cellS c36 not_false
  clear c2 c3 c36 hlb q1 q2 q3 q4 q5 q6
  go_loopw [3] (fun i wr => ∃ k : Nat, k ≤ n ∧ i = .int .i64 k ∧ Ex0 wa wr ∧ ∀ j (hj : j < rs.length), j < k → rightB rs[j] = true) (fun i _ => n - (intOf i).toNat)
  case atStart => exact ⟨0, by omega, rfl, Ex.refl _ _, fun j _ h => by omega⟩
  case round =>
    obtain ⟨k, hk, rfl, hx, hr⟩ := hrel
    have HX := Lib.hid hx
    have HR := Lib.hid hr
    have hb := (hx.block _ (Array.getElem?_eq_some_iff.1 HB.out).1 id).trans HB.out
    have hlb : w.heap.size < wr.heap.size := (Array.getElem?_eq_some_iff.1 hb).1
    have c36 : wr.cell? ⟨w.heap.size, 36, none⟩ = some (.slice A n cap) := HC36.out wr hx
    by_cases hlt : k < n
    · obtain ⟨g, off, hl, rfl, hrow⟩ := (HSL.out.ex0 hx).row Rul.length (by omega) hlt
      have hk0 : (0 : Int) ≤ (k : Int) := by omega
      have hk1 : (k : Int) < (n : Int) := by omega
      have hlr : k < rs.length := by omega
      obtain ⟨r, hrr⟩ : ∃ r, rs[k] = r := ⟨_, rfl⟩
      rw [hrr] at hrow
      have HRR := Lib.hid hrr
      have HRI := Lib.hid (fun w' => right34_any r w')
      obtain ⟨rb, hrb⟩ : ∃ rb, rightB r = rb := ⟨_, rfl⟩
      rw [hrb] at HRI
      have HRB := Lib.hid hrb
      obtain ⟨r0, r1, r2⟩ := r
      unfold Rul.cells at hrow
      unfold Rul.val at HRI
      clear hx hr hb hrr hrb
      go_wp2_with (first | refine wpList_load_at rfl 112 (.tmp 38) rfl _ rfl _ _ hrow Tryz.underlying112 rfl (by kernel_rfl) ?_ | fail)
      refine (HRI.out wr).mono ?_
      rintro e w2 ⟨rfl, hx2⟩
      have HX2 := Lib.hid (HX.out.trans0 hx2)
      clear hx2 hrow
      cases rb with
      | false =>
        go_wp2
        go_ret
        exact HNO.out _ (HXA.out.trans0 HX2.out) (.inr (.inr (.inr (.inr (fun h => by
          have h9 := HRB.out
          rw [rights_not hlr (by rw [HRR.out]; exact h9)] at h
          cases h.2)))))
      | true =>
        go_wp2
        go_roundw
        case rel =>
          refine ⟨k + 1, by omega, by go_num, HX2.out, fun j hj hjk => ?_⟩
          by_cases e : j = k
          · subst e
            have h9 := HRB.out
            have h8 := HRR.out
            rw [h8]; exact h9
          · exact HR.out j hj (by omega)
        case measure => simp [intOf]; omega
    · have hkn : k = n := by omega
      subst hkn
      have HE : Hid (mayS vols blocks k rs = true) := by
        show _ = _
        obtain ⟨h1, h2, h3, h4, h5⟩ := HQ.out
        unfold mayS
        rw [rights_take (fun j hj => HR.out j hj (by omega))]
        simp; omega
      clear hx hr hb
      go_wp2
      go_ret
      exact ⟨ret_bool HE.out.symm, HXA.out.trans0 HX.out⟩
end Go.Proofs.YtoglddndicmelaaGreat.Tr
