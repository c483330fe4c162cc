/- Contracts of layer 37: slices.Delete, slices.Clone, append, at slices of holds. -/
import Derived.Test.YtbolioeopcmfcaaHold2
import Derived.Test.YtbolioeopcmfcaaB1
namespace Go.Proofs.Ytbolioeopcmfcaa
open Go.RowKit Go.Proofs.YtbolioeopcmfcaaB Go.Shelf

theorem infoPut : (Try.prog.info? 38).map (fun i => (i.zero, i.size, i.bytes)) = some (some (.agg #[.int .u64 0, .int .i64 0, .int .i64 0, .int .i64 0, .int .u64 0, .int .i64 0]), 6, 48) := by kernel_rfl
theorem zeroPut (w : World) : (zeroValue 38).run Try.prog w = .ok (.agg #[.int .u64 0, .int .i64 0, .int .i64 0, .int .i64 0, .int .u64 0, .int .i64 0]) w := by kernel_rfl

set_option maxHeartbeats 1000000 in
/-- slices.Delete of a part of a row of its own -/
theorem delete_any (v : Value) (n i j : Nat) (cs : List Value) (w : World) (ho : w.ownsRow 0 38 6 v n cs) (hc1 : ∀ u ∈ cs, u.oneCell' = true) (hij : i < j) (hj : j ≤ n) :
    Calls Try.prog 28 #[v, .int .i64 i, .int .i64 j] w fun e w' => ∃ v', e = .returned v' ∧ v'.ownBlock = v.ownBlock ∧
      w'.ownsRow 0 38 6 v' (n - (j - i)) (cs.take (i * 6) ++ cs.drop (j * 6)) ∧ Ex (fun b => v.ownBlock = some b) w w' := by
  obtain ⟨hlen, ⟨_, h0⟩ | ⟨g, cap, cur, rfl, hb, hg, hn, hcap, hsz, htake⟩⟩ := ho
  · omega
  unfold maxLen at hcap
  obtain ⟨i0, hi0, hz0, hz1, hz2⟩ := info_parts infoPut
  -- the cells that move
  obtain ⟨news, hnews⟩ : ∃ news, news = cs.drop (j * 6) := ⟨_, rfl⟩
  have hnl : news.length = (n - j) * 6 := by rw [hnews, List.length_drop, hlen, Nat.sub_mul]
  obtain ⟨A, hA, hsrc⟩ : ∃ A : Addr, (if cap = j then some (⟨g, 0, none⟩ : Addr) else some ⟨g, j * 6, none⟩) = some A ∧ Hid (RowAt w.drew A news) := by
    by_cases h : cap = j
    · refine ⟨⟨g, 0, none⟩, by simp [h], fun t u hu => ?_⟩
      have h0 : news.length = 0 := by rw [hnl]; omega
      rw [List.length_eq_zero_iff.1 h0] at hu
      simp at hu
    · refine ⟨⟨g, j * 6, none⟩, by simp [h], fun t u hu => ?_⟩
      rw [Addr.add_lit, cell_of_row w.drew g _ cur _ _ hg, ← Array.getElem?_toList]
      rw [hnews, List.getElem?_drop, ← htake, List.getElem?_take] at hu
      split at hu
      · exact hu
      · cases hu
  have s2 : Hid (∀ u ∈ news, u.oneCell' = true) := fun u hu => hc1 u (List.mem_of_mem_drop (by rw [← hnews]; exact hu))
  have s1 := Lib.hid hnl
  have hfit : i * 6 + news.length ≤ cur.size := by rw [hnl, hsz, ← Nat.add_mul]; exact Nat.mul_le_mul_right _ (by omega)
  obtain ⟨cur2, hcur2⟩ : ∃ cur2 : Array Value, cur2 = (cur.toList.take (i * 6) ++ news ++ cur.toList.drop (i * 6 + news.length)).toArray := ⟨_, rfl⟩
  have hsz2 : cur2.size = cap * 6 := by rw [hcur2]; simp; omega
  have X := Lib.hid hcur2
  have HH := Lib.hid htake
  have HN := Lib.hid hnews
  have HG := Lib.hid hg
  have hlt := (Array.getElem?_eq_some_iff.1 hg).1
  clear hcur2 htake hnews hg hc1 hnl
  have hg2 : ((w.drew).setRow g cur2).heap[g]? = some (.cells cur2 38 (0, 0)) := setRow_heap _ _ cur _ _ _ HG.out
  have HG2 := Lib.hid hg2
  clear hg2
  have hic : i ≤ cap := by omega
  have hjc : j ≤ cap := by omega
  go_enter Try.func28, Try.ntmps28
  go_wp2_with fail
  go_region_law (refine step_append_row rfl (.tmp 22) (.tmp 25) 35 rfl 38 i0 6 Try.underlying35 hi0 hz1 g i cap cur HG.out (by simp [Act.eval, Act.put]) A (n - j) (cap - j) news (by simp [Act.eval, Act.put]) s1.out hsrc.out s2.out (by omega) hfit ?_; rw [← X.out])
  go_wp2_with (refine wpList_clear_row rfl _ _ rfl 38 _ Try.underlying35 zeroPut (by simp [Value.cells, Value.oneCell']) (by simp [Value.cells]) g ((i + (n - j)) * 6) (n - (i + (n - j))) (cap - (i + (n - j))) rfl cur2 HG2.out (by omega) ?_ ?_)
  · show (i + (n - j)) * 6 + (n - (i + (n - j))) * 6 ≤ cur2.size
    rw [hsz2, ← Nat.add_mul]
    exact Nat.mul_le_mul_right _ (by omega)
  · go_ret
    refine ⟨.slice (some ⟨g, 0, none⟩) (i + (n - j)) cap, rfl, rfl, ⟨?_, .inr ⟨g, cap, _, by rw [show n - (j - i) = i + (n - j) by omega], Nat.zero_le _, setRow_heap _ g _ _ _ _ HG2.out, by omega, by unfold maxLen; omega, ?_, ?_⟩⟩, ?_⟩
    · rw [List.length_append, List.length_take, List.length_drop, hlen, Nat.min_eq_left (Nat.mul_le_mul_right _ (by omega)), ← Nat.sub_mul, ← Nat.add_mul]
      congr 1; omega
    · have e1 : (i + (n - j)) * 6 ≤ cap * 6 := Nat.mul_le_mul_right _ (by omega)
      have e2 : (i + (n - j)) * 6 + (n - (i + (n - j))) * 6 ≤ cap * 6 := by rw [← Nat.add_mul]; exact Nat.mul_le_mul_right _ (by omega)
      have e3 := zeroCells_list (.agg #[.int .u64 0, .int .i64 0, .int .i64 0, .int .i64 0, .int .u64 0, .int .i64 0]) (n - (i + (n - j)))
      simp only [Value.cells, List.size_toArray, List.length_cons, List.length_nil] at e3
      simp only [List.size_toArray, List.length_append, List.length_take, List.length_drop, Array.length_toList, hsz2] at e3 ⊢
      omega
    · have e1 : (i + (n - j)) * 6 ≤ cap * 6 := Nat.mul_le_mul_right _ (by omega)
      have e2 : i * 6 ≤ n * 6 := Nat.mul_le_mul_right _ (by omega)
      have e3 : n * 6 ≤ cap * 6 := Nat.mul_le_mul_right _ (by omega)
      have e4 : (n - (j - i)) * 6 = (i + (n - j)) * 6 := by congr 1; omega
      have e5 : (i + (n - j)) * 6 = i * 6 + (n - j) * 6 := Nat.add_mul _ _ _
      have l1 : (List.take ((i + (n - j)) * 6) cur2.toList).length = (i + (n - j)) * 6 := by rw [List.length_take, Array.length_toList, hsz2]; omega
      have l2 : (List.take (i * 6) cur.toList).length = i * 6 := by rw [List.length_take, Array.length_toList, hsz]; omega
      have l3 : (List.take (i * 6) cur.toList ++ news).length = (i + (n - j)) * 6 := by rw [List.length_append, l2, s1.out, e5]
      have l4 : List.take ((i + (n - j)) * 6) cur2.toList = List.take (i * 6) cs ++ List.drop (j * 6) cs := by
        rw [X.out, List.toList_toArray, List.take_left' l3, ← HH.out, List.take_take, Nat.min_eq_left e2, HH.out, HN.out]
      show List.take _ (_ ++ _) = _
      rw [e4, List.take_left' l1, l4]
    · refine ((Ex.drew w).trans ((ex_setRow _ g _).trans (ex_setRow _ g _) (T := (· = g)) (U := (· = g)) (fun _ _ h => h) (fun _ _ h => h)) (fun _ _ h => h.elim) (fun k _ h => ?_))
      rw [h]; rfl
end Go.Proofs.Ytbolioeopcmfcaa
