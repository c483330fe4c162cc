/- Contracts of layer 28: a table that there isn't. -/
import Derived.Test.YthlmcoeikelheaaMom31
import Derived.Test.YthlmcoeikelheaaMom21
namespace Go.Proofs.Ythlmcoeikelheaa
open Go.RowKit Go.Proofs.YthlmcoeikelheaaB Go.Shelf

attribute [local go_sem] Oper.semAt_some

theorem add_nil (num min : Int) (w : World) :
    Calls Try.prog 20 #[.pointer none, .int .u64 num, .int .i64 min] w fun e w' => e = .returned (.int .i64 1) ∧ w' = w := by
  go_enter Try.func20, Try.ntmps20
  go_wp2
  go_ret
  exact ⟨rfl, rfl⟩
theorem release_nil (num : Int) (w : World) :
    Calls Try.prog 22 #[.pointer none, .int .u64 num] w fun e w' => e = .returned (.int .i64 1) ∧ w' = w := by
  go_enter Try.func22, Try.ntmps22
  go_wp2_with fail
  refine (find_nil num _).mono ?_
  rintro e w1 ⟨rfl, rfl⟩
  go_wp2
  go_ret
  exact ⟨rfl, rfl⟩
theorem drop_nil (num : Int) (w : World) :
    Calls Try.prog 23 #[.pointer none, .int .u64 num] w fun e w' => e = .returned (.int .i64 1) ∧ w' = w := by
  go_enter Try.func23, Try.ntmps23
  go_wp2_with fail
  refine (find_nil num _).mono ?_
  rintro e w1 ⟨rfl, rfl⟩
  go_wp2
  go_ret
  exact ⟨rfl, rfl⟩
theorem ahead_nil (num : Int) (w : World) :
    Calls Try.prog 39 #[.pointer none, .int .u64 num] w fun e w' => e = .returned (.tuple #[.int .i64 0, .int .i64 0, .bool false, .bool true]) ∧ w' = w := by
  go_enter Try.func39, Try.ntmps39
  go_wp2_with fail
  refine (min_nil num _).mono ?_
  rintro e w1 ⟨rfl, rfl⟩
  go_wp2_with fail
  refine (next_nil num _).mono ?_
  rintro e w1 ⟨rfl, rfl⟩
  go_wp2
  refine bodyPost_ret (v := .tuple #[.int .i64 0, .int .i64 0, .bool false, .bool true]) (by simp [results, Try.results39, go_sem]) rfl ?_
  exact ⟨rfl, rfl⟩
theorem closes_nil (num : Int) (w : World) :
    Calls Try.prog 16 #[.pointer none, .int .u64 num, .int .i64 1] w fun e w' => e = .returned (.bool false) ∧ Ex0 w w' := by
  go_enter Try.func16, Try.ntmps16
  go_wp2_with fail
  refine (ahead_nil num _).mono ?_
  rintro e w1 ⟨rfl, rfl⟩
  go_wp2
  go_quiet (fail)
  go_wp2
  go_ret
  exact ⟨rfl, (Ex.refl _ _).drewN' _⟩
theorem quiet_nil (num : Int) (w : World) :
    Calls Try.prog 18 #[.pointer none, .int .u64 num, .int .i64 1] w fun e w' => e = .returned (.bool false) ∧ Ex0 w w' := by
  go_enter Try.func18, Try.ntmps18
  go_wp2_with fail
  refine (ahead_nil num _).mono ?_
  rintro e w1 ⟨rfl, rfl⟩
  go_wp2
  go_ret
  exact ⟨rfl, Ex.refl _ _⟩
theorem clone_nil (w : World) :
    Calls Try.prog 35 #[.pointer none] w fun e w' => e = .returned (.pointer (some ⟨w.heap.size, 0, none⟩)) ∧ TabAt w' w.heap.size (.slice none 0 0) [] ∧ Ex0 w w' := by
  go_enter Try.func35, Try.ntmps35
  go_wp2_with fail
  refine (new_any _).mono ?_
  rintro e w1 ⟨rfl, h1, h2⟩
  go_wp2
  go_ret
  exact ⟨rfl, h1, h2⟩

set_option maxRecDepth 100000 in
set_option maxHeartbeats 1000000 in
theorem at_nil (min : Int) (w : World) :
    Calls Try.prog 30 #[.pointer none, .int .i64 min] w fun e w' => e = .returned (.tuple #[.int .u64 0, .bool false]) ∧ Ex0 w w' := by
  refine (callsIn_wide (n := 10)).1 (callsIn_of_wp_marks Try.func30 rfl trivial ?_ rfl)
  simp only [Try.ntmps30, List.size_toArray, List.length_cons, List.length_nil, Nat.reduceAdd, Nat.reduceSub, Array.replicate_succ, Array.replicate_zero, List.push_toArray, List.append_toArray, List.nil_append, List.cons_append]
  refine wpIn_wide.2 ?_
  go_wp2_with fail
  have b4 := ((Boxed.new (w.alloc (.cells #[.int .i64 min] 3)) 23 (.int .u64 0)).alloc (.cells #[.bool false] 4)).cell
  have b5 := (Boxed.new ((w.alloc (.cells #[.int .i64 min] 3)).alloc (.cells #[.int .u64 0] 23)) 4 (.bool false)).cell
  simp only [World.size_alloc] at b4 b5
  exact ⟨.tuple #[.int .u64 0, .bool false], by simp [results, Try.results30, go_sem, b4, b5], rfl, ((Ex.alloc _ _).alloc' _).alloc' _⟩

set_option maxRecDepth 100000 in
set_option maxHeartbeats 4000000 in
theorem same_nil (px : Nat) (d : DocV) (w : World) (hD : DocAt w px d []) :
    Calls Try.prog 28 #[.pointer none, .pointer (some ⟨px, 0, none⟩)] w fun e w' => e = .returned (.int .i64 1) ∧ Ex0 w w' := by
  refine (callsIn_wide (n := 10)).1 (callsIn_of_wp_marks Try.func28 rfl trivial ?_ rfl)
  simp only [Try.ntmps28, List.size_toArray, List.length_cons, List.length_nil, Nat.reduceAdd, Nat.reduceSub, Array.replicate_succ, Array.replicate_zero, List.push_toArray, List.append_toArray, List.nil_append, List.cons_append]
  refine wpIn_wide.2 ?_
  go_wp2_with fail
  refine (mall_any _ _).mono ?_
  rintro e w' ⟨rfl, rfl⟩
  obtain ⟨w1, hw1⟩ : ∃ w1, w1 = w.alloc (.cells #[.pointer none] 25) := ⟨_, rfl⟩
  obtain ⟨w2, hw2⟩ : ∃ w2, w2 = w1.alloc (.cells #[.pointer (some ⟨px, 0, none⟩)] 27) := ⟨_, rfl⟩
  obtain ⟨w3, hw3⟩ : ∃ w3, w3 = w2.alloc (.cells #[.int .i64 0] 3) := ⟨_, rfl⟩
  obtain ⟨w4, hw4⟩ : ∃ w4, w4 = w3.alloc (.cells #[.pointer none] 25) := ⟨_, rfl⟩
  rw [← hw1, ← hw2, ← hw3, ← hw4]
  have hs1 : w1.heap.size = w.heap.size + 1 := by rw [hw1]; simp
  have hs2 : w2.heap.size = w.heap.size + 1 + 1 := by rw [hw2, World.size_alloc, hs1]
  have hs3 : w3.heap.size = w.heap.size + 1 + 1 + 1 := by rw [hw3, World.size_alloc, hs2]
  have hs4 : w4.heap.size = w.heap.size + 1 + 1 + 1 + 1 := by rw [hw4, World.size_alloc, hs3]
  have b2 : Boxed w4 w.heap.size 25 (.pointer none) := by rw [hw4, hw3, hw2, hw1]; exact (((Boxed.new w _ _).alloc _).alloc _).alloc _
  have b3 : Boxed w4 (w.heap.size + 1) 27 (.pointer (some ⟨px, 0, none⟩)) := by rw [hw4, hw3, hw2, ← hs1]; exact ((Boxed.new w1 _ _).alloc _).alloc _
  have b4 : Boxed w4 (w.heap.size + 1 + 1) 3 (.int .i64 0) := by rw [hw4, hw3, ← hs2]; exact (Boxed.new w2 _ _).alloc _
  have bA : Boxed w4 (w.heap.size + 1 + 1 + 1) 25 (.pointer none) := by rw [hw4, ← hs3]; exact Boxed.new w3 _ _
  have hx4 : Ex0 w w4 := by rw [hw4, hw3, hw2, hw1]; exact (((Ex.alloc _ _).alloc' _).alloc' _).alloc' _
  rw [hs3]
  clear hw1 hw2 hw3 hw4 hs1 hs2 hs3
  clear w1 w2 w3
  have hD4 := hD.ex0 hx4
  have HX4 := Lib.hid hx4
  have HD4 := Lib.hid hD4
  clear hx4 hD4 hD
  have c2 := b2.cell
  have c3 := b3.cell
  obtain ⟨n0, n1, n2⟩ := HD4.out.cells
  have B3 := Lib.hid b3
  have B4 := Lib.hid b4
  have BA := Lib.hid bA
  clear b2 b3 b4 bA n1 n2
  have hnf := fun f ls (w : World) => nofunc f ls w
  go_wp2
  go_quiet ((go_at_call 27; exact Calls.quiet_of_same (len_nil _)))
  go_wp2_with fail
  refine (wpIn_wide (n := 10)).1 ?_
  refine wpIn_named fun a0 ha => ?_
  obtain ⟨w5, hw5⟩ : ∃ w5, w5 = (w4.drewN nq).alloc (.cells #[.int .i64 0] 3) := ⟨_, rfl⟩
  rw [← hw5]
  have hs5 : w5.heap.size = w.heap.size + 1 + 1 + 1 + 1 + 1 := by rw [hw5, World.size_alloc]; show w4.heap.size + 1 = _; rw [hs4]
  have bk : Boxed w5 (w.heap.size + 1 + 1 + 1 + 1) 3 (.int .i64 0) := by
    have := Boxed.new (w4.drewN nq) 3 (.int .i64 0)
    rw [hw5, ← hs4]; exact this
  have hx45 : Ex0 w4 w5 := by rw [hw5]; exact ((Ex.refl _ _).drewN' _).alloc' _
  have hk45 : Kc0 w4 w5 := Kc.ofEx hx45
  have hD5 := HD4.out.ex0 hx45
  have hB5 : Below w.heap.size w w5 := (HX4.out.trans0 hx45).below (Nat.le_refl _) (fun _ h => h.elim)
  have b3 := boxed_kc B3.out hk45 id
  have b4 := boxed_kc B4.out hk45 id
  have bA := boxed_kc BA.out hk45 id
  clear hw5 hx45 hk45 n0 c2 c3 hs4 hnf
  refine wpIn_rangeFunc_ownH rfl (by omega) (gf := 47) (lb := #[.pointer (some ⟨w.heap.size + 1 + 1 + 1, 0, none⟩)]) (by rw [ha]; rfl) trivial (enters_of Try.func47 (by kernel_rfl) rfl)
    (mall_seq_nil (w.heap.size + 1 + 1 + 1) (fun _ => False) _ bA.cell) kc_t kc_b (Below.refl _ _) (fun _ => rfl)
    (fun pre W => (Boxed W (w.heap.size + 1) 27 (.pointer (some ⟨px, 0, none⟩)) ∧ Boxed W (w.heap.size + 1 + 1) 3 (.int .i64 0) ∧ Boxed W (w.heap.size + 1 + 1 + 1 + 1) 3 (.int .i64 0)) ∧ DocAt W px d [] ∧ Below w.heap.size w W)
    (fun _ pre W => False)
    (ownFrom_kc (Nat.le_refl _) (by omega) (fun _ _ _ h hx hb => ⟨⟨boxed_kc h.1.1 hx id, boxed_kc h.1.2.1 hx id, boxed_kc h.1.2.2 hx id⟩, h.2.1.kc hx id (fun _ _ => id), hb⟩) (fun _ _ h => h.2.2)) (fun c _ _ _ _ h _ _ => h)
    ⟨⟨b3, b4, bk⟩, hD5, hB5⟩ (fun x a' W => True) (fun x a' s X Y row h hg hrow => trivial) ?assign ?body ?done ?stop
  case assign =>
    intro l' pre x W K hI hK
    rw [ha]
    simp only [List.setIfInBounds_toArray, List.set_cons_zero, List.set_cons_succ]
    gi_wp2
    exact hK _ _ (KeepsFrom.refl _ _) (Kc.refl _ _) hI trivial
  case body =>
    rintro l' pre x a' W hl' hr hI hA hlt
    omega
  case done =>
    rintro D ys W hD rfl ⟨⟨hb3, hb4, hbk⟩, hD', hB'⟩ hK
    have c3 := hb3.cell
    have ck := hbk.cell
    have c4 := hb4.cell
    have f4 := hb4.frozen
    have l4 := hb4.lt
    obtain ⟨n0, _, _⟩ := hD'.cells
    have HB4 := Lib.hid hb4
    have HBB := Lib.hid hB'
    clear hb3 hb4 hbk hD' hB'
    subst ha
    go_wp2
    go_quiet (fail)
    go_wp2
    have hD' : w.heap.size + 1 + 1 < D := by omega
    have hK0 : (W.drewN nq).heap[D]? = some (.deferred (some [])) := hK
    have hK2 : ((W.drewN nq).setCell ⟨w.heap.size + 1 + 1, 0, none⟩ (.int .i64 1)).heap[D]? = some (.deferred (some [])) := (Below.heap_setCell _ _ _ _ (by simp; omega)).trans hK0
    have q3 : Boxed (W.drewN nq) (w.heap.size + 1 + 1) 3 (.int .i64 0) := HB4.out
    have q4 := ((q3.set (.int .i64 1)).kept (grownBy_putObj' _ D (.deferred none)) (by simp; omega)).cell
    have hbn : Below w.heap.size w (W.drewN nq) := HBB.out.trans (((Ex.refl (fun _ => False) W).drewN' _).below HBB.out.size (fun _ h => h.elim))
    refine ⟨by simp, .inl ⟨_, _, rfl, run_takeDeferred hK2, ?_⟩⟩
    refine ⟨.int .i64 1, by simp [results, Try.results28, go_sem, q4], rfl, ?_⟩
    exact Ex.ofBelow ((hbn.setCell (p := ⟨w.heap.size + 1 + 1, 0, none⟩) (by simp; omega) _).trans (belowK_b (w := w) (Nat.le_refl _) _ D _ _ (by omega) hK2 rfl rfl))
  case stop =>
    rintro D c pre W hD hp hX hK
    exact hX.elim

/-- a document's table without moments -/
theorem docNew (w : World) : DocAt (w.alloc (.cells #[.slice none 0 0, .slice none 0 0, .slice none 0 0] 32)) w.heap.size ⟨none, none, none, 0, 0, 0⟩ [] := by
  refine ⟨heap_alloc_new _ _, ⟨rfl, Nat.zero_le _, fun h => absurd h (Nat.lt_irrefl 0)⟩, ⟨rfl, Nat.zero_le _, fun h => absurd h (Nat.lt_irrefl 0)⟩, ⟨rfl, Nat.zero_le _, fun h => absurd h (Nat.lt_irrefl 0)⟩, fun _ => rfl, fun _ => rfl, fun _ => rfl, ?_, Nat.zero_le _, Nat.zero_le _, Nat.zero_le _⟩
  intro b hb; simp [Bld, Bl] at hb
theorem tabNew (w : World) : TabAt (w.alloc (.cells #[.slice none 0 0] 66)) w.heap.size (.slice none 0 0) [] :=
  ⟨heap_alloc_new _ _, World.ownsRow_nil _ _ _ _, by simp [Value.ownBlock]⟩
theorem Both.below {w0 : World} {p px : Nat} {v : Value} {d : DocV} {l : List It} {w w' : World} (h : Both w0 p px v d l w) (hx : Below w.heap.size w w') : Both w0 p px v d l w' := h.ex0 (Ex.ofBelow hx)
/-- a table's own steps leave alone what lay ahead of it -/
theorem Mine.rel {w0 : World} {p : Nat} {v : Value} {l : List It} {num : Int} {w : World} (h : Mine w0 p v l w) (hk : TabOk l) :
    Calls Try.prog 22 #[.pointer (some ⟨p, 0, none⟩), .int .u64 num] w fun e w' => e = .returned (.int .i64 (relE num l)) ∧ ∃ v', Mine w0 p v' (relL num l) w' := mrel h hk rfl rfl
theorem Mine.drop {w0 : World} {p : Nat} {v : Value} {l : List It} {num : Int} {w : World} (h : Mine w0 p v l w) (hk : TabOk l) :
    Calls Try.prog 23 #[.pointer (some ⟨p, 0, none⟩), .int .u64 num] w fun e w' => e = .returned (.int .i64 (dropE num l)) ∧ ∃ v', Mine w0 p v' (dropL num l) w' := mdrop h hk rfl rfl
theorem Mine.add {w0 : World} {p : Nat} {v : Value} {l : List It} {num min : Int} {w : World} (h : Mine w0 p v l w) (hk : TabOk l) (hl : l.length ≤ 900) :
    Calls Try.prog 20 #[.pointer (some ⟨p, 0, none⟩), .int .u64 num, .int .i64 min] w fun e w' => e = .returned (.int .i64 (addE num min l)) ∧ ∃ v', Mine w0 p v' (addL num min l) w' := by
  refine (add_any p v l num min w h.T hk hl).mono fun e w' hp => ?_
  obtain ⟨v', rfl, hM⟩ := h.post hp
  exact ⟨rfl, v', hM⟩
theorem relL_len (num : Int) (l : List It) : (relL num l).length = l.length := by unfold relL; split <;> simp
theorem dropL_len (num : Int) (l : List It) : (dropL num l).length ≤ l.length := by
  unfold dropL; split
  · exact (List.eraseIdx_sublist _ _).length_le
  · exact Nat.le_refl _
/-- what an Add of the table leaves: the document's table, and whatever is not the table's -/
theorem Both.addT {w0 : World} {p px : Nat} {v : Value} {d : DocV} {l : List It} {num min : Int} {w : World} (h : Both w0 p px v d l w) (hl : l.length ≤ 900) :
    Calls Try.prog 20 #[.pointer (some ⟨p, 0, none⟩), .int .u64 num, .int .i64 min] w fun e w' => e = .returned (.int .i64 (addE num min l)) ∧ DocAt w' px d l ∧ Ex (fun b => b = p ∨ v.ownBlock = some b) w w' := by
  refine (add_any p v l num min w h.T h.ok hl).mono fun e w' hp => ?_
  obtain ⟨v', rfl, hv, hT, hx⟩ := hp
  exact ⟨rfl, h.D.ex hx (h.sp _ (.inl rfl)) (fun b hb => h.sp b (.inr hb)), hx⟩

structure CloneSt (w1 : World) (pd : Nat) (vd : Value) (px : Nat) (d : DocV) (pz : Nat) (s : List It) (W : World) : Prop where
  T : TabAt W pd vd s
  D : DocAt W px d s
  Z : TabAt W pz (.slice none 0 0) []
  B : Below w1.heap.size w1 W
theorem CloneSt.ex0 {w1 : World} {pd : Nat} {vd : Value} {px : Nat} {d : DocV} {pz : Nat} {s : List It} {W W' : World} (h : CloneSt w1 pd vd px d pz s W) (hx : Ex0 W W') : CloneSt w1 pd vd px d pz s W' :=
  ⟨h.T.ex0 hx, h.D.ex0 hx, h.Z.ex0 hx, h.B.trans (hx.below h.B.size (fun _ h => h.elim))⟩
end Go.Proofs.Ythlmcoeikelheaa
