/- Contracts of layer 37: New, Len, Clone, Lift. -/
import Derived.WalkSpells
import Derived.Maps.AppendAt
import Derived.Test.YtbolioeopcmfcaaHold3
namespace Go.Proofs.Ytbolioeopcmfcaa
open Go.RowKit Go.Proofs.YtbolioeopcmfcaaB Go.Shelf

theorem put_one (l : List Put) : ∀ u ∈ l.flatMap Put.cells, u.oneCell' = true := by
  intro u hu
  obtain ⟨x, _, hx⟩ := List.mem_flatMap.1 hu
  simp only [Put.cells, List.mem_cons, List.not_mem_nil, or_false] at hx
  rcases hx with rfl | rfl | rfl | rfl | rfl | rfl <;> rfl

theorem new_any (w : World) :
    Calls Try.prog 10 #[] w fun e w' => e = .returned (.pointer (some ⟨w.heap.size, 0, none⟩)) ∧ BookAt w' w.heap.size (.slice none 0 0) [] ∧ Ex0 w w' := by
  go_enter Try.func10, Try.ntmps10
  go_wp2
  go_ret
  exact ⟨rfl, ⟨heap_alloc_new _ _, World.ownsRow_nil _ _ _ _, by simp [Value.ownBlock]⟩, Ex.alloc _ _⟩

theorem len_any (p : Nat) (v : Value) (l : List Put) (w : World) (hB : BookAt w p v l) :
    Calls Try.prog 13 #[.pointer (some ⟨p, 0, none⟩)] w fun e w' => e = .returned (.int .i64 l.length) ∧ w' = w := by
  have hc := hB.cell
  obtain ⟨A, cap, rfl, hsl, hbl⟩ := own_sl hB.own
  have HB := Lib.hid hbl
  clear hbl
  go_enter Try.func13, Try.ntmps13
  go_wp2
  go_ret
  exact ⟨rfl, rfl⟩

theorem len_nil (w : World) :
    Calls Try.prog 13 #[.pointer none] w fun e w' => e = .returned (.int .i64 0) ∧ w' = w := by
  go_enter Try.func13, Try.ntmps13
  go_wp2
  go_ret
  exact ⟨rfl, rfl⟩

set_option maxHeartbeats 1000000 in
theorem sclone_any (v : Value) (n : Nat) (cs : List Value) (w : World) (ho : w.ownsRow 0 38 6 v n cs) (h1 : ∀ u ∈ cs, u.oneCell' = true) (hn : n ≤ 1000000) :
    Calls Try.prog 30 #[v] w fun e w' => ∃ v', e = .returned v' ∧ w'.ownsRow w.heap.size 38 6 v' n cs ∧ Ex0 w w' := by
  have he : ∀ (a : Option Addr) (n c : Nat) (w : World), (binOp .eql 35 (.slice a n c) (.slice none 0 0)).run Try.prog w = .ok (.bool a.isNone) w := fun a n c w => Lib.run_eql_slice_nil w _ _ a n c 0 0 Try.underlying35
  obtain ⟨hlen, ⟨rfl, h0⟩ | ⟨g, cap, cur, rfl, hb, hg, hnc, hcap, hsz, htake⟩⟩ := ho
  · go_enter Try.func30, Try.ntmps30
    go_wp2
    go_ret
    subst h0
    exact ⟨_, rfl, ⟨hlen, .inl ⟨rfl, rfl⟩⟩, Ex.refl _ _⟩
  · obtain ⟨i0, hi0, hz0, hz1, hz2⟩ := info_parts infoPut
    have hrow : RowAt w ⟨g, 0, none⟩ cs := by
      have := World.ownsRow.cells (w := w) (base := 0) (e := 38) (size := 6) (v := .slice (some ⟨g, 0, none⟩) n cap) (n := n) (xs := cs) ⟨hlen, .inr ⟨g, cap, cur, rfl, hb, hg, hnc, hcap, hsz, htake⟩⟩ (g := g) rfl
      exact this
    have hlt := (Array.getElem?_eq_some_iff.1 hg).1
    have HL := Lib.hid hlen
    have HR := Lib.hid (hrow.ex (Ex.alloc w (.cells #[] 38)) not_false)
    clear hlen htake hg hsz hrow
    have hown := World.ownsRow_made (base := w.heap.size) (e := 38) (size := 6) w #[] 0 (Nat.le_refl _) (by decide) rfl
    have HO := Lib.hid hown
    clear hown
    go_enter Try.func30, Try.ntmps30
    go_wp2_with (refine wpList_append_own_at _ rfl (.tmp 5) (.tmp 6) 35 rfl w.heap.size 38 i0 _ 6 48 Try.underlying35 hi0 hz0 hz1 hz2 rfl (by decide) _ 0 [] rfl HO.out ⟨g, 0, none⟩ n cap cs rfl HL.out HR.out h1 (by unfold maxLen; omega) (by omega) (by simp) ?_)
    intro v' w1 hown1 hgrow _ hat
    go_wp2
    go_ret
    refine ⟨v', rfl, by simpa using hown1, (Ex.alloc w _).trans (Ex.ofGrown hgrow) (fun _ _ h => h) ?_⟩
    intro k hk h
    simp [Value.ownBlock] at h
    omega

theorem clone_any (p : Nat) (v : Value) (l : List Put) (w : World) (hB : BookAt w p v l) (hn : l.length ≤ 1000000) :
    Calls Try.prog 18 #[.pointer (some ⟨p, 0, none⟩)] w fun e w' => ∃ p' v', e = .returned (.pointer (some ⟨p', 0, none⟩)) ∧ w.heap.size ≤ p' ∧ (∀ b, v'.ownBlock = some b → w.heap.size ≤ b) ∧ BookAt w' p' v' l ∧ Ex0 w w' := by
  have hc := hB.cell
  have hl := hB.lt
  go_enter Try.func18, Try.ntmps18
  go_wp2_with fail
  refine (sclone_any v l.length _ _ hB.own (put_one l) hn).mono ?_
  rintro e w1 ⟨v', rfl, ho, hx⟩
  have hlt : ∀ b, v'.ownBlock = some b → w.heap.size ≤ b ∧ b < w1.heap.size := fun b hb => ho.lt b hb
  have HT := Lib.hid hlt
  clear hlt
  obtain ⟨A, cap, rfl, _, hbl⟩ := own_sl ho
  have HB := Lib.hid hbl
  clear hbl
  go_wp2
  go_ret
  refine ⟨w1.heap.size, _, rfl, hx.size, fun b hb => (HT.out b hb).1, ⟨heap_alloc_new _ _, own_ex (own_base ho (fun _ _ => Nat.zero_le _)) (Ex.alloc _ _) (fun _ _ => id), fun h => ?_⟩, hx.alloc' _⟩
  have := (HT.out _ h).2
  omega

theorem clone_nil (w : World) :
    Calls Try.prog 18 #[.pointer none] w fun e w' => e = .returned (.pointer none) ∧ w' = w := by
  go_enter Try.func18, Try.ntmps18
  go_wp2
  go_ret
  exact ⟨rfl, rfl⟩

/-- a hold is lifted -/
def liftL (id : Int) (l : List Put) : List Put := match l.findIdx? (fun x => x.h.id == id) with | some i => l.eraseIdx i | none => l
def liftE (id : Int) (l : List Put) : Int := match l.findIdx? (fun x => x.h.id == id) with | some _ => 0 | none => 4

theorem flat_take {α : Type} (enc : α → List Value) (sz : Nat) (hsz : ∀ x, (enc x).length = sz) (l : List α) : ∀ i, (l.flatMap enc).take (i * sz) = (l.take i).flatMap enc := by
  induction l with
  | nil => intro i; simp
  | cons x l ih =>
    intro i
    cases i with
    | zero => simp
    | succ i => simp only [List.flatMap_cons, List.take_succ_cons]; rw [List.take_append, hsz, List.take_of_length_le (by rw [hsz, Nat.succ_mul]; omega), Nat.succ_mul, Nat.add_sub_cancel, ih]
theorem flat_drop {α : Type} (enc : α → List Value) (sz : Nat) (hsz : ∀ x, (enc x).length = sz) (l : List α) : ∀ i, (l.flatMap enc).drop (i * sz) = (l.drop i).flatMap enc := by
  induction l with
  | nil => intro i; simp
  | cons x l ih =>
    intro i
    cases i with
    | zero => simp
    | succ i => simp only [List.flatMap_cons, List.drop_succ_cons]; rw [List.drop_append, hsz, List.drop_eq_nil_of_le (by rw [hsz, Nat.succ_mul]; omega), Nat.succ_mul, Nat.add_sub_cancel, ih, List.nil_append]

set_option maxHeartbeats 1000000 in
theorem lift_any (p : Nat) (v : Value) (l : List Put) (id : Int) (w : World) (hB : BookAt w p v l) :
    Calls Try.prog 14 #[.pointer (some ⟨p, 0, none⟩), .int .u64 id] w fun e w' => ∃ v', e = .returned (.int .i64 (liftE id l)) ∧ v'.ownBlock = v.ownBlock ∧ BookAt w' p v' (liftL id l) ∧ Ex (fun b => b = p ∨ v.ownBlock = some b) w w' := by
  have hc := hB.cell
  have hl := hB.lt
  cases hf : l.findIdx? (fun x => x.h.id == id) with
  | none =>
    have hi : idxOf (fun x => x.h.id == id) l = -1 := by unfold idxOf; rw [hf]
    have hE : liftE id l = 4 := by unfold liftE; rw [hf]
    have hL : liftL id l = l := by unfold liftL; rw [hf]
    rw [hE, hL]
    clear hf hE hL
    go_enter Try.func14, Try.ntmps14
    go_wp2_with fail
    refine (find_any p v l id _ hB).mono ?_
    rintro e w1 ⟨rfl, hx⟩
    rw [hi]
    go_wp2
    go_ret
    exact ⟨v, rfl, rfl, hB.ex0 hx, hx.to (fun _ _ h => h.elim)⟩
  | some i =>
    have hi : idxOf (fun x => x.h.id == id) l = (i : Int) := by unfold idxOf; rw [hf]
    have hE : liftE id l = 0 := by unfold liftE; rw [hf]
    have hL : liftL id l = l.eraseIdx i := by unfold liftL; rw [hf]
    have hil : i < l.length := by
      rw [List.findIdx?_eq_some_iff_getElem] at hf
      exact hf.1
    rw [hE, hL]
    have ho := hB.own
    have hll : l.length ≤ 9223372036854775807 := by obtain ⟨_, _, _, hs, _⟩ := own_sl ho; exact hs.small
    have HI := Lib.hid hi
    clear hf hE hL hi
    go_enter Try.func14, Try.ntmps14
    go_wp2_with fail
    refine (find_any p v l id _ hB).mono ?_
    rintro e w1 ⟨rfl, hx⟩
    rw [HI.out]
    have hB1 := hB.ex0 hx
    have hc1 := hB1.cell
    have hl1 := hB1.lt
    go_wp2_with fail
    rw [show ((i : Int) + 1) = ((i + 1 : Nat) : Int) from by simp]
    refine (delete_any v l.length i (i + 1) _ w1 hB1.own (put_one l) (by omega) (by omega)).mono ?_
    rintro e w2 ⟨v', rfl, hob, hown, hx2⟩
    have hlen : (l.eraseIdx i).length = l.length - 1 := by rw [List.length_eraseIdx, if_pos hil]
    have hcs : (l.flatMap Put.cells).take (i * 6) ++ (l.flatMap Put.cells).drop ((i + 1) * 6) = (l.eraseIdx i).flatMap Put.cells := by
      rw [flat_take Put.cells 6 Put.len, flat_drop Put.cells 6 Put.len, ← List.flatMap_append, List.eraseIdx_eq_take_drop_succ]
    rw [hcs, show l.length - (i + 1 - i) = (l.eraseIdx i).length by rw [hlen]; omega] at hown
    have HO := Lib.hid hown
    obtain ⟨A, cap, rfl, _, hbl⟩ := own_sl hown
    have hb2 : w2.heap[p]? = some (.cells #[v] 56 (0, 0)) := (hx2.block p hl1 hB1.ne).trans hB1.blk
    have hc2 : w2.cell? ⟨p, 0, none⟩ = some v := by rw [cell_of_row w2 p 0 _ _ _ hb2]; rfl
    have hf2 : w2.frozen? ⟨p, 0, none⟩ = false := frozen_of_row w2 p 0 _ _ hb2
    have HOB := Lib.hid hob
    have HBL := Lib.hid hbl
    have HLN := Lib.hid hlen
    have HB2 := Lib.hid hb2
    clear hob hbl hlen hcs hown hb2
    go_wp2
    go_ret
    refine ⟨_, rfl, HOB.out, ⟨heap_setCell_same w2 p 0 #[v] _ _ HB2.out, own_ex HO.out (Ex.setCell w2 _ _) (fun b hb h => hB.ne ?_), fun h => hB.ne (by rw [← HOB.out]; exact h)⟩, ?_⟩
    · rw [← HOB.out, hb, h]
    · exact (hx.trans hx2 (T := fun b => v.ownBlock = some b) (U := fun b => b = p ∨ v.ownBlock = some b) (fun _ _ h => h.elim) (fun _ _ h => .inr h)).trans (Ex.setCell w2 _ _) (fun _ _ h => h) (fun _ _ h => .inl h)

theorem lift_nil (id : Int) (w : World) :
    Calls Try.prog 14 #[.pointer none, .int .u64 id] w fun e w' => e = .returned (.int .i64 1) ∧ w' = w := by
  go_enter Try.func14, Try.ntmps14
  go_wp2
  go_ret
  exact ⟨rfl, rfl⟩
end Go.Proofs.Ytbolioeopcmfcaa
