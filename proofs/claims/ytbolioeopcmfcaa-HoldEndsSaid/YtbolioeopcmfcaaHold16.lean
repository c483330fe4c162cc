/- Layer 37: an act, by the book and by the document. -/
import Derived.Test.YtbolioeopcmfcaaHold15
namespace Go.Proofs.Ytbolioeopcmfcaa
open Go.RowKit Go.Proofs.YtbolioeopcmfcaaB Go.Shelf

theorem rlift_eq (id : Int) : ∀ (l : List Put), l.Pairwise Rise → rliftL id l = liftL id l
  | [], _ => rfl
  | x :: l, h => by
    obtain ⟨hx, hl⟩ := List.pairwise_cons.1 h
    have ih := rlift_eq id l hl
    unfold rliftL liftL at *
    by_cases e : (x.h.id == id) = true
    · have hf : l.filter (fun x => !(x.h.id == id)) = l := by
        rw [List.filter_eq_self]
        intro y hy
        have := (hx y hy).2.2
        have e' : x.h.id = id := by simpa using e
        simp; rw [← e']; exact fun h => this h.symm
      simp [List.findIdx?_cons, e, hf]
    · have e' : (x.h.id == id) = false := by simpa using e
      rw [List.filter_cons, List.findIdx?_cons, e']
      simp only [Bool.not_false, if_true, Bool.false_eq_true, if_false]
      rw [ih]
      cases hf : l.findIdx? (fun x => x.h.id == id) <;> simp

def doE (l : List Put) (d : DeedA) : Int := if d.lift then liftE d.h.id l else addE d.h d.num d.min l

def DoPost (p : Nat) (v : Value) (l : List Put) (d : DeedA) (w : World) (e : Ending) (w' : World) : Prop :=
  ∃ v' A' cap', e = .returned (.tuple #[.int .i64 (doE l d), .slice A' (playStep l d).length cap', .int .i64 (doE l d)]) ∧ (v'.ownBlock = v.ownBlock ∨ ∃ b, v'.ownBlock = some b ∧ w.heap.size ≤ b) ∧
    BookAt w' p v' (playStep l d) ∧ Sl w' 6 A' (playStep l d).length ((playStep l d).flatMap Put.cells) ∧ (∀ b, Bl A' b → b < w'.heap.size ∧ ¬ (b = p ∨ v'.ownBlock = some b)) ∧ (A' = none → cap' = 0) ∧ Ex (fun b => b = p ∨ v.ownBlock = some b) w w'

set_option maxHeartbeats 2000000 in
theorem do_any (p : Nat) (v : Value) (l : List Put) (A : Option Addr) (cap : Nat) (d : DeedA) (w : World) (hB : BookAt w p v l) (hs : Sl w 6 A l.length (l.flatMap Put.cells)) (hok : PlayOk l)
    (hA : ∀ b, Bl A b → b < w.heap.size ∧ ¬ (b = p ∨ v.ownBlock = some b)) (hcap : A = none → cap = 0) :
    Calls Try.prog 19 #[.pointer (some ⟨p, 0, none⟩), .slice A l.length cap, d.val] w (DoPost p v l d w) := by
  have hm := hs.small
  have hn : l.length ≤ 1000 := by have := hok.len; omega
  obtain ⟨lift, h, num, min⟩ := d
  unfold DeedA.val
  have hpl := hB.lt
  have hvl : ∀ b, v.ownBlock = some b → b < w.heap.size := fun b hb => (hB.own.lt b hb).2
  have HVL := Lib.hid hvl
  have HA := Lib.hid hA
  clear hvl hA
  cases lift with
  | true =>
    go_enter Try.func19, Try.ntmps19
    go_wp2_with fail
    refine (rlift_any A cap l h.id _ (hs.ex0 (Ex.alloc _ _)) hn (fun b hb => by have := (HA.out b hb).1; simp; omega) hcap).mono ?_
    rintro e w1 ⟨A1, cap1, rfl, hs1, hb1, hc1, hx1⟩
    have hx01 := Ex.trans0 (Ex.alloc _ _) hx1
    have hbx : w1.cell? ⟨w.heap.size, 1, none⟩ = some (.int .u64 h.id) := hx1.cellS (by go_simp) not_false
    rw [rlift_eq _ _ hok.rise] at hs1 ⊢
    have hB1 := Lib.hid (hB.ex0 hx01)
    have hap : ∀ b, Bl A1 b → b < w1.heap.size ∧ ¬ (b = p ∨ v.ownBlock = some b) := fun b hb => by
      rcases hb1 b hb with hb' | ⟨h1, h2⟩
      · have := HA.out b hb'; have h3 := hx01.size; exact ⟨by omega, this.2⟩
      · refine ⟨h2, ?_⟩
        simp at h1
        rintro (e | e)
        · omega
        · have := HVL.out b e; omega
    have HAP := Lib.hid hap
    have HX := Lib.hid hx01
    have HS1 := Lib.hid hs1
    have HC1 := Lib.hid hc1
    clear hs1 hb1 hc1 hx1 hx01 hap
    go_wp2_with fail
    refine (lift_any p v l h.id _ hB1.out).mono ?_
    rintro e w2 ⟨v2, rfl, hv2, hB2, hx2⟩
    have HB2 := Lib.hid hB2
    have HX2 := Lib.hid hx2
    have HV2 := Lib.hid hv2
    clear hB2 hx2 hv2
    go_wp2
    go_ret3
    refine ⟨v2, A1, cap1, rfl, .inl HV2.out, HB2.out, HS1.out.ex HX2.out (fun b hb => (HAP.out b hb).2), fun b hb => ?_, HC1.out, HX.out.trans HX2.out (fun _ _ h => h.elim) (fun _ _ h => h)⟩
    have h1 := HAP.out b hb
    have h2 := HX2.out.size
    rw [HV2.out]
    exact ⟨by omega, h1.2⟩
  | false =>
    go_enter Try.func19, Try.ntmps19
    go_wp2_with fail
    refine (radd_any A cap l h num min _ (hs.ex0 (Ex.alloc _ _)) hn (fun b hb => by have := (HA.out b hb).1; simp; omega) hcap).mono ?_
    rintro e w1 ⟨A1, cap1, rfl, hs1, hb1, hc1, hx1⟩
    have hx01 := Ex.trans0 (Ex.alloc _ _) hx1
    obtain ⟨d0, d1, d2, d3, d4, d5, d6⟩ : ActC w.heap.size 0 ⟨false, h, num, min⟩ w1 := ActC.ex ⟨by go_simp, by go_simp, by go_simp, by go_simp, by go_simp, by go_simp, by go_simp⟩ hx1 not_false
    dsimp only at d0 d1 d2 d3 d4 d5 d6
    simp only [Nat.zero_add] at d0 d1 d2 d3 d4 d5 d6
    have hB1 := Lib.hid (hB.ex0 hx01)
    have hap : ∀ b, Bl A1 b → b < w1.heap.size ∧ ¬ (b = p ∨ v.ownBlock = some b) := fun b hb => by
      rcases hb1 b hb with hb' | ⟨h1, h2⟩
      · have := HA.out b hb'; have h3 := hx01.size; exact ⟨by omega, this.2⟩
      · refine ⟨h2, ?_⟩
        simp at h1
        rintro (e | e)
        · omega
        · have := HVL.out b e; omega
    have HAP := Lib.hid hap
    have HX := Lib.hid hx01
    have HS1 := Lib.hid hs1
    have HC1 := Lib.hid hc1
    clear hs1 hb1 hc1 hx1 hx01 hap
    go_wp2_with fail
    refine (add_any p v l h num min _ hB1.out hn).mono ?_
    rintro e w2 ⟨v2, rfl, hv2, hB2, hx2⟩
    have HB2 := Lib.hid hB2
    have HX2 := Lib.hid hx2
    have HV2 := Lib.hid hv2
    clear hB2 hx2 hv2
    go_wp2
    go_ret3
    refine ⟨v2, A1, cap1, rfl, ?_, HB2.out, HS1.out.ex HX2.out (fun b hb => (HAP.out b hb).2), fun b hb => ?_, HC1.out, HX.out.trans HX2.out (fun _ _ h => h.elim) (fun _ _ h => h)⟩
    · rcases HV2.out with h1 | ⟨b, h1, h2⟩
      · exact .inl h1
      · exact .inr ⟨b, h1, Nat.le_trans HX.out.size h2⟩
    · have h1 := HAP.out b hb
      have h2 := HX2.out.size
      refine ⟨by omega, ?_⟩
      rintro (e | e)
      · exact h1.2 (.inl e)
      · rcases HV2.out with h3 | ⟨c, h3, h4⟩
        · exact h1.2 (.inr (by rw [← h3]; exact e))
        · rw [h3] at e; cases e; omega
end Go.Proofs.Ytbolioeopcmfcaa
