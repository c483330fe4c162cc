/- Layer 28: a deed on both tables, and what it leaves alone. -/
import Derived.Test.YthlmcoeikelheaaMom29
import Derived.Deep.QuietTactic
import Derived.BigQuiet
namespace Go.Proofs.Ythlmcoeikelheaa
open Go.RowKit Go.Proofs.YthlmcoeikelheaaB Go.Shelf

def DoPost2 (w0 : World) (p px : Nat) (v : Value) (dv : DocV) (l : List It) (d : DeedM) (w : World) (e : Ending) (w' : World) : Prop :=
  e = .returned (.int .i64 1) ∧ ∃ v' d', Both w0 p px v' d' (momStep l d) w' ∧ Ex (fun b => b = p ∨ v.ownBlock = some b ∨ b = px) w w' ∧ (v'.ownBlock = v.ownBlock ∨ ∃ b, v'.ownBlock = some b ∧ w.heap.size ≤ b) ∧ ∀ b, Bld d' b → Bld dv b ∨ w.heap.size ≤ b
theorem doPost2_mk {w0 : World} {p px : Nat} {v v' : Value} {dv d' : DocV} {l : List It} {d : DeedM} {w wb wa w1 w2 : World} (hb : Both w0 p px v' d' (momStep l d) w2) (hx0 : Ex0 w wb) (hx : Ex0 wb wa) (hx1 : Ex (fun b => b = p ∨ v.ownBlock = some b) wa w1) (hx2 : Ex (· = px) w1 w2)
    (hv : v'.ownBlock = v.ownBlock ∨ ∃ b, v'.ownBlock = some b ∧ wa.heap.size ≤ b) (hd : ∀ b, Bld d' b → Bld dv b ∨ w1.heap.size ≤ b) : DoPost2 w0 p px v dv l d w (.returned (.int .i64 1)) w2 := by
  have s0 := hx0.size
  have s1 := hx.size
  have s2 := hx1.size
  refine ⟨rfl, v', d', hb, ((hx0.trans0 hx).trans hx1 (U := fun b => b = p ∨ v.ownBlock = some b ∨ b = px) (fun _ _ h => h.elim) (fun _ _ h => h.imp id .inl)).trans hx2 (fun _ _ h => h) (fun _ _ h => .inr (.inr h)), ?_, ?_⟩
  · rcases hv with h | ⟨b, h1, h2⟩
    · exact .inl h
    · exact .inr ⟨b, h1, by omega⟩
  · intro b hb'
    rcases hd b hb' with h | h
    · exact .inl h
    · exact .inr (by omega)

set_option maxRecDepth 100000 in
set_option maxHeartbeats 4000000 in
theorem do2_any (w0 : World) (p px : Nat) (v : Value) (dv : DocV) (l : List It) (d : DeedM) (w : World) (hB : Both w0 p px v dv l w) (hl : l.length ≤ 900) :
    Calls Try.prog 15 #[.pointer (some ⟨p, 0, none⟩), .pointer (some ⟨px, 0, none⟩), d.val] w (DoPost2 w0 p px v dv l d w) := by
  obtain ⟨kind, num, min⟩ := d
  unfold DeedM.val
  have hok := ok_step (l := l) ⟨kind, num, min⟩ hB.ok hl
  have HOK := Lib.hid hok
  have HB := Lib.hid (hB.ex0 (Ex.alloc w (.cells #[.int .i64 kind, .int .u64 num, .int .i64 min] 35)))
  have hst : momStep l ⟨kind, num, min⟩ = if kind = 0 then addL num min l else if kind = 1 then relL num l else if kind = 2 then dropL num l else l := rfl
  have HST := Lib.hid hst
  have hbx0 : ¬ (w.heap.size = p ∨ v.ownBlock = some w.heap.size) := by
    rintro (e | e)
    · have := hB.T.lt; omega
    · have := (hB.T.own.lt _ e).2; omega
  have HBX := Lib.hid hbx0
  have hbp : ¬ (w.heap.size = px) := fun e => by have := hB.D.lt; omega
  have HBP := Lib.hid hbp
  clear hok hB hst hbx0 hbp
  by_cases h0 : kind = 0
  · subst h0
    have hs : momStep l ⟨0, num, min⟩ = addL num min l := rfl
    rw [hs] at HOK
    have HS := Lib.hid hs
    clear hs
    go_enter Try.func15, Try.ntmps15
    go_wp2_with fail
    have c1 : (w.alloc (.cells #[.int .i64 0, .int .u64 num, .int .i64 min] 35)).cell? ⟨w.heap.size, 1, none⟩ = some (.int .u64 num) := by go_simp
    have c2 : (w.alloc (.cells #[.int .i64 0, .int .u64 num, .int .i64 min] 35)).cell? ⟨w.heap.size, 2, none⟩ = some (.int .i64 min) := by go_simp
    have HX0 := Lib.hid (Ex.alloc w (.cells #[.int .i64 0, .int .u64 num, .int .i64 min] 35))
    generalize hgb : w.alloc (.cells #[.int .i64 0, .int .u64 num, .int .i64 min] 35) = wb at *
    clear hgb
    have hee : (addE num min l != addE num min l) = false := by simp
    go_region_held3 (fun w' => w'.cell? ⟨w.heap.size, 1, none⟩ = some (.int .u64 num) ∧ w'.cell? ⟨w.heap.size, 2, none⟩ = some (.int .i64 min))
      (first | go_keep | exact ⟨hy1.out.cellS c1 HBX.out, hy1.out.cellS c2 HBX.out⟩ | exact ⟨hy2.out.cellS (hy1.out.cellS c1 HBX.out) HBP.out, hy2.out.cellS (hy1.out.cellS c2 HBX.out) HBP.out⟩)
      (first | (go_at_call 20; refine (add_any p v l num min _ (HB.out.T.ex0 (Ex.drew _)) HB.out.ok hl).mono ?_; rintro e w4 ⟨v', rfl, hv', hT', hx4⟩; have hy1 := Lib.hid hx4; have HT1 := Lib.hid hT'; have HV1 := Lib.hid hv'; clear hx4 hT' hv') | (go_at_call 36; refine (radd_any px dv l num min _ (HB.out.mid (Ex.drew _) hy1.out) HB.out.ok hl).mono ?_; rintro e w5 ⟨d', rfl, hD', hb', hx5⟩; have hy2 := Lib.hid hx5; have HD1 := Lib.hid hD'; have HBB := Lib.hid hb'; clear hx5 hD' hb'))
    go_wp2
    go_ret
    exact doPost2_mk (by rw [HS.out]; exact HB.out.step (Ex.drew _) HV1.out HT1.out hy1.out (Ex.refl _ _) HD1.out HBB.out hy2.out HOK.out) HX0.out (Ex.drew _) hy1.out hy2.out HV1.out HBB.out
  by_cases h1 : kind = 1
  · subst h1
    have hs : momStep l ⟨1, num, min⟩ = relL num l := rfl
    rw [hs] at HOK
    have HS := Lib.hid hs
    clear hs
    go_enter Try.func15, Try.ntmps15
    go_wp2_with fail
    have c1 : (w.alloc (.cells #[.int .i64 1, .int .u64 num, .int .i64 min] 35)).cell? ⟨w.heap.size, 1, none⟩ = some (.int .u64 num) := by go_simp
    have c2 : (w.alloc (.cells #[.int .i64 1, .int .u64 num, .int .i64 min] 35)).cell? ⟨w.heap.size, 2, none⟩ = some (.int .i64 min) := by go_simp
    have HX0 := Lib.hid (Ex.alloc w (.cells #[.int .i64 1, .int .u64 num, .int .i64 min] 35))
    generalize hgb : w.alloc (.cells #[.int .i64 1, .int .u64 num, .int .i64 min] 35) = wb at *
    clear hgb
    have hee : (relE num l != relE num l) = false := by simp
    go_region_held3 (fun w' => w'.cell? ⟨w.heap.size, 1, none⟩ = some (.int .u64 num) ∧ w'.cell? ⟨w.heap.size, 2, none⟩ = some (.int .i64 min))
      (first | go_keep | exact ⟨hy1.out.cellS c1 HBX.out, hy1.out.cellS c2 HBX.out⟩ | exact ⟨hy2.out.cellS (hy1.out.cellS c1 HBX.out) HBP.out, hy2.out.cellS (hy1.out.cellS c2 HBX.out) HBP.out⟩)
      (first | (go_at_call 22; refine (release_any p v l num _ (HB.out.T.ex0 (Ex.drew _)) HB.out.ok).mono ?_; rintro e w4 ⟨v', rfl, hv', hT', hx4⟩; have hy1 := Lib.hid hx4; have HT1 := Lib.hid hT'; have HV1 := Lib.hid hv'; clear hx4 hT' hv') | (go_at_call 37; refine (rrelease_any px dv l num _ (HB.out.mid (Ex.drew _) hy1.out) HB.out.ok).mono ?_; rintro e w5 ⟨d', rfl, hD', hb', hx5⟩; have hy2 := Lib.hid hx5; have HD1 := Lib.hid hD'; have HBB := Lib.hid hb'; clear hx5 hD' hb'))
    go_wp2
    go_ret
    exact doPost2_mk (by rw [HS.out]; exact HB.out.step (Ex.drew _) HV1.out HT1.out hy1.out (Ex.refl _ _) HD1.out HBB.out hy2.out HOK.out) HX0.out (Ex.drew _) hy1.out hy2.out HV1.out HBB.out
  by_cases h2 : kind = 2
  · subst h2
    have hs : momStep l ⟨2, num, min⟩ = dropL num l := rfl
    rw [hs] at HOK
    have HS := Lib.hid hs
    clear hs
    go_enter Try.func15, Try.ntmps15
    go_wp2_with fail
    have c1 : (w.alloc (.cells #[.int .i64 2, .int .u64 num, .int .i64 min] 35)).cell? ⟨w.heap.size, 1, none⟩ = some (.int .u64 num) := by go_simp
    have c2 : (w.alloc (.cells #[.int .i64 2, .int .u64 num, .int .i64 min] 35)).cell? ⟨w.heap.size, 2, none⟩ = some (.int .i64 min) := by go_simp
    have HX0 := Lib.hid (Ex.alloc w (.cells #[.int .i64 2, .int .u64 num, .int .i64 min] 35))
    generalize hgb : w.alloc (.cells #[.int .i64 2, .int .u64 num, .int .i64 min] 35) = wb at *
    clear hgb
    have hee : (dropE num l != dropE num l) = false := by simp
    go_region_held3 (fun w' => w'.cell? ⟨w.heap.size, 1, none⟩ = some (.int .u64 num) ∧ w'.cell? ⟨w.heap.size, 2, none⟩ = some (.int .i64 min))
      (first | go_keep | exact ⟨hy1.out.cellS c1 HBX.out, hy1.out.cellS c2 HBX.out⟩ | exact ⟨hy2.out.cellS (hy1.out.cellS c1 HBX.out) HBP.out, hy2.out.cellS (hy1.out.cellS c2 HBX.out) HBP.out⟩)
      (first | (go_at_call 23; refine (drop_any p v l num _ (HB.out.T.ex0 (Ex.drew _)) HB.out.ok).mono ?_; rintro e w4 ⟨v', rfl, hv', hT', hx4⟩; have hy1 := Lib.hid hx4; have HT1 := Lib.hid hT'; have HV1 := Lib.hid hv'; clear hx4 hT' hv') | (go_at_call 38; refine (rdrop_any px dv l num _ (HB.out.mid (Ex.drew _) hy1.out) HB.out.ok).mono ?_; rintro e w5 ⟨d', rfl, hD', hb', hx5⟩; have hy2 := Lib.hid hx5; have HD1 := Lib.hid hD'; have HBB := Lib.hid hb'; clear hx5 hD' hb'))
    go_wp2
    go_ret
    exact doPost2_mk (by rw [HS.out]; exact HB.out.step (Ex.drew _) HV1.out HT1.out hy1.out (Ex.refl _ _) HD1.out HBB.out hy2.out HOK.out) HX0.out (Ex.drew _) hy1.out hy2.out HV1.out HBB.out
  have hs : momStep l ⟨kind, num, min⟩ = l := by rw [HST.out, if_neg h0, if_neg h1, if_neg h2]
  have HS := Lib.hid hs
  have e0 : (kind == 0) = false := by rw [beq_eq_false_iff_ne]; exact h0
  have e1 : (kind == 1) = false := by rw [beq_eq_false_iff_ne]; exact h1
  have e2 : (kind == 2) = false := by rw [beq_eq_false_iff_ne]; exact h2
  clear hs h0 h1 h2
  go_enter Try.func15, Try.ntmps15
  go_wp2
  go_ret
  exact ⟨rfl, v, dv, by rw [HS.out]; exact HB.out, (Ex.alloc w _).to (fun _ _ h => h.elim), .inl rfl, fun b h => .inl h⟩

/-- whose a pair's blocks are -/
def OB (p px : Nat) (v : Value) (d : DocV) (b : Nat) : Prop := b = p ∨ v.ownBlock = some b ∨ b = px ∨ Bld d b
theorem Both.lt {w0 : World} {p px : Nat} {v : Value} {d : DocV} {l : List It} {w : World} (h : Both w0 p px v d l w) {b : Nat} (hb : OB p px v d b) : b < w.heap.size := by
  rcases hb with rfl | hb | rfl | hb
  · exact h.T.lt
  · exact (h.T.own.lt b hb).2
  · exact h.D.lt
  · exact (h.D.ap b hb).2
theorem Both.exS {S : Nat → Prop} {w0 : World} {p px : Nat} {v : Value} {d : DocV} {l : List It} {w w' : World} (h : Both w0 p px v d l w) (hx : Ex S w w') (h1 : ∀ b, OB p px v d b → ¬ S b) (h2 : ∀ b, S b → w0.heap.size ≤ b) : Both w0 p px v d l w' :=
  ⟨h.T.ex hx (h1 _ (.inl rfl)) (fun b hb => h1 b (.inr (.inl hb))), h.D.ex hx (h1 _ (.inr (.inr (.inl rfl)))) (fun b hb => h1 b (.inr (.inr (.inr hb)))), h.ok, h.sp, h.ge, h.bel.trans (hx.below h.bel.size h2)⟩
theorem Both.base {w0 w00 : World} {p px : Nat} {v : Value} {d : DocV} {l : List It} {w : World} (h : Both w0 p px v d l w) (hb : Below w00.heap.size w00 w0) : Both w00 p px v d l w := by
  have := hb.size
  exact ⟨h.T, h.D, h.ok, h.sp, ⟨by have := h.ge.1; omega, by have := h.ge.2.1; omega, fun b hb' => by have := h.ge.2.2 b hb'; omega⟩, hb.trans (h.bel.mono (by omega))⟩

/-- two pairs, apart -/
structure Four (w0 : World) (p px : Nat) (v : Value) (d : DocV) (l : List It) (u ux : Nat) (v2 : Value) (d2 : DocV) (l2 : List It) (w : World) : Prop where
  A : Both w0 p px v d l w
  B : Both w0 u ux v2 d2 l2 w
  dj : ∀ b, OB p px v d b → ¬ OB u ux v2 d2 b
theorem Four.swap {w0 : World} {p px : Nat} {v : Value} {d : DocV} {l : List It} {u ux : Nat} {v2 : Value} {d2 : DocV} {l2 : List It} {w : World} (h : Four w0 p px v d l u ux v2 d2 l2 w) : Four w0 u ux v2 d2 l2 p px v d l w :=
  ⟨h.B, h.A, fun b h1 h2 => h.dj b h2 h1⟩
theorem Four.ex0 {w0 : World} {p px : Nat} {v : Value} {d : DocV} {l : List It} {u ux : Nat} {v2 : Value} {d2 : DocV} {l2 : List It} {w w' : World} (h : Four w0 p px v d l u ux v2 d2 l2 w) (hx : Ex0 w w') : Four w0 p px v d l u ux v2 d2 l2 w' := ⟨h.A.ex0 hx, h.B.ex0 hx, h.dj⟩
/-- a deed on the first pair -/
theorem Four.deed {w0 : World} {p px : Nat} {v : Value} {d : DocV} {l : List It} {u ux : Nat} {v2 : Value} {d2 : DocV} {l2 : List It} {w w' : World} {e : Ending} {dd : DeedM} (h : Four w0 p px v d l u ux v2 d2 l2 w) (hp : DoPost2 w0 p px v d l dd w e w') :
    e = .returned (.int .i64 1) ∧ ∃ v' d', Four w0 p px v' d' (momStep l dd) u ux v2 d2 l2 w' := by
  obtain ⟨rfl, v', d', hB, hx, hv, hd⟩ := hp
  have hS : ∀ b, (b = p ∨ v.ownBlock = some b ∨ b = px) → OB p px v d b := fun b hb => by
    rcases hb with h | h | h
    · exact .inl h
    · exact .inr (.inl h)
    · exact .inr (.inr (.inl h))
  refine ⟨rfl, v', d', hB, h.B.exS hx (fun b hb hs => h.dj b (hS b hs) hb) (fun b hb => ?_), fun b hb hb2 => ?_⟩
  · rcases hb with rfl | hb | rfl
    · exact h.A.ge.1
    · exact h.A.ge.2.2 b hb
    · exact h.A.ge.2.1
  · have hl := h.B.lt hb2
    rcases hb with e | e | e | e
    · exact h.dj b (.inl e) hb2
    · rcases hv with h1 | ⟨c, h1, h2⟩
      · exact h.dj b (.inr (.inl (by rw [← h1]; exact e))) hb2
      · rw [h1] at e; cases e; omega
    · exact h.dj b (.inr (.inr (.inl e))) hb2
    · rcases hd b e with h1 | h1
      · exact h.dj b (.inr (.inr (.inr h1))) hb2
      · omega
end Go.Proofs.Ythlmcoeikelheaa
