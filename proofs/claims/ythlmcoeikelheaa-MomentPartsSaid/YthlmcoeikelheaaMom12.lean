/- Layer 28: a deed on both tables. -/
import Derived.Test.YthlmcoeikelheaaMom11
import Derived.Deep.QuietTactic
import Derived.BigQuiet
namespace Go.Proofs.Ythlmcoeikelheaa
open Go.RowKit Go.Proofs.YthlmcoeikelheaaB Go.Shelf

def DoPost (w0 : World) (p px : Nat) (l : List It) (d : DeedM) (e : Ending) (w' : World) : Prop :=
  e = .returned (.int .i64 1) ∧ ∃ v' d', Both w0 p px v' d' (momStep l d) w'

set_option maxRecDepth 100000 in
set_option maxHeartbeats 4000000 in
theorem do_any (w0 : World) (p px : Nat) (v : Value) (dv : DocV) (l : List It) (d : DeedM) (w : World) (hB : Both w0 p px v dv l w) (hl : l.length ≤ 900) :
    Calls Try.prog 15 #[.pointer (some ⟨p, 0, none⟩), .pointer (some ⟨px, 0, none⟩), d.val] w (DoPost w0 p px l d) := by
  obtain ⟨kind, num, min⟩ := d
  unfold DeedM.val
  have hok := ok_step (l := l) ⟨kind, num, min⟩ hB.ok hl
  have HOK := Lib.hid hok
  have HB := Lib.hid (hB.ex0 (Ex.alloc w (.cells #[.int .i64 kind, .int .u64 num, .int .i64 min] 35)))
  have hst : momStep l ⟨kind, num, min⟩ = if kind = 0 then addL num min l else if kind = 1 then relL num l else if kind = 2 then dropL num l else l := rfl
  have HST := Lib.hid hst
  have hbx0 : ¬ (w.heap.size = p ∨ v.ownBlock = some w.heap.size) := by
    rintro (e | e)
    · have := hB.T.lt; omega
    · have := (hB.T.own.lt _ e).2; omega
  have HBX := Lib.hid hbx0
  have hbp : ¬ (w.heap.size = px) := fun e => by have := hB.D.lt; omega
  have HBP := Lib.hid hbp
  clear hok hB hst hbx0 hbp
  by_cases h0 : kind = 0
  · subst h0
    have hs : momStep l ⟨0, num, min⟩ = addL num min l := rfl
    rw [hs] at HOK
    have HS := Lib.hid hs
    clear hs
    go_enter Try.func15, Try.ntmps15
    go_wp2_with fail
    have c1 : (w.alloc (.cells #[.int .i64 0, .int .u64 num, .int .i64 min] 35)).cell? ⟨w.heap.size, 1, none⟩ = some (.int .u64 num) := by go_simp
    have c2 : (w.alloc (.cells #[.int .i64 0, .int .u64 num, .int .i64 min] 35)).cell? ⟨w.heap.size, 2, none⟩ = some (.int .i64 min) := by go_simp
    generalize hgb : w.alloc (.cells #[.int .i64 0, .int .u64 num, .int .i64 min] 35) = wb at *
    clear hgb
    have hee : (addE num min l != addE num min l) = false := by simp
    go_region_held3 (fun w' => w'.cell? ⟨w.heap.size, 1, none⟩ = some (.int .u64 num) ∧ w'.cell? ⟨w.heap.size, 2, none⟩ = some (.int .i64 min))
      (first | go_keep | exact ⟨hy1.out.cellS c1 HBX.out, hy1.out.cellS c2 HBX.out⟩ | exact ⟨hy2.out.cellS (hy1.out.cellS c1 HBX.out) HBP.out, hy2.out.cellS (hy1.out.cellS c2 HBX.out) HBP.out⟩)
      (first | (go_at_call 20; refine (add_any p v l num min _ (HB.out.T.ex0 (Ex.drew _)) HB.out.ok hl).mono ?_; rintro e w4 ⟨v', rfl, hv', hT', hx4⟩; have hy1 := Lib.hid hx4; have HT1 := Lib.hid hT'; have HV1 := Lib.hid hv'; clear hx4 hT' hv') | (go_at_call 36; refine (radd_any px dv l num min _ (HB.out.mid (Ex.drew _) hy1.out) HB.out.ok hl).mono ?_; rintro e w5 ⟨d', rfl, hD', hb', hx5⟩; have hy2 := Lib.hid hx5; have HD1 := Lib.hid hD'; have HBB := Lib.hid hb'; clear hx5 hD' hb'))
    go_wp2
    go_ret
    exact ⟨rfl, v', d', by rw [HS.out]; exact HB.out.step (Ex.drew _) HV1.out HT1.out hy1.out (Ex.refl _ _) HD1.out HBB.out hy2.out HOK.out⟩
  by_cases h1 : kind = 1
  · subst h1
    have hs : momStep l ⟨1, num, min⟩ = relL num l := rfl
    rw [hs] at HOK
    have HS := Lib.hid hs
    clear hs
    go_enter Try.func15, Try.ntmps15
    go_wp2_with fail
    have c1 : (w.alloc (.cells #[.int .i64 1, .int .u64 num, .int .i64 min] 35)).cell? ⟨w.heap.size, 1, none⟩ = some (.int .u64 num) := by go_simp
    have c2 : (w.alloc (.cells #[.int .i64 1, .int .u64 num, .int .i64 min] 35)).cell? ⟨w.heap.size, 2, none⟩ = some (.int .i64 min) := by go_simp
    generalize hgb : w.alloc (.cells #[.int .i64 1, .int .u64 num, .int .i64 min] 35) = wb at *
    clear hgb
    have hee : (relE num l != relE num l) = false := by simp
    go_region_held3 (fun w' => w'.cell? ⟨w.heap.size, 1, none⟩ = some (.int .u64 num) ∧ w'.cell? ⟨w.heap.size, 2, none⟩ = some (.int .i64 min))
      (first | go_keep | exact ⟨hy1.out.cellS c1 HBX.out, hy1.out.cellS c2 HBX.out⟩ | exact ⟨hy2.out.cellS (hy1.out.cellS c1 HBX.out) HBP.out, hy2.out.cellS (hy1.out.cellS c2 HBX.out) HBP.out⟩)
      (first | (go_at_call 22; refine (release_any p v l num _ (HB.out.T.ex0 (Ex.drew _)) HB.out.ok).mono ?_; rintro e w4 ⟨v', rfl, hv', hT', hx4⟩; have hy1 := Lib.hid hx4; have HT1 := Lib.hid hT'; have HV1 := Lib.hid hv'; clear hx4 hT' hv') | (go_at_call 37; refine (rrelease_any px dv l num _ (HB.out.mid (Ex.drew _) hy1.out) HB.out.ok).mono ?_; rintro e w5 ⟨d', rfl, hD', hb', hx5⟩; have hy2 := Lib.hid hx5; have HD1 := Lib.hid hD'; have HBB := Lib.hid hb'; clear hx5 hD' hb'))
    go_wp2
    go_ret
    exact ⟨rfl, v', d', by rw [HS.out]; exact HB.out.step (Ex.drew _) HV1.out HT1.out hy1.out (Ex.refl _ _) HD1.out HBB.out hy2.out HOK.out⟩
  by_cases h2 : kind = 2
  · subst h2
    have hs : momStep l ⟨2, num, min⟩ = dropL num l := rfl
    rw [hs] at HOK
    have HS := Lib.hid hs
    clear hs
    go_enter Try.func15, Try.ntmps15
    go_wp2_with fail
    have c1 : (w.alloc (.cells #[.int .i64 2, .int .u64 num, .int .i64 min] 35)).cell? ⟨w.heap.size, 1, none⟩ = some (.int .u64 num) := by go_simp
    have c2 : (w.alloc (.cells #[.int .i64 2, .int .u64 num, .int .i64 min] 35)).cell? ⟨w.heap.size, 2, none⟩ = some (.int .i64 min) := by go_simp
    generalize hgb : w.alloc (.cells #[.int .i64 2, .int .u64 num, .int .i64 min] 35) = wb at *
    clear hgb
    have hee : (dropE num l != dropE num l) = false := by simp
    go_region_held3 (fun w' => w'.cell? ⟨w.heap.size, 1, none⟩ = some (.int .u64 num) ∧ w'.cell? ⟨w.heap.size, 2, none⟩ = some (.int .i64 min))
      (first | go_keep | exact ⟨hy1.out.cellS c1 HBX.out, hy1.out.cellS c2 HBX.out⟩ | exact ⟨hy2.out.cellS (hy1.out.cellS c1 HBX.out) HBP.out, hy2.out.cellS (hy1.out.cellS c2 HBX.out) HBP.out⟩)
      (first | (go_at_call 23; refine (drop_any p v l num _ (HB.out.T.ex0 (Ex.drew _)) HB.out.ok).mono ?_; rintro e w4 ⟨v', rfl, hv', hT', hx4⟩; have hy1 := Lib.hid hx4; have HT1 := Lib.hid hT'; have HV1 := Lib.hid hv'; clear hx4 hT' hv') | (go_at_call 38; refine (rdrop_any px dv l num _ (HB.out.mid (Ex.drew _) hy1.out) HB.out.ok).mono ?_; rintro e w5 ⟨d', rfl, hD', hb', hx5⟩; have hy2 := Lib.hid hx5; have HD1 := Lib.hid hD'; have HBB := Lib.hid hb'; clear hx5 hD' hb'))
    go_wp2
    go_ret
    exact ⟨rfl, v', d', by rw [HS.out]; exact HB.out.step (Ex.drew _) HV1.out HT1.out hy1.out (Ex.refl _ _) HD1.out HBB.out hy2.out HOK.out⟩
  have hs : momStep l ⟨kind, num, min⟩ = l := by rw [HST.out, if_neg h0, if_neg h1, if_neg h2]
  have HS := Lib.hid hs
  have e0 : (kind == 0) = false := by rw [beq_eq_false_iff_ne]; exact h0
  have e1 : (kind == 1) = false := by rw [beq_eq_false_iff_ne]; exact h1
  have e2 : (kind == 2) = false := by rw [beq_eq_false_iff_ne]; exact h2
  clear hs h0 h1 h2
  go_enter Try.func15, Try.ntmps15
  go_wp2
  go_ret
  exact ⟨rfl, v, dv, by rw [HS.out]; exact HB.out⟩
end Go.Proofs.Ythlmcoeikelheaa
