/- Contracts of layer 37: the law's own small functions. -/
import Derived.Test.YtbolioeopcmfcaaHold10
namespace Go.Proofs.Ytbolioeopcmfcaa
open Go.RowKit Go.Proofs.YtbolioeopcmfcaaB Go.Shelf

def min2 (a b : Int) : Int := if a < b then a else b
theorem min2_lt {a b : Int} (h : a < b) : a = min2 a b := by unfold min2; rw [if_pos h]
theorem min2_ge {a b : Int} (h : ¬ a < b) : b = min2 a b := by unfold min2; rw [if_neg h]
theorem min2_any (a b : Int) (w : World) : Calls Try.prog 17 #[.int .i64 a, .int .i64 b] w fun e w' => e = .returned (.int .i64 (min2 a b)) ∧ w' = w := by
  by_cases h : a < b
  · have H := Lib.hid h
    go_enter Try.func17, Try.ntmps17
    go_wp2
    go_ret
    exact ⟨ret_int (min2_lt H.out), rfl⟩
  · have H := Lib.hid h
    go_enter Try.func17, Try.ntmps17
    go_wp2
    go_ret
    exact ⟨ret_int (min2_ge (by have := H.out; omega)), rfl⟩

theorem put_ne {x y : Put} (h : x ≠ y) : (x.h.id == y.h.id) = false ∨ (x.h.id == y.h.id) = true ∧ ((x.h.fr == y.h.fr) = false ∨ (x.h.fr == y.h.fr) = true ∧ ((x.h.to == y.h.to) = false ∨ (x.h.to == y.h.to) = true ∧ ((x.h.til == y.h.til) = false ∨ (x.h.til == y.h.til) = true ∧ ((x.num == y.num) = false ∨ (x.num == y.num) = true ∧ (x.min == y.min) = false)))) := by
  obtain ⟨⟨a1, a2, a3, a4⟩, a5, a6⟩ := x
  obtain ⟨⟨b1, b2, b3, b4⟩, b5, b6⟩ := y
  simp only [ne_eq, Put.mk.injEq, Held.mk.injEq] at h
  by_cases h1 : a1 = b1 <;> by_cases h2 : a2 = b2 <;> by_cases h3 : a3 = b3 <;> by_cases h4 : a4 = b4 <;> by_cases h5 : a5 = b5 <;> simp_all

theorem list_ne_at {l1 l2 : List Put} {k : Nat} (h1 : k < l1.length) (h2 : k < l2.length) (h : l1[k] ≠ l2[k]) : decide (l1 = l2) = false := by
  rw [decide_eq_false_iff_not]
  intro e; subst e; exact h rfl

set_option maxHeartbeats 4000000 in
theorem same_any (A B : Option Addr) (ca cb : Nat) (l1 l2 : List Put) (w : World) (ha : Sl w 6 A l1.length (l1.flatMap Put.cells)) (hb : Sl w 6 B l2.length (l2.flatMap Put.cells)) :
    Calls Try.prog 20 #[.slice A l1.length ca, .slice B l2.length cb] w fun e w' => e = .returned (.bool (decide (l1 = l2))) ∧ Ex0 w w' := by
  have hm := ha.small
  have hm2 := hb.small
  by_cases hlen : l1.length = l2.length
  case neg =>
    have hd : decide (l1 = l2) = false := by rw [decide_eq_false_iff_not]; intro e; exact hlen (congrArg List.length e)
    have HD := Lib.hid hd
    have hne : ((l1.length : Int) != (l2.length : Int)) = true := by rw [bne_iff_ne]; omega
    clear hd
    go_enter Try.func20, Try.ntmps20
    go_wp2
    go_ret
    exact ⟨by rw [HD.out]; rfl, Ex.refl _ _⟩
  have hne : ((l1.length : Int) != (l2.length : Int)) = false := by rw [hlen]; simp
  have HL := Lib.hid hlen
  clear hlen
  go_enter Try.func20, Try.ntmps20
  go_wp2
  go_loopw [5] (fun i wr => ∃ k : Nat, k ≤ l1.length ∧ i = .int .i64 k ∧ Ex0 w wr ∧ ∀ j (h1 : j < l1.length) (h2 : j < l2.length), j < k → l1[j] = l2[j]) (fun i _ => l1.length - (intOf i).toNat)
  case atStart => exact ⟨0, Nat.zero_le _, rfl, Ex.refl _ _, fun j h h' hj => by omega⟩
  case round =>
    obtain ⟨k, hk, rfl, hx, hq⟩ := hrel
    by_cases hlt : k < l1.length
    · obtain ⟨ga, oa, hl1, rfl, hra⟩ := (ha.ex0 hx).row Put.len (by omega) hlt
      obtain ⟨gb, ob, hl2, rfl, hrb⟩ := (hb.ex0 hx).row Put.len (by omega) (by rw [← HL.out]; exact hlt)
      have hi0' : (0 : Int) ≤ (k : Int) := Int.natCast_nonneg _
      have hi1 : (k : Int) < (l1.length : Int) := by omega
      have hi2 : (k : Int) < (l2.length : Int) := by omega
      have c0 : wr.cell? ⟨ga, oa + k * 6, none⟩ = some (.int .u64 l1[k].h.id) := by simpa [Addr.add] using hra 0 _ rfl
      have c1 : wr.cell? ⟨ga, oa + k * 6 + 1, none⟩ = some (.int .i64 l1[k].h.fr) := by simpa [Addr.add] using hra 1 _ rfl
      have c2 : wr.cell? ⟨ga, oa + k * 6 + 2, none⟩ = some (.int .i64 l1[k].h.to) := by simpa [Addr.add] using hra 2 _ rfl
      have c3 : wr.cell? ⟨ga, oa + k * 6 + 3, none⟩ = some (.int .i64 l1[k].h.til) := by simpa [Addr.add] using hra 3 _ rfl
      have c4 : wr.cell? ⟨ga, oa + k * 6 + 4, none⟩ = some (.int .u64 l1[k].num) := by simpa [Addr.add] using hra 4 _ rfl
      have c5 : wr.cell? ⟨ga, oa + k * 6 + 5, none⟩ = some (.int .i64 l1[k].min) := by simpa [Addr.add] using hra 5 _ rfl
      have d0 : wr.cell? ⟨gb, ob + k * 6, none⟩ = some (.int .u64 l2[k].h.id) := by simpa [Addr.add] using hrb 0 _ rfl
      have d1 : wr.cell? ⟨gb, ob + k * 6 + 1, none⟩ = some (.int .i64 l2[k].h.fr) := by simpa [Addr.add] using hrb 1 _ rfl
      have d2 : wr.cell? ⟨gb, ob + k * 6 + 2, none⟩ = some (.int .i64 l2[k].h.to) := by simpa [Addr.add] using hrb 2 _ rfl
      have d3 : wr.cell? ⟨gb, ob + k * 6 + 3, none⟩ = some (.int .i64 l2[k].h.til) := by simpa [Addr.add] using hrb 3 _ rfl
      have d4 : wr.cell? ⟨gb, ob + k * 6 + 4, none⟩ = some (.int .u64 l2[k].num) := by simpa [Addr.add] using hrb 4 _ rfl
      have d5 : wr.cell? ⟨gb, ob + k * 6 + 5, none⟩ = some (.int .i64 l2[k].min) := by simpa [Addr.add] using hrb 5 _ rfl
      clear hra hrb
      by_cases he : l1[k] = l2[k]
      · have HE := Lib.hid he
        have e0 : (l1[k].h.id == l2[k].h.id) = true := by rw [he]; simp
        have e1 : (l1[k].h.fr == l2[k].h.fr) = true := by rw [he]; simp
        have e2 : (l1[k].h.to == l2[k].h.to) = true := by rw [he]; simp
        have e3 : (l1[k].h.til == l2[k].h.til) = true := by rw [he]; simp
        have e4 : (l1[k].num != l2[k].num) = false := by rw [he]; simp
        have e5 : (l1[k].min != l2[k].min) = false := by rw [he]; simp
        clear he
        have HQ := Lib.hid hq
        clear hq
        generalize hxg : l1[k] = x at c0 c1 c2 c3 c4 c5 e0 e1 e2 e3 e4 e5
        generalize hyg : l2[k] = y at d0 d1 d2 d3 d4 d5 e0 e1 e2 e3 e4 e5
        clear hxg hyg
        go_wp2
        go_quiet (fail)
        go_wp2
        go_roundw
        case rel => exact ⟨k + 1, by omega, by go_num, hx.drewN' _, fun j h1 h2 hj => by
            by_cases e : j = k
            · subst e; exact HE.out
            · exact HQ.out j h1 h2 (by omega)⟩
        case measure => simp [intOf]; omega
      · have hd := list_ne_at hl1 hl2 he
        have HD := Lib.hid hd
        have hn := put_ne he
        clear hd he
        have HQ := Lib.hid hq
        clear hq
        generalize hxg : l1[k] = x at c0 c1 c2 c3 c4 c5 hn
        generalize hyg : l2[k] = y at d0 d1 d2 d3 d4 d5 hn
        clear hxg hyg
        rcases hn with e0 | ⟨e0, e1 | ⟨e1, e2 | ⟨e2, e3 | ⟨e3, e4 | ⟨e4, e5⟩⟩⟩⟩⟩
        · go_wp2
          go_quiet (fail)
          go_wp2
          go_ret
          exact ⟨by rw [HD.out]; rfl, hx.drewN' _⟩
        · go_wp2
          go_quiet (fail)
          go_wp2
          go_ret
          exact ⟨by rw [HD.out]; rfl, hx.drewN' _⟩
        · go_wp2
          go_quiet (fail)
          go_wp2
          go_ret
          exact ⟨by rw [HD.out]; rfl, hx.drewN' _⟩
        · go_wp2
          go_quiet (fail)
          go_wp2
          go_ret
          exact ⟨by rw [HD.out]; rfl, hx.drewN' _⟩
        · have f4 : (x.num != y.num) = true := by rw [bne, e4]; rfl
          go_wp2
          go_quiet (fail)
          go_wp2
          go_ret
          exact ⟨by rw [HD.out]; rfl, hx.drewN' _⟩
        · have f4 : (x.num != y.num) = false := by rw [bne, e4]; rfl
          have f5 : (x.min != y.min) = true := by rw [bne, e5]; rfl
          go_wp2
          go_quiet (fail)
          go_wp2
          go_ret
          exact ⟨by rw [HD.out]; rfl, hx.drewN' _⟩
    · have hd : decide (l1 = l2) = true := by
        rw [decide_eq_true_iff]
        exact List.ext_getElem HL.out (fun j h1 h2 => hq j h1 h2 (by omega))
      have HD := Lib.hid hd
      clear hd hq
      go_wp2
      go_ret
      exact ⟨by rw [HD.out]; rfl, hx⟩
end Go.Proofs.Ytbolioeopcmfcaa
