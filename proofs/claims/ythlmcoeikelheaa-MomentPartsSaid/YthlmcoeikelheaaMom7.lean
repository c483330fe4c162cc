/- Contracts of layer 28: the document's Closes, Quiet. -/
import Derived.Test.YthlmcoeikelheaaMom6
namespace Go.Proofs.Ythlmcoeikelheaa
open Go.RowKit Go.Proofs.YthlmcoeikelheaaB Go.Shelf

theorem idxI_cases (num : Int) (l : List It) : (has num l = false ∧ idxI num l = -1) ∨ (has num l = true ∧ idxI num l = (lo num l : Int)) := by
  unfold idxI
  cases has num l
  · exact .inl ⟨rfl, rfl⟩
  · exact .inr ⟨rfl, rfl⟩
theorem closesB_no {num win : Int} {l : List It} (h : has num l = false ∨ win < 1) : closesB num win l = false := by
  unfold closesB
  rcases h with h | h
  · rw [h]; rfl
  · rw [decide_eq_false (show ¬ (1 ≤ win) by omega)]; simp
theorem closesB_end {num win : Int} {l : List It} (hk : TabOk l) (hh : has num l = true) (hw : 1 ≤ win) (h : ∀ t (h : t < l.length), lo num l < t → l[t].min / win ≠ (gt l (lo num l)).min / win) : closesB num win l = true := by
  unfold closesB
  rw [hh, decide_eq_true hw]
  cases hb : nextB num l
  · rfl
  · obtain ⟨h1, h2⟩ := nextM_get hk hh hb
    rw [h2, minV_get hh]
    have := h _ h1 (by omega)
    rw [← gt_get h1] at this
    simp; exact fun e => this e.symm
theorem closesB_hit {num win : Int} {l : List It} (hk : TabOk l) (hh : has num l = true) (hw : 1 ≤ win) {t : Nat} (ht : t < l.length) (hlt : lo num l < t) (he : l[t].min / win = (gt l (lo num l)).min / win) : closesB num win l = false := by
  have hb : nextB num l = true := by
    unfold nextB nextI; rw [hh]; simp; omega
  obtain ⟨h1, h2⟩ := nextM_get hk hh hb
  have hlo : lo num l < l.length := by omega
  have hm1 : (gt l (lo num l)).min ≤ (gt l (lo num l + 1)).min := by
    rw [gt_get hlo, gt_get h1]; exact (srt_get hk.srt hlo h1 (by omega)).2
  have hm2 : (gt l (lo num l + 1)).min ≤ l[t].min := by
    rw [gt_get h1]
    rcases Nat.lt_or_ge (lo num l + 1) t with h | h
    · exact (srt_get hk.srt h1 ht h).2
    · have e : t = lo num l + 1 := by omega
      subst e; exact Int.le_refl _
  have d1 := Int.ediv_le_ediv (c := win) (by omega) hm1
  have d2 := Int.ediv_le_ediv (c := win) (by omega) hm2
  unfold closesB
  rw [hh, hb, decide_eq_true hw, h2, minV_get hh]
  have : (gt l (lo num l)).min / win = (gt l (lo num l + 1)).min / win := by omega
  simp [this]

set_option maxHeartbeats 1000000 in
theorem rcloses_any (p : Nat) (d : DocV) (l : List It) (num win : Int) (w : World) (hD : DocAt w p d l) (hk : TabOk l) (hwin : win ≤ 9223372036854775807) :
    Calls Try.prog 17 #[.pointer (some ⟨p, 0, none⟩), .int .u64 num, .int .i64 win] w fun e w' => e = .returned (.bool (closesB num win l)) ∧ Ex0 w w' := by
  have hn := hk.len
  go_enter Try.func17, Try.ntmps17
  go_wp2_with fail
  refine (rfind_any p d l num _ hD hk).mono ?_
  rintro e w1 ⟨rfl, hx⟩
  have hD1 := Lib.hid (hD.ex0 hx)
  have HX := Lib.hid hx
  clear hD hx
  rcases idxI_cases num l with ⟨hh, hi⟩ | ⟨hh, hi⟩
  · have hc := Lib.hid (closesB_no (win := win) (.inl hh))
    rw [hi]
    clear hh hi
    go_wp2
    go_ret
    exact ⟨by rw [hc.out]; rfl, HX.out⟩
  · rw [hi]
    obtain ⟨hlo, _⟩ := has_get hk.srt hh
    have HH := Lib.hid hh
    have HLO := Lib.hid hlo
    have hi0 : (0 : Int) ≤ (lo num l : Int) := Int.natCast_nonneg _
    have hi1 : (lo num l : Int) < (l.length : Int) := by omega
    have hi2 : ¬ ((lo num l : Int) < 0) := by omega
    clear hh hi
    by_cases hw : win < 1
    · have hc := Lib.hid (closesB_no (num := num) (l := l) (.inr hw))
      go_wp2
      go_ret
      exact ⟨by rw [hc.out]; rfl, HX.out⟩
    have hw1 : 1 ≤ win := by omega
    have HEND := Lib.hid (fun h => closesB_end (num := num) (l := l) (win := win) hk HH.out hw1 h)
    have HHIT := Lib.hid (fun t (ht : t < l.length) (hlt : lo num l < t) he => closesB_hit (num := num) (l := l) (win := win) hk HH.out hw1 ht hlt he)
    obtain ⟨n0, n1, n2⟩ := hD1.out.cells
    obtain ⟨g2, off2, hA2, hg2, hc2⟩ := hD1.out.sM.one hlo
    have hr2 := gt_rng hk hlo
    rw [← gt_get hlo] at hc2
    rw [hA2] at n1
    generalize hgx : gt l (lo num l) = x at *
    generalize hlx : lo num l = i at *
    obtain ⟨x1, x2, x3⟩ := x
    dsimp only at hc2 hr2
    obtain ⟨_, _, hr21, hr22⟩ := hr2
    clear hgx hlx
    go_wp2
    go_loopw [8] (fun j wr => ∃ k : Nat, k ≤ l.length ∧ i + 1 ≤ k ∧ j = .int .i64 k ∧ Ex0 w1 wr ∧ ∀ t (h : t < l.length), i < t → t < k → l[t].min / win ≠ x2 / win) (fun j _ => l.length - (intOf j).toNat)
    case atStart => exact ⟨i + 1, by omega, by omega, by go_num, Ex.refl _ _, fun t h h1 h2 => by omega⟩
    case round =>
      obtain ⟨k, hle, hik, rfl, hxr, h1⟩ := hrel
      have H1 := Lib.hid h1
      clear h1
      have n0' := hxr.cellS n0 not_false
      have n1' := hxr.cellS n1 not_false
      have hc2' := hxr.cellS hc2 not_false
      by_cases hlt : k < l.length
      · obtain ⟨g, off, hA, hg, hc⟩ := (hD1.out.ex0 hxr).sM.one hlt
        rw [hA] at hA2
        cases hA2
        have hrk := (hk.rng _ (List.getElem_mem hlt)).2.2
        have hk0 : (0 : Int) ≤ (k : Int) := Int.natCast_nonneg _
        have hk1 : (k : Int) < (l.length : Int) := by omega
        by_cases he : l[k].min / win = x2 / win
        · have hres := Lib.hid (HHIT.out k hlt (by omega) he)
          have heq : (l[k].min / win == x2 / win) = true := by simpa using he
          clear he
          generalize l[k].min = y at *
          obtain ⟨hy1, hy2⟩ := hrk
          go_wp2
          go_quiet (fail)
          go_wp2
          go_ret
          exact ⟨by rw [hres.out]; rfl, (HX.out.trans0 hxr).drewN' _⟩
        · have heq : (l[k].min / win == x2 / win) = false := by rw [beq_eq_false_iff_ne]; exact he
          have HE := Lib.hid he
          clear he
          generalize hy : l[k].min = y at *
          have HY := Lib.hid hy
          clear hy
          obtain ⟨hy1, hy2⟩ := hrk
          go_wp2
          go_quiet (fail)
          go_wp2
          go_roundw
          case rel => exact ⟨k + 1, by omega, by omega, by go_num, hxr.drewN' _, fun t h h1 h2 => by
            by_cases e : t = k
            · subst e; rw [HY.out]; exact HE.out
            · exact H1.out t h h1 (by omega)⟩
          case measure => simp [intOf]; omega
      · have hres := Lib.hid (HEND.out (fun t h h1 => H1.out t h h1 (by omega)))
        go_wp2
        go_ret
        exact ⟨by rw [hres.out]; rfl, HX.out.trans0 hxr⟩

theorem quietB_no {num gap : Int} {l : List It} (h : has num l = false ∨ gap < 0) : quietB num gap l = false := by
  unfold quietB
  rcases h with h | h
  · rw [h]; rfl
  · rw [decide_eq_false (show ¬ (0 ≤ gap) by omega)]; simp
theorem quietB_last {num gap : Int} {l : List It} (hh : has num l = true) (hg : 0 ≤ gap) (h : l.length ≤ lo num l + 1) : quietB num gap l = true := by
  have hb : nextB num l = false := by unfold nextB nextI; rw [hh]; simp; omega
  unfold quietB; rw [hh, hb, decide_eq_true hg]; rfl
theorem quietB_next {num gap : Int} {l : List It} (hk : TabOk l) (hh : has num l = true) (hg : 0 ≤ gap) (h : lo num l + 1 < l.length) : quietB num gap l = decide ((gt l (lo num l + 1)).min - (gt l (lo num l)).min > gap) := by
  have hb : nextB num l = true := by unfold nextB nextI; rw [hh]; simp; omega
  obtain ⟨h1, h2⟩ := nextM_get hk hh hb
  unfold quietB; rw [hh, hb, decide_eq_true hg, h2, minV_get hh]; simp

set_option maxHeartbeats 1000000 in
theorem rquiet_any (p : Nat) (d : DocV) (l : List It) (num gap : Int) (w : World) (hD : DocAt w p d l) (hk : TabOk l) :
    Calls Try.prog 19 #[.pointer (some ⟨p, 0, none⟩), .int .u64 num, .int .i64 gap] w fun e w' => e = .returned (.bool (quietB num gap l)) ∧ Ex0 w w' := by
  have hn := hk.len
  go_enter Try.func19, Try.ntmps19
  go_wp2_with fail
  refine (rfind_any p d l num _ hD hk).mono ?_
  rintro e w1 ⟨rfl, hx⟩
  have hD1 := Lib.hid (hD.ex0 hx)
  have HX := Lib.hid hx
  clear hD hx
  rcases idxI_cases num l with ⟨hh, hi⟩ | ⟨hh, hi⟩
  · have hc := Lib.hid (quietB_no (gap := gap) (.inl hh))
    rw [hi]
    clear hh hi
    go_wp2
    go_ret
    exact ⟨by rw [hc.out]; rfl, HX.out⟩
  · rw [hi]
    obtain ⟨hlo, _⟩ := has_get hk.srt hh
    have HH := Lib.hid hh
    have hi0 : (0 : Int) ≤ (lo num l : Int) := Int.natCast_nonneg _
    have hi1 : (lo num l : Int) < (l.length : Int) := by omega
    have hi2 : ¬ ((lo num l : Int) < 0) := by omega
    clear hh hi
    by_cases hw : gap < 0
    · have hc := Lib.hid (quietB_no (num := num) (l := l) (.inr hw))
      go_wp2
      go_ret
      exact ⟨by rw [hc.out]; rfl, HX.out⟩
    have hw1 : 0 ≤ gap := by omega
    obtain ⟨n0, n1, n2⟩ := hD1.out.cells
    by_cases hnx : l.length ≤ lo num l + 1
    · have hres := Lib.hid (quietB_last (gap := gap) HH.out hw1 hnx)
      have hge : (lo num l : Int) + 1 ≥ (l.length : Int) := by omega
      generalize lo num l = i at *
      go_wp2
      go_quiet (fail)
      go_wp2
      go_ret
      exact ⟨by rw [hres.out]; rfl, HX.out.drewN' _⟩
    · have hres := Lib.hid (quietB_next (gap := gap) hk HH.out hw1 (by omega))
      have hge : ¬ ((lo num l : Int) + 1 ≥ (l.length : Int)) := by omega
      have hlo2 : lo num l + 1 < l.length := by omega
      obtain ⟨g2, off2, hA2, hg2, hc2⟩ := hD1.out.sM.one hlo
      obtain ⟨g3, off3, hA3, hg3, hc3⟩ := hD1.out.sM.one hlo2
      rw [hA3] at hA2
      cases hA2
      have hr2 := gt_rng hk hlo
      have hr3 := gt_rng hk hlo2
      rw [← gt_get hlo] at hc2
      rw [← gt_get hlo2] at hc3
      rw [hA3] at n1
      generalize gt l (lo num l) = x at *
      generalize gt l (lo num l + 1) = x' at *
      generalize lo num l = i at *
      obtain ⟨x1, x2, x3⟩ := x
      obtain ⟨y1, y2, y3⟩ := x'
      dsimp only at hc2 hr2 hc3 hr3 hres
      obtain ⟨_, _, hr21, hr22⟩ := hr2
      obtain ⟨_, _, hr31, hr32⟩ := hr3
      have hj0 : (0 : Int) ≤ (i : Int) + 1 := by omega
      have hj1 : (i : Int) + 1 < (l.length : Int) := by omega
      have hjn : ((i : Int) + 1).toNat = i + 1 := by omega
      have hwr : IntKind.i64.wrap ((i : Int) + 1) = (i : Int) + 1 := by rw [IntKind.wrap_i64]; omega
      have hws : IntKind.i64.wrap (y2 - x2) = y2 - x2 := by rw [IntKind.wrap_i64]; omega
      have hdq : decide ((l.length : Int) ≤ IntKind.i64.wrap ((i : Int) + 1)) = false := by rw [hwr, decide_eq_false]; omega
      have hdq2 : decide ((l.length : Int) ≤ (i : Int) + 1) = false := by rw [decide_eq_false]; omega
      have hc3' : w1.cell? ⟨g2, off2 + ((i : Int) + 1).toNat, none⟩ = some (.int .i64 y2) := by rw [hjn]; exact hc3
      go_wp2
      go_quiet (fail)
      go_wp2
      go_ret
      refine ⟨by rw [hres.out]; rfl, HX.out.drewN' _⟩
end Go.Proofs.Ythlmcoeikelheaa
