/- Contracts of layer 28: the document's table, what only reads. Contracts of layer 28: the document's Closes, Quiet. Contracts of layer 28: the document's Add. Contracts of layer 28: the document's Release. -/
import Derived.Test.YtoglddndicmelaaGreatMoA
namespace Go.Proofs.YtoglddndicmelaaGreat.Mo
open Go.RowKit Go.Proofs.YtoglddndicmelaaGreatB Go.Shelf
set_option maxRecDepth 100000

/-- where the document's three lists lie -/
structure DocV where
  N : Option Addr
  M : Option Addr
  O : Option Addr
  cN : Nat
  cM : Nat
  cO : Nat
def DocV.cells (d : DocV) (n : Nat) : Array Value := #[.slice d.N n d.cN, .slice d.M n d.cM, .slice d.O n d.cO]
def Bld (d : DocV) (b : Nat) : Prop := Bl d.N b ∨ Bl d.M b ∨ Bl d.O b
structure DocAt (w : World) (p : Nat) (d : DocV) (l : List It) : Prop where
  blk : w.heap[p]? = some (.cells (d.cells l.length) 79 (0, 0))
  sN : Sl w 1 d.N l.length (l.map fun x => Value.int .u64 x.num)
  sM : Sl w 1 d.M l.length (l.map fun x => Value.int .i64 x.min)
  sO : Sl w 1 d.O l.length (l.map fun x => Value.bool x.out)
  cN : d.N = none → d.cN = 0
  cM : d.M = none → d.cM = 0
  cO : d.O = none → d.cO = 0
  ap : ∀ b, Bld d b → b ≠ p ∧ b < w.heap.size
  kN : l.length ≤ d.cN
  kM : l.length ≤ d.cM
  kO : l.length ≤ d.cO
theorem DocAt.lt {w : World} {p : Nat} {d : DocV} {l : List It} (h : DocAt w p d l) : p < w.heap.size := (Array.getElem?_eq_some_iff.1 h.blk).1
theorem DocAt.ex {S : Nat → Prop} {w w' : World} {p : Nat} {d : DocV} {l : List It} (h : DocAt w p d l) (hx : Ex S w w') (h1 : ¬ S p) (h2 : ∀ b, Bld d b → ¬ S b) : DocAt w' p d l :=
  ⟨(hx.block p h.lt h1).trans h.blk, h.sN.ex hx (fun b hb => h2 b (.inl hb)), h.sM.ex hx (fun b hb => h2 b (.inr (.inl hb))), h.sO.ex hx (fun b hb => h2 b (.inr (.inr hb))), h.cN, h.cM, h.cO, fun b hb => ⟨(h.ap b hb).1, Nat.lt_of_lt_of_le (h.ap b hb).2 hx.size⟩, h.kN, h.kM, h.kO⟩
theorem DocAt.ex0 {w w' : World} {p : Nat} {d : DocV} {l : List It} (h : DocAt w p d l) (hx : Ex0 w w') : DocAt w' p d l := h.ex hx id (fun _ _ => id)
theorem DocAt.cells {w : World} {p : Nat} {d : DocV} {l : List It} (h : DocAt w p d l) : w.cell? ⟨p, 0, none⟩ = some (.slice d.N l.length d.cN) ∧ w.cell? ⟨p, 1, none⟩ = some (.slice d.M l.length d.cM) ∧ w.cell? ⟨p, 2, none⟩ = some (.slice d.O l.length d.cO) := by
  refine ⟨?_, ?_, ?_⟩ <;> (rw [cell_of_row w p _ _ _ _ h.blk]; rfl)
/-- the document's place: -1: it isn't there -/
def idxI (num : Int) (l : List It) : Int := if has num l then (lo num l : Int) else -1
theorem rfind_any (p : Nat) (d : DocV) (l : List It) (num : Int) (w : World) (hD : DocAt w p d l) (hk : TabOk l) :
    Calls Tryz.prog 28 #[.pointer (some ⟨p, 0, none⟩), .int .u64 num] w fun e w' => e = .returned (.int .i64 (idxI num l)) ∧ Ex0 w w' := by
  obtain ⟨n0, n1, n2⟩ := hD.cells
  have hn := hk.len
  go_enter Tryz.func28, Tryz.ntmps28
  go_wp2
  go_loopw [5] (fun i wr => ∃ k : Nat, k ≤ l.length ∧ i = .int .i64 k ∧ wr = w ∧ ∀ t (h : t < l.length), t < k → l[t].num ≠ num) (fun i _ => l.length - (intOf i).toNat)
  case atStart => exact ⟨0, Nat.zero_le _, rfl, rfl, fun t h ht => by omega⟩
  case round =>
    obtain ⟨k, hle, rfl, rfl, h1⟩ := hrel
    have H1 := Lib.hid h1
    clear h1
    by_cases hlt : k < l.length
    · obtain ⟨g, off, hA, hg, hc⟩ := hD.sN.one hlt
      rw [hA] at n0
      have hi0' : (0 : Int) ≤ (k : Int) := Int.natCast_nonneg _
      have hi1 : (k : Int) < (l.length : Int) := by omega
      by_cases he : l[k].num = num
      · have heq : (l[k].num == num) = true := by simpa using he
        have HE := Lib.hid he
        have hlo : k = lo num l := by
          refine lo_bound (by omega) (fun t h ht => ?_) (fun t h ht => ?_)
          · have := (srt_get hk.srt h hlt ht).1; omega
          · rcases Nat.lt_or_ge k t with h3 | h3
            · have := (srt_get hk.srt hlt h h3).1; omega
            · have e : t = k := by omega
              subst e; omega
        have HLO := Lib.hid hlo
        have HAS := Lib.hid (has_of_get hlt he)
        clear he hlo
        generalize l[k].num = y at *
        go_wp2
        go_ret
        refine ⟨?_, Ex.refl _ _⟩
        unfold idxI; rw [HAS.out, ← HLO.out]; rfl
      · have heq : (l[k].num == num) = false := by rw [beq_eq_false_iff_ne]; exact he
        have HE := Lib.hid he
        clear he
        generalize hy : l[k].num = y at *
        go_wp2
        go_roundw
        case rel => exact ⟨k + 1, by omega, by go_num, trivial, fun t h ht => by
          by_cases e : t = k
          · subst e; rw [hy]; exact HE.out
          · exact H1.out t h (by omega)⟩
        case measure => simp [intOf]; omega
    · go_wp2
      go_ret
      refine ⟨?_, Ex.refl _ _⟩
      unfold idxI; rw [has_none (fun t h => H1.out t h (by omega))]; rfl

/-! ### plain facts -/
theorem lo_of_get {l : List It} (hs : Srt l) {i : Nat} (hi : i < l.length) : lo l[i].num l = i := by
  refine (lo_bound (by omega) (fun t h ht => (srt_get hs h hi ht).1) (fun t h ht => ?_)).symm
  rcases Nat.lt_or_ge i t with h3 | h3
  · have := (srt_get hs hi h h3).1; omega
  · have e : t = i := by omega
    subst e; omega
theorem next_split {l : List It} (hs : Srt l) (num : Int) : (∀ t (h : t < l.length), t < nextI num l → l[t].num ≤ num) ∧ (∀ t (h : t < l.length), nextI num l ≤ t → num < l[t].num) := by
  obtain ⟨h1, h2⟩ := lo_split hs num
  cases hh : has num l
  · have e : nextI num l = lo num l := by unfold nextI; rw [hh]; rfl
    rw [e]
    refine ⟨fun t h ht => by have := h1 t h ht; omega, fun t h ht => ?_⟩
    have := h2 t h ht
    rcases Int.lt_or_eq_of_le this with h3 | h3
    · exact h3
    · rw [has_of_get h h3.symm] at hh; cases hh
  · have e : nextI num l = lo num l + 1 := by unfold nextI; rw [hh]; rfl
    obtain ⟨hi, hg⟩ := has_get hs hh
    rw [e]
    refine ⟨fun t h ht => ?_, fun t h ht => ?_⟩
    · rcases Nat.lt_or_ge t (lo num l) with h3 | h3
      · have := h1 t h h3; omega
      · have e : t = lo num l := by omega
        subst e; omega
    · have := (srt_get hs hi h (by omega)).1; omega
theorem nextM_get {l : List It} (hk : TabOk l) {num : Int} (hh : has num l = true) (hb : nextB num l = true) : ∃ _ : lo num l + 1 < l.length, nextM num l = (gt l (lo num l + 1)).min := by
  have e : nextI num l = lo num l + 1 := by unfold nextI; rw [hh]; rfl
  have hlt : nextI num l < l.length := by unfold nextB at hb; simpa using hb
  rw [e] at hlt
  refine ⟨hlt, ?_⟩
  have en : nextN num l = (gt l (lo num l + 1)).num := by unfold nextN; rw [hb, e]; rfl
  unfold nextM
  rw [hb, en, gt_get hlt]
  unfold minV
  rw [has_of_get hlt rfl, lo_of_get hk.srt hlt, gt_get hlt]; rfl
theorem minV_get {l : List It} {num : Int} (hh : has num l = true) : minV num l = (gt l (lo num l)).min := by unfold minV; rw [hh]; rfl
/-- the last one at a minute -/
def atN (min : Int) (l : List It) : Int := l.foldl (fun a x => if x.min ≤ min then x.num else a) 0
theorem atN_take (min : Int) (l : List It) (k : Nat) (hk : k < l.length) : atN min (l.take (k + 1)) = if l[k].min ≤ min then l[k].num else atN min (l.take k) := by
  unfold atN
  rw [List.take_succ_eq_append_getElem hk, List.foldl_append]; rfl

theorem idxI_cases (num : Int) (l : List It) : (has num l = false ∧ idxI num l = -1) ∨ (has num l = true ∧ idxI num l = (lo num l : Int)) := by
  unfold idxI
  cases has num l
  · exact .inl ⟨rfl, rfl⟩
  · exact .inr ⟨rfl, rfl⟩
theorem closesB_no {num win : Int} {l : List It} (h : has num l = false ∨ win < 1) : closesB num win l = false := by
  unfold closesB
  rcases h with h | h
  · rw [h]; rfl
  · rw [decide_eq_false (show ¬ (1 ≤ win) by omega)]; simp
theorem closesB_end {num win : Int} {l : List It} (hk : TabOk l) (hh : has num l = true) (hw : 1 ≤ win) (h : ∀ t (h : t < l.length), lo num l < t → l[t].min / win ≠ (gt l (lo num l)).min / win) : closesB num win l = true := by
  unfold closesB
  rw [hh, decide_eq_true hw]
  cases hb : nextB num l
  · rfl
  · obtain ⟨h1, h2⟩ := nextM_get hk hh hb
    rw [h2, minV_get hh]
    have := h _ h1 (by omega)
    rw [← gt_get h1] at this
    simp; exact fun e => this e.symm
theorem closesB_hit {num win : Int} {l : List It} (hk : TabOk l) (hh : has num l = true) (hw : 1 ≤ win) {t : Nat} (ht : t < l.length) (hlt : lo num l < t) (he : l[t].min / win = (gt l (lo num l)).min / win) : closesB num win l = false := by
  have hb : nextB num l = true := by
    unfold nextB nextI; rw [hh]; simp; omega
  obtain ⟨h1, h2⟩ := nextM_get hk hh hb
  have hlo : lo num l < l.length := by omega
  have hm1 : (gt l (lo num l)).min ≤ (gt l (lo num l + 1)).min := by
    rw [gt_get hlo, gt_get h1]; exact (srt_get hk.srt hlo h1 (by omega)).2
  have hm2 : (gt l (lo num l + 1)).min ≤ l[t].min := by
    rw [gt_get h1]
    rcases Nat.lt_or_ge (lo num l + 1) t with h | h
    · exact (srt_get hk.srt h1 ht h).2
    · have e : t = lo num l + 1 := by omega
      subst e; exact Int.le_refl _
  have d1 := Int.ediv_le_ediv (c := win) (by omega) hm1
  have d2 := Int.ediv_le_ediv (c := win) (by omega) hm2
  unfold closesB
  rw [hh, hb, decide_eq_true hw, h2, minV_get hh]
  have : (gt l (lo num l)).min / win = (gt l (lo num l + 1)).min / win := by omega
  simp [this]
set_option maxHeartbeats 1000000 in
theorem rcloses_any (p : Nat) (d : DocV) (l : List It) (num win : Int) (w : World) (hD : DocAt w p d l) (hk : TabOk l) (hwin : win ≤ 9223372036854775807) :
    Calls Tryz.prog 144 #[.pointer (some ⟨p, 0, none⟩), .int .u64 num, .int .i64 win] w fun e w' => e = .returned (.bool (closesB num win l)) ∧ Ex0 w w' := by
  have hn := hk.len
  go_enter Tryz.func144, Tryz.ntmps144
  go_wp2_with fail
  refine (rfind_any p d l num _ hD hk).mono ?_
  rintro e w1 ⟨rfl, hx⟩
  have hD1 := Lib.hid (hD.ex0 hx)
  have HX := Lib.hid hx
  clear hD hx
  rcases idxI_cases num l with ⟨hh, hi⟩ | ⟨hh, hi⟩
  · have hc := Lib.hid (closesB_no (win := win) (.inl hh))
    rw [hi]
    clear hh hi
    go_wp2
    go_ret
    exact ⟨by rw [hc.out]; rfl, HX.out⟩
  · rw [hi]
    obtain ⟨hlo, _⟩ := has_get hk.srt hh
    have HH := Lib.hid hh
    have HLO := Lib.hid hlo
    have hi0 : (0 : Int) ≤ (lo num l : Int) := Int.natCast_nonneg _
    have hi1 : (lo num l : Int) < (l.length : Int) := by omega
    have hi2 : ¬ ((lo num l : Int) < 0) := by omega
    clear hh hi
    by_cases hw : win < 1
    · have hc := Lib.hid (closesB_no (num := num) (l := l) (.inr hw))
      go_wp2
      go_ret
      exact ⟨by rw [hc.out]; rfl, HX.out⟩
    have hw1 : 1 ≤ win := by omega
    have HEND := Lib.hid (fun h => closesB_end (num := num) (l := l) (win := win) hk HH.out hw1 h)
    have HHIT := Lib.hid (fun t (ht : t < l.length) (hlt : lo num l < t) he => closesB_hit (num := num) (l := l) (win := win) hk HH.out hw1 ht hlt he)
    obtain ⟨n0, n1, n2⟩ := hD1.out.cells
    obtain ⟨g2, off2, hA2, hg2, hc2⟩ := hD1.out.sM.one hlo
    have hr2 := gt_rng hk hlo
    rw [← gt_get hlo] at hc2
    rw [hA2] at n1
    generalize hgx : gt l (lo num l) = x at *
    generalize hlx : lo num l = i at *
    obtain ⟨x1, x2, x3⟩ := x
    dsimp only at hc2 hr2
    obtain ⟨_, _, hr21, hr22⟩ := hr2
    clear hgx hlx
    go_wp2
    go_loopw [8] (fun j wr => ∃ k : Nat, k ≤ l.length ∧ i + 1 ≤ k ∧ j = .int .i64 k ∧ Ex0 w1 wr ∧ ∀ t (h : t < l.length), i < t → t < k → l[t].min / win ≠ x2 / win) (fun j _ => l.length - (intOf j).toNat)
    case atStart => exact ⟨i + 1, by omega, by omega, by go_num, Ex.refl _ _, fun t h h1 h2 => by omega⟩
    case round =>
      obtain ⟨k, hle, hik, rfl, hxr, h1⟩ := hrel
      have H1 := Lib.hid h1
      clear h1
      have n0' := hxr.cellS n0 not_false
      have n1' := hxr.cellS n1 not_false
      have hc2' := hxr.cellS hc2 not_false
      by_cases hlt : k < l.length
      · obtain ⟨g, off, hA, hg, hc⟩ := (hD1.out.ex0 hxr).sM.one hlt
        rw [hA] at hA2
        cases hA2
        have hrk := (hk.rng _ (List.getElem_mem hlt)).2.2
        have hk0 : (0 : Int) ≤ (k : Int) := Int.natCast_nonneg _
        have hk1 : (k : Int) < (l.length : Int) := by omega
        by_cases he : l[k].min / win = x2 / win
        · have hres := Lib.hid (HHIT.out k hlt (by omega) he)
          have heq : (l[k].min / win == x2 / win) = true := by simpa using he
          clear he
          generalize l[k].min = y at *
          obtain ⟨hy1, hy2⟩ := hrk
          go_wp2
          go_quiet (fail)
          go_wp2
          go_ret
          exact ⟨by rw [hres.out]; rfl, (HX.out.trans0 hxr).drewN' _⟩
        · have heq : (l[k].min / win == x2 / win) = false := by rw [beq_eq_false_iff_ne]; exact he
          have HE := Lib.hid he
          clear he
          generalize hy : l[k].min = y at *
          have HY := Lib.hid hy
          clear hy
          obtain ⟨hy1, hy2⟩ := hrk
          go_wp2
          go_quiet (fail)
          go_wp2
          go_roundw
          case rel => exact ⟨k + 1, by omega, by omega, by go_num, hxr.drewN' _, fun t h h1 h2 => by
            by_cases e : t = k
            · subst e; rw [HY.out]; exact HE.out
            · exact H1.out t h h1 (by omega)⟩
          case measure => simp [intOf]; omega
      · have hres := Lib.hid (HEND.out (fun t h h1 => H1.out t h h1 (by omega)))
        go_wp2
        go_ret
        exact ⟨by rw [hres.out]; rfl, HX.out.trans0 hxr⟩
theorem quietB_no {num gap : Int} {l : List It} (h : has num l = false ∨ gap < 0) : quietB num gap l = false := by
  unfold quietB
  rcases h with h | h
  · rw [h]; rfl
  · rw [decide_eq_false (show ¬ (0 ≤ gap) by omega)]; simp
theorem quietB_last {num gap : Int} {l : List It} (hh : has num l = true) (hg : 0 ≤ gap) (h : l.length ≤ lo num l + 1) : quietB num gap l = true := by
  have hb : nextB num l = false := by unfold nextB nextI; rw [hh]; simp; omega
  unfold quietB; rw [hh, hb, decide_eq_true hg]; rfl
theorem quietB_next {num gap : Int} {l : List It} (hk : TabOk l) (hh : has num l = true) (hg : 0 ≤ gap) (h : lo num l + 1 < l.length) : quietB num gap l = decide ((gt l (lo num l + 1)).min - (gt l (lo num l)).min > gap) := by
  have hb : nextB num l = true := by unfold nextB nextI; rw [hh]; simp; omega
  obtain ⟨h1, h2⟩ := nextM_get hk hh hb
  unfold quietB; rw [hh, hb, decide_eq_true hg, h2, minV_get hh]; simp
set_option maxHeartbeats 1000000 in
theorem rquiet_any (p : Nat) (d : DocV) (l : List It) (num gap : Int) (w : World) (hD : DocAt w p d l) (hk : TabOk l) :
    Calls Tryz.prog 145 #[.pointer (some ⟨p, 0, none⟩), .int .u64 num, .int .i64 gap] w fun e w' => e = .returned (.bool (quietB num gap l)) ∧ Ex0 w w' := by
  have hn := hk.len
  go_enter Tryz.func145, Tryz.ntmps145
  go_wp2_with fail
  refine (rfind_any p d l num _ hD hk).mono ?_
  rintro e w1 ⟨rfl, hx⟩
  have hD1 := Lib.hid (hD.ex0 hx)
  have HX := Lib.hid hx
  clear hD hx
  rcases idxI_cases num l with ⟨hh, hi⟩ | ⟨hh, hi⟩
  · have hc := Lib.hid (quietB_no (gap := gap) (.inl hh))
    rw [hi]
    clear hh hi
    go_wp2
    go_ret
    exact ⟨by rw [hc.out]; rfl, HX.out⟩
  · rw [hi]
    obtain ⟨hlo, _⟩ := has_get hk.srt hh
    have HH := Lib.hid hh
    have hi0 : (0 : Int) ≤ (lo num l : Int) := Int.natCast_nonneg _
    have hi1 : (lo num l : Int) < (l.length : Int) := by omega
    have hi2 : ¬ ((lo num l : Int) < 0) := by omega
    clear hh hi
    by_cases hw : gap < 0
    · have hc := Lib.hid (quietB_no (num := num) (l := l) (.inr hw))
      go_wp2
      go_ret
      exact ⟨by rw [hc.out]; rfl, HX.out⟩
    have hw1 : 0 ≤ gap := by omega
    obtain ⟨n0, n1, n2⟩ := hD1.out.cells
    by_cases hnx : l.length ≤ lo num l + 1
    · have hres := Lib.hid (quietB_last (gap := gap) HH.out hw1 hnx)
      have hge : (lo num l : Int) + 1 ≥ (l.length : Int) := by omega
      generalize lo num l = i at *
      go_wp2
      go_quiet (fail)
      go_wp2
      go_ret
      exact ⟨by rw [hres.out]; rfl, HX.out.drewN' _⟩
    · have hres := Lib.hid (quietB_next (gap := gap) hk HH.out hw1 (by omega))
      have hge : ¬ ((lo num l : Int) + 1 ≥ (l.length : Int)) := by omega
      have hlo2 : lo num l + 1 < l.length := by omega
      obtain ⟨g2, off2, hA2, hg2, hc2⟩ := hD1.out.sM.one hlo
      obtain ⟨g3, off3, hA3, hg3, hc3⟩ := hD1.out.sM.one hlo2
      rw [hA3] at hA2
      cases hA2
      have hr2 := gt_rng hk hlo
      have hr3 := gt_rng hk hlo2
      rw [← gt_get hlo] at hc2
      rw [← gt_get hlo2] at hc3
      rw [hA3] at n1
      generalize gt l (lo num l) = x at *
      generalize gt l (lo num l + 1) = x' at *
      generalize lo num l = i at *
      obtain ⟨x1, x2, x3⟩ := x
      obtain ⟨y1, y2, y3⟩ := x'
      dsimp only at hc2 hr2 hc3 hr3 hres
      obtain ⟨_, _, hr21, hr22⟩ := hr2
      obtain ⟨_, _, hr31, hr32⟩ := hr3
      have hj0 : (0 : Int) ≤ (i : Int) + 1 := by omega
      have hj1 : (i : Int) + 1 < (l.length : Int) := by omega
      have hjn : ((i : Int) + 1).toNat = i + 1 := by omega
      have hwr : IntKind.i64.wrap ((i : Int) + 1) = (i : Int) + 1 := by rw [IntKind.wrap_i64]; omega
      have hws : IntKind.i64.wrap (y2 - x2) = y2 - x2 := by rw [IntKind.wrap_i64]; omega
      have hdq : decide ((l.length : Int) ≤ IntKind.i64.wrap ((i : Int) + 1)) = false := by rw [hwr, decide_eq_false]; omega
      have hdq2 : decide ((l.length : Int) ≤ (i : Int) + 1) = false := by rw [decide_eq_false]; omega
      have hc3' : w1.cell? ⟨g2, off2 + ((i : Int) + 1).toNat, none⟩ = some (.int .i64 y2) := by rw [hjn]; exact hc3
      go_wp2
      go_quiet (fail)
      go_wp2
      go_ret
      refine ⟨by rw [hres.out]; rfl, HX.out.drewN' _⟩

theorem infoU : (Tryz.prog.info? 31).map (fun i => (i.zero, i.size, i.bytes)) = some (some (.int .u64 0), 1, 8) := by kernel_rfl
theorem infoI : (Tryz.prog.info? 3).map (fun i => (i.zero, i.size, i.bytes)) = some (some (.int .i64 0), 1, 8) := by kernel_rfl
theorem infoB : (Tryz.prog.info? 4).map (fun i => (i.zero, i.size, i.bytes)) = some (some (.bool false), 1, 1) := by kernel_rfl
/-- the document's table, on its way -/
structure Doc3 (w : World) (p : Nat) (A0 A1 A2 : Option Addr) (n0 n1 n2 c0 c1 c2 : Nat) (xs0 xs1 xs2 : List Value) : Prop where
  blk : w.heap[p]? = some (.cells #[.slice A0 n0 c0, .slice A1 n1 c1, .slice A2 n2 c2] 79 (0, 0))
  s0 : Sl w 1 A0 n0 xs0
  s1 : Sl w 1 A1 n1 xs1
  s2 : Sl w 1 A2 n2 xs2
  e0 : A0 = none → c0 = 0
  e1 : A1 = none → c1 = 0
  e2 : A2 = none → c2 = 0
  a0 : ∀ b, Bl A0 b → b ≠ p ∧ b < w.heap.size
  a1 : ∀ b, Bl A1 b → b ≠ p ∧ b < w.heap.size
  a2 : ∀ b, Bl A2 b → b ≠ p ∧ b < w.heap.size
  k0 : n0 ≤ c0
  k1 : n1 ≤ c1
  k2 : n2 ≤ c2
section
variable {w W : World} {p : Nat} {A0 A1 A2 A : Option Addr} {n0 n1 n2 c0 c1 c2 n c : Nat} {xs0 xs1 xs2 xs : List Value}
theorem Doc3.lt (h : Doc3 w p A0 A1 A2 n0 n1 n2 c0 c1 c2 xs0 xs1 xs2) : p < w.heap.size := (Array.getElem?_eq_some_iff.1 h.blk).1
theorem Doc3.cells (h : Doc3 w p A0 A1 A2 n0 n1 n2 c0 c1 c2 xs0 xs1 xs2) : w.cell? ⟨p, 0, none⟩ = some (.slice A0 n0 c0) ∧ w.cell? ⟨p, 1, none⟩ = some (.slice A1 n1 c1) ∧ w.cell? ⟨p, 2, none⟩ = some (.slice A2 n2 c2) ∧
    w.frozen? ⟨p, 0, none⟩ = false ∧ w.frozen? ⟨p, 1, none⟩ = false ∧ w.frozen? ⟨p, 2, none⟩ = false := by
  refine ⟨?_, ?_, ?_, ?_, ?_, ?_⟩
  · rw [cell_of_row w p _ _ _ _ h.blk]; rfl
  · rw [cell_of_row w p _ _ _ _ h.blk]; rfl
  · rw [cell_of_row w p _ _ _ _ h.blk]; rfl
  · exact frozen_of_row w p _ _ _ h.blk
  · exact frozen_of_row w p _ _ _ h.blk
  · exact frozen_of_row w p _ _ _ h.blk
theorem Doc3.ex0 (h : Doc3 w p A0 A1 A2 n0 n1 n2 c0 c1 c2 xs0 xs1 xs2) (hx : Ex0 w W) : Doc3 W p A0 A1 A2 n0 n1 n2 c0 c1 c2 xs0 xs1 xs2 :=
  ⟨(hx.block p h.lt not_false).trans h.blk, h.s0.ex0 hx, h.s1.ex0 hx, h.s2.ex0 hx, h.e0, h.e1, h.e2, fun b hb => ⟨(h.a0 b hb).1, Nat.lt_of_lt_of_le (h.a0 b hb).2 hx.size⟩, fun b hb => ⟨(h.a1 b hb).1, Nat.lt_of_lt_of_le (h.a1 b hb).2 hx.size⟩, fun b hb => ⟨(h.a2 b hb).1, Nat.lt_of_lt_of_le (h.a2 b hb).2 hx.size⟩, h.k0, h.k1, h.k2⟩
theorem bl_set {w W : World} {p j : Nat} {u : Value} {A : Option Addr} (hx : Ex0 w W) (h : ∀ b, Bl A b → b ≠ p ∧ b < w.heap.size) : ∀ b, Bl A b → b ≠ p ∧ b < (W.setCell ⟨p, j, none⟩ u).heap.size := fun b hb => ⟨(h b hb).1, by have := (h b hb).2; have := hx.size; simp [World.setCell]; omega⟩
theorem sl_set {w W : World} {p j n : Nat} {u : Value} {A : Option Addr} {xs : List Value} (hs : Sl w 1 A n xs) (hx : Ex0 w W) (h : ∀ b, Bl A b → b ≠ p ∧ b < w.heap.size) : Sl (W.setCell ⟨p, j, none⟩ u) 1 A n xs :=
  (hs.ex0 hx).ex (Ex.setCell W ⟨p, j, none⟩ u) (fun b hb e => (h b hb).1 e)
theorem new_ap {w W : World} {p : Nat} {A : Option Addr} (hp : p < w.heap.size) (hb : ∀ b, Bl A b → w.heap.size ≤ b ∧ b < W.heap.size) : ∀ b, Bl A b → b ≠ p ∧ b < W.heap.size := fun b h => ⟨by have := (hb b h).1; omega, (hb b h).2⟩
theorem Doc3.set0 (h : Doc3 w p A0 A1 A2 n0 n1 n2 c0 c1 c2 xs0 xs1 xs2) (hx : Ex0 w W) (hs : Sl W 1 A n xs) (hb : ∀ b, Bl A b → w.heap.size ≤ b ∧ b < W.heap.size) (hc : A = none → c = 0) (hk' : n ≤ c) :
    Doc3 (W.setCell ⟨p, 0, none⟩ (.slice A n c)) p A A1 A2 n n1 n2 c c1 c2 xs xs1 xs2 :=
  ⟨heap_setCell_same W p 0 _ _ _ ((hx.block p h.lt not_false).trans h.blk), (hs.ex (Ex.setCell W _ _) (fun b hb' e => (new_ap h.lt hb b hb').1 e)), sl_set h.s1 hx h.a1, sl_set h.s2 hx h.a2, hc, h.e1, h.e2, bl_set (Ex.refl _ W) (new_ap h.lt hb), bl_set hx h.a1, bl_set hx h.a2, hk', h.k1, h.k2⟩
theorem Doc3.set1 (h : Doc3 w p A0 A1 A2 n0 n1 n2 c0 c1 c2 xs0 xs1 xs2) (hx : Ex0 w W) (hs : Sl W 1 A n xs) (hb : ∀ b, Bl A b → w.heap.size ≤ b ∧ b < W.heap.size) (hc : A = none → c = 0) (hk' : n ≤ c) :
    Doc3 (W.setCell ⟨p, 1, none⟩ (.slice A n c)) p A0 A A2 n0 n n2 c0 c c2 xs0 xs xs2 :=
  ⟨heap_setCell_same W p 1 _ _ _ ((hx.block p h.lt not_false).trans h.blk), sl_set h.s0 hx h.a0, (hs.ex (Ex.setCell W _ _) (fun b hb' e => (new_ap h.lt hb b hb').1 e)), sl_set h.s2 hx h.a2, h.e0, hc, h.e2, bl_set hx h.a0, bl_set (Ex.refl _ W) (new_ap h.lt hb), bl_set hx h.a2, h.k0, hk', h.k2⟩
theorem Doc3.set2 (h : Doc3 w p A0 A1 A2 n0 n1 n2 c0 c1 c2 xs0 xs1 xs2) (hx : Ex0 w W) (hs : Sl W 1 A n xs) (hb : ∀ b, Bl A b → w.heap.size ≤ b ∧ b < W.heap.size) (hc : A = none → c = 0) (hk' : n ≤ c) :
    Doc3 (W.setCell ⟨p, 2, none⟩ (.slice A n c)) p A0 A1 A n0 n1 n c0 c1 c xs0 xs1 xs :=
  ⟨heap_setCell_same W p 2 _ _ _ ((hx.block p h.lt not_false).trans h.blk), sl_set h.s0 hx h.a0, sl_set h.s1 hx h.a1, (hs.ex (Ex.setCell W _ _) (fun b hb' e => (new_ap h.lt hb b hb').1 e)), h.e0, h.e1, hc, bl_set hx h.a0, bl_set hx h.a1, bl_set (Ex.refl _ W) (new_ap h.lt hb), h.k0, h.k1, hk'⟩
theorem Doc3.of {d : DocV} {l : List It} (h : DocAt w p d l) : Doc3 w p d.N d.M d.O l.length l.length l.length d.cN d.cM d.cO (l.map fun x => Value.int .u64 x.num) (l.map fun x => Value.int .i64 x.min) (l.map fun x => Value.bool x.out) :=
  ⟨h.blk, h.sN, h.sM, h.sO, h.cN, h.cM, h.cO, fun b hb => h.ap b (.inl hb), fun b hb => h.ap b (.inr (.inl hb)), fun b hb => h.ap b (.inr (.inr hb)), h.kN, h.kM, h.kO⟩
theorem Doc3.to {l : List It} (h : Doc3 w p A0 A1 A2 l.length l.length l.length c0 c1 c2 (l.map fun x => Value.int .u64 x.num) (l.map fun x => Value.int .i64 x.min) (l.map fun x => Value.bool x.out)) : DocAt w p ⟨A0, A1, A2, c0, c1, c2⟩ l :=
  ⟨h.blk, h.s0, h.s1, h.s2, h.e0, h.e1, h.e2, fun b hb => by
    rcases hb with hb | hb | hb
    · exact h.a0 b hb
    · exact h.a1 b hb
    · exact h.a2 b hb, h.k0, h.k1, h.k2⟩
end
theorem size_set (w : World) (a : Addr) (v : Value) : (w.setCell a v).heap.size = w.heap.size := by simp [World.setCell]
theorem heap_alloc_set (w : World) (a : Addr) (v : Value) (o : Obj) : ((w.setCell a v).alloc o).heap[w.heap.size]? = some o := by
  have := heap_alloc_new (w.setCell a v) o
  rwa [size_set] at this
theorem one_map {α : Type} (f : α → Value) (l : List α) (h : ∀ x, (f x).oneCell' = true) : ∀ u ∈ l.map f, u.oneCell' = true := by
  intro u hu
  obtain ⟨x, _, rfl⟩ := List.mem_map.1 hu
  exact h x
def DocPost (p : Nat) (d : DocV) (l' : List It) (r : Int) (w : World) (e : Ending) (w' : World) : Prop :=
  ∃ d', e = .returned (.int .i64 r) ∧ DocAt w' p d' l' ∧ (∀ b, Bld d' b → Bld d b ∨ w.heap.size ≤ b) ∧ Ex (· = p) w w'
theorem docPost_same {p : Nat} {d : DocV} {l : List It} {r : Int} {w w' : World} (hD : DocAt w p d l) (hx : Ex0 w w') : DocPost p d l r w (.returned (.int .i64 r)) w' :=
  ⟨d, rfl, hD.ex0 hx, fun _ hb => .inl hb, hx.to (fun _ _ hh => hh.elim)⟩
set_option maxRecDepth 100000 in
set_option maxHeartbeats 4000000 in
theorem radd_any (p : Nat) (d : DocV) (l : List It) (num min : Int) (w : World) (hD : DocAt w p d l) (hk : TabOk l) (hlen : l.length ≤ 900) :
    Calls Tryz.prog 134 #[.pointer (some ⟨p, 0, none⟩), .int .u64 num, .int .i64 min] w (DocPost p d (addL num min l) (addE num min l) w) := by
  obtain ⟨iu, hiu, hzu0, hzu1, hzu2⟩ := info_parts infoU
  obtain ⟨ii, hii, hzi0, hzi1, hzi2⟩ := info_parts infoI
  obtain ⟨ib, hib, hzb0, hzb1, hzb2⟩ := info_parts infoB
  obtain ⟨n0, n1, n2⟩ := hD.cells
  have hcases : (num < 1) ∨ (¬ num < 1 ∧ num > 65535) ∨ (¬ num < 1 ∧ ¬ num > 65535 ∧ min < 0) ∨ (¬ num < 1 ∧ ¬ num > 65535 ∧ ¬ min < 0 ∧ min > 1073741824) ∨ (¬ num < 1 ∧ ¬ num > 65535 ∧ ¬ min < 0 ∧ ¬ min > 1073741824) := by omega
  have hbad : rngB num min = false → DocPost p d (addL num min l) (addE num min l) w (.returned (.int .i64 2)) w := fun h => by
    have e0 : addE num min l = 2 := by unfold addE; rw [h]; rfl
    rw [show addL num min l = l by unfold addL; rw [e0]; rfl, e0]
    exact docPost_same hD (Ex.refl _ _)
  have HBAD := Lib.hid hbad
  have HD := Lib.hid hD
  have HK := Lib.hid hk
  clear hbad
  rcases hcases with h1 | ⟨h1, h2⟩ | ⟨h1, h2, h3⟩ | ⟨h1, h2, h3, h4⟩ | ⟨h1, h2, h3, h4⟩
  · have hb : rngB num min = false := by unfold rngB; simp; omega
    have HBD := Lib.hid hb
    clear hb hD hk
    go_enter Tryz.func134, Tryz.ntmps134
    go_wp2
    go_ret
    exact HBAD.out HBD.out
  · have hb : rngB num min = false := by unfold rngB; simp; omega
    have HBD := Lib.hid hb
    clear hb hD hk
    go_enter Tryz.func134, Tryz.ntmps134
    go_wp2
    go_ret
    exact HBAD.out HBD.out
  · have hb : rngB num min = false := by unfold rngB; simp; omega
    have HBD := Lib.hid hb
    clear hb hD hk
    go_enter Tryz.func134, Tryz.ntmps134
    go_wp2
    go_ret
    exact HBAD.out HBD.out
  · have hb : rngB num min = false := by unfold rngB; simp; omega
    have HBD := Lib.hid hb
    clear hb hD hk
    go_enter Tryz.func134, Tryz.ntmps134
    go_wp2
    go_ret
    exact HBAD.out HBD.out
  have hb : rngB num min = true := by unfold rngB; simp; omega
  have hadd : addE num min l = if l.any (pastI num min) then 15 else 0 := by unfold addE; rw [hb]; rfl
  have HADD := Lib.hid hadd
  clear hb hadd HBAD
  have hpost : l.any (pastI num min) = true → DocPost p d (addL num min l) (addE num min l) w (.returned (.int .i64 15)) w := fun h => by
    have e0 : addE num min l = 15 := by rw [HADD.out, h]; rfl
    rw [show addL num min l = l by unfold addL; rw [e0]; rfl, e0]
    exact docPost_same HD.out (Ex.refl _ _)
  have HPOST := Lib.hid hpost
  clear hpost
  go_enter Tryz.func134, Tryz.ntmps134
  go_wp2
  go_loopw [7] (fun i wr => ∃ k : Nat, k ≤ l.length ∧ i = .int .i64 k ∧ wr = w ∧ ∀ t (h : t < l.length), t < k → pastI num min l[t] = false) (fun i _ => l.length - (intOf i).toNat)
  case atStart => exact ⟨0, Nat.zero_le _, rfl, rfl, fun t h ht => by omega⟩
  case round =>
    obtain ⟨k, hle, rfl, rfl, hq⟩ := hrel
    have HQ := Lib.hid hq
    clear hq
    by_cases hlt : k < l.length
    · obtain ⟨g, off, hA, hg, hc⟩ := hD.sN.one hlt
      obtain ⟨g2, off2, hA2, hg2, hc2⟩ := hD.sM.one hlt
      rw [hA] at n0
      rw [hA2] at n1
      have hi0' : (0 : Int) ≤ (k : Int) := Int.natCast_nonneg _
      have hi1 : (k : Int) < (l.length : Int) := by omega
      have hany : pastI num min l[k] = true → l.any (pastI num min) = true := fun h => List.any_eq_true.2 ⟨_, List.getElem_mem hlt, h⟩
      have hpe : pastI num min l[k] = (decide (num ≤ l[k].num) || decide (min < l[k].min)) := rfl
      have HANY := Lib.hid hany
      have HPE := Lib.hid hpe
      clear hany hpe
      by_cases hx1 : l[k].num ≥ num
      · have hp : pastI num min l[k] = true := by rw [HPE.out]; simp; omega
        have HP := Lib.hid (HPOST.out (HANY.out hp))
        clear hp
        generalize l[k].num = y at *
        go_wp2
        go_ret
        exact HP.out
      · by_cases hx2 : l[k].min > min
        · have hp : pastI num min l[k] = true := by rw [HPE.out]; simp; omega
          have HP := Lib.hid (HPOST.out (HANY.out hp))
          clear hp
          generalize l[k].num = y at *
          generalize l[k].min = z at *
          go_wp2
          go_ret
          exact HP.out
        · have hp : pastI num min l[k] = false := by rw [HPE.out]; simp; omega
          have HP := Lib.hid hp
          clear hp
          generalize l[k].num = y at *
          generalize l[k].min = z at *
          go_wp2
          go_roundw
          case rel => exact ⟨k + 1, by omega, by go_num, trivial, fun t h ht => by
            by_cases e : t = k
            · subst e; exact HP.out
            · exact HQ.out t h (by omega)⟩
          case measure => simp [intOf]; omega
    · have hno : l.any (pastI num min) = false := by
        rw [List.any_eq_false]; intro x hx
        obtain ⟨t, ht, rfl⟩ := List.getElem_of_mem hx
        rw [HQ.out t ht (by omega)]; simp
      have e0 : addE num min l = 0 := by rw [HADD.out, hno]; rfl
      have eL : addL num min l = l ++ [⟨num, min, false⟩] := by unfold addL; rw [e0]; rfl
      have E0 := Lib.hid e0
      have EL := Lib.hid eL
      have hn63 := hlen
      have hpl0 := hD.lt
      have D0 := Lib.hid (Doc3.of hD)
      have X0 := Lib.hid (Ex.refl (fun b => b = p) wr)
      clear e0 eL hno hD hk
      obtain ⟨dN, dM, dO, cN, cM, cO⟩ := d
      dsimp only at D0 n0 n1 n2
      -- region 8
      go_wp2_with (at_builtin; refine wpList_append_sl rfl (.tmp 52) (.tmp 56) 33 rfl wr.heap.size 31 iu _ 1 8 Tryz.underlying33 hiu hzu0 hzu1 hzu2 rfl (by decide) _ 0 [] rfl (own_empty (heap_alloc_new _ _) _ (by simp)) dN l.length cN (l.map (fun x : It => Value.int .u64 x.num)) rfl (D0.out.s0.ex0 (Ex.alloc _ _)) D0.out.e0 (one_map _ _ (fun _ => rfl)) (by unfold maxLen; omega) (by omega) (by simp) ?_)
      intro v01 w01 ho hg hat
      have hx01 : Ex0 wr w01 := ex_of_new (Ex.alloc _ _) hg (by intro b hb; simp [Value.ownBlock] at hb; first | omega | (rw [size_set]; omega))
      have HO01 := Lib.hid ho
      have HX01 := Lib.hid hx01
      have hsz01 : wr.heap.size ≤ w01.heap.size := by have := hx01.size; first | exact this | (rw [size_set] at this; exact this)
      obtain ⟨A01, cap01, rfl, hsl0, hbl0⟩ := own_sl ho
      clear ho hg hat hx01 hsl0 hbl0
      obtain ⟨m0, m1, m2, f0, f1, f2⟩ := (D0.out.ex0 HX01.out).cells
      have hpl := (D0.out.ex0 HX01.out).lt
      go_wp2_with (at_builtin; refine wpList_append_sl rfl (.tmp 57) (.tmp 59) 33 rfl wr.heap.size 31 iu _ 1 8 Tryz.underlying33 hiu hzu0 hzu1 hzu2 rfl (by decide) _ _ _ rfl (HO01.out.alloc _) _ 1 1 [.int .u64 num] rfl (sl_block (cs := #[.int .u64 num]) (e := 31) (fr := (0, 0)) (heap_alloc_new _ _) rfl (by omega)) (fun h => by cases h) (by simp [Value.oneCell']) (by unfold maxLen; omega) (by omega) (by simp; omega) ?_)
      intro v02 w02 ho hg hat
      have hx02 : Ex0 wr w02 := ex_of_new (HX01.out.alloc' _) hg (by intro b hb; have h9 := (HO01.out.lt b hb).1; first | exact h9 | (rw [size_set]; exact h9))
      have HO02 := Lib.hid ho
      have HX02 := Lib.hid hx02
      have hsz02 : wr.heap.size ≤ w02.heap.size := by have := hx02.size; first | exact this | (rw [size_set] at this; exact this)
      obtain ⟨A02, cap02, rfl, hsl, hbl, hcp⟩ := own_sl' ho
      have D1 := Lib.hid (D0.out.set0 hx02 hsl (fun b hb => by have h9 := ho.lt b (by rw [hbl]; exact hb); first | exact h9 | (rw [size_set]; exact h9)) hcp (own_cap ho))
      have X1 := Lib.hid ((X0.out.trans hx02 (T := fun _ => False) (U := fun b => b = p) (fun _ _ h => h) (fun _ _ h => h.elim)).trans (Ex.setCell w02 ⟨p, 0, none⟩ (.slice A02 (l.length + 1) cap02)) (U := fun b => b = p) (fun _ _ h => h) (fun _ _ h => h))
      have L1 := Lib.hid (show ∀ b, Bl A02 b → wr.heap.size ≤ b from fun b hb => by have h8 := X0.out.size; have h9 := (ho.lt b (by rw [hbl]; exact hb)).1; first | omega | (rw [size_set] at h8; omega))
      clear ho hg hat hx02 hsl hbl hcp m0 m1 m2 f0 f1 f2 hpl
      obtain ⟨m0, m1, m2, f0, f1, f2⟩ := (D0.out.ex0 HX02.out).cells
      have hpl := (D0.out.ex0 HX02.out).lt
      -- region 9
      go_wp2_with (at_builtin; refine wpList_append_sl rfl (.tmp 64) (.tmp 68) 76 rfl w02.heap.size 3 ii _ 1 8 Tryz.underlying76 hii hzi0 hzi1 hzi2 rfl (by decide) _ 0 [] rfl (own_empty (heap_alloc_set _ _ _ _) _ (by simp)) dM l.length cM (l.map (fun x : It => Value.int .i64 x.min)) rfl (D1.out.s1.ex0 (Ex.alloc _ _)) D1.out.e1 (one_map _ _ (fun _ => rfl)) (by unfold maxLen; omega) (by omega) (by simp) ?_)
      intro v11 w11 ho hg hat
      have hx11 : Ex0 (w02.setCell ⟨p, 0, none⟩ (.slice A02 (l.length + 1) cap02)) w11 := ex_of_new (Ex.alloc _ _) hg (by intro b hb; simp [Value.ownBlock] at hb; first | omega | (rw [size_set]; omega))
      have HO11 := Lib.hid ho
      have HX11 := Lib.hid hx11
      have hsz11 : w02.heap.size ≤ w11.heap.size := by have := hx11.size; first | exact this | (rw [size_set] at this; exact this)
      obtain ⟨A11, cap11, rfl, hsl0, hbl0⟩ := own_sl ho
      clear ho hg hat hx11 hsl0 hbl0
      obtain ⟨m0, m1, m2, f0, f1, f2⟩ := (D1.out.ex0 HX11.out).cells
      have hpl := (D1.out.ex0 HX11.out).lt
      go_wp2_with (at_builtin; refine wpList_append_sl rfl (.tmp 69) (.tmp 71) 76 rfl w02.heap.size 3 ii _ 1 8 Tryz.underlying76 hii hzi0 hzi1 hzi2 rfl (by decide) _ _ _ rfl (HO11.out.alloc _) _ 1 1 [.int .i64 min] rfl (sl_block (cs := #[.int .i64 min]) (e := 3) (fr := (0, 0)) (heap_alloc_new _ _) rfl (by omega)) (fun h => by cases h) (by simp [Value.oneCell']) (by unfold maxLen; omega) (by omega) (by simp; omega) ?_)
      intro v12 w12 ho hg hat
      have hx12 : Ex0 (w02.setCell ⟨p, 0, none⟩ (.slice A02 (l.length + 1) cap02)) w12 := ex_of_new (HX11.out.alloc' _) hg (by intro b hb; have h9 := (HO11.out.lt b hb).1; first | exact h9 | (rw [size_set]; exact h9))
      have HO12 := Lib.hid ho
      have HX12 := Lib.hid hx12
      have hsz12 : w02.heap.size ≤ w12.heap.size := by have := hx12.size; first | exact this | (rw [size_set] at this; exact this)
      obtain ⟨A12, cap12, rfl, hsl, hbl, hcp⟩ := own_sl' ho
      have D2 := Lib.hid (D1.out.set1 hx12 hsl (fun b hb => by have h9 := ho.lt b (by rw [hbl]; exact hb); first | exact h9 | (rw [size_set]; exact h9)) hcp (own_cap ho))
      have X2 := Lib.hid ((X1.out.trans hx12 (T := fun _ => False) (U := fun b => b = p) (fun _ _ h => h) (fun _ _ h => h.elim)).trans (Ex.setCell w12 ⟨p, 1, none⟩ (.slice A12 (l.length + 1) cap12)) (U := fun b => b = p) (fun _ _ h => h) (fun _ _ h => h))
      have L2 := Lib.hid (show ∀ b, Bl A12 b → wr.heap.size ≤ b from fun b hb => by have h8 := X1.out.size; have h9 := (ho.lt b (by rw [hbl]; exact hb)).1; first | omega | (rw [size_set] at h8; omega))
      clear ho hg hat hx12 hsl hbl hcp m0 m1 m2 f0 f1 f2 hpl
      obtain ⟨m0, m1, m2, f0, f1, f2⟩ := (D1.out.ex0 HX12.out).cells
      have hpl := (D1.out.ex0 HX12.out).lt
      -- region 10
      go_wp2_with (at_builtin; refine wpList_append_sl rfl (.tmp 76) (.tmp 80) 77 rfl w12.heap.size 4 ib _ 1 1 Tryz.underlying77 hib hzb0 hzb1 hzb2 rfl (by decide) _ 0 [] rfl (own_empty (heap_alloc_set _ _ _ _) _ (by simp)) dO l.length cO (l.map (fun x : It => Value.bool x.out)) rfl (D2.out.s2.ex0 (Ex.alloc _ _)) D2.out.e2 (one_map _ _ (fun _ => rfl)) (by unfold maxLen; omega) (by omega) (by simp) ?_)
      intro v21 w21 ho hg hat
      have hx21 : Ex0 (w12.setCell ⟨p, 1, none⟩ (.slice A12 (l.length + 1) cap12)) w21 := ex_of_new (Ex.alloc _ _) hg (by intro b hb; simp [Value.ownBlock] at hb; first | omega | (rw [size_set]; omega))
      have HO21 := Lib.hid ho
      have HX21 := Lib.hid hx21
      have hsz21 : w12.heap.size ≤ w21.heap.size := by have := hx21.size; first | exact this | (rw [size_set] at this; exact this)
      obtain ⟨A21, cap21, rfl, hsl0, hbl0⟩ := own_sl ho
      clear ho hg hat hx21 hsl0 hbl0
      obtain ⟨m0, m1, m2, f0, f1, f2⟩ := (D2.out.ex0 HX21.out).cells
      have hpl := (D2.out.ex0 HX21.out).lt
      go_wp2_with (at_builtin; refine wpList_append_sl rfl (.tmp 81) (.tmp 82) 77 rfl w12.heap.size 4 ib _ 1 1 Tryz.underlying77 hib hzb0 hzb1 hzb2 rfl (by decide) _ _ _ rfl (HO21.out.alloc _) _ 1 1 [.bool false] rfl (sl_block (cs := #[.bool false]) (e := 4) (fr := (0, 0)) (heap_alloc_new _ _) rfl (by omega)) (fun h => by cases h) (by simp [Value.oneCell']) (by unfold maxLen; omega) (by omega) (by simp; omega) ?_)
      intro v22 w22 ho hg hat
      have hx22 : Ex0 (w12.setCell ⟨p, 1, none⟩ (.slice A12 (l.length + 1) cap12)) w22 := ex_of_new (HX21.out.alloc' _) hg (by intro b hb; have h9 := (HO21.out.lt b hb).1; first | exact h9 | (rw [size_set]; exact h9))
      have HO22 := Lib.hid ho
      have HX22 := Lib.hid hx22
      have hsz22 : w12.heap.size ≤ w22.heap.size := by have := hx22.size; first | exact this | (rw [size_set] at this; exact this)
      obtain ⟨A22, cap22, rfl, hsl, hbl, hcp⟩ := own_sl' ho
      have D3 := Lib.hid (D2.out.set2 hx22 hsl (fun b hb => by have h9 := ho.lt b (by rw [hbl]; exact hb); first | exact h9 | (rw [size_set]; exact h9)) hcp (own_cap ho))
      have X3 := Lib.hid ((X2.out.trans hx22 (T := fun _ => False) (U := fun b => b = p) (fun _ _ h => h) (fun _ _ h => h.elim)).trans (Ex.setCell w22 ⟨p, 2, none⟩ (.slice A22 (l.length + 1) cap22)) (U := fun b => b = p) (fun _ _ h => h) (fun _ _ h => h))
      have L3 := Lib.hid (show ∀ b, Bl A22 b → wr.heap.size ≤ b from fun b hb => by have h8 := X2.out.size; have h9 := (ho.lt b (by rw [hbl]; exact hb)).1; first | omega | (rw [size_set] at h8; omega))
      clear ho hg hat hx22 hsl hbl hcp m0 m1 m2 f0 f1 f2 hpl
      obtain ⟨m0, m1, m2, f0, f1, f2⟩ := (D2.out.ex0 HX22.out).cells
      have hpl := (D2.out.ex0 HX22.out).lt
      go_wp2
      go_ret
      have D4 := D3.out
      have hl1 : (l ++ [(⟨num, min, false⟩ : It)]).length = l.length + 1 := by simp
      rw [EL.out, E0.out]
      refine ⟨⟨A02, A12, A22, cap02, cap12, cap22⟩, rfl, Doc3.to (by simpa using D4), fun b hb => .inr ?_, X3.out⟩
      rcases hb with hb | hb | hb
      · exact L1.out b hb
      · exact L2.out b hb
      · exact L3.out b hb

theorem map_set_same {β : Type} (f : It → β) (l : List It) (i : Nat) (x' : It) (h : i < l.length) (he : f x' = f l[i]) : (l.set i x').map f = l.map f := by
  rw [List.map_set, he]
  apply List.ext_getElem (by simp)
  intro j h1 h2
  rw [List.getElem_set]
  split
  · rename_i e; subst e; simp
  · rfl
set_option maxRecDepth 100000 in
set_option maxHeartbeats 4000000 in
theorem rrelease_any (p : Nat) (d : DocV) (l : List It) (num : Int) (w : World) (hD : DocAt w p d l) (hk : TabOk l) :
    Calls Tryz.prog 131 #[.pointer (some ⟨p, 0, none⟩), .int .u64 num] w (DocPost p d (relL num l) (relE num l) w) := by
  obtain ⟨ib, hib, hzb0, hzb1, hzb2⟩ := info_parts infoB
  have hn := hk.len
  go_enter Tryz.func131, Tryz.ntmps131
  go_wp2_with fail
  refine (rfind_any p d l num _ hD hk).mono ?_
  rintro e w1 ⟨rfl, hx⟩
  have hD1 := Lib.hid (hD.ex0 hx)
  have HX := Lib.hid hx
  have HD := Lib.hid hD
  clear hD hx
  rcases idxI_cases num l with ⟨hh, hi⟩ | ⟨hh, hi⟩
  · have HH := Lib.hid hh
    rw [hi]
    clear hh hi
    go_wp2
    go_ret
    have e0 : relE num l = 4 := by unfold relE; rw [HH.out]; rfl
    rw [show relL num l = l by unfold relL; rw [e0]; rfl, e0]
    exact docPost_same HD.out HX.out
  · rw [hi]
    obtain ⟨hlo, _⟩ := has_get hk.srt hh
    obtain ⟨n0, n1, n2⟩ := hD1.out.cells
    have hpl := hD1.out.lt
    have hfz : w1.frozen? ⟨p, 2, none⟩ = false := frozen_of_row w1 p 2 _ _ hD1.out.blk
    obtain ⟨g, off, hA, hg, hc⟩ := hD1.out.sO.one hlo
    rw [hA] at n2
    rw [← gt_get hlo] at hc
    have hrl : relE num l = if (gt l (lo num l)).out then 7 else if lo num l + 1 = l.length then 12 else 0 := by unfold relE; rw [hh]; rfl
    have hll : relL num l = if relE num l = 0 then l.set (lo num l) ⟨(gt l (lo num l)).num, (gt l (lo num l)).min, true⟩ else l := rfl
    have hm1 := map_set_same (fun x : It => Value.int .u64 x.num) l (lo num l) ⟨(gt l (lo num l)).num, (gt l (lo num l)).min, true⟩ hlo (by rw [gt_get hlo])
    have hm2 := map_set_same (fun x : It => Value.int .i64 x.min) l (lo num l) ⟨(gt l (lo num l)).num, (gt l (lo num l)).min, true⟩ hlo (by rw [gt_get hlo])
    have hm3 : (l.set (lo num l) ⟨(gt l (lo num l)).num, (gt l (lo num l)).min, true⟩).map (fun x : It => Value.bool x.out) = (l.map fun x : It => Value.bool x.out).set (lo num l) (.bool true) := by rw [List.map_set]
    have HRL := Lib.hid hrl
    have HLL := Lib.hid hll
    have HM1 := Lib.hid hm1
    have HM2 := Lib.hid hm2
    have HM3 := Lib.hid hm3
    have HA := Lib.hid hA
    have hi0 : (0 : Int) ≤ (lo num l : Int) := Int.natCast_nonneg _
    have hi1 : (lo num l : Int) < (l.length : Int) := by omega
    have hi2 : ¬ ((lo num l : Int) < 0) := by omega
    clear hrl hll hh hi hm1 hm2 hm3 hA
    generalize gt l (lo num l) = x at *
    generalize lo num l = i at *
    obtain ⟨x1, x2, x3⟩ := x
    dsimp only at hc
    cases x3 with
    | true =>
      go_wp2
      go_ret
      have e0 : relE num l = 7 := by rw [HRL.out]; rfl
      rw [show relL num l = l by rw [HLL.out, e0]; rfl, e0]
      exact docPost_same HD.out HX.out
    | false =>
      by_cases hlast : i + 1 = l.length
      · have heq : ((i : Int) == (l.length : Int) - 1) = true := by simp; omega
        have HLA := Lib.hid hlast
        clear hlast
        go_wp2
        go_ret
        have e0 : relE num l = 12 := by rw [HRL.out]; simp [HLA.out]
        rw [show relL num l = l by rw [HLL.out, e0]; rfl, e0]
        exact docPost_same HD.out HX.out
      · have heq : ((i : Int) == (l.length : Int) - 1) = false := by rw [beq_eq_false_iff_ne]; omega
        have HLA := Lib.hid hlast
        clear hlast
        have D0 := Lib.hid (Doc3.of hD1.out)
        go_wp2_with (at_builtin; refine wpList_append_sl rfl (.tmp 27) (.tmp 31) 77 rfl w1.heap.size 4 ib _ 1 1 Tryz.underlying77 hib hzb0 hzb1 hzb2 rfl (by decide) _ 0 [] rfl (own_empty (heap_alloc_new _ _) _ (by simp)) (some ⟨g, off, none⟩) l.length d.cO (l.map (fun x : It => Value.bool x.out)) rfl (by rw [← HA.out]; exact (D0.out.s2.ex0 (Ex.alloc _ _))) (fun h => by cases h) (one_map _ _ (fun _ => rfl)) (by unfold maxLen; omega) (by omega) (by simp) ?_)
        intro v1 w2 ho hg2 hat
        have hx2 : Ex0 w1 w2 := ex_of_new (Ex.alloc _ _) hg2 (by intro b hb; simp [Value.ownBlock] at hb; omega)
        obtain ⟨g1, cap1, rfl, hgle, hglt⟩ := ho.form (by omega)
        obtain ⟨A', cap', hve, hsl, hbl, hcp⟩ := own_sl' ho
        simp only [Value.slice.injEq, true_and] at hve
        obtain ⟨rfl, rfl⟩ := hve
        have hne : g1 ≠ p := by omega
        have D1 := Lib.hid (D0.out.set2 hx2 hsl (fun b hb => ho.lt b (by rw [hbl]; exact hb)) hcp (own_cap ho))
        have ho' := own_ex ho (Ex.setCell w2 ⟨p, 2, none⟩ (.slice (some ⟨g1, 0, none⟩) l.length cap1)) (fun b hb e => hne (by simp [Value.ownBlock] at hb; rw [hb]; exact e))
        have hst := ho'.stored i (.bool true)
        rw [← HM3.out] at hst
        have hcell : w2.cell? ⟨g1, i, none⟩ = some (.bool false) := by
          rw [ho.cellAt i (by omega), List.getElem?_map, List.getElem?_eq_getElem hlo]
          have := (hD1.out.sO.one hlo)
          obtain ⟨ga, oa, hAa, _, hca⟩ := this
          rw [HA.out] at hAa
          cases hAa
          rw [hc] at hca
          simpa using hca.symm
        have hfr : w2.frozen? ⟨g1, i, none⟩ = false := ho.frozenAt i
        obtain ⟨m0, m1, m2, f0, f1, f2⟩ := (D0.out.ex0 hx2).cells
        have hpl2 := (D0.out.ex0 hx2).lt
        have HST := Lib.hid hst.1
        have HX2 := Lib.hid hx2
        have HGT := Lib.hid (show w1.heap.size ≤ g1 from hgle)
        clear ho ho' hst hx2 hg2 hat hsl hbl hcp
        go_wp2
        go_ret
        have e0 : relE num l = 0 := by rw [HRL.out]; simp [HLA.out]
        have eL : relL num l = l.set i ⟨x1, x2, true⟩ := by rw [HLL.out, e0]; rfl
        rw [eL, e0]
        have hX := Ex.setCell (w2.setCell ⟨p, 2, none⟩ (.slice (some ⟨g1, 0, none⟩) l.length cap1)) ⟨g1, i, none⟩ (.bool true)
        have hlt0 : ∀ b, (Bl d.N b ∨ Bl d.M b) → b ≠ g1 := fun b hb e => by
          have h9 := HGT.out
          rcases hb with hb | hb
          · have := (hD1.out.ap b (.inl hb)).2; omega
          · have := (hD1.out.ap b (.inr (.inl hb))).2; omega
        obtain ⟨A3, cap3, hv3, hsl3, _, _⟩ := own_sl' HST.out
        simp only [Value.slice.injEq, true_and] at hv3
        obtain ⟨rfl, rfl⟩ := hv3
        refine ⟨⟨d.N, d.M, some ⟨g1, 0, none⟩, d.cN, d.cM, cap1⟩, rfl, ?_, ?_, ?_⟩
        · refine ⟨?_, ?_, ?_, ?_, D1.out.e0, D1.out.e1, D1.out.e2, ?_, by rw [List.length_set]; exact D1.out.k0, by rw [List.length_set]; exact D1.out.k1, by rw [List.length_set]; exact D1.out.k2⟩
          · rw [List.length_set]; exact (hX.block p D1.out.lt (fun e => hne e.symm)).trans D1.out.blk
          · rw [List.length_set, HM1.out]; exact D1.out.s0.ex hX (fun b hb => hlt0 b (.inl hb))
          · rw [List.length_set, HM2.out]; exact D1.out.s1.ex hX (fun b hb => hlt0 b (.inr hb))
          · rw [List.length_set]; exact hsl3
          · intro b hb
            have hs9 := hX.size
            rcases hb with hb | hb | hb
            · exact ⟨(D1.out.a0 b hb).1, Nat.lt_of_lt_of_le (D1.out.a0 b hb).2 hs9⟩
            · exact ⟨(D1.out.a1 b hb).1, Nat.lt_of_lt_of_le (D1.out.a1 b hb).2 hs9⟩
            · exact ⟨(D1.out.a2 b hb).1, Nat.lt_of_lt_of_le (D1.out.a2 b hb).2 hs9⟩
        · intro b hb
          rcases hb with hb | hb | hb
          · exact .inl (.inl hb)
          · exact .inl (.inr (.inl hb))
          · right
            have e : g1 = b := by simpa [Bl] using hb
            subst e
            exact Nat.le_trans HX.out.size HGT.out
        · have hw2 : w.heap.size ≤ g1 := Nat.le_trans HX.out.size HGT.out
          have hall : Ex0 w w2 := HX.out.trans0 HX2.out
          have h3 := (hall.trans (Ex.setCell w2 ⟨p, 2, none⟩ (.slice (some ⟨g1, 0, none⟩) l.length cap1)) (U := fun b => b = p) (fun _ _ h => h.elim) (fun _ _ h => h))
          exact h3.trans hX (fun _ _ h => h) (fun b hb h => by simp at h; omega)
end Go.Proofs.YtoglddndicmelaaGreat.Mo
