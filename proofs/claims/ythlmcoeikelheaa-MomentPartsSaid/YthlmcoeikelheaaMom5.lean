/- Contracts of layer 28: New, Add, Release, Drop, Clone. -/
import Derived.Test.YthlmcoeikelheaaMom4
import Derived.Test.YthlmcoeikelheaaB6
import Derived.WalkSpells
import Derived.Maps.AppendAt
namespace Go.Proofs.Ythlmcoeikelheaa
open Go.RowKit Go.Proofs.YthlmcoeikelheaaB Go.Shelf

theorem TabAt.item0 {w : World} {p : Nat} {v : Value} {l : List It} (h : TabAt w p v l) {i : Nat} (hi : i < l.length) : ∃ g cap, v = .slice (some ⟨g, 0, none⟩) l.length cap ∧ g < w.heap.size ∧ ItC g (i * 3) (gt l i) w := by
  obtain ⟨g, off, cap, rfl, hc⟩ := h.item hi
  obtain ⟨g', cap', hve, _, hlt⟩ := h.own.form (by omega)
  simp only [Value.slice.injEq, Option.some.injEq, Addr.mk.injEq, and_true, true_and] at hve
  obtain ⟨⟨rfl, rfl⟩, rfl⟩ := hve
  exact ⟨g, cap, rfl, hlt, by simpa using hc⟩

theorem it_one (l : List It) : ∀ u ∈ l.flatMap It.cells, u.oneCell' = true := by
  intro u hu
  obtain ⟨x, _, hx⟩ := List.mem_flatMap.1 hu
  simp only [It.cells, List.mem_cons, List.not_mem_nil, or_false] at hx
  rcases hx with rfl | rfl | rfl <;> rfl

theorem new_any (w : World) :
    Calls Try.prog 14 #[] w fun e w' => e = .returned (.pointer (some ⟨w.heap.size, 0, none⟩)) ∧ TabAt w' w.heap.size (.slice none 0 0) [] ∧ Ex0 w w' := by
  go_enter Try.func14, Try.ntmps14
  go_wp2
  go_ret
  exact ⟨rfl, ⟨heap_alloc_new _ _, World.ownsRow_nil _ _ _ _, by simp [Value.ownBlock]⟩, Ex.alloc _ _⟩

set_option maxHeartbeats 1000000 in
theorem sclone_any (v : Value) (n : Nat) (cs : List Value) (w : World) (ho : w.ownsRow 0 71 3 v n cs) (h1 : ∀ u ∈ cs, u.oneCell' = true) (hn : n ≤ 1000000) :
    Calls Try.prog 44 #[v] w fun e w' => ∃ v', e = .returned v' ∧ w'.ownsRow w.heap.size 71 3 v' n cs ∧ Ex0 w w' := by
  have he : ∀ (a : Option Addr) (n c : Nat) (w : World), (binOp .eql 64 (.slice a n c) (.slice none 0 0)).run Try.prog w = .ok (.bool a.isNone) w := fun a n c w => Lib.run_eql_slice_nil w _ _ a n c 0 0 Try.underlying64
  obtain ⟨hlen, ⟨rfl, h0⟩ | ⟨g, cap, cur, rfl, hb, hg, hnc, hcap, hsz, htake⟩⟩ := ho
  · go_enter Try.func44, Try.ntmps44
    go_wp2
    go_ret
    subst h0
    exact ⟨_, rfl, ⟨hlen, .inl ⟨rfl, rfl⟩⟩, Ex.refl _ _⟩
  · obtain ⟨i0, hi0, hz0, hz1, hz2⟩ := info_parts infoIt
    have hrow : RowAt w ⟨g, 0, none⟩ cs := by
      have := World.ownsRow.cells (w := w) (base := 0) (e := 71) (size := 3) (v := .slice (some ⟨g, 0, none⟩) n cap) (n := n) (xs := cs) ⟨hlen, .inr ⟨g, cap, cur, rfl, hb, hg, hnc, hcap, hsz, htake⟩⟩ (g := g) rfl
      exact this
    have hlt := (Array.getElem?_eq_some_iff.1 hg).1
    have HL := Lib.hid hlen
    have HR := Lib.hid (hrow.ex (Ex.alloc w (.cells #[] 71)) not_false)
    clear hlen htake hg hsz hrow
    have hown := World.ownsRow_made (base := w.heap.size) (e := 71) (size := 3) w #[] 0 (Nat.le_refl _) (by decide) rfl
    have HO := Lib.hid hown
    clear hown
    go_enter Try.func44, Try.ntmps44
    go_wp2_with (refine wpList_append_own_at _ rfl (.tmp 5) (.tmp 6) 64 rfl w.heap.size 71 i0 _ 3 24 Try.underlying64 hi0 hz0 hz1 hz2 rfl (by decide) _ 0 [] rfl HO.out ⟨g, 0, none⟩ n cap cs rfl HL.out HR.out h1 (by unfold maxLen; omega) (by omega) (by simp) ?_)
    intro v' w1 hown1 hgrow _ hat
    go_wp2
    go_ret
    refine ⟨v', rfl, by simpa using hown1, (Ex.alloc w _).trans (Ex.ofGrown hgrow) (fun _ _ h => h) ?_⟩
    intro k hk h
    simp [Value.ownBlock] at h
    omega

theorem clone_any (p : Nat) (v : Value) (l : List It) (w : World) (hB : TabAt w p v l) (hn : l.length ≤ 1000000) :
    Calls Try.prog 35 #[.pointer (some ⟨p, 0, none⟩)] w fun e w' => ∃ p' v', e = .returned (.pointer (some ⟨p', 0, none⟩)) ∧ w.heap.size ≤ p' ∧ (∀ b, v'.ownBlock = some b → w.heap.size ≤ b) ∧ TabAt w' p' v' l ∧ Ex0 w w' := by
  have hc := hB.cell
  have hl := hB.lt
  go_enter Try.func35, Try.ntmps35
  go_wp2_with fail
  refine (sclone_any v l.length _ _ hB.own (it_one l) hn).mono ?_
  rintro e w1 ⟨v', rfl, ho, hx⟩
  have hlt : ∀ b, v'.ownBlock = some b → w.heap.size ≤ b ∧ b < w1.heap.size := fun b hb => ho.lt b hb
  have HT := Lib.hid hlt
  clear hlt
  obtain ⟨A, cap, rfl, _, hbl⟩ := own_sl ho
  have HB := Lib.hid hbl
  clear hbl
  go_wp2
  go_ret
  refine ⟨w1.heap.size, _, rfl, hx.size, fun b hb => (HT.out b hb).1, ⟨heap_alloc_new _ _, own_ex (own_base ho (fun _ _ => Nat.zero_le _)) (Ex.alloc _ _) (fun _ _ => id), fun h => ?_⟩, hx.alloc' _⟩
  have := (HT.out _ h).2
  omega


/-- what a method leaves that changes a table -/
def TabPost (p : Nat) (v : Value) (l' : List It) (r : Int) (w : World) (e : Ending) (w' : World) : Prop :=
  ∃ v', e = .returned (.int .i64 r) ∧ (v'.ownBlock = v.ownBlock ∨ ∃ b, v'.ownBlock = some b ∧ w.heap.size ≤ b) ∧ TabAt w' p v' l' ∧ Ex (fun b => b = p ∨ v.ownBlock = some b) w w'
theorem tabPost_same {p : Nat} {v : Value} {l : List It} {r : Int} {w w' : World} (hB : TabAt w p v l) (hx : Ex0 w w') : TabPost p v l r w (.returned (.int .i64 r)) w' :=
  ⟨v, rfl, .inl rfl, hB.ex0 hx, hx.to (fun _ _ hh => hh.elim)⟩
theorem tabPost_store {p : Nat} {v v2 : Value} {l l' : List It} {r : Int} {w w2 : World} (hB : TabAt w p v l) (hx : Ex (fun b => v.ownBlock = some b) w w2) (ho : w2.ownsRow 0 71 3 v2 l'.length (l'.flatMap It.cells))
    (hv : v2.ownBlock = v.ownBlock ∨ ∃ b, v2.ownBlock = some b ∧ w.heap.size ≤ b) : TabPost p v l' r w (.returned (.int .i64 r)) (w2.setCell ⟨p, 0, none⟩ v2) := by
  have hne : v2.ownBlock ≠ some p := by
    rcases hv with h | ⟨b, h, hle⟩
    · rw [h]; exact hB.ne
    · rw [h]; intro e; cases e; have := hB.lt; omega
  have hb2 : w2.heap[p]? = some (.cells #[v] 66 (0, 0)) := (hx.block p hB.lt hB.ne).trans hB.blk
  refine ⟨v2, rfl, hv, ⟨heap_setCell_same w2 p 0 #[v] _ _ hb2, own_ex ho (Ex.setCell w2 _ _) (fun b hb h => hne ?_), hne⟩, hx.trans (Ex.setCell w2 _ _) (fun _ _ h => .inr h) (fun _ _ h => .inl h)⟩
  rw [hb, h]

/-! ### Release -/
def relE (num : Int) (l : List It) : Int := if has num l then (if (gt l (lo num l)).out then 7 else if lo num l + 1 = l.length then 12 else 0) else 4
def relL (num : Int) (l : List It) : List It := if relE num l = 0 then l.set (lo num l) ⟨(gt l (lo num l)).num, (gt l (lo num l)).min, true⟩ else l

theorem release_any (p : Nat) (v : Value) (l : List It) (num : Int) (w : World) (hB : TabAt w p v l) (hk : TabOk l) :
    Calls Try.prog 22 #[.pointer (some ⟨p, 0, none⟩), .int .u64 num] w (TabPost p v (relL num l) (relE num l) w) := by
  have hn := hk.len
  go_enter Try.func22, Try.ntmps22
  go_wp2_with fail
  refine (find_any p v l num _ hB hk).mono ?_
  rintro e w1 ⟨rfl, hx⟩
  have hB1 := hB.ex0 hx
  have hX := Lib.hid hx
  have hHB := Lib.hid hB
  clear hx hB
  cases hh : has num l
  · have HH := Lib.hid hh
    clear hh
    go_wp2
    go_ret
    have e0 : relE num l = 4 := by unfold relE; rw [HH.out]; rfl
    rw [show relL num l = l by unfold relL; rw [e0]; rfl, e0]
    exact tabPost_same hHB.out hX.out
  · obtain ⟨hi, _⟩ := has_get hk.srt hh
    obtain ⟨g, cap, rfl, hg, c0, c1, c2⟩ := hB1.item0 hi
    have hc := hB1.cell
    have hf := hB1.own.frozenAt (lo num l * 3 + 2)
    have hst := hB1.own.stored (lo num l * 3 + 2) (.bool true)
    have hfs := flat_set It.cells 3 It.len 2 (.bool true) (by decide) l (lo num l) ⟨(gt l (lo num l)).num, (gt l (lo num l)).min, true⟩ hi (by rw [gt_get hi]; rfl)
    rw [hfs] at hst
    have hrl : relE num l = if (gt l (lo num l)).out then 7 else if lo num l + 1 = l.length then 12 else 0 := by unfold relE; rw [hh]; rfl
    have hll : relL num l = if relE num l = 0 then l.set (lo num l) ⟨(gt l (lo num l)).num, (gt l (lo num l)).min, true⟩ else l := rfl
    have HST := Lib.hid hst
    have HRL := Lib.hid hrl
    have HLL := Lib.hid hll
    have HBB := Lib.hid hB1
    have HI := Lib.hid hi
    have hi0 : (0 : Int) ≤ (lo num l : Int) := Int.natCast_nonneg _
    have hi1 : (lo num l : Int) < (l.length : Int) := by omega
    clear hst hrl hll hfs hB1 hh
    generalize gt l (lo num l) = x at *
    generalize lo num l = i at *
    obtain ⟨x1, x2, x3⟩ := x
    dsimp only at c0 c1 c2
    cases x3 with
    | true =>
      go_wp2
      go_ret
      have e0 : relE num l = 7 := by rw [HRL.out]; rfl
      rw [show relL num l = l by rw [HLL.out, e0]; rfl, e0]
      exact tabPost_same hHB.out hX.out
    | false =>
      by_cases hlast : i + 1 = l.length
      · have heq : ((i : Int) == (l.length : Int) - 1) = true := by simp; omega
        have HLA := Lib.hid hlast
        clear hlast
        go_wp2
        go_ret
        have e0 : relE num l = 12 := by rw [HRL.out]; simp [HLA.out]
        rw [show relL num l = l by rw [HLL.out, e0]; rfl, e0]
        exact tabPost_same hHB.out hX.out
      · have heq : ((i : Int) == (l.length : Int) - 1) = false := by rw [beq_eq_false_iff_ne]; omega
        have HLA := Lib.hid hlast
        clear hlast
        go_wp2
        go_ret
        have e0 : relE num l = 0 := by rw [HRL.out]; simp [HLA.out]
        have eL : relL num l = l.set i ⟨x1, x2, true⟩ := by rw [HLL.out, e0]; rfl
        rw [eL, e0]
        have hne : g ≠ p := fun e => HBB.out.ne (by rw [← e]; rfl)
        refine ⟨_, rfl, .inl rfl, ⟨(Ex.setCell w1 ⟨g, i * 3 + 2, none⟩ (.bool true)).block p HBB.out.lt (fun e => hne e.symm) |>.trans HBB.out.blk, ?_, HBB.out.ne⟩, hX.out.trans (Ex.setCell w1 _ _) (fun _ _ h => h.elim) (fun _ _ h => .inr (by rw [h]; rfl))⟩
        rw [List.length_set]
        exact HST.out.1

/-! ### Drop -/
def dropE (num : Int) (l : List It) : Int := if has num l then (if (gt l (lo num l)).out then 0 else 7) else 4
def dropL (num : Int) (l : List It) : List It := if dropE num l = 0 then l.eraseIdx (lo num l) else l

theorem drop_any (p : Nat) (v : Value) (l : List It) (num : Int) (w : World) (hB : TabAt w p v l) (hk : TabOk l) :
    Calls Try.prog 23 #[.pointer (some ⟨p, 0, none⟩), .int .u64 num] w (TabPost p v (dropL num l) (dropE num l) w) := by
  have hn := hk.len
  go_enter Try.func23, Try.ntmps23
  go_wp2_with fail
  refine (find_any p v l num _ hB hk).mono ?_
  rintro e w1 ⟨rfl, hx⟩
  have hB1 := hB.ex0 hx
  have hX := Lib.hid hx
  have hHB := Lib.hid hB
  clear hx hB
  cases hh : has num l
  · have HH := Lib.hid hh
    clear hh
    go_wp2
    go_ret
    have e0 : dropE num l = 4 := by unfold dropE; rw [HH.out]; rfl
    rw [show dropL num l = l by unfold dropL; rw [e0]; rfl, e0]
    exact tabPost_same hHB.out hX.out
  · obtain ⟨hi, _⟩ := has_get hk.srt hh
    obtain ⟨g, cap, rfl, hg, c0, c1, c2⟩ := hB1.item0 hi
    have hc := hB1.cell
    have hrl : dropE num l = if (gt l (lo num l)).out then 0 else 7 := by unfold dropE; rw [hh]; rfl
    have hll : dropL num l = if dropE num l = 0 then l.eraseIdx (lo num l) else l := rfl
    have HRL := Lib.hid hrl
    have HLL := Lib.hid hll
    have HBB := Lib.hid hB1
    have hi0 : (0 : Int) ≤ (lo num l : Int) := Int.natCast_nonneg _
    have hi1 : (lo num l : Int) < (l.length : Int) := by omega
    clear hrl hll hB1 hh
    generalize gt l (lo num l) = x at *
    generalize lo num l = i at *
    obtain ⟨x1, x2, x3⟩ := x
    dsimp only at c0 c1 c2
    cases x3 with
    | false =>
      go_wp2
      go_ret
      have e0 : dropE num l = 7 := by rw [HRL.out]; rfl
      rw [show dropL num l = l by rw [HLL.out, e0]; rfl, e0]
      exact tabPost_same hHB.out hX.out
    | true =>
      go_wp2_with fail
      rw [show ((i : Int) + 1) = ((i + 1 : Nat) : Int) from by simp]
      refine (delete_any _ l.length i (i + 1) _ w1 HBB.out.own (it_one l) (by omega) (by omega)).mono ?_
      rintro e w2 ⟨v', rfl, hob, hown, hx2⟩
      have hlen : (l.eraseIdx i).length = l.length - 1 := by rw [List.length_eraseIdx, if_pos hi]
      have hcs : (l.flatMap It.cells).take (i * 3) ++ (l.flatMap It.cells).drop ((i + 1) * 3) = (l.eraseIdx i).flatMap It.cells := by
        rw [flat_take It.cells 3 It.len, flat_drop It.cells 3 It.len, ← List.flatMap_append, List.eraseIdx_eq_take_drop_succ]
      rw [hcs, show l.length - (i + 1 - i) = (l.eraseIdx i).length by rw [hlen]; omega] at hown
      have HO := Lib.hid hown
      have hb2 := (hx2.block p HBB.out.lt HBB.out.ne).trans HBB.out.blk
      have hc2 : w2.cell? ⟨p, 0, none⟩ = some (.slice (some ⟨g, 0, none⟩) l.length cap) := by rw [cell_of_row w2 p 0 _ _ _ hb2]; rfl
      have hf2 : w2.frozen? ⟨p, 0, none⟩ = false := frozen_of_row w2 p 0 _ _ hb2
      obtain ⟨A, cap', rfl, _, _⟩ := own_sl hown
      have HOB := Lib.hid hob
      have HX2 := Lib.hid hx2
      have HLN := Lib.hid hlen
      clear hob hlen hcs hown hb2 hx2
      go_wp2
      go_ret
      have e0 : dropE num l = 0 := by rw [HRL.out]; rfl
      have eL : dropL num l = l.eraseIdx i := by rw [HLL.out, e0]; rfl
      rw [eL, e0]
      exact tabPost_store hHB.out (hX.out.trans HX2.out (fun _ _ h => h.elim) (fun _ _ h => h)) HO.out (.inl HOB.out)

/-! ### Add -/
def rngB (num min : Int) : Bool := decide (1 ≤ num) && decide (num ≤ 65535) && decide (0 ≤ min) && decide (min ≤ 1073741824)
def pastI (num min : Int) (x : It) : Bool := decide (num ≤ x.num) || decide (min < x.min)
def addE (num min : Int) (l : List It) : Int := if rngB num min then (if l.any (pastI num min) then 15 else 0) else 2
def addL (num min : Int) (l : List It) : List It := if addE num min l = 0 then l ++ [⟨num, min, false⟩] else l

theorem past_last {l : List It} (hs : Srt l) (num min : Int) (h0 : 0 < l.length) : l.any (pastI num min) = pastI num min (gt l (l.length - 1)) := by
  rw [gt_get (by omega)]
  cases h : pastI num min (l[l.length - 1]'(by omega))
  · rw [List.any_eq_false]
    intro x hx
    obtain ⟨t, ht, rfl⟩ := List.getElem_of_mem hx
    unfold pastI at h ⊢
    simp at h ⊢
    rcases Nat.lt_or_ge t (l.length - 1) with h1 | h1
    · have := srt_get hs ht (show l.length - 1 < l.length by omega) h1
      omega
    · have e : t = l.length - 1 := by omega
      subst e; omega
  · rw [List.any_eq_true]
    exact ⟨_, List.getElem_mem _, h⟩

set_option maxHeartbeats 2000000 in
theorem add_any (p : Nat) (v : Value) (l : List It) (num min : Int) (w : World) (hB : TabAt w p v l) (hk : TabOk l) (hlen : l.length ≤ 900) :
    Calls Try.prog 20 #[.pointer (some ⟨p, 0, none⟩), .int .u64 num, .int .i64 min] w (TabPost p v (addL num min l) (addE num min l) w) := by
  have hc := hB.cell
  obtain ⟨i0, hi0, hz0, hz1, hz2⟩ := info_parts infoIt
  have hcases : (num < 1) ∨ (¬ num < 1 ∧ num > 65535) ∨ (¬ num < 1 ∧ ¬ num > 65535 ∧ min < 0) ∨ (¬ num < 1 ∧ ¬ num > 65535 ∧ ¬ min < 0 ∧ min > 1073741824) ∨ (¬ num < 1 ∧ ¬ num > 65535 ∧ ¬ min < 0 ∧ ¬ min > 1073741824) := by omega
  have hbad : rngB num min = false → TabPost p v (addL num min l) (addE num min l) w (.returned (.int .i64 2)) w := fun h => by
    have e0 : addE num min l = 2 := by unfold addE; rw [h]; rfl
    rw [show addL num min l = l by unfold addL; rw [e0]; rfl, e0]
    exact tabPost_same hB (Ex.refl _ _)
  have HBAD := Lib.hid hbad
  have HB := Lib.hid hB
  have HK := Lib.hid hk
  clear hbad
  rcases hcases with h1 | ⟨h1, h2⟩ | ⟨h1, h2, h3⟩ | ⟨h1, h2, h3, h4⟩ | ⟨h1, h2, h3, h4⟩
  · have hb : rngB num min = false := by unfold rngB; simp; omega
    have HBD := Lib.hid hb
    clear hb hB hk
    go_enter Try.func20, Try.ntmps20
    go_wp2
    go_ret
    exact HBAD.out HBD.out
  · have hb : rngB num min = false := by unfold rngB; simp; omega
    have HBD := Lib.hid hb
    clear hb hB hk
    go_enter Try.func20, Try.ntmps20
    go_wp2
    go_ret
    exact HBAD.out HBD.out
  · have hb : rngB num min = false := by unfold rngB; simp; omega
    have HBD := Lib.hid hb
    clear hb hB hk
    go_enter Try.func20, Try.ntmps20
    go_wp2
    go_ret
    exact HBAD.out HBD.out
  · have hb : rngB num min = false := by unfold rngB; simp; omega
    have HBD := Lib.hid hb
    clear hb hB hk
    go_enter Try.func20, Try.ntmps20
    go_wp2
    go_ret
    exact HBAD.out HBD.out
  have hb : rngB num min = true := by unfold rngB; simp; omega
  have hadd : addE num min l = if l.any (pastI num min) then 15 else 0 := by unfold addE; rw [hb]; rfl
  have HADD := Lib.hid hadd
  clear hb hadd HBAD
  have hpost : l.any (pastI num min) = true → TabPost p v (addL num min l) (addE num min l) w (.returned (.int .i64 15)) w := fun h => by
    have e0 : addE num min l = 15 := by rw [HADD.out, h]; rfl
    rw [show addL num min l = l by unfold addL; rw [e0]; rfl, e0]
    exact tabPost_same HB.out (Ex.refl _ _)
  have hdone : l.any (pastI num min) = false → ∀ v2 w2, w2.ownsRow 0 71 3 v2 (l.length + 1) (l.flatMap It.cells ++ [.int .u64 num, .int .i64 min, .bool false]) →
      (w.alloc (.cells #[.int .u64 num, .int .i64 min, .bool false] 71)).grownBy w2 v.ownBlock → (v2.ownBlock = v.ownBlock ∨ v2.ownBlock = some (w.heap.size + 1)) →
      TabPost p v (addL num min l) (addE num min l) w (.returned (.int .i64 0)) (w2.setCell ⟨p, 0, none⟩ v2) := fun h v2 w2 ho hg hv => by
    have e0 : addE num min l = 0 := by rw [HADD.out, h]; rfl
    rw [show addL num min l = l ++ [⟨num, min, false⟩] by unfold addL; rw [e0]; rfl, e0]
    refine tabPost_store HB.out ((Ex.alloc w _).trans (Ex.ofGrown hg) (fun _ _ h => h.elim) (fun _ _ h => h)) ?_ ?_
    · rw [List.length_append, List.flatMap_append]; exact ho
    · rcases hv with h | h
      · exact .inl h
      · exact .inr ⟨_, h, by omega⟩
  have HPOST := Lib.hid hpost
  have HDONE := Lib.hid hdone
  have hlp := hB.lt
  have hne := Lib.hid hB.ne
  have hblk := Lib.hid hB.blk
  have hfin : ∀ (v2 : Value) (w2 : World), (w.alloc (.cells #[.int .u64 num, .int .i64 min, .bool false] 71)).grownBy w2 v.ownBlock → w2.cell? ⟨p, 0, none⟩ = some v ∧ w2.frozen? ⟨p, 0, none⟩ = false ∧ p < w2.heap.size := fun v2 w2 hg => by
    have hx : Ex (fun b => v.ownBlock = some b) w w2 := (Ex.alloc w _).trans (Ex.ofGrown hg) (fun _ _ h => h.elim) (fun _ _ h => h)
    have hb2 := (hx.block p hlp hne.out).trans hblk.out
    exact ⟨by rw [cell_of_row w2 p 0 _ _ _ hb2]; rfl, frozen_of_row w2 p 0 _ _ hb2, Nat.lt_of_lt_of_le hlp hx.size⟩
  have HFIN := Lib.hid hfin
  clear hpost hdone hfin
  by_cases h0 : l.length = 0
  · have hany : l.any (pastI num min) = false := by rw [List.length_eq_zero_iff.1 h0]; rfl
    have HANY := Lib.hid hany
    have ho := hB.own
    obtain ⟨A, cap, rfl, _, hbl⟩ := own_sl ho
    have HO := Lib.hid ho
    have HBL := Lib.hid hbl
    clear hany hB ho hk hbl
    have h00 : ¬ (0 < l.length) := by omega
    clear h0
    go_enter Try.func20, Try.ntmps20
    go_wp2_with (at_builtin; refine wpList_append_own_at _ rfl (.tmp 63) (.tmp 67) 64 rfl 0 71 i0 _ 3 24 Try.underlying64 hi0 hz0 hz1 hz2 rfl (by decide) _ l.length (l.flatMap It.cells) rfl (HO.out.alloc _) ⟨w.heap.size, 0, none⟩ 1 1 [.int .u64 num, .int .i64 min, .bool false] rfl rfl (World.news_of_block (cs := #[.int .u64 num, .int .i64 min, .bool false]) (t := 71) (fr := (0, 0)) (heap_alloc_new w _)) (by simp [Value.oneCell']) (by unfold maxLen; omega) (by omega) (Nat.zero_le _) ?_)
    intro v2 w2 hown2 hgrow _ hat
    have HD := Lib.hid (HDONE.out HANY.out v2 w2 hown2 hgrow hat)
    obtain ⟨e1, e2, e3⟩ := HFIN.out v2 w2 hgrow
    obtain ⟨g2, cap2, rfl⟩ := ownsRow_succ hown2
    clear hown2 hgrow hat
    go_wp2
    go_ret
    exact HD.out
  · have hpl := past_last HK.out.srt num min (show 0 < l.length by omega)
    have ho := hB.own
    obtain ⟨g, cap, rfl, hg, c0, c1, c2⟩ := hB.item0 (i := l.length - 1) (by omega)
    have hi0' : (0 : Int) ≤ (l.length : Int) - 1 := by omega
    have hi1 : (l.length : Int) - 1 < (l.length : Int) := by omega
    have en : ((l.length : Int) - 1).toNat = l.length - 1 := by omega
    have h00 : 0 < l.length := by omega
    have HPL := Lib.hid hpl
    have HO := Lib.hid ho
    clear hpl ho hB hk
    generalize gt l (l.length - 1) = x at *
    obtain ⟨x1, x2, x3⟩ := x
    dsimp only at c0 c1 c2
    by_cases hx1 : x1 ≥ num
    · have hp : l.any (pastI num min) = true := by rw [HPL.out]; unfold pastI; simp; omega
      have HP := Lib.hid (HPOST.out hp)
      clear hp
      go_enter Try.func20, Try.ntmps20
      go_wp2
      go_ret
      exact HP.out
    · by_cases hx2 : x2 > min
      · have hp : l.any (pastI num min) = true := by rw [HPL.out]; unfold pastI; simp; omega
        have HP := Lib.hid (HPOST.out hp)
        clear hp
        go_enter Try.func20, Try.ntmps20
        go_wp2
        go_ret
        exact HP.out
      · have hp : l.any (pastI num min) = false := by rw [HPL.out]; unfold pastI; simp; omega
        have HANY := Lib.hid hp
        clear hp
        go_enter Try.func20, Try.ntmps20
        go_wp2_with (at_builtin; refine wpList_append_own_at _ rfl (.tmp 63) (.tmp 67) 64 rfl 0 71 i0 _ 3 24 Try.underlying64 hi0 hz0 hz1 hz2 rfl (by decide) _ l.length (l.flatMap It.cells) rfl (HO.out.alloc _) ⟨w.heap.size, 0, none⟩ 1 1 [.int .u64 num, .int .i64 min, .bool false] rfl rfl (World.news_of_block (cs := #[.int .u64 num, .int .i64 min, .bool false]) (t := 71) (fr := (0, 0)) (heap_alloc_new w _)) (by simp [Value.oneCell']) (by unfold maxLen; omega) (by omega) (Nat.zero_le _) ?_)
        intro v2 w2 hown2 hgrow _ hat
        have HD := Lib.hid (HDONE.out HANY.out v2 w2 hown2 hgrow hat)
        obtain ⟨e1, e2, e3⟩ := HFIN.out v2 w2 hgrow
        obtain ⟨g2, cap2, rfl⟩ := ownsRow_succ hown2
        clear hown2 hgrow hat
        go_wp2
        go_ret
        exact HD.out
end Go.Proofs.Ythlmcoeikelheaa
