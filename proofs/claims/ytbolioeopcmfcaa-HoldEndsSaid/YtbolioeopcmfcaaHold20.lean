/- Layer 37: the law HoldEnds, the walk. -/
import Derived.Test.YtbolioeopcmfcaaHold19
import Derived.Test.YtbolioeopcmfcaaB8
namespace Go.Proofs.Ytbolioeopcmfcaa
open Go.RowKit Go.Proofs.YtbolioeopcmfcaaB Go.Shelf

abbrev BS (w : World) (b n : Nat) (T : Int → Bool) : Prop := BSet Try.prog 28 4 w b n T
abbrev BR (w : World) (b r n : Nat) (T : Int → Bool) (cnt : Nat) : Prop := BRange Try.prog 28 4 w b r n T cnt

theorem wf_fold : ∀ (l : List DeedA) (s : List Put), (∀ d ∈ l, (Lit.int .u64 d.h.id).wf = true) → (∀ p ∈ s, (Lit.int .u64 p.h.id).wf = true) → ∀ p ∈ l.foldl playStep s, (Lit.int .u64 p.h.id).wf = true
  | [], _, _, h => h
  | d :: l, s, h1, h2 => by
    refine wf_fold l _ (fun x hx => h1 x (List.mem_cons_of_mem _ hx)) ?_
    intro p hp
    unfold playStep at hp
    split at hp
    · exact h2 p ((liftL_sub _ _).subset hp)
    · unfold addL at hp
      split at hp
      · rcases List.mem_append.1 hp with h | h
        · exact h2 p h
        · simp only [List.mem_singleton] at h; subst h; exact h1 d (List.mem_cons_self ..)
      · exact h2 p hp
theorem wf_play {l : List DeedA} (h : ∀ d ∈ l, (Lit.int .u64 d.h.id).wf = true) : ∀ p ∈ play l, (Lit.int .u64 p.h.id).wf = true := wf_fold l [] h (fun p hp => by cases hp)
theorem one_of_id {s : List Put} (h : PlayOk s) {p q : Put} (hp : p ∈ s) (hq : q ∈ s) (e : p.h.id = q.h.id) : p = q := by
  obtain ⟨i, hi, rfl⟩ := List.getElem_of_mem hp
  obtain ⟨j, hj, rfl⟩ := List.getElem_of_mem hq
  have hpw := List.pairwise_iff_getElem.1 h.rise
  rcases Nat.lt_trichotomy i j with hlt | rfl | hlt
  · exact absurd e (hpw i j hi hj hlt).2.2
  · rfl
  · exact absurd e.symm (hpw j i hj hi hlt).2.2

def InvE (s : List Put) (TE : Int → Bool) (now : Int) : Prop := ∀ i, TE i = true → ∀ p ∈ s, p.h.id = i → p.h.til ≤ now
def InvB (mn : Int) (s : List Put) (TB : Int → Bool) (now : Int) : Prop := ∀ i, TB i = true → ∀ p ∈ s, p.h.id = i → p.h.fr ≤ mn ∧ mn ≤ p.h.to ∧ p.min ≤ now
theorem InvE.mono {s : List Put} {TE : Int → Bool} {a b : Int} (h : InvE s TE a) (hab : a ≤ b) : InvE s TE b := fun i hi p hp e => by have := h i hi p hp e; omega
theorem InvB.mono {mn : Int} {s : List Put} {TB : Int → Bool} {a b : Int} (h : InvB mn s TB a) (hab : a ≤ b) : InvB mn s TB b := fun i hi p hp e => by have := h i hi p hp e; omega
theorem isOver_iff {mn now : Int} {p : Put} : isOver mn now p = true ↔ p.h.fr ≤ mn ∧ mn ≤ p.h.to ∧ p.min ≤ now ∧ now < p.h.til := by simp [isOver, and_assoc]
/-- one that began and is over no more has ended -/
theorem InvE.put {mn now : Int} {s : List Put} {TE TB TI : Int → Bool} {x : Int} (hE : InvE s TE (now + 1)) (hB : InvB mn s TB now) (hx : TB x = true) (hn : TI x = false) (hI : ∀ p ∈ overL mn now s, TI p.h.id = true) : InvE s (fun j => j == x || TE j) (now + 1) := by
  intro i hi p hp e
  by_cases h : i = x
  · subst h
    obtain ⟨h1, h2, h3⟩ := hB i hx p hp e
    have : ¬ isOver mn now p = true := fun ho => by
      have := hI p (List.mem_filter.2 ⟨hp, ho⟩)
      rw [e, hn] at this; cases this
    rw [isOver_iff] at this
    omega
  · have hb : (i == x) = false := by rw [beq_eq_false_iff_ne]; exact h
    simp only [hb, Bool.false_or] at hi
    exact hE i hi p hp e
theorem InvB.put {mn now : Int} {s : List Put} {TB TI : Int → Bool} {x : Int} (hk : PlayOk s) (hB : InvB mn s TB (now + 1)) (hx : TI x = true) (hI : ∀ i, TI i = true → ∃ p ∈ overL mn now s, p.h.id = i) : InvB mn s (fun j => j == x || TB j) (now + 1) := by
  intro i hi p hp e
  by_cases h : i = x
  · subst h
    obtain ⟨q, hq, e2⟩ := hI i hx
    obtain ⟨hq1, hq2⟩ := List.mem_filter.1 hq
    have := one_of_id hk hp hq1 (e.trans e2.symm)
    subst this
    rw [isOver_iff] at hq2
    omega
  · have hb : (i == x) = false := by rw [beq_eq_false_iff_ne]; exact h
    simp only [hb, Bool.false_or] at hi
    exact hB i hi p hp e

set_option maxRecDepth 100000 in
set_option maxHeartbeats 8000000 in
theorem ends_walk (A : Option Addr) (n cap : Nat) (l : List DeedA) (mn fr : Int) (w : World) (hl : Sl w 7 A n (l.flatMap DeedA.cells)) (hwf : ∀ d ∈ l, (Lit.int .u64 d.h.id).wf = true) :
    Calls Try.prog 4 #[.slice A n cap, .int .i64 mn, .int .i64 fr] w fun e w' => e = .returned (.bool true) ∧ Below w.heap.size w w' := by
  have hm := hl.small
  have hln : l.length = n := by have := hl.len; rw [flat_len DeedA.cells 7 DeedA.len] at this; omega
  have HWF := Lib.hid (wf_play hwf)
  clear hwf
  go_enter Try.func4, Try.ntmps4
  go_wp2_with fail
  refine (awake_any _).mono ?_
  rintro e w1 ⟨rfl, hx1⟩
  have hl1 := hl.ex0 hx1
  have HX1 := Lib.hid hx1
  clear hx1 hl
  by_cases h90 : 90 < n
  · go_wp2
    go_ret
    exact ⟨rfl, HX1.out.below (Nat.le_refl _) (fun _ h => h.elim)⟩
  by_cases hf0 : fr < 0
  · go_wp2
    go_ret
    exact ⟨rfl, HX1.out.below (Nat.le_refl _) (fun _ h => h.elim)⟩
  by_cases hf1 : 1073741824 < fr
  · go_wp2
    go_ret
    exact ⟨rfl, HX1.out.below (Nat.le_refl _) (fun _ h => h.elim)⟩
  have h90' : (n : Int) ≤ 90 := by omega
  go_wp2_with fail
  refine (new_any w1).mono ?_
  rintro e w2 ⟨rfl, hA2, hx2⟩
  have T0 : One w1 w1.heap.size (.slice none 0 0) [] w2 := ⟨hA2, fun b hb => by simp [Value.ownBlock] at hb, Nat.le_refl _, hx2.below (Nat.le_refl _) (fun _ h => h.elim)⟩
  generalize hp : w1.heap.size = p at T0 ⊢
  have HP := Lib.hid hp
  clear hx2 hA2 hp
  go_wp2
  go_loopw [8] (fun i wr => ∃ k : Nat, k ≤ n ∧ i = .int .i64 k ∧ ∃ v, One w1 p v (play (l.take k)) wr) (fun i _ => n - (intOf i).toNat)
  case atStart => exact ⟨0, Nat.zero_le _, rfl, _, T0⟩
  case round =>
    clear T0
    obtain ⟨k, hk, rfl, v, hT⟩ := hrel
    have hok := playOk (l.take k)
    by_cases hlt : k < n
    · obtain ⟨g, off, hkl, rfl, hr⟩ := (hl1.below (by decide) hT.bel).row DeedA.len (by omega) hlt
      have hgl := hl1.lt (by omega) (by decide) g rfl
      have hsn := play_take l k hkl
      generalize play (l.take k) = s at hT hok hsn
      have hC := ActC.of hr
      have HS := Lib.hid hsn
      clear hr hsn
      generalize l[k] = d at hC HS
      obtain ⟨lift, h, num, mi⟩ := d
      obtain ⟨c0, c1, c2, c3, c4, c5, c6⟩ := id hC
      dsimp only at c0 c1 c2 c3 c4 c5 c6
      have hgsz : g < wr.heap.size := Nat.lt_of_lt_of_le hgl hT.bel.size
      have hi0' : (0 : Int) ≤ (k : Int) := Int.natCast_nonneg _
      have hi1 : (k : Int) < (n : Int) := by omega
      have HT := Lib.hid hT
      have HC := Lib.hid hC
      have HOK := Lib.hid hok
      have hgna : ¬ (g = p ∨ v.ownBlock = some g) := by
        rintro (e | e)
        · have := hT.ge; omega
        · have := hT.ha g e; omega
      have HGA := Lib.hid hgna
      clear hT hC hok hgna
      cases lift with
      | true =>
        go_wp2_with fail
        refine (lift_any p v s h.id _ HT.out.A).mono ?_
        rintro e w4 ⟨v', rfl, hv', hA', hx4⟩
        have hT4 := HT.out.add (.inl hv') hA' hx4
        have HT4 := Lib.hid hT4
        clear hv' hA' hx4 hT4
        go_wp2
        go_roundw
        case rel => exact ⟨k + 1, by omega, by go_num, v', by rw [HS.out]; exact HT4.out⟩
        case measure => simp [intOf]; omega
      | false =>
        go_wp2_with fail
        go_region_held3 (fun w' => w'.cell? ⟨g, off + k * 7, none⟩ = some (.bool false) ∧ w'.cell? ⟨g, off + k * 7 + 1, none⟩ = some (.int .u64 h.id) ∧ w'.cell? ⟨g, off + k * 7 + 2, none⟩ = some (.int .i64 h.fr) ∧ w'.cell? ⟨g, off + k * 7 + 3, none⟩ = some (.int .i64 h.to) ∧ w'.cell? ⟨g, off + k * 7 + 4, none⟩ = some (.int .i64 h.til) ∧ w'.cell? ⟨g, off + k * 7 + 5, none⟩ = some (.int .u64 num) ∧ w'.cell? ⟨g, off + k * 7 + 6, none⟩ = some (.int .i64 mi))
          (first | go_keep | exact ⟨hx'.out.cellS c0 HGA.out, hx'.out.cellS c1 HGA.out, hx'.out.cellS c2 HGA.out, hx'.out.cellS c3 HGA.out, hx'.out.cellS c4 HGA.out, hx'.out.cellS c5 HGA.out, hx'.out.cellS c6 HGA.out⟩)
          (first | (go_at_call 11; refine (add_any p v s h num mi _ (HT.out.A.ex0 (Ex.drew _)) (by have := HOK.out.len; omega)).mono ?_; rintro e w4 ⟨v', rfl, hva', hA', hx4⟩; have hx' := Lib.hid hx4; have HA' := Lib.hid hA'; have HVA := Lib.hid hva'; clear hx4 hA' hva'))
        have hT4 := (HT.out.ex0 (Ex.drew wr)).add HVA.out HA'.out hx'.out
        have HT4 := Lib.hid hT4
        clear hT4
        go_wp2
        go_roundw
        case rel => exact ⟨k + 1, by omega, by go_num, v', by rw [HS.out]; exact HT4.out⟩
        case measure => simp [intOf]; omega
    · have hkn : k = n := by omega
      subst hkn
      have htl : l.take k = l := List.take_of_length_le (by omega)
      rw [htl] at hT hok
      have hWFp := HWF.out
      generalize play l = s at hT hok hWFp
      have hT3 := Lib.hid hT
      have HOK := Lib.hid hok
      have HWP := Lib.hid hWFp
      have hs64 := hok.len
      clear hT hok htl hl1 hln hm h90 h90' hlt hk hWFp HWF
      have hmm := @run_makeMap Try.prog
      obtain ⟨wA, hwA⟩ : ∃ wA, wA = wr.alloc (.map #[] 0) := ⟨_, rfl⟩
      obtain ⟨wB, hwB⟩ : ∃ wB, wB = wA.alloc (.map #[] 0) := ⟨_, rfl⟩
      have hsA : wA.heap.size = wr.heap.size + 1 := by rw [hwA]; simp
      have bE0 : BS wB wr.heap.size 0 (fun _ => false) := by rw [hwB, hwA]; exact (BSet.made wr).ex (Ex.alloc _ _) not_false
      have bB0 : BS wB (wr.heap.size + 1) 0 (fun _ => false) := by rw [hwB, ← hsA]; exact BSet.made wA
      have hxB : Ex0 wr wB := by rw [hwB, hwA]; exact (Ex.alloc _ _).alloc' _
      have hTB := Lib.hid (hT3.out.ex0 hxB)
      have hlow : w1.heap.size ≤ wr.heap.size := hT3.out.bel.size
      have hplt := hT3.out.A.lt
      have hvlt : ∀ b, v.ownBlock = some b → b < wr.heap.size := fun b hb => (hT3.out.A.own.lt b hb).2
      have HVLT := Lib.hid hvlt
      have HBE0 := Lib.hid bE0
      have HBB0 := Lib.hid bB0
      have HWB := Lib.hid (show wB = (wr.alloc (.map #[] 0)).alloc (.map #[] 0) from by rw [hwB, hwA])
      clear hwA hwB hsA hxB hvlt hT3 bE0 bB0 wA
      go_wp2
      rw [← HWB.out]
      generalize hbE : wr.heap.size = bE at *
      clear hbE HWB
      go_loopw [11] (fun nw wz => ∃ (t nE nB : Nat) (TE TB : Int → Bool), t ≤ 200 ∧ nw = .int .i64 (fr + t) ∧ BS wz bE nE TE ∧ BS wz (bE + 1) nB TB ∧ nE ≤ 12800 * t ∧ nB ≤ 64 * t ∧ InvE s TE (fr + t) ∧ InvB mn s TB (fr + t) ∧ One w1 p v s wz) (fun nw _ => (fr + 200 - intOf nw).toNat)
      case atStart => exact ⟨0, 0, 0, _, _, by omega, by simp, HBE0.out, HBB0.out, by omega, by omega, fun i hi => (by cases hi), fun i hi => (by cases hi), hTB.out⟩
      case round =>
        clear HBE0 HBB0 hTB
        obtain ⟨t, nE, nB, TE, TB, ht, rfl, hbE, hbB, hnE, hnB, hiE, hiB, hT⟩ := hrel
        have HE := Lib.hid hbE
        have HB := Lib.hid hbB
        have HIE := Lib.hid hiE
        have HIB := Lib.hid hiB
        have HT := Lib.hid hT
        have hltE := hbE.lt
        have hltB := hbB.lt
        clear hbE hbB hiE hiB hT
        by_cases hlt : t < 200
        · have hlt' : fr + (t : Int) < fr + 200 := by omega
          have hz : ∀ w, (zeroValue 4).run Try.prog w = .ok (.bool false) w := fun w => by kernel_rfl
          go_wp2_with fail
          obtain ⟨w2', hw2⟩ : ∃ w2', w2' = wr.alloc (.map #[] 0) := ⟨_, rfl⟩
          have hbI : BS w2' wr.heap.size 0 (fun _ => false) := by rw [hw2]; exact BSet.made wr
          have hx2 : Ex0 wr w2' := by rw [hw2]; exact Ex.alloc _ _
          have hs2 : w2'.heap.size = wr.heap.size + 1 := by rw [hw2]; simp
          rw [← hw2]
          have HT2 := Lib.hid (HT.out.ex0 hx2)
          clear hw2
          refine (over_any p v s mn (fr + t) _ HT2.out.A (by omega)).mono ?_
          rintro e w3 ⟨v3, rfl, ho3, hx3⟩
          obtain ⟨A3, cap3, rfl, hsl3, hbl3, _⟩ := own_sl' ho3
          have hov : (overL mn (fr + t) s).length ≤ 64 := Nat.le_trans (List.length_filter_le _ _) hs64
          have hsub : ∀ q ∈ overL mn (fr + t) s, q ∈ s ∧ isOver mn (fr + t) q = true := fun q hq => List.mem_filter.1 hq
          have hx03 := hx2.trans0 hx3
          have HE3 := Lib.hid (HE.out.ex hx03 not_false)
          have HB3 := Lib.hid (HB.out.ex hx03 not_false)
          have HI3 := Lib.hid (hbI.ex hx3 not_false)
          have HT3 := Lib.hid (HT2.out.ex0 hx3)
          have HSL3 := Lib.hid hsl3
          have HSUB := Lib.hid hsub
          have hs3 := hx3.size
          have hA3 : ∀ b, Bl A3 b → b ≠ wr.heap.size := fun b hb e => by
            have := (ho3.lt b (by rw [hbl3]; exact hb)).1
            omega
          have HA3 := Lib.hid hA3
          clear hA3 ho3 hx3 hsl3 hbl3 hsub hx03 hx2 hbI HT2 HE HB HT hmm
          generalize hbi : wr.heap.size = bI at *
          have hbiE : bE + 1 < bI := by omega
          clear hbi
          clear hltE hltB
          generalize hovv : overL mn (fr + t) s = ov at *
          have HOV := Lib.hid hovv
          clear hovv
          go_wp2
          go_loopw [14, 82] (fun _ j wz => ∃ (j' nI : Nat) (TI : Int → Bool), j' ≤ ov.length ∧ j = .int .i64 j' ∧ BS wz bI nI TI ∧ nI ≤ j' ∧ (∀ i, TI i = true → ∃ q ∈ ov, q.h.id = i) ∧ (∀ q ∈ ov.take j', TI q.h.id = true) ∧ Ex (· = bI) w3 wz) (fun _ j _ => ov.length - (intOf j).toNat)
          case atStart => exact ⟨0, 0, _, Nat.zero_le _, rfl, HI3.out, Nat.le_refl _, fun i hi => (by cases hi), fun q hq => (by simp at hq), Ex.refl _ _⟩
          case round =>
            obtain ⟨j, nI, TI, hj, rfl, hbs, hnI, hi1, hi2, hx⟩ := hrel
            have HBS := Lib.hid hbs
            have HI1 := Lib.hid hi1
            have HI2 := Lib.hid hi2
            have HX := Lib.hid hx
            clear hbs hi1 hi2 hx
            by_cases hltj : j < ov.length
            · obtain ⟨g, off, hl1, rfl, hr1⟩ := (HSL3.out.ex HX.out HA3.out).row Put.len (by omega) hltj
              have htk : ov.take (j + 1) = ov.take j ++ [ov[j]] := List.take_succ_eq_append_getElem hl1
              have hmem : ov[j] ∈ ov := List.getElem_mem hl1
              have hso := HSUB.out _ hmem
              have hwp := HWP.out _ hso.1
              have hTE : TE ov[j].h.id = false := by
                cases h : TE ov[j].h.id
                · rfl
                · have h1 := HIE.out _ h _ hso.1 rfl
                  have h2 := isOver_iff.1 hso.2
                  omega
              obtain ⟨o1, o2, o3, o4⟩ := isOver_iff.1 hso.2
              have HTK := Lib.hid htk
              have HMEM := Lib.hid hmem
              clear htk hmem hso
              generalize ov[j] = y at hr1 HTK HMEM hwp hTE o1 o2 o3 o4
              obtain ⟨⟨a1, a2, a3, a4⟩, a5, a6⟩ := y
              unfold Put.cells at hr1
              dsimp only at hwp hTE o1 o2 o3 o4
              have hj0 : (0 : Int) ≤ (j : Int) := Int.natCast_nonneg _
              have hj1 : (j : Int) < (ov.length : Int) := by omega
              go_wp2_with (first
                | (refine wpList_load_at rfl _ _ rfl _ rfl _ _ hr1 Try.underlying38 rfl (by kernel_rfl) ?_)
                | (at_mapUpdate; refine wpList_bset_put rfl 27 _ _ _ rfl bI rfl a1 rfl rfl hwp Try.underlying27 Try.underlying28 Try.underlying4 (HBS.out.ex (Ex.alloc _ _) not_false) (by unfold maxLen; omega) ?_))
              intro w4 hbs4 hx4
              have hbx : w4.heap[wr.heap.size]? = some (.cells #[.int .u64 a1, .int .i64 a2, .int .i64 a3, .int .i64 a4, .int .u64 a5, .int .i64 a6] 38 (0, 0)) := by
                have hne : ¬ (wr.heap.size = bI) := by have := HBS.out.lt; omega
                exact (hx4.block _ (by simp) hne).trans (heap_alloc_new _ _)
              have k0 : w4.cell? ⟨wr.heap.size, 0, none⟩ = some (.int .u64 a1) := by rw [cell_of_row w4 wr.heap.size 0 _ _ _ hbx]; rfl
              have k1 : w4.cell? ⟨wr.heap.size, 1, none⟩ = some (.int .i64 a2) := by rw [cell_of_row w4 wr.heap.size 1 _ _ _ hbx]; rfl
              have k2 : w4.cell? ⟨wr.heap.size, 2, none⟩ = some (.int .i64 a3) := by rw [cell_of_row w4 wr.heap.size 2 _ _ _ hbx]; rfl
              have k3 : w4.cell? ⟨wr.heap.size, 3, none⟩ = some (.int .i64 a4) := by rw [cell_of_row w4 wr.heap.size 3 _ _ _ hbx]; rfl
              have k5 : w4.cell? ⟨wr.heap.size, 5, none⟩ = some (.int .i64 a6) := by rw [cell_of_row w4 wr.heap.size 5 _ _ _ hbx]; rfl
              have hx34 : Ex (· = bI) w3 w4 := (HX.out.alloc' _).trans hx4 (fun _ _ h => h) (fun _ _ h => h)
              have hE4 := HE3.out.ex hx34 (by omega)
              have HE4 := Lib.hid hE4
              have HX4 := Lib.hid hx34
              have HBS4 := Lib.hid hbs4
              clear hbx hx34 hE4 hx4 hbs4 hr1
              generalize wr.heap.size = bb at *
              go_wp2_with (refine wpList_bset_get rfl 27 _ _ rfl bE rfl a1 rfl hwp Try.underlying27 Try.underlying28 Try.underlying4 (hz _) HE4.out ?_; rw [hTE])
              go_roundw
              case rel => exact ⟨j + 1, nI + 1, _, by omega, by go_num, HBS4.out, by omega, fun i hi => by
                by_cases h : i = a1
                · exact ⟨_, HMEM.out, h.symm⟩
                · have hb : (i == a1) = false := by rw [beq_eq_false_iff_ne]; exact h
                  simp only [hb, Bool.false_or] at hi
                  exact HI1.out i hi, fun q hq => by
                rw [HTK.out] at hq
                rcases List.mem_append.1 hq with h | h
                · simp [HI2.out q h]
                · simp only [List.mem_singleton] at h; subst h; simp, HX4.out⟩
              case measure => simp [intOf]; omega
            · have hjn : ov.take j = ov := List.take_of_length_le (by omega)
              rw [hjn] at HI2
              have hInI : nI ≤ 64 := by omega
              have HE5 := Lib.hid (HE3.out.ex HX.out (by omega))
              have HB5 := Lib.hid (HB3.out.ex HX.out (by omega))
              have hT5 : One w1 p v s wr := HT3.out.box HX.out (by omega) (by omega) (fun c hc => by have := HVLT.out c hc; omega)
              have HT5 := Lib.hid hT5
              clear hT5 HE3 HB3 HI3 HT3 HSL3 HX hjn
              go_wp2_with (at_range; refine wpList_bset_range rfl 27 _ rfl (bE + 1) rfl Try.underlying27 Try.underlying28 HB5.out ?_)
              intro w6 cnt hcnt hbr hx6
              have HE6 := Lib.hid (HE5.out.ex hx6 not_false)
              have HI6 := Lib.hid (HBS.out.ex hx6 not_false)
              have HT6 := Lib.hid (HT5.out.ex0 hx6)
              have HBR := Lib.hid hbr
              have hrne : wr.heap.size ≠ bE ∧ wr.heap.size ≠ bI := by
                have h1 := HE5.out.lt
                have h2 := HBS.out.lt
                omega
              have hrp : wr.heap.size ≠ p ∧ w1.heap.size ≤ wr.heap.size ∧ ∀ c, v.ownBlock = some c → c ≠ wr.heap.size := by
                have h1 := HT5.out.A.lt
                have h2 := HT5.out.bel.size
                exact ⟨by omega, h2, fun c hc => by have := (HT5.out.A.own.lt c hc).2; omega⟩
              have HRP := Lib.hid hrp
              have hplt' : p < bE ∧ ∀ c, v.ownBlock = some c → c ≠ bE := ⟨by omega, fun c hc => by have := HVLT.out c hc; omega⟩
              have HPL := Lib.hid hplt'
              clear hx6 hbr hrp hplt' HB5 HE5 HBS HT5
              generalize wr.heap.size = rr at *
              go_wp2_with fail
              go_loopw [15] (fun _ wz => ∃ (cnt' nE' : Nat) (TE' : Int → Bool), BR wz (bE + 1) rr nB TB cnt' ∧ BS wz bE nE' TE' ∧ nE' + cnt' ≤ nE + cnt ∧ InvE s TE' (fr + t + 1) ∧ BS wz bI nI TI ∧ One w1 p v s wz) (fun _ wz => wz.rangeLeft (bE + 1) rr)
              case atStart => exact ⟨cnt, nE, TE, HBR.out, HE6.out, Nat.le_refl _, HIE.out.mono (by omega), HI6.out, HT6.out⟩
              case round =>
                rename_i u15'
                obtain ⟨cnt', nE', TE', hbr, hbe, hle, hie, hbi, hTT⟩ := hrel
                have HBR' := Lib.hid hbr
                have HBE := Lib.hid hbe
                have HIE' := Lib.hid hie
                have HBI := Lib.hid hbi
                have HTT := Lib.hid hTT
                clear hbr hbe hie hbi hTT HBR HE6 HI6 HT6
                go_wp2_with (first | (at_next; refine wpList_bset_next rfl _ rfl (bE + 1) rr rfl Try.underlying28 Try.underlying4 HBR'.out ?_ ?_) | (at_range; refine wpList_bset_range rfl 27 _ rfl bI rfl Try.underlying27 Try.underlying28 HBI.out ?_))
                · intro w9 cnt9 hcnt9 hbr9 hx9
                  have HE9 := Lib.hid (HBE.out.ex hx9 not_false)
                  have HB9 := Lib.hid (HBR'.out.set.ex hx9 not_false)
                  have HT9 := Lib.hid (HTT.out.ex0 hx9)
                  have HBR9 := Lib.hid hbr9
                  have hrne : wr.heap.size ≠ bE ∧ wr.heap.size ≠ bE + 1 ∧ wr.heap.size ≠ bI := by
                    have h1 := HBE.out.lt
                    have h2 := HBI.out.lt
                    have h3 := HBR'.out.set.lt
                    omega
                  have hrp : wr.heap.size ≠ p ∧ w1.heap.size ≤ wr.heap.size ∧ ∀ c, v.ownBlock = some c → c ≠ wr.heap.size := by
                    have h1 := HTT.out.A.lt
                    have h2 := HTT.out.bel.size
                    exact ⟨by omega, h2, fun c hc => by have := (HTT.out.A.own.lt c hc).2; omega⟩
                  have HRP9 := Lib.hid hrp
                  clear hx9 hbr9 hrp HBR' HBE HBI HTT
                  generalize wr.heap.size = rq at *
                  go_wp2_with fail
                  go_loopw [16] (fun _ wz => ∃ (cnt' nB' : Nat) (TB' : Int → Bool), BR wz bI rq nI TI cnt' ∧ BS wz (bE + 1) nB' TB' ∧ nB' + cnt' ≤ nB + cnt9 ∧ InvB mn s TB' (fr + t + 1) ∧ BS wz bE nE' TE' ∧ One w1 p v s wz) (fun _ wz => wz.rangeLeft bI rq)
                  case atStart => exact ⟨cnt9, nB, TB, HBR9.out, HB9.out, Nat.le_refl _, HIB.out.mono (by omega), HE9.out, HT9.out⟩
                  case round =>
                    obtain ⟨cnt3, nB', TB', hbr, hbb, hle3, hib, hbe, hTT⟩ := hrel
                    have HBR3 := Lib.hid hbr
                    have HBB3 := Lib.hid hbb
                    have HIB3 := Lib.hid hib
                    have HBE3 := Lib.hid hbe
                    have HTT3 := Lib.hid hTT
                    clear hbr hbb hib hbe hTT HBR9 HB9 HE9 HT9
                    go_wp2_with (at_next; refine wpList_bset_next rfl _ rfl bI rq rfl Try.underlying28 Try.underlying4 HBR3.out ?_ ?_)
                    · go_roundw
                      case rel =>
                        have e1 : fr + ((t + 1 : Nat) : Int) = fr + t + 1 := by omega
                        refine ⟨t + 1, nE', nB', TE', TB', by omega, by rw [e1], HBE3.out, HBB3.out, by omega, by omega, by rw [e1]; exact HIE'.out, by rw [e1]; exact HIB3.out, HTT3.out⟩
                      case measure => simp [intOf]; omega
                    · intro x w8 cnt2 hwx hTx hbr2 hlt2 hx8 hen
                      have HBR2 := Lib.hid hbr2
                      have HB8 := Lib.hid (HBB3.out.ex hx8 (by omega))
                      have HE8 := Lib.hid (HBE3.out.ex hx8 (by omega))
                      have HT8 := Lib.hid (HTT3.out.box hx8 HRP9.out.2.1 (by have := HRP9.out.1; omega) HRP9.out.2.2)
                      have hm0 := HBR3.out.left
                      have HM0 := Lib.hid hm0
                      clear hbr2 hx8 hm0 HBR3 HBB3 HBE3 HTT3
                      go_wp2_with (at_mapUpdate; refine wpList_bset_put rfl 27 _ _ _ rfl (bE + 1) rfl x rfl rfl hwx Try.underlying27 Try.underlying28 Try.underlying4 HB8.out (by unfold maxLen; omega) ?_)
                      intro w10 hb10 hx10
                      have HB10 := Lib.hid hb10
                      have HX10 := Lib.hid hx10
                      clear hb10 hx10 hen
                      go_wp2_with fail
                      go_roundw
                      case rel => exact ⟨cnt2, nB' + 1, _, HBR2.out.ex HX10.out (by omega) (by omega), HB10.out, by omega, HIB3.out.put HOK.out hTx (by rw [HOV.out]; exact HI1.out), HE8.out.ex HX10.out (by omega), HT8.out.box HX10.out (by omega) (by have := HPL.out.1; omega) (fun c hc => by have := HVLT.out c hc; omega)⟩
                      case measure => rw [(HBR2.out.ex HX10.out (by omega) (by omega)).left, HM0.out]; exact hlt2
                · intro x w8 cnt2 hwx hTx hbr2 hlt2 hx8 hen
                  have HBR2 := Lib.hid hbr2
                  have HX8 := Lib.hid hx8
                  have HEN := Lib.hid hen
                  have HI8 := Lib.hid (HBI.out.ex hx8 (by omega))
                  have HE8 := Lib.hid (HBE.out.ex hx8 (by omega))
                  have HT8 := Lib.hid (HTT.out.box hx8 HRP.out.2.1 (by have := HRP.out.1; omega) HRP.out.2.2)
                  have hm0 := HBR'.out.left
                  have HM0 := Lib.hid hm0
                  clear hbr2 hx8 hm0 HBR' HBI HBE HTT
                  cases hTI : TI x
                  · have HTI := Lib.hid hTI
                    clear hTI
                    go_wp2_with (first | (refine wpList_bset_get rfl 27 _ _ rfl bI rfl x rfl hwx Try.underlying27 Try.underlying28 Try.underlying4 (hz _) HI8.out ?_; rw [HTI.out]) | (at_mapUpdate; refine wpList_bset_put rfl 27 _ _ _ rfl bE rfl x rfl rfl hwx Try.underlying27 Try.underlying28 Try.underlying4 HE8.out (by unfold maxLen; omega) ?_))
                    intro w10 hb10 hx10
                    have HB10 := Lib.hid hb10
                    have HX10 := Lib.hid hx10
                    clear hb10 hx10 hen HEN
                    go_wp2_with fail
                    go_roundw
                    case rel => exact ⟨cnt2, nE' + 1, _, HBR2.out.ex HX10.out (by omega) (by omega), HB10.out, by omega, HIE'.out.put HIB.out hTx HTI.out (by rw [HOV.out]; exact HI2.out), HI8.out.ex HX10.out (by omega), HT8.out.box HX10.out (by omega) (by have := HPL.out.1; omega) HPL.out.2⟩
                    case measure => rw [(HBR2.out.ex HX10.out (by omega) (by omega)).left, HM0.out]; exact hlt2
                  · have HTI := Lib.hid hTI
                    clear hTI
                    go_wp2_with (refine wpList_bset_get rfl 27 _ _ rfl bI rfl x rfl hwx Try.underlying27 Try.underlying28 Try.underlying4 (hz _) HI8.out ?_; rw [HTI.out])
                    go_roundw
                    case rel => exact ⟨cnt2, nE', TE', HBR2.out, HE8.out, by omega, HIE'.out, HI8.out, HT8.out⟩
                    case measure => rw [HBR2.out.left, HM0.out]; exact hlt2
        · have hlt' : ¬ (fr + (t : Int) < fr + 200) := by omega
          go_wp2
          go_ret
          exact ⟨rfl, (HX1.out.trans (exOfBelow HT.out.bel) (U := fun b => w1.heap.size ≤ b) (fun _ _ h => h.elim) (fun _ _ h => h)).below (Nat.le_refl _) (fun i e => by have := HX1.out.size; omega)⟩
end Go.Proofs.Ytbolioeopcmfcaa
