/- Layer 37: HoldMinutes, the walk. -/
import Derived.Test.YtbolioeopcmfcaaHold13
import Derived.Test.YtbolioeopcmfcaaB5
namespace Go.Proofs.Ytbolioeopcmfcaa
open Go.RowKit Go.Proofs.YtbolioeopcmfcaaB Go.Shelf

/-- two books and a map, apart -/
structure Two (w0 : World) (pa pb bm : Nat) (va vb : Value) (la lb : List Put) (w : World) : Prop where
  A : BookAt w pa va la
  B : BookAt w pb vb lb
  M : MapI w bm .u64 (idsM lb)
  ha : ∀ b, va.ownBlock = some b → w0.heap.size ≤ b ∧ b ≠ pb ∧ b ≠ bm ∧ vb.ownBlock ≠ some b
  hb : ∀ b, vb.ownBlock = some b → w0.heap.size ≤ b ∧ b ≠ pa ∧ b ≠ bm
  ne : pa ≠ pb ∧ pa ≠ bm ∧ pb ≠ bm
  ge : w0.heap.size ≤ pa ∧ w0.heap.size ≤ pb ∧ w0.heap.size ≤ bm
  bel : Below w0.heap.size w0 w

theorem Two.ex0 {w0 : World} {pa pb bm : Nat} {va vb : Value} {la lb : List Put} {w w' : World} (h : Two w0 pa pb bm va vb la lb w) (hx : Ex0 w w') : Two w0 pa pb bm va vb la lb w' :=
  ⟨h.A.ex0 hx, h.B.ex0 hx, h.M.ex hx not_false, h.ha, h.hb, h.ne, h.ge, h.bel.trans (hx.below h.bel.size (fun _ h => h.elim))⟩

theorem Two.addA {w0 : World} {pa pb bm : Nat} {va vb va' : Value} {la lb la' : List Put} {w w' : World} (h : Two w0 pa pb bm va vb la lb w) (hv : va'.ownBlock = va.ownBlock ∨ ∃ b, va'.ownBlock = some b ∧ w.heap.size ≤ b)
    (hA : BookAt w' pa va' la') (hx : Ex (fun b => b = pa ∨ va.ownBlock = some b) w w') : Two w0 pa pb bm va' vb la' lb w' := by
  have hblt : ∀ b, vb.ownBlock = some b → b < w.heap.size := fun b hb => (h.B.own.lt b hb).2
  refine ⟨hA, h.B.ex hx ?_ ?_, h.M.ex hx ?_, ?_, h.hb, h.ne, h.ge, h.bel.trans (hx.below h.bel.size ?_)⟩
  · rintro (e | e)
    · exact h.ne.1 e.symm
    · exact (h.ha _ e).2.1 rfl
  · rintro b hb (e | e)
    · exact (h.hb b hb).2.1 e
    · exact (h.ha b e).2.2.2 hb
  · rintro (e | e)
    · exact h.ne.2.1 e.symm
    · exact (h.ha _ e).2.2.1 rfl
  · intro b hb
    rcases hv with e | ⟨c, hc, hle⟩
    · exact h.ha b (by rw [← e]; exact hb)
    · rw [hb] at hc; cases hc
      have h1 := h.B.lt; have h2 := h.M.lt; have h3 := h.bel.size
      exact ⟨by omega, by omega, by omega, fun e => by have := hblt b e; omega⟩
  · rintro i (e | e)
    · rw [e]; exact h.ge.1
    · exact (h.ha i e).1

theorem Two.addB {w0 : World} {pa pb bm : Nat} {va vb vb' : Value} {la lb lb' : List Put} {w w' : World} (h : Two w0 pa pb bm va vb la lb w) (hv : vb'.ownBlock = vb.ownBlock ∨ ∃ b, vb'.ownBlock = some b ∧ w.heap.size ≤ b)
    (hB : BookAt w' pb vb' lb') (hx : Ex (fun b => b = pb ∨ vb.ownBlock = some b) w w') (hM : MapI w bm .u64 (idsM lb')) : Two w0 pa pb bm va vb' la lb' w' := by
  have halt : ∀ b, va.ownBlock = some b → b < w.heap.size := fun b hb => (h.A.own.lt b hb).2
  refine ⟨h.A.ex hx ?_ ?_, hB, hM.ex hx ?_, ?_, ?_, h.ne, h.ge, h.bel.trans (hx.below h.bel.size ?_)⟩
  · rintro (e | e)
    · exact h.ne.1 e
    · exact (h.hb _ e).2.1 rfl
  · rintro b hb (e | e)
    · exact (h.ha b hb).2.1 e
    · exact (h.ha b hb).2.2.2 e
  · rintro (e | e)
    · exact h.ne.2.2 e.symm
    · exact (h.hb _ e).2.2 rfl
  · intro b hb
    obtain ⟨h1, h2, h3, h4⟩ := h.ha b hb
    refine ⟨h1, h2, h3, fun e => ?_⟩
    rcases hv with e' | ⟨c, hc, hle⟩
    · exact h4 (by rw [← e']; exact e)
    · rw [e] at hc; cases hc; have := halt b hb; omega
  · intro b hb
    rcases hv with e | ⟨c, hc, hle⟩
    · exact h.hb b (by rw [← e]; exact hb)
    · rw [hb] at hc; cases hc
      have h1 := h.A.lt; have h2 := h.M.lt; have h3 := h.bel.size
      exact ⟨by omega, by omega, by omega⟩
  · rintro i (e | e)
    · rw [e]; exact h.ge.2.1
    · exact (h.hb i e).1

theorem Two.putM {w0 : World} {pa pb bm : Nat} {va vb : Value} {la lb : List Put} {w w' : World} {m : List (Int × Value)} (h : Two w0 pa pb bm va vb la lb w) (hx : Ex (· = bm) w w') (_ : MapI w' bm .u64 m) :
    BookAt w' pa va la ∧ BookAt w' pb vb lb ∧ Below w0.heap.size w0 w' :=
  ⟨h.A.ex hx h.ne.2.1 (fun b hb e => (h.ha b hb).2.2.1 e), h.B.ex hx h.ne.2.2 (fun b hb e => (h.hb b hb).2.2 e), h.bel.trans (hx.below h.bel.size (fun i e => by rw [e]; exact h.ge.2.2))⟩

/-- an act's cells -/
structure ActC (g o : Nat) (d : DeedA) (w : World) : Prop where
  c0 : w.cell? ⟨g, o, none⟩ = some (.bool d.lift)
  c1 : w.cell? ⟨g, o + 1, none⟩ = some (.int .u64 d.h.id)
  c2 : w.cell? ⟨g, o + 2, none⟩ = some (.int .i64 d.h.fr)
  c3 : w.cell? ⟨g, o + 3, none⟩ = some (.int .i64 d.h.to)
  c4 : w.cell? ⟨g, o + 4, none⟩ = some (.int .i64 d.h.til)
  c5 : w.cell? ⟨g, o + 5, none⟩ = some (.int .u64 d.num)
  c6 : w.cell? ⟨g, o + 6, none⟩ = some (.int .i64 d.min)
theorem ActC.of {g o : Nat} {d : DeedA} {w : World} (h : RowAt w ⟨g, o, none⟩ d.cells) : ActC g o d w :=
  ⟨by simpa [Addr.add] using h 0 _ rfl, by simpa [Addr.add] using h 1 _ rfl, by simpa [Addr.add] using h 2 _ rfl, by simpa [Addr.add] using h 3 _ rfl, by simpa [Addr.add] using h 4 _ rfl, by simpa [Addr.add] using h 5 _ rfl, by simpa [Addr.add] using h 6 _ rfl⟩
theorem ActC.ex {g o : Nat} {d : DeedA} {w w' : World} {S : Nat → Prop} (h : ActC g o d w) (hx : Ex S w w') (hS : ¬ S g) : ActC g o d w' :=
  ⟨hx.cellS h.c0 hS, hx.cellS h.c1 hS, hx.cellS h.c2 hS, hx.cellS h.c3 hS, hx.cellS h.c4 hS, hx.cellS h.c5 hS, hx.cellS h.c6 hS⟩

theorem minRun_snoc (only : List Bool) : ∀ (l : List DeedA) (i : Nat) (d : DeedA) (s : MinSt), minRun only i (l ++ [d]) s = minStep only (minRun only i l s) (i + l.length) d
  | [], _, _, _ => rfl
  | x :: l, i, d, s => by
    show minRun only (i + 1) (l ++ [d]) (minStep only s i x) = _
    rw [minRun_snoc only l (i + 1) d]
    show _ = minStep only (minRun only (i + 1) l (minStep only s i x)) (i + (l.length + 1)) d
    congr 1; omega
theorem minRun_take (only : List Bool) (l : List DeedA) (k : Nat) (hk : k < l.length) : minRun only 0 (l.take (k + 1)) ⟨[], []⟩ = minStep only (minRun only 0 (l.take k) ⟨[], []⟩) k l[k] := by
  rw [List.take_succ_eq_append_getElem hk, minRun_snoc]
  rw [List.length_take, Nat.min_eq_left (by omega), Nat.zero_add]
theorem minRun_ok (only : List Bool) : ∀ (l : List DeedA) (i : Nat) (s : MinSt), MinOk s → MinOk (minRun only i l s)
  | [], _, _, h => h
  | d :: l, i, s, h => minRun_ok only l (i + 1) _ (minOk_step h)
theorem minOk_nil : MinOk ⟨[], []⟩ := ⟨List.Sublist.refl _, by simp, by simp⟩

set_option maxRecDepth 100000 in
set_option maxHeartbeats 8000000 in
theorem minutes_walk (A : Option Addr) (n cap : Nat) (l : List DeedA) (B : Option Addr) (m capB : Nat) (only : List Bool) (min now : Int) (w : World)
    (hl : Sl w 7 A n (l.flatMap DeedA.cells)) (ho : Sl w 1 B m (only.map Value.bool)) :
    Calls Try.prog 3 #[.slice A n cap, .slice B m capB, .int .i64 min, .int .i64 now] w fun e w' => e = .returned (.bool true) ∧ Below w.heap.size w w' := by
  have hm := hl.small
  have hm2 := ho.small
  have hln : l.length = n := by have := hl.len; rw [flat_len DeedA.cells 7 DeedA.len] at this; omega
  have hom : only.length = m := by have := ho.len; simp at this; omega
  go_enter Try.func3, Try.ntmps3
  go_wp2_with fail
  refine (awake_any w).mono ?_
  rintro e w1 ⟨rfl, hx1⟩
  by_cases h60 : 60 < n
  · go_wp2
    go_ret
    exact ⟨rfl, hx1.below (Nat.le_refl _) (fun _ h => h.elim)⟩
  have h60' : (n : Int) ≤ 60 := by omega
  go_wp2_with fail
  refine (new_any w1).mono ?_
  rintro e w2 ⟨rfl, hA2, hx2⟩
  go_wp2_with fail
  refine (new_any w2).mono ?_
  rintro e w3 ⟨rfl, hB3, hx3⟩
  have hs12 := hx1.size
  have hs23 := hx2.size
  have hs34 := hx3.size
  have hlt2 := hA2.lt
  have hlt3 := hB3.lt
  have hx03 := (hx1.trans0 hx2).trans0 hx3
  have T0 : Two w w1.heap.size w2.heap.size w3.heap.size (.slice none 0 0) (.slice none 0 0) [] [] (w3.alloc (.map #[] 0)) :=
    ⟨(hA2.ex0 hx3).ex0 (Ex.alloc _ _), hB3.ex0 (Ex.alloc _ _), MapI.made w3 .u64, fun b hb => by simp [Value.ownBlock] at hb, fun b hb => by simp [Value.ownBlock] at hb, ⟨by omega, by omega, by omega⟩, ⟨by omega, by omega, by omega⟩, (hx03.alloc' _).below (Nat.le_refl _) (fun _ h => h.elim)⟩
  generalize hpa : w1.heap.size = pa at *
  generalize hpb : w2.heap.size = pb at *
  clear hx1 hx2 hA2 hx3 hB3 hs12 hs23 hs34 hlt2 hlt3 hpa hpb
  have hmm := @run_makeMap Try.prog
  have HX03 := Lib.hid hx03
  clear hx03
  go_wp2
  go_loopw [12] (fun i wr => ∃ k : Nat, k ≤ n ∧ i = .int .i64 k ∧ ∃ va vb, Two w pa pb w3.heap.size va vb (minRun only 0 (l.take k) ⟨[], []⟩).a (minRun only 0 (l.take k) ⟨[], []⟩).b wr) (fun i _ => n - (intOf i).toNat)
  case atStart => exact ⟨0, Nat.zero_le _, rfl, _, _, T0⟩
  case round =>
    clear T0
    obtain ⟨k, hk, rfl, va, vb, hT⟩ := hrel
    have hok := minRun_ok only (l.take k) 0 _ minOk_nil
    by_cases hlt : k < n
    · obtain ⟨g, off, hkl, rfl, hr⟩ := (hl.below (by decide) hT.bel).row DeedA.len (by omega) hlt
      have hgl := hl.lt (by omega) (by decide) g rfl
      have hsn := minRun_take only l k hkl
      generalize minRun only 0 (l.take k) ⟨[], []⟩ = s at hT hok hsn
      have hC := ActC.of hr
      have HS := Lib.hid hsn
      clear hr hsn
      generalize l[k] = d at hC HS
      obtain ⟨lift, h, num, mi⟩ := d
      obtain ⟨c0, c1, c2, c3, c4, c5, c6⟩ := id hC
      dsimp only at c0 c1 c2 c3 c4 c5 c6
      have hgsz : g < wr.heap.size := Nat.lt_of_lt_of_le hgl hT.bel.size
      have hi0' : (0 : Int) ≤ (k : Int) := Int.natCast_nonneg _
      have hi1 : (k : Int) < (n : Int) := by omega
      have HT := Lib.hid hT
      have HC := Lib.hid hC
      have HOK := Lib.hid hok
      clear hT hC hok
      cases lift with
      | true =>
        go_wp2_with fail
        go_quiet (fail)
        go_wp2
        go_roundw
        case rel => exact ⟨k + 1, by omega, by go_num, va, vb, by rw [HS.out]; simp only [minStep, if_true]; exact HT.out.ex0 ((Ex.refl _ _).drewN' _)⟩
        case measure => simp [intOf]; omega
      | false =>
        go_wp2_with fail
        have hgna : ¬ (g = pa ∨ va.ownBlock = some g) := by
          rintro (e | e)
          · have := HT.out.ge.1; omega
          · have := (HT.out.ha g e).1; omega
        have HGA := Lib.hid hgna
        clear hgna
        go_region_held3 (fun w' => w'.cell? ⟨g, off + k * 7, none⟩ = some (.bool false) ∧ w'.cell? ⟨g, off + k * 7 + 1, none⟩ = some (.int .u64 h.id) ∧ w'.cell? ⟨g, off + k * 7 + 2, none⟩ = some (.int .i64 h.fr) ∧ w'.cell? ⟨g, off + k * 7 + 3, none⟩ = some (.int .i64 h.to) ∧ w'.cell? ⟨g, off + k * 7 + 4, none⟩ = some (.int .i64 h.til) ∧ w'.cell? ⟨g, off + k * 7 + 5, none⟩ = some (.int .u64 num) ∧ w'.cell? ⟨g, off + k * 7 + 6, none⟩ = some (.int .i64 mi))
          (first | go_keep | exact ⟨hx'.out.cellS c0 HGA.out, hx'.out.cellS c1 HGA.out, hx'.out.cellS c2 HGA.out, hx'.out.cellS c3 HGA.out, hx'.out.cellS c4 HGA.out, hx'.out.cellS c5 HGA.out, hx'.out.cellS c6 HGA.out⟩)
          (first | (go_at_call 11; refine (add_any pa va s.a h num mi _ (HT.out.A.ex0 (Ex.drew _)) (by have := HOK.out.len; omega)).mono ?_; rintro e w4 ⟨va', rfl, hva', hA', hx4⟩; have hx' := Lib.hid hx4; have HA' := Lib.hid hA'; have HVA := Lib.hid hva'; clear hx4 hA' hva'))
        have hT4 := (HT.out.ex0 (Ex.drew wr)).addA HVA.out HA'.out hx'.out
        have HT4 := Lib.hid hT4
        clear hT4
        by_cases h0 : addE h num mi s.a = 0
        · have hL : addL h num mi s.a = s.a ++ [⟨h, num, mi⟩] := by unfold addL; rw [if_pos h0]
          have HL := Lib.hid hL
          have H0 := Lib.hid h0
          have hne : (addE h num mi s.a != 0) = false := by rw [h0]; rfl
          clear h0 hL
          cases hfl : only.getD k false with
          | false =>
            have HF := Lib.hid hfl
            have rel : ∀ w5, Ex0 w4 w5 → ∃ va vb, Two w pa pb w3.heap.size va vb (minRun only 0 (l.take (k + 1)) ⟨[], []⟩).a (minRun only 0 (l.take (k + 1)) ⟨[], []⟩).b w5 := fun w5 hx5 => ⟨va', vb, by
              rw [HS.out]
              simp only [minStep, Bool.false_eq_true, if_false, H0.out, ne_eq, not_true_eq_false, HF.out]
              rw [← HL.out]; exact HT4.out.ex0 hx5⟩
            have REL := Lib.hid rel
            clear rel
            by_cases hkm : k < m
            · obtain ⟨gb, ob, rfl, hrb⟩ := (ho.below (by decide) HT4.out.bel).at_ (by omega)
              have hob : (only.map Value.bool)[k]? = some (.bool false) := by
                rw [List.getElem?_map]
                have hk2 : k < only.length := by omega
                rw [List.getElem?_eq_getElem hk2]
                simp only [List.getD, List.getElem?_eq_getElem hk2, Option.getD_some] at hfl
                rw [hfl]; rfl
              have cb : w4.cell? ⟨gb, ob + k, none⟩ = some (.bool false) := by simpa [Addr.add_lit] using hrb k _ hob
              clear hfl hrb hob
              go_wp2
              go_roundw
              case rel => exact ⟨k + 1, by omega, by go_num, REL.out _ (Ex.refl _ _)⟩
              case measure => simp [intOf]; omega
            · clear hfl
              go_wp2
              go_roundw
              case rel => exact ⟨k + 1, by omega, by go_num, REL.out _ (Ex.refl _ _)⟩
              case measure => simp [intOf]; omega
          | true =>
            have hkm : k < m := by
              rcases Nat.lt_or_ge k only.length with h | h
              · omega
              · simp [List.getD, List.getElem?_eq_none h] at hfl
            have HF := Lib.hid hfl
            obtain ⟨gb, ob, rfl, hrb⟩ := (ho.below (by decide) HT4.out.bel).at_ (by omega)
            have hob : (only.map Value.bool)[k]? = some (.bool true) := by
              rw [List.getElem?_map]
              have hk2 : k < only.length := by omega
              rw [List.getElem?_eq_getElem hk2]
              simp only [List.getD, List.getElem?_eq_getElem hk2, Option.getD_some] at hfl
              rw [hfl]; rfl
            have cb : w4.cell? ⟨gb, ob + k, none⟩ = some (.bool true) := by simpa [Addr.add_lit] using hrb k _ hob
            clear hfl hrb hob
            have hC4 := HC.out.ex ((Ex.drew wr).trans hx'.out (fun _ _ h => h.elim) (fun _ _ h => h)) HGA.out
            obtain ⟨d0, d1, d2, d3, d4, d5, d6⟩ := id hC4
            dsimp only at d0 d1 d2 d3 d4 d5 d6
            have hnd : ((idsM s.b).map (·.1)).Nodup := by
              rw [idsM_keys]; exact HOK.out.ids.sublist (HOK.out.sub.map _)
            obtain ⟨_, _, _, hna, _, _⟩ := addE_cases H0.out
            have hnb : s.b.any (fun y => y.h.id == h.id) = false := by
              rw [List.any_eq_false] at hna ⊢
              exact fun x hx => hna x (HOK.out.sub.subset hx)
            have hpm := idsM_put (l := s.b) (x := ⟨h, num, mi⟩) hnb
            have HND := Lib.hid hnd
            have HPM := Lib.hid hpm
            clear hnd hpm hna hnb hC4
            have hgsz4 : g < w4.heap.size := Nat.lt_of_lt_of_le hgl HT4.out.bel.size
            go_wp2_with (refine wpList_mapUpdate_int rfl 27 _ _ _ rfl 28 4 .u64 .u64 w3.heap.size rfl h.id rfl (.bool true) rfl (idsM s.b) Try.underlying27 Try.underlying28 HT4.out.M HND.out ?_)
            intro w5 hM5 hx5
            rw [HPM.out] at hM5
            obtain ⟨hA5, hB5, hbel5⟩ := HT4.out.putM hx5 hM5
            have hgm : ¬ (g = w3.heap.size) := by have := HT4.out.ge.2.2; omega
            have hC5 := HC.out.ex ((Ex.drew wr).trans hx'.out (fun _ _ h => h.elim) (fun _ _ h => h)) HGA.out |>.ex hx5 hgm
            obtain ⟨f0, f1, f2, f3, f4, f5, f6⟩ := id hC5
            dsimp only at f0 f1 f2 f3 f4 f5 f6
            have hgnb : ¬ (g = pb ∨ vb.ownBlock = some g) := by
              rintro (e | e)
              · have := HT4.out.ge.2.1; omega
              · have := (HT4.out.hb g e).1; omega
            have HGB := Lib.hid hgnb
            have HX5 := Lib.hid hx5
            have HB5 := Lib.hid hB5
            have HA5 := Lib.hid hA5
            have HM5 := Lib.hid hM5
            have hgsz5 : g < w5.heap.size := Nat.lt_of_lt_of_le hgl hbel5.size
            have HBEL5 := Lib.hid hbel5
            have hsb : addE h num mi s.b = 0 := addE_sub HOK.out.sub H0.out
            have HSB := Lib.hid hsb
            have hneb : (addE h num mi s.b != 0) = false := by rw [hsb]; rfl
            clear d0 d1 d2 d3 d4 d5 d6 hgm hC5 hgnb hx5 hB5 hA5 hM5 hbel5 hsb hgsz4 c0 c1 c2 c3 c4 c5 c6
            go_wp2_with fail
            go_region_held3 (fun w' => w'.cell? ⟨g, off + k * 7 + 1, none⟩ = some (.int .u64 h.id) ∧ w'.cell? ⟨g, off + k * 7 + 2, none⟩ = some (.int .i64 h.fr) ∧ w'.cell? ⟨g, off + k * 7 + 3, none⟩ = some (.int .i64 h.to) ∧ w'.cell? ⟨g, off + k * 7 + 4, none⟩ = some (.int .i64 h.til) ∧ w'.cell? ⟨g, off + k * 7 + 5, none⟩ = some (.int .u64 num) ∧ w'.cell? ⟨g, off + k * 7 + 6, none⟩ = some (.int .i64 mi))
              (first | go_keep | exact ⟨hy'.out.cellS f1 HGB.out, hy'.out.cellS f2 HGB.out, hy'.out.cellS f3 HGB.out, hy'.out.cellS f4 HGB.out, hy'.out.cellS f5 HGB.out, hy'.out.cellS f6 HGB.out⟩)
              (first | (go_at_call 11; refine (add_any pb vb s.b h num mi _ (HB5.out.ex0 (Ex.drew _)) (by have := HOK.out.len; have := HOK.out.sub.length_le; omega)).mono ?_; rintro e w6 ⟨vb', rfl, hvb', hB6, hx6⟩; have hy' := Lib.hid hx6; have HB6 := Lib.hid hB6; have HVB := Lib.hid hvb'; clear hx6 hB6 hvb'))
            go_wp2
            go_roundw
            case rel => exact ⟨k + 1, by omega, by go_num, va', vb', by
              have h6 : Two w pa pb w3.heap.size va' vb' (addL h num mi s.a) (s.b ++ [⟨h, num, mi⟩]) w6 := by
                have h7 := HB6.out
                rw [show addL h num mi s.b = s.b ++ [⟨h, num, mi⟩] by unfold addL; rw [if_pos HSB.out]] at h7
                have halt : ∀ b, va'.ownBlock = some b → b < w5.heap.size := fun b hb => (HA5.out.own.lt b hb).2
                have hx56 := (Ex.drew w5).trans hy'.out (U := fun b => b = pb ∨ vb.ownBlock = some b) (fun _ _ h => h.elim) (fun _ _ h => h)
                refine ⟨HA5.out.ex hx56 ?_ ?_, h7, HM5.out.ex hx56 ?_, ?_, ?_, HT4.out.ne, HT4.out.ge, HBEL5.out.trans (hx56.below HBEL5.out.size ?_)⟩
                · rintro (e | e)
                  · exact HT4.out.ne.1 e
                  · exact (HT4.out.hb _ e).2.1 rfl
                · rintro b hb (e | e)
                  · exact (HT4.out.ha b hb).2.1 e
                  · exact (HT4.out.ha b hb).2.2.2 e
                · rintro (e | e)
                  · exact HT4.out.ne.2.2 e.symm
                  · exact (HT4.out.hb _ e).2.2 rfl
                · intro b hb
                  obtain ⟨g1, g2, g3, g4⟩ := HT4.out.ha b hb
                  refine ⟨g1, g2, g3, fun e => ?_⟩
                  rcases HVB.out with e' | ⟨c, hc, hle⟩
                  · exact g4 (by rw [← e']; exact e)
                  · rw [e] at hc; cases hc; have := halt b hb; simp at hle; omega
                · intro b hb
                  rcases HVB.out with e | ⟨c, hc, hle⟩
                  · exact HT4.out.hb b (by rw [← e]; exact hb)
                  · rw [hb] at hc; cases hc
                    have g1 := HA5.out.lt; have g2 := HM5.out.lt; have g3 := HBEL5.out.size
                    simp at hle
                    exact ⟨by omega, by omega, by omega⟩
                · rintro i (e | e)
                  · rw [e]; exact HT4.out.ge.2.1
                  · exact (HT4.out.hb i e).1
              rw [HS.out]
              simp only [minStep, Bool.false_eq_true, if_false, H0.out, ne_eq, not_true_eq_false, HF.out, if_true]
              rw [← HL.out]; exact h6⟩
            case measure => simp [intOf]; omega
        · have hL : addL h num mi s.a = s.a := by unfold addL; rw [if_neg h0]
          have HL := Lib.hid hL
          have H0 := Lib.hid h0
          have hne : (addE h num mi s.a != 0) = true := by rw [bne_iff_ne]; exact h0
          clear h0 hL
          go_wp2
          go_roundw
          case rel => exact ⟨k + 1, by omega, by go_num, va', vb, by
              rw [HS.out]
              have : minStep only s k ⟨false, h, num, mi⟩ = s := by simp only [minStep, Bool.false_eq_true, if_false]; rw [if_pos H0.out]
              rw [this, ← HL.out]; exact HT4.out⟩
          case measure => simp [intOf]; omega
    · have hkn : k = n := by omega
      subst hkn
      have htl : l.take k = l := List.take_of_length_le (by omega)
      rw [htl] at hT hok
      generalize minRun only 0 l ⟨[], []⟩ = s at hT hok
      have hla : s.a.length ≤ 1000 := by have := hok.len; omega
      have hlb : s.b.length ≤ 1000 := by have := hok.sub.length_le; have := hok.len; omega
      have hwant := min_want hok.sub hok.ids min now
      have HW := Lib.hid hwant
      have HT := Lib.hid hT
      clear hT hok hwant htl hl ho
      go_wp2_with fail
      refine (over_any pa va s.a min now _ HT.out.A hla).mono ?_
      rintro e w4 ⟨v3, rfl, ho3, hx4⟩
      obtain ⟨A3, cap3, rfl, hsl3, _, _⟩ := own_sl' ho3
      have hT4 := HT.out.ex0 hx4
      have HT4 := Lib.hid hT4
      have hsm3 := hsl3.small
      have hlen3 : (overL min now s.a).length ≤ 1000 := by have := List.length_filter_le (isOver min now) s.a; unfold overL; omega
      clear hT4 ho3 hx4
      generalize hov : overL min now s.a = ov at *
      clear hov
      obtain ⟨i0, hi0, hz0, hz1, hz2⟩ := info_parts infoPut
      go_wp2
      go_loopw [13, 97] (fun v i wr => ∃ k : Nat, k ≤ ov.length ∧ i = .int .i64 k ∧ wr.ownsRow w4.heap.size 38 6 v ((ov.take k).filter (fun x => s.b.any fun y => y.h.id == x.h.id)).length (((ov.take k).filter (fun x => s.b.any fun y => y.h.id == x.h.id)).flatMap Put.cells) ∧ Ex0 w4 wr) (fun _ i _ => ov.length - (intOf i).toNat)
      case atStart => exact ⟨0, Nat.zero_le _, rfl, World.ownsRow_nil _ _ _ _, Ex.refl _ _⟩
      case round =>
        obtain ⟨q, hq, rfl, hown, hx⟩ := hrel
        by_cases hlt2 : q < ov.length
        · obtain ⟨g, off, hl1, rfl, hr⟩ := (hsl3.ex0 hx).row Put.len (by omega) hlt2
          have htk : ov.take (q + 1) = ov.take q ++ [ov[q]] := List.take_succ_eq_append_getElem hl1
          have hfl : ((ov.take q).filter (fun x => s.b.any fun y => y.h.id == x.h.id)).length ≤ 1000 := by
            have h8 := List.length_filter_le (fun x => s.b.any fun y => y.h.id == x.h.id) (ov.take q)
            rw [List.length_take] at h8; omega
          have HTK := Lib.hid htk
          have HO := Lib.hid hown
          have hMm := HT4.out.M.ex hx not_false
          have HM := Lib.hid (hMm.ex (Ex.alloc _ _ : Ex0 wr (wr.alloc (.cells #[] 0))) not_false)
          clear htk hown HM
          generalize ov[q] = x at hr HTK
          obtain ⟨⟨a1, a2, a3, a4⟩, a5, a6⟩ := x
          unfold Put.cells at hr
          have hM2 : MapI (wr.alloc (.cells #[.int .u64 a1, .int .i64 a2, .int .i64 a3, .int .i64 a4, .int .u64 a5, .int .i64 a6] 38)) w3.heap.size .u64 (idsM s.b) := hMm.ex (Ex.alloc _ _) not_false
          have HM2 := Lib.hid hM2
          clear hM2 hMm
          have hzb : ∀ w, (zeroValue 4).run Try.prog w = .ok (.bool false) w := fun w => by kernel_rfl
          cases hbq : (s.b.any fun x => x.h.id == a1)
          · have HBQ := Lib.hid hbq
            clear hbq
            go_wp2_with (first
              | (refine wpList_load_at rfl _ _ rfl _ rfl _ _ hr Try.underlying38 rfl (by kernel_rfl) ?_)
              | (refine wpList_lookup_int rfl 27 _ _ rfl 28 4 .u64 .u64 w3.heap.size rfl a1 rfl (idsM s.b) (.bool false) Try.underlying27 Try.underlying28 hzb HM2.out ?_; rw [getM_ids, HBQ.out]))
            go_roundw
            case rel => exact ⟨q + 1, by omega, by go_num, by rw [HTK.out, List.filter_append]; simp only [List.filter_cons, HBQ.out, Bool.false_eq_true, if_false, List.filter_nil, List.append_nil]; exact HO.out.alloc _, hx.alloc' _⟩
            case measure => simp [intOf]; omega
          · have HBQ := Lib.hid hbq
            have hsz4 := hx.size
            clear hbq
            go_wp2_with (first
              | (refine wpList_load_at rfl _ _ rfl _ rfl _ _ hr Try.underlying38 rfl (by kernel_rfl) ?_)
              | (refine wpList_lookup_int rfl 27 _ _ rfl 28 4 .u64 .u64 w3.heap.size rfl a1 rfl (idsM s.b) (.bool false) Try.underlying27 Try.underlying28 hzb HM2.out ?_; rw [getM_ids, HBQ.out])
              | (at_builtin; refine wpList_append_sl rfl (.tmp 106) (.tmp 108) 35 rfl w4.heap.size 38 i0 _ 6 48 Try.underlying35 hi0 hz0 hz1 hz2 rfl (by decide) _ _ _ rfl ((HO.out.alloc _).alloc _) _ 1 1 [.int .u64 a1, .int .i64 a2, .int .i64 a3, .int .i64 a4, .int .u64 a5, .int .i64 a6] rfl (sl_block (cs := #[.int .u64 a1, .int .i64 a2, .int .i64 a3, .int .i64 a4, .int .u64 a5, .int .i64 a6]) (e := 38) (fr := (0, 0)) (heap_alloc2_new _ _ _) rfl (by omega)) (fun h => by cases h) (one6 _ _ _ _ _ _) (by unfold maxLen; omega) (by omega) (by simp; omega) ?_))
            intro v5 w5 hown5 hgrow5 _
            have HO5 := Lib.hid hown5
            have hx5 := Lib.hid (((hx.alloc' _).alloc' _).trans (Ex.ofGrown hgrow5) (U := fun _ => False) (fun _ _ h => h) (fun i hi h => by have := (HO.out.lt i h).1; omega))
            clear hown5 hgrow5
            go_wp2
            go_roundw
            case rel => exact ⟨q + 1, by omega, by go_num, by rw [HTK.out, List.filter_append]; simp only [List.filter_cons, HBQ.out, if_true, List.filter_nil]; rw [List.length_append, List.flatMap_append]; exact HO5.out, hx5.out⟩
            case measure => simp [intOf]; omega
        · have hqn : q = ov.length := by omega
          subst hqn
          rw [List.take_length, HW.out] at hown
          have hx4r : Two w pa pb w3.heap.size va vb s.a s.b _ := HT4.out.ex0 hx
          have HT5 := Lib.hid hx4r
          obtain ⟨A5, cap5, rfl, hsl5, _, _⟩ := own_sl' hown
          clear hx4r hown hx hsl3
          go_wp2_with fail
          refine (over_any pb vb s.b min now _ HT5.out.B hlb).mono ?_
          rintro e w6 ⟨v6, rfl, ho6, hx6⟩
          obtain ⟨A6, cap6, rfl, hsl6, _, _⟩ := own_sl' ho6
          have HT6 := Lib.hid (HT5.out.ex0 hx6)
          have hsl5' := hsl5.ex0 hx6
          have hsm6 := hsl6.small
          clear ho6 hx6 hsl5
          generalize overL min now s.b = ob at *
          have hnn : ((ob.length : Int) != (ob.length : Int)) = false := by simp
          go_wp2
          go_loopw [17] (fun i wr => ∃ k : Nat, k ≤ ob.length ∧ i = .int .i64 k ∧ Ex0 w6 wr) (fun i _ => ob.length - (intOf i).toNat)
          case atStart => exact ⟨0, Nat.zero_le _, rfl, Ex.refl _ _⟩
          case round =>
            obtain ⟨q, hq, rfl, hx⟩ := hrel
            by_cases hlt2 : q < ob.length
            · obtain ⟨g, off, hl1, rfl, hr⟩ := (hsl5'.ex0 hx).row Put.len (by omega) hlt2
              obtain ⟨g2, off2, hl2, rfl, hr2⟩ := (hsl6.ex0 hx).row Put.len (by omega) hlt2
              have hi0' : (0 : Int) ≤ (q : Int) := Int.natCast_nonneg _
              have hi1 : (q : Int) < (ob.length : Int) := by omega
              generalize ob[q] = x at hr hr2
              obtain ⟨⟨a1, a2, a3, a4⟩, a5, a6⟩ := x
              have c0 : wr.cell? ⟨g, off + q * 6, none⟩ = some (.int .u64 a1) := by simpa [Addr.add] using hr 0 _ rfl
              have c1 : wr.cell? ⟨g, off + q * 6 + 1, none⟩ = some (.int .i64 a2) := by simpa [Addr.add] using hr 1 _ rfl
              have c2 : wr.cell? ⟨g, off + q * 6 + 2, none⟩ = some (.int .i64 a3) := by simpa [Addr.add] using hr 2 _ rfl
              have c3 : wr.cell? ⟨g, off + q * 6 + 3, none⟩ = some (.int .i64 a4) := by simpa [Addr.add] using hr 3 _ rfl
              have c4 : wr.cell? ⟨g, off + q * 6 + 4, none⟩ = some (.int .u64 a5) := by simpa [Addr.add] using hr 4 _ rfl
              have c5 : wr.cell? ⟨g, off + q * 6 + 5, none⟩ = some (.int .i64 a6) := by simpa [Addr.add] using hr 5 _ rfl
              have d0 : wr.cell? ⟨g2, off2 + q * 6, none⟩ = some (.int .u64 a1) := by simpa [Addr.add] using hr2 0 _ rfl
              have d1 : wr.cell? ⟨g2, off2 + q * 6 + 1, none⟩ = some (.int .i64 a2) := by simpa [Addr.add] using hr2 1 _ rfl
              have d2 : wr.cell? ⟨g2, off2 + q * 6 + 2, none⟩ = some (.int .i64 a3) := by simpa [Addr.add] using hr2 2 _ rfl
              have d3 : wr.cell? ⟨g2, off2 + q * 6 + 3, none⟩ = some (.int .i64 a4) := by simpa [Addr.add] using hr2 3 _ rfl
              have d4 : wr.cell? ⟨g2, off2 + q * 6 + 4, none⟩ = some (.int .u64 a5) := by simpa [Addr.add] using hr2 4 _ rfl
              have d5 : wr.cell? ⟨g2, off2 + q * 6 + 5, none⟩ = some (.int .i64 a6) := by simpa [Addr.add] using hr2 5 _ rfl
              clear hr hr2
              go_wp2
              go_quiet (fail)
              go_wp2
              go_roundw
              case rel => exact ⟨q + 1, by omega, by go_num, hx.drewN' _⟩
              case measure => simp [intOf]; omega
            · have HT7 := Lib.hid (HT6.out.ex0 hx)
              clear hx
              go_wp2_with fail
              refine (len_any pb vb s.b _ HT7.out.B).mono ?_
              rintro e w7 ⟨rfl, rfl⟩
              have hlm := Go.Proofs.YtbolioeopcmfcaaB.run_len_map (P := Try.prog) w7 27 3 28 4 .u64 w3.heap.size (idsM s.b) Try.underlying27 HT7.out.M
              rw [show (idsM s.b).length = s.b.length by simp [idsM]] at hlm
              go_wp2
              go_ret
              exact ⟨rfl, HT7.out.bel⟩
end Go.Proofs.Ytbolioeopcmfcaa
