/- Contracts of layer 37: the document's functions. Contracts of layer 37: the document's Add. -/
import Derived.Test.YtoglddndicmelaaGreatHoB
import Derived.Deep.QuietTactic
import Derived.BigQuiet
namespace Go.Proofs.YtoglddndicmelaaGreat.Ho
open Go.RowKit Go.Proofs.YtoglddndicmelaaGreatB Go.Shelf
set_option maxRecDepth 100000

theorem infoRef : (Tryz.prog.info? 192).map (fun i => (i.zero, i.size, i.bytes)) = some (some (.agg #[.int .u64 0, .int .i64 0, .int .i64 0, .int .i64 0, .int .u64 0, .int .i64 0]), 6, 48) := by kernel_rfl
theorem rminute_any (n : Int) (w : World) :
    Calls Tryz.prog 160 #[.int .i64 n] w fun e w' => e = .returned (.bool (minuteB n)) ∧ w' = w := by
  go_enter Tryz.func160, Tryz.ntmps160
  go_wp2
  all_goals
    go_ret
    simp_all [minuteB] <;> omega
theorem ris_any (x : Put) (min now : Int) (w : World) :
    Calls Tryz.prog 101 #[x.val, .int .i64 min, .int .i64 now] w fun e w' => e = .returned (.bool (isOver min now x)) ∧ Ex0 w w' := by
  obtain ⟨⟨a1, a2, a3, a4⟩, a5, a6⟩ := x
  unfold Put.val
  go_enter Tryz.func101, Tryz.ntmps101
  go_wp2
  all_goals
    go_ret
    refine ⟨ret_bool ?_, Ex.alloc _ _⟩
    simp_all [isOver] <;> omega
theorem overL_snoc (min now : Int) (l : List Put) (k : Nat) (hk : k < l.length) : overL min now (l.take (k + 1)) = if isOver min now l[k] then overL min now (l.take k) ++ [l[k]] else overL min now (l.take k) := by
  unfold overL
  rw [List.take_succ_eq_append_getElem hk, List.filter_append]
  by_cases h : isOver min now l[k] = true <;> simp [h]
theorem lift_filter (id : Int) (l : List Put) : l.filter (fun x => !(x.h.id == id)) = l ↔ l.findIdx? (fun x => x.h.id == id) = none := by
  rw [List.findIdx?_eq_none_iff, List.filter_eq_self]
  constructor
  · intro h x hx; have := h x hx; simpa using this
  · intro h x hx; have := h x hx; simpa using this
/-- the document's Lift, by its loop -/
def rliftL (id : Int) (l : List Put) : List Put := l.filter (fun x => !(x.h.id == id))
def RLiftPost (A : Option Addr) (l : List Put) (id : Int) (w : World) (e : Ending) (w' : World) : Prop :=
  ∃ A' cap', e = .returned (.tuple #[.slice A' (rliftL id l).length cap', .int .i64 (liftE id l)]) ∧ Sl w' 6 A' (rliftL id l).length ((rliftL id l).flatMap Put.cells) ∧ (∀ b, Bl A' b → Bl A b ∨ (w.heap.size ≤ b ∧ b < w'.heap.size)) ∧ (A' = none → cap' = 0) ∧ Ex0 w w'
theorem rliftL_snoc (id : Int) (l : List Put) (k : Nat) (hk : k < l.length) : rliftL id (l.take (k + 1)) = if l[k].h.id == id then rliftL id (l.take k) else rliftL id (l.take k) ++ [l[k]] := by
  unfold rliftL
  rw [List.take_succ_eq_append_getElem hk, List.filter_append]
  by_cases h : (l[k].h.id == id) = true <;> simp [h]
theorem filter_len_eq {p : Put → Bool} {l : List Put} (h : (l.filter p).length = l.length) : l.filter p = l := by
  rw [List.filter_eq_self]
  exact fun x hx => (List.length_filter_eq_length_iff.1 h) x hx
set_option maxHeartbeats 1000000 in
theorem rlift_any (A : Option Addr) (cap : Nat) (l : List Put) (id : Int) (w : World) (hs : Sl w 6 A l.length (l.flatMap Put.cells)) (hn : l.length ≤ 1000) (hA : ∀ b, Bl A b → b < w.heap.size) (hcap : A = none → cap = 0) :
    Calls Tryz.prog 133 #[.slice A l.length cap, .int .u64 id] w (RLiftPost A l id w) := by
  obtain ⟨i0, hi0, hz0, hz1, hz2⟩ := info_parts infoRef
  have hm := hs.small
  go_enter Tryz.func133, Tryz.ntmps133
  go_wp2
  go_loopw [6, 7] (fun v i wr => ∃ k : Nat, k ≤ l.length ∧ i = .int .i64 k ∧ wr.ownsRow w.heap.size 192 6 v (rliftL id (l.take k)).length ((rliftL id (l.take k)).flatMap Put.cells) ∧ Ex0 w wr) (fun _ i _ => l.length - (intOf i).toNat)
  case atStart => exact ⟨0, Nat.zero_le _, rfl, World.ownsRow_nil _ _ _ _, Ex.refl _ _⟩
  case round =>
    rename_i u7 _
    obtain ⟨k, hk, rfl, hown, hx⟩ := hrel
    by_cases hlt : k < l.length
    · obtain ⟨g, off, hl, rfl, hr⟩ := (hs.ex0 hx).row Put.len (by omega) hlt
      have hsn := rliftL_snoc id l k hl
      have hlen : (rliftL id (l.take k)).length ≤ 1000 := by
        have := List.length_filter_le (fun x => !(x.h.id == id)) (l.take k)
        rw [List.length_take] at this
        unfold rliftL; omega
      have hlg := hA g rfl
      have hsz := hx.size
      have HO := Lib.hid hown
      have HS := Lib.hid hsn
      clear hown hsn
      generalize l[k] = x at hr HS
      obtain ⟨⟨a1, a2, a3, a4⟩, a5, a6⟩ := x
      unfold Put.cells at hr
      have c0 : wr.cell? ⟨g, off + k * 6, none⟩ = some (.int .u64 a1) := by simpa [Addr.add] using hr 0 _ rfl
      cases hio : (a1 == id)
      · have HI := Lib.hid hio
        have hne : (a1 != id) = true := by rw [bne, hio]; rfl
        clear hio
        go_wp2_with (first
          | (refine wpList_load_at rfl _ _ rfl _ rfl _ _ hr Tryz.underlying192 rfl (by kernel_rfl) ?_)
          | (at_builtin; refine wpList_append_own_at _ rfl (.tmp 22) (.tmp 27) 43 rfl w.heap.size 192 i0 _ 6 48 Tryz.underlying43 hi0 hz0 hz1 hz2 rfl (by decide) _ _ _ rfl (HO.out.alloc _) ⟨wr.heap.size, 0, none⟩ 1 1 [.int .u64 a1, .int .i64 a2, .int .i64 a3, .int .i64 a4, .int .u64 a5, .int .i64 a6] rfl rfl (World.news_of_block (cs := #[.int .u64 a1, .int .i64 a2, .int .i64 a3, .int .i64 a4, .int .u64 a5, .int .i64 a6]) (t := 192) (fr := (0, 0)) (heap_alloc_new wr _)) (by simp [Value.oneCell']) (by unfold maxLen; omega) (by omega) (by simp; omega) ?_))
        intro v2 w2 hown2 hgrow _ _
        have HO2 := Lib.hid hown2
        have hx3 := Lib.hid ((hx.alloc' _).trans (Ex.ofGrown hgrow) (U := fun _ => False) (fun _ _ h => h) (fun i hi h => by have := (HO.out.lt i h).1; omega))
        clear hown2 hgrow
        go_wp2
        go_roundw
        case rel => exact ⟨k + 1, by omega, by go_num, by rw [HS.out, HI.out]; simp only [Bool.false_eq_true, if_false]; rw [List.length_append, List.flatMap_append]; exact HO2.out, hx3.out⟩
        case measure => simp [intOf]; omega
      · have HI := Lib.hid hio
        have hne : (a1 != id) = false := by rw [bne, hio]; rfl
        clear hio
        go_wp2
        go_roundw
        case rel => exact ⟨k + 1, by omega, by go_num, by rw [HS.out, HI.out]; exact HO.out, hx⟩
        case measure => simp [intOf]; omega
    · have hkl : k = l.length := by omega
      subst hkl
      rw [List.take_length] at hown
      obtain ⟨A', cap', rfl, hsl', hbl', hcp'⟩ := own_sl' hown
      have HO := Lib.hid hown
      have HB := Lib.hid hbl'
      have HCP := Lib.hid hcp'
      clear hown hbl' hcp'
      by_cases he : (rliftL id l).length = l.length
      · have heq : rliftL id l = l := filter_len_eq he
        have hf := (lift_filter id l).1 heq
        have HF := Lib.hid hf
        have HE := Lib.hid heq
        have hee : ((((rliftL id l).length : Nat) : Int) == (l.length : Int)) = true := by rw [he]; simp
        clear hf heq he
        go_wp2
        go_ret2
        refine ⟨A, cap, ?_, ?_, fun b hb => .inl hb, hcap, hx⟩
        · rw [HE.out]; unfold liftE; rw [HF.out]; rfl
        · rw [HE.out]; exact hs.ex0 hx
      · have hf : liftE id l = 0 := by
          unfold liftE
          cases hff : l.findIdx? (fun x => x.h.id == id) with
          | none => exact absurd (congrArg List.length ((lift_filter id l).2 hff)) he
          | some i => rfl
        have HF := Lib.hid hf
        have hee : ((((rliftL id l).length : Nat) : Int) == (l.length : Int)) = false := by rw [beq_eq_false_iff_ne]; omega
        clear hf he
        go_wp2
        go_ret2
        refine ⟨A', cap', by rw [HF.out]; rfl, hsl', fun b hb => .inr ?_, HCP.out, hx⟩
        exact HO.out.lt b (by rw [HB.out]; exact hb)

theorem one6 (a1 a2 a3 a4 a5 a6 : Int) : ∀ u ∈ [Value.int .u64 a1, .int .i64 a2, .int .i64 a3, .int .i64 a4, .int .u64 a5, .int .i64 a6], u.oneCell' = true := by simp [Value.oneCell']
def RAddPost (A : Option Addr) (l : List Put) (h : Held) (num min : Int) (w : World) (e : Ending) (w' : World) : Prop :=
  ∃ A' cap', e = .returned (.tuple #[.slice A' (addL h num min l).length cap', .int .i64 (addE h num min l)]) ∧ Sl w' 6 A' (addL h num min l).length ((addL h num min l).flatMap Put.cells) ∧ (∀ b, Bl A' b → Bl A b ∨ (w.heap.size ≤ b ∧ b < w'.heap.size)) ∧ (A' = none → cap' = 0) ∧ Ex0 w w'
theorem raddPost_same {A : Option Addr} {cap : Nat} {l : List Put} {h : Held} {num min : Int} {w w' : World} {k : Int} (hs : Sl w 6 A l.length (l.flatMap Put.cells)) (hcap : A = none → cap = 0) (hx : Ex0 w w') (hk : addE h num min l = k) (h0 : k ≠ 0) :
    RAddPost A l h num min w (.returned (.tuple #[.slice A l.length cap, .int .i64 k])) w' := by
  have hL : addL h num min l = l := by unfold addL; rw [if_neg (by rw [hk]; exact h0)]
  refine ⟨A, cap, by rw [hL, hk], by rw [hL]; exact hs.ex0 hx, fun b hb => .inl hb, hcap, hx⟩
set_option maxHeartbeats 4000000 in
theorem radd_any (A : Option Addr) (cap : Nat) (l : List Put) (h : Held) (num min : Int) (w : World) (hs : Sl w 6 A l.length (l.flatMap Put.cells)) (hn : l.length ≤ 1000) (hA : ∀ b, Bl A b → b < w.heap.size) (hcap : A = none → cap = 0) :
    Calls Tryz.prog 132 #[.slice A l.length cap, h.val, .int .u64 num, .int .i64 min] w (RAddPost A l h num min w) := by
  obtain ⟨i0, hi0, hz0, hz1, hz2⟩ := info_parts infoRef
  have hm := hs.small
  obtain ⟨hid, hfr, hto, htil⟩ := h
  by_cases hok : mayB ⟨hid, hfr, hto, htil⟩ = true ∧ minuteB min = true
  case neg =>
    have h2 : addE ⟨hid, hfr, hto, htil⟩ num min l = 2 := by
      by_cases h1 : mayB ⟨hid, hfr, hto, htil⟩ = true
      · exact addE_n (by rw [← Bool.not_eq_true]; exact fun hh => hok ⟨h1, hh⟩)
      · exact addE_m (by simpa using h1)
    have H2 := Lib.hid h2
    clear h2
    have hcases : (hid == 0) = true ∨ ((hid == 0) = false ∧ (minuteB hfr = false ∨ (minuteB hfr = true ∧ (minuteB hto = false ∨ (minuteB hto = true ∧ (minuteB htil = false ∨ (minuteB htil = true ∧ (hto < hfr ∨ (¬ hto < hfr ∧ minuteB min = false))))))))) := by
      unfold mayB at hok
      cases h1 : (hid == 0) <;> cases h3 : minuteB hfr <;> cases h4 : minuteB hto <;> cases h5 : minuteB htil <;> cases h6 : minuteB min <;> simp_all <;> omega
    clear hok
    unfold Held.val
    rcases hcases with h1 | ⟨h1, h3 | ⟨h3, h4 | ⟨h4, h5 | ⟨h5, h6 | ⟨h6, h7⟩⟩⟩⟩⟩
    all_goals
      go_enter Tryz.func132, Tryz.ntmps132
      go_wp2_with (go_at_call 160; refine (rminute_any _ _).mono ?_; rintro e w' ⟨rfl, rfl⟩)
      go_ret2
      exact raddPost_same hs hcap (Ex.alloc _ _) H2.out (by decide)
  case pos =>
    obtain ⟨hok1, hok2⟩ := hok
    have HK1 := Lib.hid hok1
    have HK2 := Lib.hid hok2
    have g1 : (hid == 0) = false ∧ minuteB hfr = true ∧ minuteB hto = true ∧ minuteB htil = true ∧ ¬ hto < hfr := by
      unfold mayB at hok1
      cases h1 : (hid == 0) <;> cases h3 : minuteB hfr <;> cases h4 : minuteB hto <;> cases h5 : minuteB htil <;> simp_all
    obtain ⟨g1, g3, g4, g5, g6⟩ := g1
    clear hok1
    by_cases ht : htil ≤ min
    · have HT := Lib.hid ht
      unfold Held.val
      go_enter Tryz.func132, Tryz.ntmps132
      go_wp2_with (go_at_call 160; refine (rminute_any _ _).mono ?_; rintro e w' ⟨rfl, rfl⟩)
      go_ret2
      exact raddPost_same hs hcap (Ex.alloc _ _) (addE_7 HK1.out HK2.out HT.out) (by decide)
    · have ht' : min < htil := by omega
      have HT := Lib.hid ht'
      unfold Held.val
      go_enter Tryz.func132, Tryz.ntmps132
      go_wp2_with (go_at_call 160; refine (rminute_any _ _).mono ?_; rintro e w' ⟨rfl, rfl⟩)
      go_loopw [10] (fun i wr => ∃ k : Nat, k ≤ l.length ∧ i = .int .i64 k ∧ Ex0 (w.alloc (.cells #[.int .u64 hid, .int .i64 hfr, .int .i64 hto, .int .i64 htil] 151)) wr ∧ ∀ j (h : j < l.length), j < k → (l[j].h.id == hid) = false) (fun i _ => l.length - (intOf i).toNat)
      case atStart => exact ⟨0, Nat.zero_le _, rfl, Ex.refl _ _, fun j h hj => by omega⟩
      case round =>
        obtain ⟨k, hk, rfl, hx, hq⟩ := hrel
        have c1 : wr.cell? ⟨w.heap.size, 0, none⟩ = some (.int .u64 hid) := hx.cellS (by go_simp) not_false
        have hsr := hs.ex0 ((Ex.alloc w _).trans0 hx)
        by_cases hlt : k < l.length
        · obtain ⟨g, off, hl, rfl, hr⟩ := hsr.row Put.len (by omega) hlt
          have hi0' : (0 : Int) ≤ (k : Int) := Int.natCast_nonneg _
          have hi1 : (k : Int) < (l.length : Int) := by omega
          cases hio : (l[k].h.id == hid)
          · have HI := Lib.hid hio
            generalize l[k] = x at hr hio
            have c0 : wr.cell? ⟨g, off + k * 6, none⟩ = some (.int .u64 x.h.id) := by simpa [Addr.add] using hr 0 _ rfl
            go_wp2
            go_quiet (fail)
            go_wp2
            go_roundw
            case rel => exact ⟨k + 1, by omega, by go_num, hx.drewN' _, fun j hj h => by
                by_cases e : j = k
                · subst e; exact HI.out
                · exact hq j hj (by omega)⟩
            case measure => simp [intOf]; omega
          · have hany : l.any (fun x => x.h.id == hid) = true := List.any_eq_true.2 ⟨_, List.getElem_mem hl, hio⟩
            have HI := Lib.hid hany
            clear hany
            generalize l[k] = x at hr hio
            have c0 : wr.cell? ⟨g, off + k * 6, none⟩ = some (.int .u64 x.h.id) := by simpa [Addr.add] using hr 0 _ rfl
            go_wp2
            go_quiet (fail)
            go_wp2
            go_ret2
            exact raddPost_same hs hcap ((Ex.alloc w _).trans0 (hx.drewN' _)) (addE_5 HK1.out HK2.out HT.out HI.out) (by decide)
        · go_wp2
          have hkl : k = l.length := by omega
          subst hkl
          have hno : l.any (fun x => x.h.id == hid) = false := by
            rw [List.any_eq_false]; intro x hxm
            obtain ⟨j, hj, rfl⟩ := List.getElem_of_mem hxm
            rw [hq j hj hj]; simp
          have HNO := Lib.hid hno
          clear hno hq hlt hk c1 hsr
          go_loopw [11] (fun i wr => ∃ k : Nat, k ≤ l.length ∧ i = .int .i64 k ∧ Ex0 (w.alloc (.cells #[.int .u64 hid, .int .i64 hfr, .int .i64 hto, .int .i64 htil] 151)) wr ∧ ∀ j (h : j < l.length), j < k → pastB num min l[j] = false) (fun i _ => l.length - (intOf i).toNat)
          case atStart => exact ⟨0, Nat.zero_le _, rfl, hx, fun j h hj => by omega⟩
          case round =>
            clear hx
            obtain ⟨k, hk, rfl, hx, hq⟩ := hrel
            have hsr := hs.ex0 ((Ex.alloc w _).trans0 hx)
            by_cases hlt : k < l.length
            · obtain ⟨g, off, hl, rfl, hr⟩ := hsr.row Put.len (by omega) hlt
              cases hio : pastB num min l[k]
              · have HI := Lib.hid hio
                generalize l[k] = x at hr hio
                have c0 : wr.cell? ⟨g, off + k * 6 + 4, none⟩ = some (.int .u64 x.num) := by simpa [Addr.add] using hr 4 _ rfl
                have c2 : wr.cell? ⟨g, off + k * 6 + 5, none⟩ = some (.int .i64 x.min) := by simpa [Addr.add] using hr 5 _ rfl
                have hp : ¬ num ≤ x.num ∧ ¬ min < x.min := by simpa [pastB] using hio
                obtain ⟨hp1, hp2⟩ := hp
                clear hio
                go_wp2
                go_roundw
                case rel => exact ⟨k + 1, by omega, by go_num, hx, fun j hj h => by
                    by_cases e : j = k
                    · subst e; exact HI.out
                    · exact hq j hj (by omega)⟩
                case measure => simp [intOf]; omega
              · have hany : l.any (pastB num min) = true := List.any_eq_true.2 ⟨_, List.getElem_mem hl, hio⟩
                have HI := Lib.hid hany
                clear hany
                generalize l[k] = x at hr hio
                have c0 : wr.cell? ⟨g, off + k * 6 + 4, none⟩ = some (.int .u64 x.num) := by simpa [Addr.add] using hr 4 _ rfl
                have c2 : wr.cell? ⟨g, off + k * 6 + 5, none⟩ = some (.int .i64 x.min) := by simpa [Addr.add] using hr 5 _ rfl
                by_cases hp1 : num ≤ x.num
                · clear hio
                  go_wp2
                  go_ret2
                  exact raddPost_same hs hcap ((Ex.alloc w _).trans0 hx) (addE_15 HK1.out HK2.out HT.out HNO.out HI.out) (by decide)
                · have hp2 : min < x.min := by simp [pastB] at hio; omega
                  clear hio
                  go_wp2
                  go_ret2
                  exact raddPost_same hs hcap ((Ex.alloc w _).trans0 hx) (addE_15 HK1.out HK2.out HT.out HNO.out HI.out) (by decide)
            · have hkl : k = l.length := by omega
              subst hkl
              have hno : l.any (pastB num min) = false := by
                rw [List.any_eq_false]; intro x hxm
                obtain ⟨j, hj, rfl⟩ := List.getElem_of_mem hxm
                rw [hq j hj hj]; simp
              have HNP := Lib.hid hno
              clear hno hq hlt hk
              by_cases h64 : 64 ≤ l.length
              · go_wp2
                go_ret2
                exact raddPost_same hs hcap ((Ex.alloc w _).trans0 hx) (addE_6 HK1.out HK2.out HT.out HNO.out HNP.out h64) (by decide)
              · have c1 : wr.cell? ⟨w.heap.size, 0, none⟩ = some (.int .u64 hid) := hx.cellS (by go_simp) not_false
                have c2 : wr.cell? ⟨w.heap.size, 1, none⟩ = some (.int .i64 hfr) := hx.cellS (by go_simp) not_false
                have c3 : wr.cell? ⟨w.heap.size, 2, none⟩ = some (.int .i64 hto) := hx.cellS (by go_simp) not_false
                have c4 : wr.cell? ⟨w.heap.size, 3, none⟩ = some (.int .i64 htil) := hx.cellS (by go_simp) not_false
                have hlb := World.block_lt_of_cell? _ _ c1
                have hsr' : ∀ W, Ex0 wr W → Sl W 6 A l.length (l.flatMap Put.cells) := fun W hW => hsr.ex0 hW
                have HSR := Lib.hid hsr'
                have HX := Lib.hid hx
                clear hsr hsr' hs hx
                go_wp2
                go_region_held3 (fun w' => w'.cell? ⟨w.heap.size, 0, none⟩ = some (.int .u64 hid) ∧ w'.cell? ⟨w.heap.size, 1, none⟩ = some (.int .i64 hfr) ∧ w'.cell? ⟨w.heap.size, 2, none⟩ = some (.int .i64 hto) ∧ w'.cell? ⟨w.heap.size, 3, none⟩ = some (.int .i64 htil))
                  (first | go_keep | exact ⟨hk1.cellS c1 not_false, hk1.cellS c2 not_false, hk1.cellS c3 not_false, hk1.cellS c4 not_false⟩ | exact ⟨(hk1.alloc' _).cellS c1 not_false, (hk1.alloc' _).cellS c2 not_false, (hk1.alloc' _).cellS c3 not_false, (hk1.alloc' _).cellS c4 not_false⟩ | exact ⟨hk2.cellS c1 not_false, hk2.cellS c2 not_false, hk2.cellS c3 not_false, hk2.cellS c4 not_false⟩)
                  (first
                    | (refine step_append_sl rfl (.tmp 94) (.tmp 95) 43 rfl wr.heap.size 192 i0 _ 6 48 Tryz.underlying43 hi0 hz0 hz1 hz2 rfl (by decide) _ 0 [] (by rfl) (own_empty (by first | exact heap_alloc_new _ _ | exact heap_alloc2_old _ _ _ | exact heap_alloc2_new _ _ _) _ (by omega)) A l.length cap (l.flatMap Put.cells) (by rfl) (HSR.out _ (by repeat (first | exact Ex.refl _ _ | apply Ex.alloc' | apply Ex.drew'))) hcap (put_one l) (by unfold maxLen; omega) (by omega) (by first | (simp; done) | (simp; omega)) ?_; intro v1 w1 hown1 hgrow1 hat1; have hk1 : Ex0 wr w1 := ex_of_new (by repeat (first | exact Ex.refl _ _ | apply Ex.alloc' | apply Ex.drew')) hgrow1 (by intro b hb; simp [Value.ownBlock] at hb; omega); have HO1 := Lib.hid hown1; clear hown1)
                    | (refine step_append_sl rfl (.tmp 96) (.tmp 101) 43 rfl wr.heap.size 192 i0 _ 6 48 Tryz.underlying43 hi0 hz0 hz1 hz2 rfl (by decide) _ _ _ (by rfl) (own_ex HO1.out (by repeat (first | exact Ex.refl _ _ | apply Ex.alloc' | apply Ex.drew')) (fun _ _ => id)) _ 1 1 [.int .u64 hid, .int .i64 hfr, .int .i64 hto, .int .i64 htil, .int .u64 num, .int .i64 min] (by rfl) (sl_block (cs := #[.int .u64 hid, .int .i64 hfr, .int .i64 hto, .int .i64 htil, .int .u64 num, .int .i64 min]) (e := 192) (fr := (0, 0)) (by first | exact heap_alloc_new _ _ | exact (hgrow1.block _ (by first | (simp; done) | (simp; omega)) (by simp [Value.ownBlock])).trans (by first | exact heap_alloc2_new _ _ _ | exact heap_alloc2_old _ _ _)) rfl (by omega)) (fun h => by cases h) (one6 _ _ _ _ _ _) (by unfold maxLen; omega) (by omega) (by first | exact hk1.size | (have h9 := hk1.size; simp; omega)) ?_; intro v2 w2 hown2 hgrow2 hat2; have hk2 : Ex0 wr w2 := ex_of_new (by first | exact hk1 | exact hk1.alloc' _) hgrow2 (by intro b hb; exact (HO1.out.lt b hb).1); have HO2 := Lib.hid hown2; clear hown2))
                all_goals
                  go_wp2
                  obtain ⟨A', cap', rfl, hsl', hbl', hcp'⟩ := own_sl' HO2.out
                  go_ret2
                  have e0 := addE_0 HK1.out HK2.out HT.out HNO.out HNP.out h64
                  have hL : addL ⟨hid, hfr, hto, htil⟩ num min l = l ++ [⟨⟨hid, hfr, hto, htil⟩, num, min⟩] := by unfold addL; rw [if_pos e0]
                  refine ⟨A', cap', ?_, ?_, fun b hb => .inr ?_, hcp', (Ex.alloc w _).trans0 (HX.out.trans0 hk2)⟩
                  · rw [hL, e0, List.length_append, List.length_singleton, show 0 + l.length + 1 = l.length + 1 by omega]; rfl
                  · rw [hL, List.length_append, List.length_singleton, List.flatMap_append, show l.length + 1 = 0 + l.length + 1 by omega]; exact hsl'
                  · have h9 := HO2.out.lt b (by rw [hbl']; exact hb)
                    refine ⟨?_, h9.2⟩
                    have := HX.out.size; simp at this; omega
end Go.Proofs.YtoglddndicmelaaGreat.Ho
