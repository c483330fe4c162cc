/- Contracts of layer 38: the document's law; the minutes till which its rules keep a moment. -/
import Derived.Test.YtoglddndicmelaaGreatRfD
import Derived.Test.YtoglddndicmelaaGreatHoC
namespace Go.Proofs.YtoglddndicmelaaGreat.Tr
open Go.RowKit Go.Proofs.YtoglddndicmelaaGreatB Go.Proofs.YtoglddndicmelaaGreat
set_option maxRecDepth 100000

/-- where the document's law's things lie -/
structure RLawP where
  pt : Nat
  d : Mo.DocV
  R : Option Addr
  cR : Nat
  H : Option Addr
  cH : Nat
  pf : Nat
  A : Option Addr
  cA : Nat
def RLawP.cells (P : RLawP) (n m : Nat) : List Value := [.pointer (some ⟨P.pt, 0, none⟩), .slice P.R n P.cR, .slice P.H m P.cH, .pointer (some ⟨P.pf, 0, none⟩)]
def RLawP.val (P : RLawP) (n m : Nat) : Value := .agg #[.pointer (some ⟨P.pt, 0, none⟩), .slice P.R n P.cR, .slice P.H m P.cH, .pointer (some ⟨P.pf, 0, none⟩)]
structure RLawAt (w : World) (P : RLawP) (rs : List Rul) (tab : List Mo.It) (hs : List Ho.Put) (bs : List Br) : Prop where
  tab : Mo.DocAt w P.pt P.d tab
  rul : Sl w 3 P.R rs.length (rs.flatMap Rul.cells)
  hol : Sl w 6 P.H hs.length (hs.flatMap Ho.Put.cells)
  hlt : ∀ b, Bl P.H b → b < w.heap.size
  hcap : P.H = none → P.cH = 0
  fs : RForAt w P.pf P.A P.cA bs
theorem RLawAt.ex0 {w w' : World} {P : RLawP} {rs : List Rul} {tab : List Mo.It} {hs : List Ho.Put} {bs : List Br} (h : RLawAt w P rs tab hs bs) (hx : Ex0 w w') : RLawAt w' P rs tab hs bs :=
  ⟨h.tab.ex0 hx, h.rul.ex0 hx, h.hol.ex0 hx, fun b hb => Nat.lt_of_lt_of_le (h.hlt b hb) hx.size, h.hcap, h.fs.ex0 hx⟩
/-- the least of a time and of the times of those that say never -/
def spanJ (rs : List Rul) (s0 : Int) : Int := rs.foldl (fun e q => if q.kind = 4 ∧ q.till < e then q.till else e) s0
theorem spanJ_snoc (rs : List Rul) (q : Rul) (s0 : Int) : spanJ (rs ++ [q]) s0 = if q.kind = 4 ∧ q.till < spanJ rs s0 then q.till else spanJ rs s0 := by
  unfold spanJ; rw [List.foldl_append]; rfl
theorem spanJ_all (rs : List Rul) : ∀ s0 : Int, spanJ rs s0 = match neverO rs with | none => s0 | some n => min s0 n := by
  induction rs with
  | nil => intro s0; rfl
  | cons a l ih =>
    intro s0
    unfold spanJ
    rw [List.foldl_cons]
    have h := ih (if a.kind = 4 ∧ a.till < s0 then a.till else s0)
    unfold spanJ at h
    rw [h]
    rw [show neverO (a :: l) = (if a.kind = 4 then some (match neverO l with | none => a.till | some n => min a.till n) else neverO l) from rfl]
    by_cases ha : a.kind = 4
    · rw [if_pos ha]
      cases hq : neverO l with
      | none =>
        dsimp only
        by_cases hc : a.till < s0
        · rw [if_pos ⟨ha, hc⟩]; simp only [Int.min_def]; (repeat' split) <;> omega
        · rw [if_neg (fun h => hc h.2)]; simp only [Int.min_def]; (repeat' split) <;> omega
      | some n =>
        dsimp only
        by_cases hc : a.till < s0
        · rw [if_pos ⟨ha, hc⟩]; simp only [Int.min_def]; (repeat' split) <;> omega
        · rw [if_neg (fun h => hc h.2)]; simp only [Int.min_def]; (repeat' split) <;> omega
    · rw [if_neg ha, if_neg (fun h => ha h.1)]
theorem spanJ_I (rs : List Rul) (r : Rul) : spanJ rs r.till = spanI rs r := by rw [spanJ_all]; unfold spanI; rfl
theorem right_till {r : Rul} (h : rightB r = true) : 1 ≤ r.till ∧ r.till ≤ 1073741824 := ⟨(right_rng h).1, (right_rng h).2.1⟩
theorem right_len {r : Rul} (h : rightB r = true) : r.len ≤ 1073741824 := (right_rng h).2.2
theorem right_kind {r : Rul} (h : rightB r = true) : r.kind = 1 ∨ r.kind = 2 ∨ r.kind = 3 ∨ r.kind = 4 := by
  unfold rightB at h
  split at h
  · rename_i h1; omega
  · split at h
    · rename_i h1; omega
    · cases h
theorem spanJ_rng {rs : List Rul} (h : ∀ r ∈ rs, rightB r = true) {s0 : Int} (h0 : 1 ≤ s0 ∧ s0 ≤ 1073741824) : 1 ≤ spanJ rs s0 ∧ spanJ rs s0 ≤ 1073741824 := by
  induction rs generalizing s0 with
  | nil => exact h0
  | cons a l ih =>
    unfold spanJ
    rw [List.foldl_cons]
    refine ih (fun r hr => h r (List.mem_cons_of_mem _ hr)) ?_
    split
    · exact (right_till (h a List.mem_cons_self))
    · exact h0
/-- the ends of the first rules -/
def endsK (rs : List Rul) (j : Nat) (num m : Int) (l : List Mo.It) : List Int := ((rs.take j).filter fun r => !(r.kind == 4) && keepB r num l).map fun r => m + spanI rs r
theorem endsK_snoc (rs : List Rul) {j : Nat} (hj : j < rs.length) (num m : Int) (l : List Mo.It) : endsK rs (j + 1) num m l = endsK rs j num m l ++ (if !(rs[j].kind == 4) && keepB rs[j] num l then [m + spanI rs rs[j]] else []) := by
  unfold endsK
  rw [List.take_succ_eq_append_getElem hj, List.filter_append, List.map_append]
  cases h : (!(rs[j].kind == 4) && keepB rs[j] num l) <;> simp [h]
theorem endsK_len (rs : List Rul) (j : Nat) (num m : Int) (l : List Mo.It) : (endsK rs j num m l).length ≤ j := by
  unfold endsK
  rw [List.length_map]
  have := List.length_filter_le (fun r => !(r.kind == 4) && keepB r num l) (rs.take j)
  rw [List.length_take] at this; omega
set_option maxHeartbeats 8000000 in
theorem rends_any (P : RLawP) (rs : List Rul) (tab : List Mo.It) (hs : List Ho.Put) (bs : List Br) (k : Nat) (w : World) (hL : RLawAt w P rs tab hs bs) (hK : Mo.TabOk tab) (hR : rs.length ≤ 16 ∧ ∀ r ∈ rs, rightB r = true) (hk : k < tab.length) :
    Calls Tryz.prog 100 #[P.val rs.length hs.length, .int .i64 k] w fun e w' => ∃ v, e = .returned v ∧ w'.ownsRow w.heap.size 3 1 v (endsK rs rs.length tab[k].num tab[k].min tab).length ((endsK rs rs.length tab[k].num tab[k].min tab).map (Value.int .i64)) ∧ Ex0 w w' := by
  obtain ⟨i0, hi0, hz0, hz1, hz2⟩ := info_parts Mo.infoI
  have hm := hK.rng tab[k] (List.getElem_mem hk)
  have hlen := hK.len
  have HL := Lib.hid hL
  have HKK' := Lib.hid hK
  have HRR := Lib.hid hR.2
  have hrl := hR.1
  obtain ⟨wa, hwa⟩ : ∃ wa, w.alloc (.cells #[.pointer (some ⟨P.pt, 0, none⟩), .slice P.R rs.length P.cR, .slice P.H hs.length P.cH, .pointer (some ⟨P.pf, 0, none⟩)] 46) = wa := ⟨_, rfl⟩
  have HB : Hid (wa.heap[w.heap.size]? = some (.cells #[.pointer (some ⟨P.pt, 0, none⟩), .slice P.R rs.length P.cR, .slice P.H hs.length P.cH, .pointer (some ⟨P.pf, 0, none⟩)] 46 (0, 0))) := by show _ = _; rw [← hwa]; exact heap_alloc_new _ _
  have HXA : Hid (Ex0 w wa) := by show Ex0 _ _; rw [← hwa]; exact Ex.alloc _ _
  have HWA := Lib.hid hwa
  have HC0 : Hid (∀ w', Ex0 wa w' → w'.cell? ⟨w.heap.size, 0, none⟩ = some (.pointer (some ⟨P.pt, 0, none⟩)) ∧ w'.cell? ⟨w.heap.size, 1, none⟩ = some (.slice P.R rs.length P.cR) ∧ w.heap.size < w'.heap.size) := fun w' hx => by
    have hb := (hx.block _ (Array.getElem?_eq_some_iff.1 HB.out).1 not_false).trans HB.out
    exact ⟨by rw [cell_of_row _ _ _ _ _ _ hb]; rfl, by rw [cell_of_row _ _ _ _ _ _ hb]; rfl, (Array.getElem?_eq_some_iff.1 hb).1⟩
  have hLa := hL.ex0 HXA.out
  obtain ⟨n0, n1, _⟩ := hLa.tab.cells
  have hpt := hLa.tab.lt
  obtain ⟨gN, oN, hN, hgN, hcN⟩ := hLa.tab.sN.one hk
  obtain ⟨gM, oM, hM, hgM, hcM⟩ := hLa.tab.sM.one hk
  rw [hN] at n0
  rw [hM] at n1
  obtain ⟨num, hnum⟩ : ∃ num, tab[k].num = num := ⟨_, rfl⟩
  obtain ⟨m, hmm⟩ : ∃ m, tab[k].min = m := ⟨_, rfl⟩
  rw [hnum] at hcN ⊢
  rw [hmm] at hcM hm ⊢
  have hk0 : (0 : Int) ≤ (k : Int) := by omega
  have hk1 : (k : Int) < (tab.length : Int) := by omega
  clear hwa hL hLa hK hR hnum hmm hN hM
  obtain ⟨c0, c1, hlb⟩ := HC0.out wa (Ex.refl _ _)
  unfold RLawP.val
  go_enter Tryz.func100, Tryz.ntmps100
  iterate 5 go_step
  rw [HWA.out]
  go_wp2_with fail
  go_quiet (fail)
  go_wp2_with fail
  clear n0 n1 hpt hcN hcM hgN hgM c0 c1 hlb hk0 hk1
  go_loopw [7, 8] (fun v i wr => ∃ j : Nat, j ≤ rs.length ∧ i = .int .i64 j ∧ wr.ownsRow wa.heap.size 3 1 v (endsK rs j num m tab).length ((endsK rs j num m tab).map (Value.int .i64)) ∧ Ex0 wa wr) (fun _ i _ => rs.length - (intOf i).toNat)
  case atStart => exact ⟨0, Nat.zero_le _, rfl, World.ownsRow_nil _ _ _ _, (Ex.refl _ _).drewN' _⟩
  case round =>
    obtain ⟨j, hj, rfl, ho, hx⟩ := hrel
    have HO := Lib.hid ho
    have HX := Lib.hid hx
    obtain ⟨c0, c1, hlb⟩ := HC0.out wr hx
    by_cases hjl : j < rs.length
    · have hLr := HL.out.ex0 (HXA.out.trans0 hx)
      obtain ⟨g, off, _, hRA, hrow⟩ := hLr.rul.row Rul.length (by omega) hjl
      have hj0 : (0 : Int) ≤ (j : Int) := by omega
      have hj1 : (j : Int) < (rs.length : Int) := by omega
      have hright := HRR.out rs[j] (List.getElem_mem hjl)
      have HSN := Lib.hid (endsK_snoc rs hjl num m tab)
      have HEL := Lib.hid (endsK_len rs j num m tab)
      obtain ⟨r, hr⟩ : ∃ r, rs[j] = r := ⟨_, rfl⟩
      rw [hr] at hrow hright HSN
      have hlg : g < wr.heap.size := World.block_lt_of_cell? _ _ (hrow 0 _ rfl)
      have HRA := Lib.hid hRA
      rw [hRA] at c1
      clear hRA
      have HRT := Lib.hid (right_till hright)
      have HRK := Lib.hid (right_kind hright)
      have HRL := Lib.hid (right_len hright)
      have HSPI := Lib.hid (spanJ_I rs r)
      obtain ⟨kd, ln, tl⟩ := r
      unfold Rul.cells at hrow
      have HRW := Lib.hid hrow
      clear ho hx hLr hr hright hrow
      generalize endsK rs j num m tab = EL at HO HSN HEL
      rename World => wo
      have hq : ∃ wq, wo.alloc (.cells #[.int .i64 kd, .int .i64 ln, .int .i64 tl] 112) = wq ∧ wq.heap[wo.heap.size]? = some (.cells #[.int .i64 kd, .int .i64 ln, .int .i64 tl] 112 (0, 0)) ∧ Ex0 wo wq := ⟨_, rfl, heap_alloc_new _ _, Ex.alloc _ _⟩
      obtain ⟨wq, hwq, hbq, hxq⟩ := hq
      have HBQ := Lib.hid hbq
      have HXQ := Lib.hid hxq
      have HWQ := Lib.hid hwq
      have HCQ : Hid (∀ w', Ex0 wq w' → w'.cell? ⟨wo.heap.size, 0, none⟩ = some (.int .i64 kd) ∧ w'.cell? ⟨wo.heap.size, 1, none⟩ = some (.int .i64 ln) ∧ w'.cell? ⟨wo.heap.size, 2, none⟩ = some (.int .i64 tl) ∧ wo.heap.size < w'.heap.size) := fun w' hx => by
        have hb := (hx.block _ (Array.getElem?_eq_some_iff.1 HBQ.out).1 not_false).trans HBQ.out
        exact ⟨by rw [cell_of_row _ _ _ _ _ _ hb]; rfl, by rw [cell_of_row _ _ _ _ _ _ hb]; rfl, by rw [cell_of_row _ _ _ _ _ _ hb]; rfl, (Array.getElem?_eq_some_iff.1 hb).1⟩
      clear hwq hbq hxq
      have hwr : IntKind.i64.wrap (m + tl) = m + tl := by have := HRT.out; dsimp only at this; rw [IntKind.wrap_i64]; omega
      rcases HRK.out with hkd | hkd | hkd | hkd
      · subst hkd
        have HKP : Hid (endsK rs (j + 1) num m tab = EL ++ [m + spanJ rs tl]) := by show _ = _; rw [HSN.out, if_pos (by rfl)]; rw [HSPI.out]
        iterate 62 (first | (refine wpList_load_at rfl 112 (.tmp 38) rfl _ rfl _ _ HRW.out Tryz.underlying112 rfl (by kernel_rfl) ?_) | go_guarded | go_step | go_simp)
        rw [HWQ.out]
        clear c0 c1 hlb hlg
        obtain ⟨c0, c1, hlb⟩ := HC0.out wq (HX.out.trans0 HXQ.out)
        obtain ⟨q0, q1, q2, ql⟩ := HCQ.out wq (Ex.refl _ _)
        go_wp2_with fail
        obtain ⟨wc, hwc⟩ : ∃ wc, wq = wc := ⟨_, rfl⟩
        have HXC : Hid (Ex0 wq wc) := by show Ex0 _ _; rw [hwc]; exact Ex.refl _ _
        rw [hwc] at c0 c1 hlb q0 q1 q2 ql ⊢
        clear hwc
        rw [HRA.out] at c1
        go_loopw [10, 11] (fun e i wr => ∃ t : Nat, t ≤ rs.length ∧ i = .int .i64 t ∧ e = .int .i64 (m + spanJ (rs.take t) tl) ∧ wr = wc) (fun _ i _ => rs.length - (intOf i).toNat)
        case atStart => exact ⟨0, Nat.zero_le _, rfl, rfl, rfl⟩
        case round =>
          obtain ⟨t, ht, rfl, rfl, rfl⟩ := hrel
          have ht0 : (0 : Int) ≤ (t : Int) := by omega
          by_cases htl : t < rs.length
          · have hLw := HL.out.ex0 (HXA.out.trans0 (HX.out.trans0 (HXQ.out.trans0 HXC.out)))
            obtain ⟨g2, off2, _, hRA2, hrow2⟩ := hLw.rul.row Rul.length (by omega) htl
            rw [HRA.out] at hRA2
            cases hRA2
            have ht1 : (t : Int) < (rs.length : Int) := by omega
            have hk0 : wr.cell? ⟨g, off + t * 3, none⟩ = some (.int .i64 rs[t].kind) := hrow2 0 _ rfl
            have hk2 : wr.cell? ⟨g, off + t * 3 + 2, none⟩ = some (.int .i64 rs[t].till) := by
              have := hrow2 2 _ rfl
              rwa [add_row] at this
            have hlg2 : g < wr.heap.size := World.block_lt_of_cell? _ _ hk0
            have hq := HRR.out rs[t] (List.getElem_mem htl)
            have hqt := right_till hq
            have HSJ : Hid (spanJ (rs.take (t + 1)) tl = if rs[t].kind = 4 ∧ rs[t].till < spanJ (rs.take t) tl then rs[t].till else spanJ (rs.take t) tl) := by
              show _ = _; rw [List.take_succ_eq_append_getElem htl]; exact spanJ_snoc _ _ _
            have hsr := spanJ_rng (rs := rs.take t) (fun r hr => HRR.out r (List.mem_of_mem_take hr)) HRT.out
            generalize rs[t].kind = qk at hk0 HSJ
            generalize rs[t].till = qt at hk2 hqt HSJ
            generalize spanJ (rs.take t) tl = cur at hsr HSJ ⊢
            have hw1 : IntKind.i64.wrap (m + qt) = m + qt := by rw [IntKind.wrap_i64]; omega
            clear hLw hrow2 hq
            by_cases h4 : qk = 4
            · subst h4
              by_cases hlt : m + qt < m + cur
              · have HSJ' : Hid (spanJ (rs.take (t + 1)) tl = qt) := by show _ = _; rw [HSJ.out, if_pos ⟨rfl, by omega⟩]
                go_wp2_with fail
                go_roundw
                case rel => exact ⟨t + 1, by omega, by go_num, by rw [HSJ'.out], trivial⟩
                case measure => simp [intOf]; omega
              · have HSJ' : Hid (spanJ (rs.take (t + 1)) tl = cur) := by show _ = _; rw [HSJ.out, if_neg (fun h => hlt (by omega))]
                go_wp2_with fail
                go_roundw
                case rel => exact ⟨t + 1, by omega, by go_num, by rw [HSJ'.out], trivial⟩
                case measure => simp [intOf]; omega
            · have h4' : (qk == 4) = false := by simpa using h4
              have HSJ' : Hid (spanJ (rs.take (t + 1)) tl = cur) := by show _ = _; rw [HSJ.out, if_neg (fun h => h4 h.1)]
              go_wp2_with fail
              go_roundw
              case rel => exact ⟨t + 1, by omega, by go_num, by rw [HSJ'.out], trivial⟩
              case measure => simp [intOf]; omega
          · have htn : t = rs.length := by omega
            subst htn
            rw [List.take_length]
            generalize spanJ rs tl = cur at HKP ⊢
            have HOC := Lib.hid (own_ex HO.out (HXQ.out.trans0 HXC.out) (fun _ _ h => h))
            have hbase : wa.heap.size ≤ wr.heap.size := Nat.le_trans HX.out.size (Nat.le_trans HXQ.out.size HXC.out.size)
            have hell : EL.length ≤ 16 := by have := HEL.out; omega
            go_wp2_with (go_loud (refine wpList_append_own_at _ rfl (.tmp 109) (.tmp 111) 76 rfl wa.heap.size 3 i0 _ 1 8 Tryz.underlying76 hi0 hz0 hz1 hz2 rfl (by decide) u7 _ _ rfl (HOC.out.alloc _) ⟨wr.heap.size, 0, none⟩ 1 1 [.int .i64 (m + cur)] rfl rfl (World.news_of_block (cs := #[.int .i64 (m + cur)]) (t := 3) (fr := (0, 0)) (heap_alloc_new wr _)) (by simp [Value.oneCell']) (by unfold maxLen; omega) (by omega) (by simp; omega) ?_); intro v2 w4 hown4 hgrow _ _; have HO4 := Lib.hid hown4; have HX4 : Hid (Ex0 wa w4) := ex_of_new (((HX.out.trans0 HXQ.out).trans0 HXC.out).alloc' _) hgrow (fun b hb => (HOC.out.lt b hb).1); clear hown4 hgrow)
            have HREL : Hid (w4.ownsRow wa.heap.size 3 1 v2 (endsK rs (j + 1) num m tab).length ((endsK rs (j + 1) num m tab).map (Value.int .i64))) := by
              show w4.ownsRow _ _ _ _ _ _
              rw [HKP.out, List.length_append, List.map_append]
              exact HO4.out
            first
                | exact ⟨⟨j + 1, by omega, by go_num, HREL.out, HX4.out⟩, by simp [intOf]; omega⟩
                | (go_roundw; (case rel => (first | exact ⟨j + 1, by omega, by go_num, HREL.out, HX4.out⟩ | ((repeat apply Exists.intro); refine ⟨?_, rfl⟩; exact ⟨j + 1, by omega, by go_num, HREL.out, HX4.out⟩))); (case measure => (simp [intOf]; omega)))
      · subst hkd
        iterate 62 (first | (refine wpList_load_at rfl 112 (.tmp 38) rfl _ rfl _ _ HRW.out Tryz.underlying112 rfl (by kernel_rfl) ?_) | go_guarded | go_step | go_simp)
        rw [HWQ.out]
        clear c0 c1 hlb hlg
        obtain ⟨c0, c1, hlb⟩ := HC0.out wq (HX.out.trans0 HXQ.out)
        obtain ⟨q0, q1, q2, ql⟩ := HCQ.out wq (Ex.refl _ _)
        go_wp2_with fail
        refine (Mo.rcloses_any P.pt P.d tab num ln wq (HL.out.ex0 (HXA.out.trans0 (HX.out.trans0 HXQ.out))).tab HKK'.out (by have := HRL.out; show ln ≤ _; have h2 : ln ≤ 1073741824 := this; omega)).mono ?_
        rintro e wc ⟨rfl, hxc⟩
        have HXC := Lib.hid hxc
        clear c0 c1 hlb q0 q1 q2 ql
        obtain ⟨c0, c1, hlb⟩ := HC0.out wc (HX.out.trans0 (HXQ.out.trans0 hxc))
        obtain ⟨q0, q1, q2, ql⟩ := HCQ.out wc hxc
        clear hxc
        cases hkp : Mo.closesB num ln tab with
        | false =>
          have HKP : Hid (endsK rs (j + 1) num m tab = EL) := by
            show _ = _
            rw [HSN.out, if_neg (by show ¬ (_ && Mo.closesB num ln tab) = true; rw [hkp]; simp), List.append_nil]
          clear hkp
          go_wp2_with fail
          first
              | exact ⟨⟨j + 1, by omega, by go_num, by rw [HKP.out]; exact own_ex HO.out (HXQ.out.trans0 HXC.out) (fun _ _ h => h), HX.out.trans0 (HXQ.out.trans0 HXC.out)⟩, by simp [intOf]; omega⟩
              | (go_roundw; (case rel => (first | exact ⟨j + 1, by omega, by go_num, by rw [HKP.out]; exact own_ex HO.out (HXQ.out.trans0 HXC.out) (fun _ _ h => h), HX.out.trans0 (HXQ.out.trans0 HXC.out)⟩ | ((repeat apply Exists.intro); refine ⟨?_, rfl⟩; exact ⟨j + 1, by omega, by go_num, by rw [HKP.out]; exact own_ex HO.out (HXQ.out.trans0 HXC.out) (fun _ _ h => h), HX.out.trans0 (HXQ.out.trans0 HXC.out)⟩))); (case measure => (simp [intOf]; omega)))
        | true =>
          have HKP : Hid (endsK rs (j + 1) num m tab = EL ++ [m + spanJ rs tl]) := by
            show _ = _
            rw [HSN.out, if_pos (by show (_ && Mo.closesB num ln tab) = true; rw [hkp]; rfl)]; rw [HSPI.out]
          clear hkp
          go_wp2_with fail
          rw [HRA.out] at c1
          go_loopw [10, 11] (fun e i wr => ∃ t : Nat, t ≤ rs.length ∧ i = .int .i64 t ∧ e = .int .i64 (m + spanJ (rs.take t) tl) ∧ wr = wc) (fun _ i _ => rs.length - (intOf i).toNat)
          case atStart => exact ⟨0, Nat.zero_le _, rfl, rfl, rfl⟩
          case round =>
            obtain ⟨t, ht, rfl, rfl, rfl⟩ := hrel
            have ht0 : (0 : Int) ≤ (t : Int) := by omega
            by_cases htl : t < rs.length
            · have hLw := HL.out.ex0 (HXA.out.trans0 (HX.out.trans0 (HXQ.out.trans0 HXC.out)))
              obtain ⟨g2, off2, _, hRA2, hrow2⟩ := hLw.rul.row Rul.length (by omega) htl
              rw [HRA.out] at hRA2
              cases hRA2
              have ht1 : (t : Int) < (rs.length : Int) := by omega
              have hk0 : wr.cell? ⟨g, off + t * 3, none⟩ = some (.int .i64 rs[t].kind) := hrow2 0 _ rfl
              have hk2 : wr.cell? ⟨g, off + t * 3 + 2, none⟩ = some (.int .i64 rs[t].till) := by
                have := hrow2 2 _ rfl
                rwa [add_row] at this
              have hlg2 : g < wr.heap.size := World.block_lt_of_cell? _ _ hk0
              have hq := HRR.out rs[t] (List.getElem_mem htl)
              have hqt := right_till hq
              have HSJ : Hid (spanJ (rs.take (t + 1)) tl = if rs[t].kind = 4 ∧ rs[t].till < spanJ (rs.take t) tl then rs[t].till else spanJ (rs.take t) tl) := by
                show _ = _; rw [List.take_succ_eq_append_getElem htl]; exact spanJ_snoc _ _ _
              have hsr := spanJ_rng (rs := rs.take t) (fun r hr => HRR.out r (List.mem_of_mem_take hr)) HRT.out
              generalize rs[t].kind = qk at hk0 HSJ
              generalize rs[t].till = qt at hk2 hqt HSJ
              generalize spanJ (rs.take t) tl = cur at hsr HSJ ⊢
              have hw1 : IntKind.i64.wrap (m + qt) = m + qt := by rw [IntKind.wrap_i64]; omega
              clear hLw hrow2 hq
              by_cases h4 : qk = 4
              · subst h4
                by_cases hlt : m + qt < m + cur
                · have HSJ' : Hid (spanJ (rs.take (t + 1)) tl = qt) := by show _ = _; rw [HSJ.out, if_pos ⟨rfl, by omega⟩]
                  go_wp2_with fail
                  go_roundw
                  case rel => exact ⟨t + 1, by omega, by go_num, by rw [HSJ'.out], trivial⟩
                  case measure => simp [intOf]; omega
                · have HSJ' : Hid (spanJ (rs.take (t + 1)) tl = cur) := by show _ = _; rw [HSJ.out, if_neg (fun h => hlt (by omega))]
                  go_wp2_with fail
                  go_roundw
                  case rel => exact ⟨t + 1, by omega, by go_num, by rw [HSJ'.out], trivial⟩
                  case measure => simp [intOf]; omega
              · have h4' : (qk == 4) = false := by simpa using h4
                have HSJ' : Hid (spanJ (rs.take (t + 1)) tl = cur) := by show _ = _; rw [HSJ.out, if_neg (fun h => h4 h.1)]
                go_wp2_with fail
                go_roundw
                case rel => exact ⟨t + 1, by omega, by go_num, by rw [HSJ'.out], trivial⟩
                case measure => simp [intOf]; omega
            · have htn : t = rs.length := by omega
              subst htn
              rw [List.take_length]
              generalize spanJ rs tl = cur at HKP ⊢
              have HOC := Lib.hid (own_ex HO.out (HXQ.out.trans0 HXC.out) (fun _ _ h => h))
              have hbase : wa.heap.size ≤ wr.heap.size := Nat.le_trans HX.out.size (Nat.le_trans HXQ.out.size HXC.out.size)
              have hell : EL.length ≤ 16 := by have := HEL.out; omega
              go_wp2_with (go_loud (refine wpList_append_own_at _ rfl (.tmp 109) (.tmp 111) 76 rfl wa.heap.size 3 i0 _ 1 8 Tryz.underlying76 hi0 hz0 hz1 hz2 rfl (by decide) u7 _ _ rfl (HOC.out.alloc _) ⟨wr.heap.size, 0, none⟩ 1 1 [.int .i64 (m + cur)] rfl rfl (World.news_of_block (cs := #[.int .i64 (m + cur)]) (t := 3) (fr := (0, 0)) (heap_alloc_new wr _)) (by simp [Value.oneCell']) (by unfold maxLen; omega) (by omega) (by simp; omega) ?_); intro v2 w4 hown4 hgrow _ _; have HO4 := Lib.hid hown4; have HX4 : Hid (Ex0 wa w4) := ex_of_new (((HX.out.trans0 HXQ.out).trans0 HXC.out).alloc' _) hgrow (fun b hb => (HOC.out.lt b hb).1); clear hown4 hgrow)
              have HREL : Hid (w4.ownsRow wa.heap.size 3 1 v2 (endsK rs (j + 1) num m tab).length ((endsK rs (j + 1) num m tab).map (Value.int .i64))) := by
                show w4.ownsRow _ _ _ _ _ _
                rw [HKP.out, List.length_append, List.map_append]
                exact HO4.out
              first
                  | exact ⟨⟨j + 1, by omega, by go_num, HREL.out, HX4.out⟩, by simp [intOf]; omega⟩
                  | (go_roundw; (case rel => (first | exact ⟨j + 1, by omega, by go_num, HREL.out, HX4.out⟩ | ((repeat apply Exists.intro); refine ⟨?_, rfl⟩; exact ⟨j + 1, by omega, by go_num, HREL.out, HX4.out⟩))); (case measure => (simp [intOf]; omega)))
      · subst hkd
        iterate 62 (first | (refine wpList_load_at rfl 112 (.tmp 38) rfl _ rfl _ _ HRW.out Tryz.underlying112 rfl (by kernel_rfl) ?_) | go_guarded | go_step | go_simp)
        rw [HWQ.out]
        clear c0 c1 hlb hlg
        obtain ⟨c0, c1, hlb⟩ := HC0.out wq (HX.out.trans0 HXQ.out)
        obtain ⟨q0, q1, q2, ql⟩ := HCQ.out wq (Ex.refl _ _)
        go_wp2_with fail
        refine (Mo.rquiet_any P.pt P.d tab num ln wq (HL.out.ex0 (HXA.out.trans0 (HX.out.trans0 HXQ.out))).tab HKK'.out).mono ?_
        rintro e wc ⟨rfl, hxc⟩
        have HXC := Lib.hid hxc
        clear c0 c1 hlb q0 q1 q2 ql
        obtain ⟨c0, c1, hlb⟩ := HC0.out wc (HX.out.trans0 (HXQ.out.trans0 hxc))
        obtain ⟨q0, q1, q2, ql⟩ := HCQ.out wc hxc
        clear hxc
        cases hkp : Mo.quietB num ln tab with
        | false =>
          have HKP : Hid (endsK rs (j + 1) num m tab = EL) := by
            show _ = _
            rw [HSN.out, if_neg (by show ¬ (_ && Mo.quietB num ln tab) = true; rw [hkp]; simp), List.append_nil]
          clear hkp
          go_wp2_with fail
          first
              | exact ⟨⟨j + 1, by omega, by go_num, by rw [HKP.out]; exact own_ex HO.out (HXQ.out.trans0 HXC.out) (fun _ _ h => h), HX.out.trans0 (HXQ.out.trans0 HXC.out)⟩, by simp [intOf]; omega⟩
              | (go_roundw; (case rel => (first | exact ⟨j + 1, by omega, by go_num, by rw [HKP.out]; exact own_ex HO.out (HXQ.out.trans0 HXC.out) (fun _ _ h => h), HX.out.trans0 (HXQ.out.trans0 HXC.out)⟩ | ((repeat apply Exists.intro); refine ⟨?_, rfl⟩; exact ⟨j + 1, by omega, by go_num, by rw [HKP.out]; exact own_ex HO.out (HXQ.out.trans0 HXC.out) (fun _ _ h => h), HX.out.trans0 (HXQ.out.trans0 HXC.out)⟩))); (case measure => (simp [intOf]; omega)))
        | true =>
          have HKP : Hid (endsK rs (j + 1) num m tab = EL ++ [m + spanJ rs tl]) := by
            show _ = _
            rw [HSN.out, if_pos (by show (_ && Mo.quietB num ln tab) = true; rw [hkp]; rfl)]; rw [HSPI.out]
          clear hkp
          go_wp2_with fail
          rw [HRA.out] at c1
          go_loopw [10, 11] (fun e i wr => ∃ t : Nat, t ≤ rs.length ∧ i = .int .i64 t ∧ e = .int .i64 (m + spanJ (rs.take t) tl) ∧ wr = wc) (fun _ i _ => rs.length - (intOf i).toNat)
          case atStart => exact ⟨0, Nat.zero_le _, rfl, rfl, rfl⟩
          case round =>
            obtain ⟨t, ht, rfl, rfl, rfl⟩ := hrel
            have ht0 : (0 : Int) ≤ (t : Int) := by omega
            by_cases htl : t < rs.length
            · have hLw := HL.out.ex0 (HXA.out.trans0 (HX.out.trans0 (HXQ.out.trans0 HXC.out)))
              obtain ⟨g2, off2, _, hRA2, hrow2⟩ := hLw.rul.row Rul.length (by omega) htl
              rw [HRA.out] at hRA2
              cases hRA2
              have ht1 : (t : Int) < (rs.length : Int) := by omega
              have hk0 : wr.cell? ⟨g, off + t * 3, none⟩ = some (.int .i64 rs[t].kind) := hrow2 0 _ rfl
              have hk2 : wr.cell? ⟨g, off + t * 3 + 2, none⟩ = some (.int .i64 rs[t].till) := by
                have := hrow2 2 _ rfl
                rwa [add_row] at this
              have hlg2 : g < wr.heap.size := World.block_lt_of_cell? _ _ hk0
              have hq := HRR.out rs[t] (List.getElem_mem htl)
              have hqt := right_till hq
              have HSJ : Hid (spanJ (rs.take (t + 1)) tl = if rs[t].kind = 4 ∧ rs[t].till < spanJ (rs.take t) tl then rs[t].till else spanJ (rs.take t) tl) := by
                show _ = _; rw [List.take_succ_eq_append_getElem htl]; exact spanJ_snoc _ _ _
              have hsr := spanJ_rng (rs := rs.take t) (fun r hr => HRR.out r (List.mem_of_mem_take hr)) HRT.out
              generalize rs[t].kind = qk at hk0 HSJ
              generalize rs[t].till = qt at hk2 hqt HSJ
              generalize spanJ (rs.take t) tl = cur at hsr HSJ ⊢
              have hw1 : IntKind.i64.wrap (m + qt) = m + qt := by rw [IntKind.wrap_i64]; omega
              clear hLw hrow2 hq
              by_cases h4 : qk = 4
              · subst h4
                by_cases hlt : m + qt < m + cur
                · have HSJ' : Hid (spanJ (rs.take (t + 1)) tl = qt) := by show _ = _; rw [HSJ.out, if_pos ⟨rfl, by omega⟩]
                  go_wp2_with fail
                  go_roundw
                  case rel => exact ⟨t + 1, by omega, by go_num, by rw [HSJ'.out], trivial⟩
                  case measure => simp [intOf]; omega
                · have HSJ' : Hid (spanJ (rs.take (t + 1)) tl = cur) := by show _ = _; rw [HSJ.out, if_neg (fun h => hlt (by omega))]
                  go_wp2_with fail
                  go_roundw
                  case rel => exact ⟨t + 1, by omega, by go_num, by rw [HSJ'.out], trivial⟩
                  case measure => simp [intOf]; omega
              · have h4' : (qk == 4) = false := by simpa using h4
                have HSJ' : Hid (spanJ (rs.take (t + 1)) tl = cur) := by show _ = _; rw [HSJ.out, if_neg (fun h => h4 h.1)]
                go_wp2_with fail
                go_roundw
                case rel => exact ⟨t + 1, by omega, by go_num, by rw [HSJ'.out], trivial⟩
                case measure => simp [intOf]; omega
            · have htn : t = rs.length := by omega
              subst htn
              rw [List.take_length]
              generalize spanJ rs tl = cur at HKP ⊢
              have HOC := Lib.hid (own_ex HO.out (HXQ.out.trans0 HXC.out) (fun _ _ h => h))
              have hbase : wa.heap.size ≤ wr.heap.size := Nat.le_trans HX.out.size (Nat.le_trans HXQ.out.size HXC.out.size)
              have hell : EL.length ≤ 16 := by have := HEL.out; omega
              go_wp2_with (go_loud (refine wpList_append_own_at _ rfl (.tmp 109) (.tmp 111) 76 rfl wa.heap.size 3 i0 _ 1 8 Tryz.underlying76 hi0 hz0 hz1 hz2 rfl (by decide) u7 _ _ rfl (HOC.out.alloc _) ⟨wr.heap.size, 0, none⟩ 1 1 [.int .i64 (m + cur)] rfl rfl (World.news_of_block (cs := #[.int .i64 (m + cur)]) (t := 3) (fr := (0, 0)) (heap_alloc_new wr _)) (by simp [Value.oneCell']) (by unfold maxLen; omega) (by omega) (by simp; omega) ?_); intro v2 w4 hown4 hgrow _ _; have HO4 := Lib.hid hown4; have HX4 : Hid (Ex0 wa w4) := ex_of_new (((HX.out.trans0 HXQ.out).trans0 HXC.out).alloc' _) hgrow (fun b hb => (HOC.out.lt b hb).1); clear hown4 hgrow)
              have HREL : Hid (w4.ownsRow wa.heap.size 3 1 v2 (endsK rs (j + 1) num m tab).length ((endsK rs (j + 1) num m tab).map (Value.int .i64))) := by
                show w4.ownsRow _ _ _ _ _ _
                rw [HKP.out, List.length_append, List.map_append]
                exact HO4.out
              first
                  | exact ⟨⟨j + 1, by omega, by go_num, HREL.out, HX4.out⟩, by simp [intOf]; omega⟩
                  | (go_roundw; (case rel => (first | exact ⟨j + 1, by omega, by go_num, HREL.out, HX4.out⟩ | ((repeat apply Exists.intro); refine ⟨?_, rfl⟩; exact ⟨j + 1, by omega, by go_num, HREL.out, HX4.out⟩))); (case measure => (simp [intOf]; omega)))
      · subst hkd
        have HKP : Hid (endsK rs (j + 1) num m tab = EL) := by show _ = _; rw [HSN.out, if_neg (by simp), List.append_nil]
        iterate 62 (first | (refine wpList_load_at rfl 112 (.tmp 38) rfl _ rfl _ _ HRW.out Tryz.underlying112 rfl (by kernel_rfl) ?_) | go_guarded | go_step | go_simp)
        rw [HWQ.out]
        clear c0 c1 hlb hlg
        obtain ⟨c0, c1, hlb⟩ := HC0.out wq (HX.out.trans0 HXQ.out)
        obtain ⟨q0, q1, q2, ql⟩ := HCQ.out wq (Ex.refl _ _)
        go_wp2_with fail
        go_wp2_with fail
        first
            | exact ⟨⟨j + 1, by omega, by go_num, by rw [HKP.out]; exact own_ex HO.out (HXQ.out) (fun _ _ h => h), HX.out.trans0 (HXQ.out)⟩, by simp [intOf]; omega⟩
            | (go_roundw; (case rel => (first | exact ⟨j + 1, by omega, by go_num, by rw [HKP.out]; exact own_ex HO.out (HXQ.out) (fun _ _ h => h), HX.out.trans0 (HXQ.out)⟩ | ((repeat apply Exists.intro); refine ⟨?_, rfl⟩; exact ⟨j + 1, by omega, by go_num, by rw [HKP.out]; exact own_ex HO.out (HXQ.out) (fun _ _ h => h), HX.out.trans0 (HXQ.out)⟩))); (case measure => (simp [intOf]; omega)))
    · have hjn : j = rs.length := by omega
      subst hjn
      go_wp2
      go_ret
      exact ⟨_, rfl, own_base HO.out (fun b hb => Nat.le_trans HXA.out.size (HO.out.lt b hb).1), HXA.out.trans0 HX.out⟩
end Go.Proofs.YtoglddndicmelaaGreat.Tr
