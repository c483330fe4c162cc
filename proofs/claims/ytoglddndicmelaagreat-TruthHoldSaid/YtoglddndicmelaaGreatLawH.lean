/- Layer 54: what is held. -/
import Derived.Test.YtoglddndicmelaaGreatLawD
import Derived.Test.YtoglddndicmelaaGreatLwP
import Derived.Test.YtoglddndicmelaaGreatLwU
import Derived.Test.YtoglddndicmelaaGreatB14
namespace Go.Proofs.YtoglddndicmelaaGreat.Tr
open Go.RowKit Go.Proofs.YtoglddndicmelaaGreatB Go.Proofs.YtoglddndicmelaaGreat
set_option maxRecDepth 100000

set_option maxHeartbeats 8000000 in
theorem hold_walk (A : Option Addr) (n cap : Nat) (rs : List Rul) (B : Option Addr) (m capb : Nat) (xs : List ActT) (ff gg mm : Int) (W : World) (hs : Sl W 3 A n (rs.flatMap Rul.cells)) (hA : ∀ b, Bl A b → b < W.heap.size) (ha : Sl W 8 B m (xs.flatMap ActT.cells)) (hx : ∀ x ∈ xs, x.Ok) (hff : ∃ q : Nat, ff = q ∧ q < 256) (hgg : ∃ q : Nat, gg = q ∧ q < 256) (hmm : ∃ q : Nat, mm = q ∧ q < 256) :
    Calls Tryz.prog 9 #[.slice A n cap, .slice B m capb, .int .u8 ff, .int .u8 gg, .int .u8 mm] W fun e W' => e = .returned (.bool true) ∧ Below W.heap.size W W' := by
  have hln : rs.length = n := by have := hs.len; rw [flat_len Rul.cells 3 Rul.length] at this; omega
  have HP : Hid (∀ w, Ex0 W w → Calls Tryz.prog 18 #[.slice A n cap, .slice B m capb] w (PlayP n rs xs w)) := fun w hw => played_any A n cap rs B m capb xs w (hs.ex0 hw) (fun b hb => Nat.lt_of_lt_of_le (hA b hb) hw.size) (ha.ex0 hw) hx
  have HOK := Lib.hid hx
  obtain ⟨q0, rfl, g0⟩ := hff
  obtain ⟨q1, rfl, g1⟩ := hgg
  obtain ⟨q2, rfl, g2⟩ := hmm
  have f0 : IntKind.i64.wrap (q0 : Int) = q0 := by rw [IntKind.wrap_i64]; omega
  have f1 : IntKind.i64.wrap (q1 : Int) = q1 := by rw [IntKind.wrap_i64]; omega
  have f2 : IntKind.i64.wrap (q2 : Int) = q2 := by rw [IntKind.wrap_i64]; omega
  clear hs hA ha hx
  go_enter Tryz.func9, Tryz.ntmps9
  go_wp2_with fail
  refine (awake_any W).mono ?_
  rintro e w1 ⟨rfl, hx1⟩
  have HX1 := Lib.hid hx1
  clear hx1
  go_wp2_with fail
  refine (HP.out w1 HX1.out).mono ?_
  rintro e w2 ⟨hno, hyes⟩
  cases hlk : lookB n xs.length rs with
  | false =>
    obtain ⟨rfl, hx2⟩ := hno hlk
    have HX2 := Lib.hid (HX1.out.trans0 hx2)
    have HP2 := Lib.hid (HP.out w2 HX2.out)
    have HLK := Lib.hid hlk
    clear hno hyes hlk hx2
    go_wp2_with fail
    refine HP2.out.mono ?_
    rintro e w3 ⟨hno, _⟩
    obtain ⟨rfl, hx3⟩ := hno HLK.out
    have HX3 := Lib.hid (HX2.out.trans0 hx3)
    clear hno hx3
    go_wp2
    go_ret
    exact ⟨rfl, HX3.out.below (Nat.le_refl _) (fun _ h => h.elim)⟩
  | true =>
    obtain ⟨L, D, rfl, hat⟩ := hyes hlk
    have hf := play_facts hln HOK.out hlk
    obtain ⟨s, hs⟩ : ∃ s, playA (s22 rs) xs = s := ⟨_, rfl⟩
    rw [hs] at hat hf
    have HAT := Lib.hid hat
    have HF := Lib.hid hf
    have ht := hf.inv.top
    have ht2 := hf.top
    have HS := Lib.hid hs
    have HLK := Lib.hid hlk
    clear hno hyes hlk hat hf hs
    go_wp2_with fail
    refine (HP.out w2 (HX1.out.trans0 HAT.out.x)).mono ?_
    rintro e w3 ⟨_, hyes⟩
    obtain ⟨M, E, rfl, hat⟩ := hyes HLK.out
    rw [HS.out] at hat
    have H3 := Lib.hid (HAT.out.t3 hat)
    clear hyes hat HAT HS HLK
    go_wp2_with fail
    refine (promised_any L s w3 H3.out.l HF.out.inv).mono ?_
    rintro e w4 ⟨v4, rfl, ho4, hx4⟩
    obtain ⟨A4, k4, rfl, _⟩ := own_sl ho4
    have HO4 := Lib.hid ho4
    have H4 := Lib.hid (H3.out.ex0 hx4)
    have c2 : w4.cell? ⟨D.p, 2, none⟩ = some (.int .i64 s.now) := H4.out.d.cell rfl
    have hlp : D.p < w4.heap.size := H4.out.d.lt
    have hnw := HF.out.inv.now
    obtain ⟨un, hun⟩ : ∃ un : Int, s.now + 1 + (q2 : Int) = un := ⟨_, rfl⟩
    have u1 : IntKind.i64.wrap (s.now + 1) = s.now + 1 := by rw [IntKind.wrap_i64]; omega
    have u2 : IntKind.i64.wrap (s.now + 1 + (q2 : Int)) = un := by rw [IntKind.wrap_i64]; omega
    have u3 : IntKind.i64.wrap (un - 1) = un - 1 := by rw [IntKind.wrap_i64]; omega
    have et : IntKind.u64.wrap (s.top + 1) = s.top + 1 := by rw [IntKind.wrap_u64]; omega
    have HTP : Hid (s.top + 1 < 65535) := by show _ < _; omega
    clear ho4 hx4 H3 hun hnw ht ht2
    go_wp2_with fail
    refine (thold_any L s q0 q1 un w4 H4.out.l HF.out.inv).mono ?_
    rintro e w5 ⟨rfl, hop⟩
    have hxo : Ex L.F w4 w5 := by obtain ⟨_, _, _, hx, _⟩ := hop; exact hx
    have HO5 := Lib.hid (own_keep H4.out.l hxo HO4.out)
    obtain ⟨L1, hp1, h5⟩ := H4.out.left hop
    have H5 := Lib.hid h5
    have HI1 := Lib.hid (inv_hold HF.out.inv q0 q1 un)
    rw [← hp1]
    clear hop hxo h5 hp1 c2 hlp u1 u2 H4 HO4
    by_cases he : s.holdE q0 q1 un = 0
    · have HE := Lib.hid he
      have hwn : s.holdN q0 q1 un = s.top + 1 := if_pos he
      rw [he, hwn]
      have HHH : Hid (∀ m, s.has m = true → (q0 : Int) ≤ Mo.minV m s.tab → Mo.minV m s.tab ≤ q1 → ((s.hold q0 q1 un).tick (un - 1)).has m = true) := fun m h1 h2 h3 => held_has HF.out.inv he h1 h2 h3
      have HHL := Lib.hid (held_lift HF.out.inv he HTP.out)
      have HI2 := Lib.hid (inv_tick HI1.out (un - 1))
      have HI3 := Lib.hid (inv_tick HF.out.inv (un - 1))
      obtain ⟨s1, hs1⟩ : ∃ s1, s.hold q0 q1 un = s1 := ⟨_, rfl⟩
      rw [hs1] at HHH HHL HI1 HI2 H5
      clear he hwn hs1 HE
      go_wp2_with fail
      refine (tick_any L1 s1 (un - 1) w5 H5.out.l HI1.out).mono ?_
      rintro e w6 ⟨rfl, hop⟩
      have hxo : Ex L1.F w5 w6 := by obtain ⟨_, _, _, hx, _⟩ := hop; exact hx
      have HO6 := Lib.hid (own_keep H5.out.l hxo HO5.out)
      obtain ⟨L2, hp2, h6⟩ := H5.out.left hop
      have H6 := Lib.hid h6
      rw [← hp2]
      clear hop hxo h6 hp2 H5 HO5
      go_wp2_with fail
      refine (tick_any M s (un - 1) w6 H6.out.m HF.out.inv).mono ?_
      rintro e w7 ⟨rfl, hop⟩
      have hxo : Ex M.F w6 w7 := by obtain ⟨_, _, _, hx, _⟩ := hop; exact hx
      have HO7 := Lib.hid (own_keep H6.out.m hxo HO6.out)
      obtain ⟨M1, hq1, h7⟩ := H6.out.right hop
      have H7 := Lib.hid h7
      rw [← hq1]
      obtain ⟨t1, ht1⟩ : ∃ t1, s1.tick (un - 1) = t1 := ⟨_, rfl⟩
      obtain ⟨y1, hy1⟩ : ∃ y1, s.tick (un - 1) = y1 := ⟨_, rfl⟩
      rw [ht1] at HHH HHL HI2 H7
      rw [hy1] at HHL HI3 H7
      clear hop hxo h7 hq1 ht1 hy1 H6 HO6
      have hmm := @run_makeMap Tryz.prog
      have hz : ∀ w, (zeroValue 4).run Tryz.prog w = .ok (.bool false) w := fun w => by kernel_rfl
      go_wp2_with fail
      obtain ⟨w8, hw8⟩ : ∃ w8, w7.alloc (.map #[] 0) = w8 := ⟨_, rfl⟩
      have HB8 : Hid (BSet Tryz.prog 31 4 w8 w7.heap.size 0 (fun _ => false)) := by show BSet _ _ _ _ _ _ _; rw [← hw8]; exact BSet.made w7
      have HX8 : Hid (Ex0 w7 w8) := by show Ex0 _ _; rw [← hw8]; exact Ex.alloc _ _
      rw [hw8]
      clear hw8 hmm
      refine (promised_any L2 t1 w8 (H7.out.ex0 HX8.out).l HI2.out).mono ?_
      rintro e w9 ⟨v9, rfl, ho9, hx9⟩
      obtain ⟨A9, k9, rfl, hsl9, hob9⟩ := own_sl ho9
      have HS9 := Lib.hid hsl9
      have HN9 : Hid (∀ b, Bl A9 b → b ≠ w7.heap.size) := fun b hb e => by have := (ho9.lt b (by rw [hob9]; exact hb)).1; have := HB8.out.lt; omega
      have HX9 : Hid (Ex (· = w7.heap.size) w7 w9) := (HX8.out.trans0 hx9).to (fun _ _ h => h.elim)
      have HB9 := Lib.hid (HB8.out.ex hx9 not_false)
      have HR9 : Hid (∀ x ∈ t1.all, (Lit.int .u64 x).wf = true) := fun x hx => by have := all_rng HI2.out hx; exact wf64 (by omega)
      have hlen9 := hsl9.small
      clear ho9 hx9 hsl9 hob9 HX8 HB8
      obtain ⟨al, hal⟩ : ∃ al, t1.all = al := ⟨_, rfl⟩
      have HAL := Lib.hid hal
      rw [hal] at HS9 HR9 hlen9
      rw [hal]
      have hal9 : al.length ≤ 1000 := by rw [← hal]; unfold TS.all; rw [List.length_map]; exact Nat.le_trans (List.length_filter_le _ _) HI2.out.tab.len
      clear hal
      obtain ⟨bm, hbm⟩ : ∃ bm, w7.heap.size = bm := ⟨_, rfl⟩
      have HBM : Hid (w7.heap.size ≤ bm) := by show _ ≤ _; omega
      rw [hbm] at HN9 HX9 HB9
      rw [hbm]
      have HBE := Lib.hid hbm
      clear hbm
      go_wp2_with fail
      go_loopw [99] (fun i wr => ∃ (k nn : Nat) (T : Int → Bool), k ≤ al.length ∧ i = .int .i64 k ∧ BSet Tryz.prog 31 4 wr bm nn T ∧ nn ≤ k ∧ (∀ x ∈ al.take k, T x = true) ∧ Ex (· = bm) w9 wr) (fun i _ => al.length - (intOf i).toNat)
      case atStart => exact ⟨0, 0, _, by omega, rfl, HB9.out, Nat.le_refl _, fun x hx => (by simp at hx), Ex.refl _ _⟩
      case round =>
        obtain ⟨k, nn, T, hk, rfl, hbs, hnn, hT, hx⟩ := hrel
        have HBS := Lib.hid hbs
        have HT := Lib.hid hT
        have HX := Lib.hid hx
        clear hbs hT hx
        have hk0 : (0 : Int) ≤ (k : Int) := by omega
        by_cases hlt : k < al.length
        · have hk1 : (k : Int) < (al.length : Int) := by omega
          obtain ⟨g, o, rfl, hg, hc⟩ := (HS9.out.ex HX.out HN9.out).one hlt
          have hwf := HR9.out _ (List.getElem_mem hlt)
          have HTK := Lib.hid (List.take_succ_eq_append_getElem hlt)
          obtain ⟨x, hxx⟩ : ∃ x, al[k] = x := ⟨_, rfl⟩
          rw [hxx] at hc hwf HTK
          clear hxx
          go_wp2_with (first | (at_mapUpdate; refine wpList_bset_put rfl 74 _ _ _ rfl bm rfl x rfl rfl hwf Tryz.underlying74 Tryz.underlying31 Tryz.underlying4 HBS.out (by unfold maxLen; omega) ?_; intro w10 hb10 hx10; have HB10 := Lib.hid hb10; have HX10 := Lib.hid hx10; clear hb10 hx10 hc hg))
          go_roundw
          case rel =>
            refine ⟨k + 1, nn + 1, _, by omega, by go_num, HB10.out, by omega, fun y hy => ?_, HX.out.trans HX10.out (fun _ _ h => h) (fun _ _ h => h)⟩
            rw [HTK.out] at hy
            rcases List.mem_append.1 hy with h | h
            · simp [HT.out y h]
            · simp only [List.mem_singleton] at h; subst h; simp
          case measure => simp [intOf]; omega
        · have hkn : k = al.length := by omega
          subst hkn
          have HT2 : Hid (∀ x, t1.has x = true → T x = true) := fun x hx => HT.out x (by
            rw [List.take_length, ← HAL.out]; exact mem_all.2 hx)
          have HX7 : Hid (Ex (· = bm) w7 wr) := HX9.out.trans HX.out (fun _ _ h => h) (fun _ _ h => h)
          have H8 := Lib.hid (H7.out.exN HX7.out HBM.out)
          have HO8 : Hid (wr.ownsRow w3.heap.size 31 1 (.slice A4 s.all.length k4) s.all.length (s.all.map (Value.int .u64))) := own_ex HO7.out HX7.out (fun b hb e => by have := (HO7.out.lt b hb).2; have e' : b = bm := e; have := HBE.out; omega)
          clear HT HX HX9 HX7 HO7 H7 HS9 HN9 HB9 HR9 hlen9 hk0
          go_wp2_with fail
          rename World => wz
          have hall : s.all.length ≤ 1000 := by unfold TS.all; rw [List.length_map]; exact Nat.le_trans (List.length_filter_le _ _) HF.out.inv.tab.len
          go_loopw [108] (fun i wr => ∃ k : Nat, k ≤ s.all.length ∧ i = .int .i64 k ∧ Ex0 wz wr) (fun i _ => s.all.length - (intOf i).toNat)
          case atStart => exact ⟨0, by omega, rfl, Ex.refl _ _⟩
          case round =>
            obtain ⟨k, hk, rfl, hx⟩ := hrel
            have HX := Lib.hid hx
            clear hx
            have hk0 : (0 : Int) ≤ (k : Int) := by omega
            have H9 := Lib.hid (H8.out.ex0 HX.out)
            by_cases hlt : k < s.all.length
            · have hk1 : (k : Int) < (s.all.length : Int) := by omega
              obtain ⟨g, o, rfl, hg, hc⟩ := ((own_at HO8.out).ex0 HX.out).one hlt
              have hrng := all_rng HF.out.inv (List.getElem_mem hlt)
              obtain ⟨m, hm⟩ : ∃ m, s.all[k] = m := ⟨_, rfl⟩
              rw [hm] at hc hrng
              have HRG := Lib.hid hrng
              have c5 : wr.cell? ⟨D.p, 5, none⟩ = some (.pointer (some ⟨D.P.pt, 0, none⟩)) := H9.out.d.cell rfl
              have hlp : D.p < wr.heap.size := H9.out.d.lt
              clear hm hrng
              go_wp2_with fail
              refine (Mo.rfind_any D.P.pt D.P.d s.tab m wr H9.out.d.law.tab HF.out.inv.tab).mono ?_
              rintro e wf ⟨rfl, hxf⟩
              have HXF := Lib.hid (HX.out.trans0 hxf)
              have H10 := Lib.hid (H9.out.ex0 hxf)
              have hhas : Mo.has m s.tab = true := has_mem.2 (hasP_mem HRG.out.1)
              obtain ⟨hlo, hln⟩ := Mo.has_get HF.out.inv.tab.srt hhas
              have hix : Mo.idxI m s.tab = (Mo.lo m s.tab : Int) := by unfold Mo.idxI; rw [if_pos hhas]
              have hmv : Mo.minV m s.tab = (s.tab[Mo.lo m s.tab]'hlo).min := by unfold Mo.minV; rw [if_pos hhas, Mo.gt_get hlo]
              obtain ⟨_, n1, _⟩ := H10.out.d.law.tab.cells
              obtain ⟨gm, om, hgm, hlm, hcm⟩ := H10.out.d.law.tab.sM.one hlo
              rw [hgm] at n1
              rw [hix]
              have d5 : wf.cell? ⟨D.p, 5, none⟩ = some (.pointer (some ⟨D.P.pt, 0, none⟩)) := H10.out.d.cell rfl
              have hlq : D.p < wf.heap.size := H10.out.d.lt
              have hlt' : D.P.pt < wf.heap.size := H10.out.d.law.tab.lt
              rw [← hmv] at hcm
              have HMV := Lib.hid (HHH.out m HRG.out.1)
              have HB11 := Lib.hid (HBS.out.ex HXF.out not_false)
              obtain ⟨lo, hlo'⟩ : ∃ lo : Nat, Mo.lo m s.tab = lo := ⟨_, rfl⟩
              rw [hlo'] at hcm hlo
              rw [hlo']
              obtain ⟨mv, hmv'⟩ : ∃ mv, Mo.minV m s.tab = mv := ⟨_, rfl⟩
              rw [hmv'] at hcm HMV
              have hl0 : (0 : Int) ≤ (lo : Int) := by omega
              have hl1 : (lo : Int) < ((s.tab.length : Nat) : Int) := by omega
              have hwf : (Lit.int .u64 m).wf = true := wf64 (by have := HRG.out.2; omega)
              clear hxf hhas hln hix hmv hgm hlo' hmv' c5 hlp hc hg H9
              by_cases h1 : (q0 : Int) ≤ mv
              · have h1d : decide ((q0 : Int) ≤ mv) = true := decide_eq_true h1
                by_cases h2 : mv ≤ (q1 : Int)
                · have h2d : decide (mv ≤ (q1 : Int)) = true := decide_eq_true h2
                  have HTM := Lib.hid (HT2.out m (HMV.out h1 h2))
                  go_wp2_with (first | (refine wpList_bset_get_gd (by rfl) 74 _ _ rfl bm rfl m rfl hwf Tryz.underlying74 Tryz.underlying31 Tryz.underlying4 (hz _) HB11.out ?_; rw [HTM.out]))
                  go_roundw
                  case rel => exact ⟨k + 1, by omega, by go_num, HXF.out⟩
                  case measure => simp [intOf]; omega
                · have h2d : decide (mv ≤ (q1 : Int)) = false := decide_eq_false h2
                  go_wp2_with fail
                  go_roundw
                  case rel => exact ⟨k + 1, by omega, by go_num, HXF.out⟩
                  case measure => simp [intOf]; omega
              · have h1d : decide ((q0 : Int) ≤ mv) = false := decide_eq_false h1
                go_wp2_with fail
                go_roundw
                case rel => exact ⟨k + 1, by omega, by go_num, HXF.out⟩
                case measure => simp [intOf]; omega
            · go_wp2_with fail
              obtain ⟨l1, l2, l3⟩ := HHL.out
              have HL2 := Lib.hid l2
              have HL3 := Lib.hid l3
              refine (tlift_any L2 t1 (s.top + 1) wr H9.out.l HI2.out.top.1 HI2.out.hlen).mono ?_
              rintro e w11 ⟨rfl, hop⟩
              obtain ⟨L3, hp3, h11⟩ := H9.out.left hop
              have H11 := Lib.hid h11
              rw [← hp3, l1]
              have HI4 := Lib.hid (inv_lift HI2.out (s.top + 1))
              obtain ⟨t2, ht2⟩ : ∃ t2, t1.lift (s.top + 1) = t2 := ⟨_, rfl⟩
              rw [ht2] at HL2 HL3 HI4 H11
              clear hop h11 hp3 l1 l2 l3 ht2 H9
              go_wp2_with fail
              refine (tlift_any L3 t2 (s.top + 1) w11 H11.out.l HI4.out.top.1 HI4.out.hlen).mono ?_
              rintro e w12 ⟨rfl, hop⟩
              obtain ⟨L4, hp4, h12⟩ := H11.out.left hop
              have H12 := Lib.hid h12
              rw [← hp4, HL2.out]
              have HI5 := Lib.hid (inv_lift HI4.out (s.top + 1))
              obtain ⟨t3, ht3⟩ : ∃ t3, t2.lift (s.top + 1) = t3 := ⟨_, rfl⟩
              rw [ht3] at HL3 HI5 H12
              clear hop h12 hp4 ht3 H11
              go_wp2_with fail
              refine (promised_any L4 t3 w12 H12.out.l HI5.out).mono ?_
              rintro e w13 ⟨v13, rfl, ho13, hx13⟩
              obtain ⟨A13, k13, rfl, hsl13, _⟩ := own_sl ho13
              have HS13 := Lib.hid hsl13
              have H13 := Lib.hid (H12.out.ex0 hx13)
              clear ho13 hsl13 hx13 H12
              go_wp2_with fail
              refine (promised_any M1 y1 w13 H13.out.m HI3.out).mono ?_
              rintro e w14 ⟨v14, rfl, ho14, hx14⟩
              obtain ⟨A14, k14, rfl, hsl14, _⟩ := own_sl ho14
              have HS14 := Lib.hid hsl14
              have HS13' := Lib.hid (HS13.out.ex0 hx14)
              have H14 := Lib.hid (H13.out.ex0 hx14)
              clear ho14 hsl14 hx14 H13
              go_wp2_with fail
              refine (same_any A13 A14 k13 k14 t3.all y1.all w14 HS13'.out HS14.out).mono ?_
              rintro e w15 ⟨rfl, hx15⟩
              have H15 := Lib.hid (H14.out.ex0 hx15)
              have c3 : w15.cell? ⟨D.p, 3, none⟩ = some (.int .u64 s.top) := H15.out.d.cell rfl
              have hlp : D.p < w15.heap.size := H15.out.d.lt
              rw [decide_eq_true HL3.out]
              clear hx15
              go_wp2
              go_ret
              exact ⟨rfl, (HX1.out.trans0 H15.out.x).below (Nat.le_refl _) (fun _ h => h.elim)⟩
    · obtain ⟨e1, e2, e3⟩ := hold_no HF.out.inv he
      have hn0 : s.holdN q0 q1 un = 0 := if_neg he
      have heb : (s.holdE q0 q1 un != 0) = true := by simpa using he
      rw [hn0]
      have HE2 := Lib.hid e2
      have HE3 := Lib.hid e3
      obtain ⟨sh, hsh⟩ : ∃ sh, s.hold q0 q1 un = sh := ⟨_, rfl⟩
      rw [hsh] at HE2 HE3 HI1 H5
      clear e1 e2 e3 hn0 hsh
      go_wp2_with fail
      have H6 : Hid (T3 w1 w5.drew L1 M D sh s s) := H5.out.ex0 (Ex.drew w5)
      have HO6 : Hid (w5.drew.ownsRow w3.heap.size 31 1 (.slice A4 s.all.length k4) s.all.length (s.all.map (Value.int .u64))) := HO5.out
      have hS : (fun w' : World => w'.cell? ⟨D.p, 3, none⟩ = some (.int .u64 s.top) ∧ D.p < w'.heap.size) w5.drew := ⟨H6.out.d.cell rfl, H6.out.d.lt⟩
      refine wp_region_takes (fun w' : World => w'.cell? ⟨D.p, 3, none⟩ = some (.int .u64 s.top) ∧ D.p < w'.heap.size) (by kernel_rfl) ?_
      simp only [List.length_cons, List.length_nil]
      generalize w5.drew = wd at *
      refine' wpAnyH_do 0 rfl (by kernel_rfl) (fun _ _ _ _ h => h) (by rfl) (by assumption) ⟨_, fun w' hS => ?_, ?_⟩
      rotate_left
      · ((try dsimp only at hS); go_split_ands; go_simp; try (with_reducible rfl))
      simp only [Act.put, List.setIfInBounds_toArray, List.set_cons_zero, List.set_cons_succ]
      refine' wpAnyH_do 1 rfl (by kernel_rfl) (fun _ _ _ _ h => h) (by rfl) (by assumption) ⟨_, fun w' hS => ?_, ?_⟩
      rotate_left
      · ((try dsimp only at hS); go_split_ands; go_simp; try (with_reducible rfl))
      simp only [Act.put, List.setIfInBounds_toArray, List.set_cons_zero, List.set_cons_succ]
      refine' wpAnyH_do 2 rfl (by kernel_rfl) (fun _ _ _ _ h => h) (by rfl) (by assumption) ⟨_, fun w' hS => ?_, ?_⟩
      rotate_left
      · ((try dsimp only at hS); go_split_ands; go_simp; try (with_reducible rfl))
      simp only [Act.put, List.setIfInBounds_toArray, List.set_cons_zero, List.set_cons_succ]
      refine' wpAnyH_do 3 rfl (by kernel_rfl) (fun _ _ _ _ h => h) (by rfl) (by assumption) ⟨_, fun w' hS => ?_, ?_⟩
      rotate_left
      · ((try dsimp only at hS); go_split_ands; go_simp; try (with_reducible rfl))
      simp only [Act.put, List.setIfInBounds_toArray, List.set_cons_zero, List.set_cons_succ]
      refine' wpAnyH_do 5 rfl (by kernel_rfl) (fun _ _ _ _ h => h) (by rfl) (by assumption) ⟨_, fun w' hS => ?_, ?_⟩
      rotate_left
      · ((try dsimp only at hS); go_split_ands; go_simp; try (with_reducible rfl))
      simp only [Act.put, List.setIfInBounds_toArray, List.set_cons_zero, List.set_cons_succ]
      refine wpAnyH_eff 4 rfl (by kernel_rfl) (by rfl) (fun K hK => ?_)
      have HKK := Lib.hid hK
      clear hK
      go_simp
      refine (promised_any L1 sh wd H6.out.l HI1.out).mono ?_
      rintro e w6 ⟨v6, rfl, ho6, hx6⟩
      obtain ⟨A6, k6, rfl, hsl6, _⟩ := own_sl ho6
      have HS6 := Lib.hid hsl6
      have HO7 := Lib.hid ((own_at HO6.out).ex0 hx6)
      have H7 := Lib.hid (H6.out.ex0 hx6)
      have hS2 : (fun w' : World => w'.cell? ⟨D.p, 3, none⟩ = some (.int .u64 s.top) ∧ D.p < w'.heap.size) w6 := ⟨H7.out.d.cell rfl, H7.out.d.lt⟩
      clear hS ho6 hsl6 hx6
      dsimp only
      refine HKK.out _ _ hS2 ?_
      clear HKK K
      (try simp only [Act.put, List.setIfInBounds_toArray, List.set_cons_zero, List.set_cons_succ])
      refine wpAnyH_eff 6 rfl (by kernel_rfl) (by rfl) (fun K hK => ?_)
      have HKK := Lib.hid hK
      clear hK
      go_simp
      refine (same_any A6 A4 k6 k4 sh.all s.all w6 HS6.out HO7.out).mono ?_
      rintro e w7 ⟨rfl, hx7⟩
      rw [decide_eq_true HE2.out]
      have H8 := Lib.hid (H7.out.ex0 hx7)
      have hS : (fun w' : World => w'.cell? ⟨D.p, 3, none⟩ = some (.int .u64 s.top) ∧ D.p < w'.heap.size) w7 := ⟨H8.out.d.cell rfl, H8.out.d.lt⟩
      clear hS2 hx7
      dsimp only
      refine HKK.out _ _ hS ?_
      clear HKK K
      (try simp only [Act.put, List.setIfInBounds_toArray, List.set_cons_zero, List.set_cons_succ])
      refine' wpAnyH_do 7 rfl (by kernel_rfl) (fun _ _ _ _ h => h) (by rfl) (by assumption) ⟨_, fun w' hS => ?_, ?_⟩
      rotate_left
      · ((try dsimp only at hS); go_split_ands; go_simp; try (with_reducible rfl))
      simp only [Act.put, List.setIfInBounds_toArray, List.set_cons_zero, List.set_cons_succ]
      refine' wpAnyH_do 8 rfl (by kernel_rfl) (fun _ _ _ _ h => h) (by rfl) (by assumption) ⟨_, fun w' hS => ?_, ?_⟩
      rotate_left
      · ((try dsimp only at hS); go_split_ands; go_simp; try (with_reducible rfl))
      simp only [Act.put, List.setIfInBounds_toArray, List.set_cons_zero, List.set_cons_succ]
      refine' wpAnyH_do 9 rfl (by kernel_rfl) (fun _ _ _ _ h => h) (by rfl) (by assumption) ⟨_, fun w' hS => ?_, ?_⟩
      rotate_left
      · ((try dsimp only at hS); go_split_ands; go_simp; try (with_reducible rfl))
      simp only [Act.put, List.setIfInBounds_toArray, List.set_cons_zero, List.set_cons_succ]
      refine' wpAnyH_do 11 rfl (by kernel_rfl) (fun _ _ _ _ h => h) (by rfl) (by assumption) ⟨_, fun w' hS => ?_, ?_⟩
      rotate_left
      · ((try dsimp only at hS); go_split_ands; go_simp; try (with_reducible rfl))
      simp only [Act.put, List.setIfInBounds_toArray, List.set_cons_zero, List.set_cons_succ]
      refine' wpAnyH_do 12 rfl (by kernel_rfl) (fun _ _ _ _ h => h) (by rfl) (by assumption) ⟨_, fun w' hS => ?_, ?_⟩
      rotate_left
      · ((try dsimp only at hS); go_split_ands; go_simp; try (with_reducible rfl))
      simp only [Act.put, List.setIfInBounds_toArray, List.set_cons_zero, List.set_cons_succ]
      refine' wpAnyH_do 13 rfl (by kernel_rfl) (fun _ _ _ _ h => h) (by rfl) (by assumption) ⟨_, fun w' hS => ?_, ?_⟩
      rotate_left
      · ((try dsimp only at hS); go_split_ands; go_simp; try (with_reducible rfl))
      simp only [Act.put, List.setIfInBounds_toArray, List.set_cons_zero, List.set_cons_succ]
      refine' wpAnyH_do 14 rfl (by kernel_rfl) (fun _ _ _ _ h => h) (by rfl) (by assumption) ⟨_, fun w' hS => ?_, ?_⟩
      rotate_left
      · ((try dsimp only at hS); go_split_ands; go_simp; try (with_reducible rfl))
      simp only [Act.put, List.setIfInBounds_toArray, List.set_cons_zero, List.set_cons_succ]
      refine wpAnyH_eff 10 rfl (by kernel_rfl) (by rfl) (fun K hK => ?_)
      have HKK := Lib.hid hK
      clear hK
      go_simp
      refine (top_any L1 sh w7 H8.out.l).mono ?_
      rintro e w8 ⟨rfl, hw⟩
      rw [hw, HE3.out]
      clear hw w8
      dsimp only
      refine HKK.out _ _ hS ?_
      clear HKK K
      (try simp only [Act.put, List.setIfInBounds_toArray, List.set_cons_zero, List.set_cons_succ])
      refine' wpAnyH_do 15 rfl (by kernel_rfl) (fun _ _ _ _ h => h) (by rfl) (by assumption) ⟨_, fun w' hS => ?_, ?_⟩
      rotate_left
      · ((try dsimp only at hS); go_split_ands; go_simp; try (with_reducible rfl))
      simp only [Act.put, List.setIfInBounds_toArray, List.set_cons_zero, List.set_cons_succ]
      refine' wpAnyH_do 16 rfl (by kernel_rfl) (fun _ _ _ _ h => h) (by rfl) (by assumption) ⟨_, fun w' hS => ?_, ?_⟩
      rotate_left
      · ((try dsimp only at hS); go_split_ands; go_simp; try (with_reducible rfl))
      simp only [Act.put, List.setIfInBounds_toArray, List.set_cons_zero, List.set_cons_succ]
      refine' wpAnyH_do 17 rfl (by kernel_rfl) (fun _ _ _ _ h => h) (by rfl) (by assumption) ⟨_, fun w' hS => ?_, ?_⟩
      rotate_left
      · ((try dsimp only at hS); go_split_ands; go_simp; try (with_reducible rfl))
      simp only [Act.put, List.setIfInBounds_toArray, List.set_cons_zero, List.set_cons_succ]
      refine wpAnyH_done (by kernel_rfl) ?_ _
      go_wp2
      go_ret
      exact ⟨rfl, (HX1.out.trans0 H8.out.x).below (Nat.le_refl _) (fun _ h => h.elim)⟩
end Go.Proofs.YtoglddndicmelaaGreat.Tr
