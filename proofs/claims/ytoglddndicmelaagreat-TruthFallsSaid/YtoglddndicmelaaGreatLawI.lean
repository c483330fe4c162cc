/- Layer 54: released stays released. -/
import Derived.Test.YtoglddndicmelaaGreatLawD
import Derived.Test.YtoglddndicmelaaGreatLwP
import Derived.Test.YtoglddndicmelaaGreatLwU
import Derived.Test.YtoglddndicmelaaGreatB14
namespace Go.Proofs.YtoglddndicmelaaGreat.Tr
open Go.RowKit Go.Proofs.YtoglddndicmelaaGreatB Go.Proofs.YtoglddndicmelaaGreat
set_option maxRecDepth 100000

set_option maxHeartbeats 8000000 in
theorem falls_walk (A : Option Addr) (n cap : Nat) (rs : List Rul) (B : Option Addr) (m capb : Nat) (xs : List ActT) (oo ii vl bl : Int) (W : World) (hs : Sl W 3 A n (rs.flatMap Rul.cells)) (hA : ∀ b, Bl A b → b < W.heap.size) (ha : Sl W 8 B m (xs.flatMap ActT.cells)) (hx : ∀ x ∈ xs, x.Ok) (hoo : ∃ q : Nat, oo = q ∧ q < 256) (hii : ∃ q : Nat, ii = q ∧ q < 256) (hvl : ∃ q : Nat, vl = q ∧ q < 256) (hbl : ∃ q : Nat, bl = q ∧ q < 256) :
    Calls Tryz.prog 8 #[.slice A n cap, .slice B m capb, .int .u8 oo, .int .u8 ii, .int .u8 vl, .int .u8 bl] W fun e W' => e = .returned (.bool true) ∧ Below W.heap.size W W' := by
  have hln : rs.length = n := by have := hs.len; rw [flat_len Rul.cells 3 Rul.length] at this; omega
  have HP : Hid (∀ w, Ex0 W w → Calls Tryz.prog 18 #[.slice A n cap, .slice B m capb] w (PlayP n rs xs w)) := fun w hw => played_any A n cap rs B m capb xs w (hs.ex0 hw) (fun b hb => Nat.lt_of_lt_of_le (hA b hb) hw.size) (ha.ex0 hw) hx
  have HOK := Lib.hid hx
  obtain ⟨q0, rfl, g0⟩ := hoo
  obtain ⟨q1, rfl, g1⟩ := hii
  obtain ⟨q2, rfl, g2⟩ := hvl
  obtain ⟨q3, rfl, g3⟩ := hbl
  have f0 : IntKind.i64.wrap (q0 : Int) = q0 := by rw [IntKind.wrap_i64]; omega
  have pe : ((q1 : Nat) : Int).tmod 5 = ((q1 % 5 : Nat) : Int) := by rw [Int.tmod_eq_emod_of_nonneg (by omega)]; omega
  have pf : IntKind.i64.wrap (q1 : Int) = q1 := by rw [IntKind.wrap_i64]; omega
  have pk : IntKind.i64.wrap ((q1 % 5 : Nat) : Int) = ((q1 % 5 : Nat) : Int) := by rw [IntKind.wrap_i64]; omega
  have pr : 0 ≤ ((q1 % 5 : Nat) : Int) ∧ ((q1 % 5 : Nat) : Int) < 5 := by omega
  obtain ⟨p, pq⟩ : ∃ p : Int, ((q1 % 5 : Nat) : Int) = p := ⟨_, rfl⟩
  rw [pq] at pe pk pr
  clear pq
  have ve : ((q2 : Nat) : Int).tmod 2 = ((q2 % 2 : Nat) : Int) := by rw [Int.tmod_eq_emod_of_nonneg (by omega)]; omega
  have vf : IntKind.i64.wrap (q2 : Int) = q2 := by rw [IntKind.wrap_i64]; omega
  have vk : IntKind.i64.wrap ((q2 % 2 : Nat) : Int) = ((q2 % 2 : Nat) : Int) := by rw [IntKind.wrap_i64]; omega
  have vr : 0 ≤ ((q2 % 2 : Nat) : Int) ∧ ((q2 % 2 : Nat) : Int) < 2 := by omega
  obtain ⟨v, vq⟩ : ∃ v : Int, ((q2 % 2 : Nat) : Int) = v := ⟨_, rfl⟩
  rw [vq] at ve vk vr
  clear vq
  have be : ((q3 : Nat) : Int).tmod 2 = ((q3 % 2 : Nat) : Int) := by rw [Int.tmod_eq_emod_of_nonneg (by omega)]; omega
  have bf : IntKind.i64.wrap (q3 : Int) = q3 := by rw [IntKind.wrap_i64]; omega
  have bk : IntKind.i64.wrap ((q3 % 2 : Nat) : Int) = ((q3 % 2 : Nat) : Int) := by rw [IntKind.wrap_i64]; omega
  have br : 0 ≤ ((q3 % 2 : Nat) : Int) ∧ ((q3 % 2 : Nat) : Int) < 2 := by omega
  obtain ⟨b, bq⟩ : ∃ b : Int, ((q3 % 2 : Nat) : Int) = b := ⟨_, rfl⟩
  rw [bq] at be bk br
  clear bq
  clear hs hA ha hx
  go_enter Tryz.func8, Tryz.ntmps8
  go_wp2_with fail
  refine (awake_any W).mono ?_
  rintro e w1 ⟨rfl, hx1⟩
  have HX1 := Lib.hid hx1
  clear hx1
  go_wp2_with fail
  refine (HP.out w1 HX1.out).mono ?_
  rintro e w2 ⟨hno, hyes⟩
  cases hlk : lookB n xs.length rs with
  | false =>
    obtain ⟨rfl, hx2⟩ := hno hlk
    have HX2 := Lib.hid (HX1.out.trans0 hx2)
    clear hno hyes hlk hx2
    go_wp2
    go_ret
    exact ⟨rfl, HX2.out.below (Nat.le_refl _) (fun _ h => h.elim)⟩
  | true =>
    obtain ⟨L, D, rfl, hat⟩ := hyes hlk
    have hf := play_facts hln HOK.out hlk
    obtain ⟨s, hs⟩ : ∃ s, playA (s22 rs) xs = s := ⟨_, rfl⟩
    rw [hs] at hat hf
    have HAT := Lib.hid hat
    have HF := Lib.hid hf
    have ht := hf.inv.top
    have ht2 := hf.top
    clear hno hyes hlk hat hf hs
    have HLEN : Hid (s.tab.length ≤ 900) := by have := HF.out.len; show _ ≤ _; omega
    have hmm := @run_makeMap Tryz.prog
    have hall := all_len HF.out.inv
    go_wp2_with fail
    obtain ⟨w3, hw3⟩ : ∃ w3, (w2.alloc (.map #[] 0)).alloc (.map #[] 0) = w3 := ⟨_, rfl⟩
    have HM0 : Hid (MapI w3 w2.heap.size .u64 []) := by show MapI _ _ _ _; rw [← hw3]; exact (MapI.made w2 .u64).ex (Ex.alloc _ _) not_false
    have HM1 : Hid (MapI w3 (w2.heap.size + 1) .u64 []) := by
      show MapI _ _ _ _
      have := MapI.made (w2.alloc (.map #[] 0)) .u64
      rw [hw3] at this
      simpa using this
    have HX3 : Hid (Ex0 w2 w3) := by show Ex0 _ _; rw [← hw3]; exact (Ex.alloc _ _).alloc' _
    rw [hw3]
    clear hw3 hmm
    refine (promised_any L s w3 (HAT.out.ex0 HX3.out).l HF.out.inv).mono ?_
    rintro e w4 ⟨v4, rfl, ho4, hx4⟩
    obtain ⟨A4, k4, rfl, hsl4, hob4⟩ := own_sl ho4
    have HS4 := Lib.hid hsl4
    have hl3 : w3.heap.size ≤ w4.heap.size := hx4.size
    have HN4 : Hid (∀ c, Bl A4 c → ¬ (c = w2.heap.size ∨ c = w2.heap.size + 1)) := fun c hc e => by have := (ho4.lt c (by rw [hob4]; exact hc)).1; have := HM1.out.lt; omega
    have HX4 := Lib.hid (HX3.out.trans0 hx4)
    have HM04 := Lib.hid (HM0.out.ex hx4 not_false)
    have HM14 := Lib.hid (HM1.out.ex hx4 not_false)
    clear ho4 hx4 hsl4 hob4 HX3 HM0 HM1 hl3
    obtain ⟨b0, hb0⟩ : ∃ b0, w2.heap.size = b0 := ⟨_, rfl⟩
    obtain ⟨b1, hb1⟩ : ∃ b1, b0 + 1 = b1 := ⟨_, rfl⟩
    rw [hb0] at HN4 HM04 HM14 ⊢
    rw [hb1] at HN4 HM14 ⊢
    have hb01 : b0 ≠ b1 := by omega
    have HBS : Hid (∀ c, (c = b0 ∨ c = b1) → w2.heap.size ≤ c) := fun c hc => by omega
    clear hb0 hb1
    go_wp2_with fail
    go_loopw [46] (fun i wr => ∃ k : Nat, k ≤ s.all.length ∧ i = .int .i64 k ∧ MapI wr b0 .u64 ((s.all.take k).map fun x => (x, Value.agg (blkA (s.readD p x v b)))) ∧ MapI wr b1 .u64 ((s.all.take k).map fun x => (x, Value.int .i64 (s.readE p x v b))) ∧ Ex (fun c => c = b0 ∨ c = b1) w4 wr) (fun i _ => s.all.length - (intOf i).toNat)
    case atStart => exact ⟨0, by omega, rfl, HM04.out, HM14.out, Ex.refl _ _⟩
    case round =>
      obtain ⟨k, hk, rfl, hm0, hm1, hx⟩ := hrel
      have HM0 := Lib.hid hm0
      have HM1 := Lib.hid hm1
      have HX := Lib.hid hx
      have hk0 : (0 : Int) ≤ (k : Int) := by omega
      have HXS : Hid (Ex (fun c => c = b0 ∨ c = b1) w2 wr) := (HX4.out.to (fun _ _ h => h.elim)).trans hx (fun _ _ h => h) (fun _ _ h => h)
      have H5 := Lib.hid (HAT.out.exS HXS.out HBS.out)
      clear hm0 hm1 hx
      by_cases hlt : k < s.all.length
      · have hk1 : (k : Int) < (s.all.length : Int) := by omega
        obtain ⟨g, o, rfl, hg, hc⟩ := (HS4.out.ex HX.out HN4.out).one hlt
        have hrng := all_rng HF.out.inv (List.getElem_mem hlt)
        have HTK := Lib.hid (List.take_succ_eq_append_getElem hlt)
        have HNI : Hid (s.all[k] ∉ s.all.take k) := fun h => by
          obtain ⟨j, hj, e⟩ := List.getElem_of_mem h
          rw [List.length_take] at hj
          rw [List.getElem_take] at e
          have := (List.getElem_inj (all_nodup HF.out.inv)).1 e
          omega
        have HNT : Hid ((s.all.take k).Nodup) := (all_nodup HF.out.inv).sublist (List.take_sublist _ _)
        obtain ⟨m, hm⟩ : ∃ m, s.all[k] = m := ⟨_, rfl⟩
        rw [hm] at hc hrng HTK HNI
        have HRG := Lib.hid hrng
        clear hm hrng
        go_wp2_with fail
        refine (treadA L s p m v b wr H5.out.l HF.out.inv HLEN.out).mono ?_
        rintro e w6 ⟨rfl, hx6⟩
        have HX6 := Lib.hid hx6
        have HM06 := Lib.hid (HM0.out.ex hx6 not_false)
        have HM16 := Lib.hid (HM1.out.ex hx6 not_false)
        have HDL : Hid ((blkA (s.readD p m v b)).size = 32) := blkA_len (s.readD p m v b)
        have HDO : Hid (∀ zz ∈ blkA (s.readD p m v b), zz.oneCell' = true) := blkA_one (s.readD p m v b)
        obtain ⟨DA, hDA⟩ : ∃ DA, blkA (s.readD p m v b) = DA := ⟨_, rfl⟩
        have HDA := Lib.hid hDA
        obtain ⟨q, hq⟩ : ∃ q, s.readE p m v b = q := ⟨_, rfl⟩
        have HQ := Lib.hid hq
        rw [hDA] at HDL HDO
        rw [hDA, hq]
        clear hx6 hDA hq hc hg H5
        have HU0 : Hid ((((s.all.take k).map fun x => (x, Value.agg (blkA (s.readD p x v b)))).map (·.1)).Nodup) := by show List.Nodup _; rw [map_fst_pair]; exact HNT.out
        have HU1 : Hid ((((s.all.take k).map fun x => (x, Value.int .i64 (s.readE p x v b))).map (·.1)).Nodup) := by show List.Nodup _; rw [map_fst_pair]; exact HNT.out
        go_wp2_with (first | (refine wpList_store_all rfl 49 (.tmp 20) (.tmp 63) rfl w6.heap.size rfl DA _ rfl 49 (heap_alloc_new _ _) (by rw [HDL.out]; rfl) HDO.out (by rw [HDL.out]; kernel_rfl) ?_; rw [World.setRow_alloc_new]; have HXw7 : Hid (Ex0 w6 (w6.alloc (.cells DA 49))) := Ex.alloc _ _; have HBw7 : Hid ((w6.alloc (.cells DA 49)).heap[w6.heap.size]? = some (.cells DA 49 (0, 0))) := heap_alloc_new _ _; obtain ⟨w7, hw7⟩ : ∃ w7, w6.alloc (.cells DA 49) = w7 := ⟨_, rfl⟩; rw [hw7] at HXw7 HBw7 ⊢; clear hw7) | refine wpList_load_row_g (by rfl) 49 (.tmp 20) rfl w6.heap.size rfl 49 DA (0, 0) _ HBw7.out Tryz.underlying49 rfl (by rw [HDL.out]; kernel_rfl) ?_ | (at_mapUpdate; refine wpList_mapUpdate_int rfl 69 _ _ _ rfl 31 49 .u64 .u64 b0 rfl m rfl (.agg DA) rfl _ Tryz.underlying69 Tryz.underlying31 (HM06.out.ex HXw7.out not_false) HU0.out ?_; intro w8 hm8 hx8; have HM8 := Lib.hid hm8; have HX8 := Lib.hid hx8; clear hm8 hx8) | (at_mapUpdate; refine wpList_mapUpdate_int rfl 70 _ _ _ rfl 31 50 .u64 .u64 b1 rfl m rfl (.int .i64 q) rfl _ Tryz.underlying70 Tryz.underlying31 ((HM16.out.ex HXw7.out not_false).ex HX8.out (fun e => hb01 e.symm)) HU1.out ?_; intro w9 hm9 hx9; have HM9 := Lib.hid hm9; have HX9 := Lib.hid hx9; clear hm9 hx9))
        go_roundw
        case rel =>
          refine ⟨k + 1, by omega, by go_num, ?_, ?_, ?_⟩
          · have := HM8.out.ex HX9.out hb01
            rw [putM_new (by rw [map_fst_pair]; exact HNI.out)] at this
            rw [HTK.out, List.map_append, List.map_singleton, HDA.out]
            exact this
          · have := HM9.out
            rw [putM_new (by rw [map_fst_pair]; exact HNI.out)] at this
            rw [HTK.out, List.map_append, List.map_singleton, HQ.out]
            exact this
          · have h1 : Ex (fun c => c = b0 ∨ c = b1) wr w7 := (HX6.out.trans0 HXw7.out).to (fun _ _ h => h.elim)
            exact ((HX.out.trans h1 (fun _ _ h => h) (fun _ _ h => h)).trans (HX8.out.to (fun _ _ e => .inl e)) (fun _ _ h => h) (fun _ _ h => h)).trans (HX9.out.to (fun _ _ e => .inr e)) (fun _ _ h => h) (fun _ _ h => h)
        case measure => simp [intOf]; omega
      · have hkn : k = s.all.length := by omega
        subst hkn
        rw [List.take_length] at HM0 HM1
        have hnw := HF.out.inv.now
        have u2 : IntKind.i64.wrap (s.now + (q0 : Int)) = s.now + q0 := by rw [IntKind.wrap_i64]; omega
        have c2 : wr.cell? ⟨D.p, 2, none⟩ = some (.int .i64 s.now) := H5.out.d.cell rfl
        have hlp : D.p < wr.heap.size := H5.out.d.lt
        clear hk hk0 HX HXS HM04 HM14 HS4 HN4
        go_wp2_with fail
        refine (tick_any L s (s.now + q0) wr H5.out.l HF.out.inv).mono ?_
        rintro e w6 ⟨rfl, hop⟩
        have hxo : Ex L.F wr w6 := by obtain ⟨_, _, _, hx, _⟩ := hop; exact hx
        have hn0 : ¬ L.F b0 := fun h => by have := HAT.out.l.inF _ h; have := HBS.out b0 (.inl rfl); omega
        have hn1 : ¬ L.F b1 := fun h => by have := HAT.out.l.inF _ h; have := HBS.out b1 (.inr rfl); omega
        have HM06 := Lib.hid (HM0.out.ex hxo hn0)
        have HM16 := Lib.hid (HM1.out.ex hxo hn1)
        obtain ⟨L1, hp1, h6⟩ := H5.out.left hop
        have H6 := Lib.hid h6
        rw [← hp1]
        clear hop hxo h6 hp1 hn0 hn1 HM0 HM1 c2 hlp H5
        by_cases he : s.tickE (s.now + q0) = 0
        · have HI1 := Lib.hid (inv_tick HF.out.inv (s.now + q0))
          have HRF : Hid (∀ n, (s.tick (s.now + q0)).has n = true → (s.has n = true ∧ (s.tick (s.now + q0)).readE p n v b = s.readE p n v b ∧ (s.tick (s.now + q0)).readD p n v b = s.readD p n v b)) := fun n h => ⟨has_falls HF.out.inv he h, read_falls HF.out.inv he h p v b⟩
          have HL1 : Hid ((s.tick (s.now + q0)).tab.length ≤ 900) := by show _ ≤ _; rw [tick_eq he]; exact HLEN.out
          rw [he]
          obtain ⟨t1, ht1⟩ : ∃ t1, s.tick (s.now + q0) = t1 := ⟨_, rfl⟩
          rw [ht1] at HI1 HRF HL1 H6
          have hal1 := all_len HI1.out
          clear ht1 he hnw
          go_wp2_with fail
          refine (promised_any L1 t1 w6 H6.out.l HI1.out).mono ?_
          rintro e w7 ⟨v7, rfl, ho7, hx7⟩
          obtain ⟨A7, k7, rfl, hsl7, _⟩ := own_sl ho7
          have HS7 := Lib.hid hsl7
          have H7 := Lib.hid (H6.out.ex0 hx7)
          have HM07 := Lib.hid (HM06.out.ex hx7 not_false)
          have HM17 := Lib.hid (HM16.out.ex hx7 not_false)
          clear ho7 hsl7 hx7 H6 HM06 HM16
          go_wp2_with fail
          rename World => wz
          go_loopw [93] (fun i wr => ∃ k : Nat, k ≤ t1.all.length ∧ i = .int .i64 k ∧ Ex0 wz wr) (fun i _ => t1.all.length - (intOf i).toNat)
          case atStart => exact ⟨0, by omega, rfl, Ex.refl _ _⟩
          case round =>
            obtain ⟨k, hk, rfl, hx⟩ := hrel
            have HX := Lib.hid hx
            clear hx
            have hk0 : (0 : Int) ≤ (k : Int) := by omega
            have H9 := Lib.hid (H7.out.ex0 HX.out)
            by_cases hlt : k < t1.all.length
            · have hk1 : (k : Int) < (t1.all.length : Int) := by omega
              obtain ⟨g, o, rfl, hg, hc⟩ := (HS7.out.ex0 HX.out).one hlt
              have hrng := all_rng HI1.out (List.getElem_mem hlt)
              obtain ⟨m, hm⟩ : ∃ m, t1.all[k] = m := ⟨_, rfl⟩
              rw [hm] at hc hrng
              have HRR := Lib.hid (HRF.out m hrng.1)
              clear hm hrng
              go_wp2_with fail
              refine (treadA L1 t1 p m v b wr H9.out.l HI1.out HL1.out).mono ?_
              rintro e w10 ⟨rfl, hx10⟩
              rw [HRR.out.2.1, HRR.out.2.2]
              have HX10 := Lib.hid (HX.out.trans0 hx10)
              have HRL := Lib.hid (readD_len HF.out.inv p m v b)
              have HEQ := Lib.hid (fun w => eql_blkA (s.readD p m v b) (s.readD p m v b) HRL.out HRL.out w)
              rw [decide_eq_true rfl] at HEQ
              have HMA := Lib.hid (HM07.out.ex HX10.out not_false)
              have HME := Lib.hid (HM17.out.ex HX10.out not_false)
              have HGA : Hid (getM (s.all.map fun x => (x, Value.agg (blkA (s.readD p x v b)))) m = some (.agg (blkA (s.readD p m v b)))) := getM_map s.all (fun x => x) (fun x => Value.agg (blkA (s.readD p x v b))) m (mem_all.2 HRR.out.1) (by simpa using all_nodup HF.out.inv)
              have HGE : Hid (getM (s.all.map fun x => (x, Value.int .i64 (s.readE p x v b))) m = some (.int .i64 (s.readE p m v b))) := getM_map s.all (fun x => x) (fun x => Value.int .i64 (s.readE p x v b)) m (mem_all.2 HRR.out.1) (by simpa using all_nodup HF.out.inv)
              have HDL : Hid ((blkA (s.readD p m v b)).size = 32) := blkA_len (s.readD p m v b)
              have HDO : Hid (∀ zz ∈ blkA (s.readD p m v b), zz.oneCell' = true) := blkA_one (s.readD p m v b)
              obtain ⟨DA, hDA⟩ : ∃ DA, blkA (s.readD p m v b) = DA := ⟨_, rfl⟩
              obtain ⟨q, hq⟩ : ∃ q, s.readE p m v b = q := ⟨_, rfl⟩
              rw [hDA] at HDL HDO HEQ HGA ⊢
              rw [hq] at HGE ⊢
              clear hx10 hDA hq hc hg H9
              go_wp2_with (first | (refine wpList_store_all rfl 49 (.tmp 24) (.tmp 110) rfl w10.heap.size rfl DA _ rfl 49 (heap_alloc_new _ _) (by rw [HDL.out]; rfl) HDO.out (by rw [HDL.out]; kernel_rfl) ?_; rw [World.setRow_alloc_new]; have HXw11 : Hid (Ex0 w10 (w10.alloc (.cells DA 49))) := Ex.alloc _ _; have HBw11 : Hid ((w10.alloc (.cells DA 49)).heap[w10.heap.size]? = some (.cells DA 49 (0, 0))) := heap_alloc_new _ _; obtain ⟨w11, hw11⟩ : ∃ w11, w10.alloc (.cells DA 49) = w11 := ⟨_, rfl⟩; rw [hw11] at HXw11 HBw11 ⊢; clear hw11; have HMA1 := Lib.hid (HMA.out.ex HXw11.out not_false); have HME1 := Lib.hid (HME.out.ex HXw11.out not_false); have heq := HEQ.out; have hg2 := eqg_blk) | (refine wpList_lookup_int_ok rfl 70 _ _ rfl 31 50 .u64 .u64 b1 rfl m rfl _ (.int .i64 0) Tryz.underlying70 Tryz.underlying31 (fun w => by kernel_rfl) HME1.out ?_; rw [HGE.out]; simp only [Option.getD_some, Option.isSome_some]) | (refine wpList_lookup_int_gd (by rfl) 69 _ _ rfl 31 49 .u64 .u64 b0 rfl m rfl _ (.agg Z32) Tryz.underlying69 Tryz.underlying31 (fun w => by kernel_rfl) HMA1.out ?_; rw [HGA.out]; simp only [Option.getD_some]) | refine wpList_load_row_g (by rfl) 49 (.tmp 24) rfl w10.heap.size rfl 49 DA (0, 0) _ HBw11.out Tryz.underlying49 rfl (by rw [HDL.out]; kernel_rfl) ?_)
              go_roundw
              case rel => exact ⟨k + 1, by omega, by go_num, HX10.out.trans0 HXw11.out⟩
              case measure => simp [intOf]; omega
            · go_wp2
              go_ret
              exact ⟨rfl, (HX1.out.trans0 H9.out.x).below (Nat.le_refl _) (fun _ h => h.elim)⟩
        · have hfar : (1073741824 : Int) < s.now + q0 := by
            unfold TS.tickE at he
            by_cases h1 : (1073741824 : Int) < s.now + q0
            · exact h1
            · rw [if_neg h1, if_neg (by omega)] at he; exact absurd rfl he
          have hfd : decide ((1073741824 : Int) < s.now + q0) = true := decide_eq_true hfar
          have heb : (s.tickE (s.now + q0) != 0) = true := by simpa using he
          have c2 : w6.cell? ⟨D.p, 2, none⟩ = some (.int .i64 s.now) := H6.out.d.cell rfl
          have hlp : D.p < w6.heap.size := H6.out.d.lt
          clear he
          go_wp2
          go_ret
          exact ⟨rfl, (HX1.out.trans0 H6.out.x).below (Nat.le_refl _) (fun _ h => h.elim)⟩
end Go.Proofs.YtoglddndicmelaaGreat.Tr
