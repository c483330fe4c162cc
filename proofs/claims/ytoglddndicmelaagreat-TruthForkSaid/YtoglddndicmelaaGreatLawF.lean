/- Layer 54: what a fork shows. -/
import Derived.Test.YtoglddndicmelaaGreatLawD
import Derived.Test.YtoglddndicmelaaGreatLwP
import Derived.Test.YtoglddndicmelaaGreatLwU
namespace Go.Proofs.YtoglddndicmelaaGreat.Tr
open Go.RowKit Go.Proofs.YtoglddndicmelaaGreatB Go.Proofs.YtoglddndicmelaaGreat
set_option maxRecDepth 100000

set_option maxHeartbeats 8000000 in
theorem fork_walk (A : Option Addr) (n cap : Nat) (rs : List Rul) (B : Option Addr) (m capb : Nat) (xs : List ActT) (pa bk vl bl : Int) (W : World) (hs : Sl W 3 A n (rs.flatMap Rul.cells)) (hA : ∀ b, Bl A b → b < W.heap.size) (ha : Sl W 8 B m (xs.flatMap ActT.cells)) (hx : ∀ x ∈ xs, x.Ok) (hpa : ∃ q : Nat, pa = q ∧ q < 256) (hbk : ∃ q : Nat, bk = q ∧ q < 256) (hvl : ∃ q : Nat, vl = q ∧ q < 256) (hbl : ∃ q : Nat, bl = q ∧ q < 256) :
    Calls Tryz.prog 7 #[.slice A n cap, .slice B m capb, .int .u8 pa, .int .u8 bk, .int .u8 vl, .int .u8 bl] W fun e W' => e = .returned (.bool true) ∧ Below W.heap.size W W' := by
  have hln : rs.length = n := by have := hs.len; rw [flat_len Rul.cells 3 Rul.length] at this; omega
  have HP : Hid (∀ w, Ex0 W w → Calls Tryz.prog 18 #[.slice A n cap, .slice B m capb] w (PlayP n rs xs w)) := fun w hw => played_any A n cap rs B m capb xs w (hs.ex0 hw) (fun b hb => Nat.lt_of_lt_of_le (hA b hb) hw.size) (ha.ex0 hw) hx
  have HOK := Lib.hid hx
  obtain ⟨q0, rfl, g0⟩ := hpa
  obtain ⟨q1, rfl, g1⟩ := hbk
  obtain ⟨q2, rfl, g2⟩ := hvl
  obtain ⟨q3, rfl, g3⟩ := hbl
  have pe : ((q0 : Nat) : Int).tmod 5 = ((q0 % 5 : Nat) : Int) := by rw [Int.tmod_eq_emod_of_nonneg (by omega)]; omega
  have pf : IntKind.i64.wrap (q0 : Int) = q0 := by rw [IntKind.wrap_i64]; omega
  have pk : IntKind.i64.wrap ((q0 % 5 : Nat) : Int) = ((q0 % 5 : Nat) : Int) := by rw [IntKind.wrap_i64]; omega
  have pr : 0 ≤ ((q0 % 5 : Nat) : Int) ∧ ((q0 % 5 : Nat) : Int) < 5 := by omega
  obtain ⟨p, pq⟩ : ∃ p : Int, ((q0 % 5 : Nat) : Int) = p := ⟨_, rfl⟩
  rw [pq] at pe pk pr
  clear pq
  have ve : ((q2 : Nat) : Int).tmod 2 = ((q2 % 2 : Nat) : Int) := by rw [Int.tmod_eq_emod_of_nonneg (by omega)]; omega
  have vf : IntKind.i64.wrap (q2 : Int) = q2 := by rw [IntKind.wrap_i64]; omega
  have vk : IntKind.i64.wrap ((q2 % 2 : Nat) : Int) = ((q2 % 2 : Nat) : Int) := by rw [IntKind.wrap_i64]; omega
  have vr : 0 ≤ ((q2 % 2 : Nat) : Int) ∧ ((q2 % 2 : Nat) : Int) < 2 := by omega
  obtain ⟨v, vq⟩ : ∃ v : Int, ((q2 % 2 : Nat) : Int) = v := ⟨_, rfl⟩
  rw [vq] at ve vk vr
  clear vq
  have be : ((q3 : Nat) : Int).tmod 2 = ((q3 % 2 : Nat) : Int) := by rw [Int.tmod_eq_emod_of_nonneg (by omega)]; omega
  have bf : IntKind.i64.wrap (q3 : Int) = q3 := by rw [IntKind.wrap_i64]; omega
  have bk : IntKind.i64.wrap ((q3 % 2 : Nat) : Int) = ((q3 % 2 : Nat) : Int) := by rw [IntKind.wrap_i64]; omega
  have br : 0 ≤ ((q3 % 2 : Nat) : Int) ∧ ((q3 % 2 : Nat) : Int) < 2 := by omega
  obtain ⟨b, bq⟩ : ∃ b : Int, ((q3 % 2 : Nat) : Int) = b := ⟨_, rfl⟩
  rw [bq] at be bk br
  clear bq
  clear hs hA ha hx
  go_enter Tryz.func7, Tryz.ntmps7
  go_wp2_with fail
  refine (awake_any W).mono ?_
  rintro e w1 ⟨rfl, hx1⟩
  have HX1 := Lib.hid hx1
  clear hx1
  go_wp2_with fail
  refine (HP.out w1 HX1.out).mono ?_
  rintro e w2 ⟨hno, hyes⟩
  cases hlk : lookB n xs.length rs with
  | false =>
    obtain ⟨rfl, hx2⟩ := hno hlk
    have HX2 := Lib.hid (HX1.out.trans0 hx2)
    clear hno hyes hlk hx2
    go_wp2
    go_ret
    exact ⟨rfl, HX2.out.below (Nat.le_refl _) (fun _ h => h.elim)⟩
  | true =>
    obtain ⟨L, D, rfl, hat⟩ := hyes hlk
    have hf := play_facts hln HOK.out hlk
    obtain ⟨s, hs⟩ : ∃ s, playA (s22 rs) xs = s := ⟨_, rfl⟩
    rw [hs] at hat hf
    have HAT := Lib.hid hat
    have HF := Lib.hid hf
    have ht := hf.inv.top
    have ht2 := hf.top
    clear hno hyes hlk hat hf hs
    have HLEN : Hid (s.tab.length ≤ 900) := by have := HF.out.len; show _ ≤ _; omega
    have HTH : Hid (s.there v b = true) := there_two HF.out.vols HF.out.blocks vr br
    have c3 : w2.cell? ⟨D.p, 3, none⟩ = some (.int .u64 s.top) := HAT.out.d.cell rfl
    have hlp : D.p < w2.heap.size := HAT.out.d.lt
    go_wp2_with fail
    refine (below_any s.top q1 g1 ht w2).mono ?_
    rintro e w3 ⟨rfl, hw⟩
    rw [hw]
    clear hw w3
    obtain ⟨m, hm⟩ : ∃ m, belowN s.top q1 = m := ⟨_, rfl⟩
    rw [hm]
    clear hm c3 hlp
    go_wp2_with fail
    refine (treadA L s p m v b w2 HAT.out.l HF.out.inv HLEN.out).mono ?_
    rintro e w3 ⟨rfl, hx3⟩
    have HRL := Lib.hid (readD_len HF.out.inv p m v b)
    obtain ⟨d, hd⟩ : ∃ d, s.readD p m v b = d := ⟨_, rfl⟩
    have HD := Lib.hid hd
    rw [hd] at HRL ⊢
    have HEQ := Lib.hid (fun w => eql_blkA d d HRL.out HRL.out w)
    rw [decide_eq_true rfl] at HEQ
    have HDL : Hid ((blkA d).size = 32) := blkA_len d
    have HDO : Hid (∀ zz ∈ blkA d, zz.oneCell' = true) := blkA_one d
    obtain ⟨DA, hDA⟩ : ∃ DA, blkA d = DA := ⟨_, rfl⟩
    have HDA := Lib.hid hDA
    rw [hDA] at HDL HDO HEQ ⊢
    have H3 := Lib.hid (HAT.out.ex0 hx3)
    clear hx3 hd hDA
    go_wp2_with (refine wpList_store_all rfl 49 (.tmp 18) (.tmp 59) rfl w3.heap.size rfl DA _ rfl 49 (heap_alloc_new _ _) (by rw [HDL.out]; rfl) HDO.out (by rw [HDL.out]; kernel_rfl) ?_; rw [World.setRow_alloc_new]; have HXw4 : Hid (Ex0 w3 (w3.alloc (.cells DA 49))) := Ex.alloc _ _; have HBw4 : Hid ((w3.alloc (.cells DA 49)).heap[w3.heap.size]? = some (.cells DA 49 (0, 0))) := heap_alloc_new _ _; obtain ⟨w4, hw4⟩ : ∃ w4, w3.alloc (.cells DA 49) = w4 := ⟨_, rfl⟩; rw [hw4] at HXw4 HBw4 ⊢; clear hw4)
    have H4 := Lib.hid (H3.out.ex0 HXw4.out)
    have hnF : ¬ L.F w3.heap.size := fun h => by have := H3.out.l.inF _ h; omega
    have HBL : Hid (w3.heap.size < w4.heap.size) := (Array.getElem?_eq_some_iff.1 HBw4.out).1
    refine (tfork_any L s p m w4 H4.out.l HF.out.inv).mono ?_
    rintro e w5 ⟨rfl, hop⟩
    have HB5 : Hid (w5.heap[w3.heap.size]? = some (.cells DA 49 (0, 0))) := by
      obtain ⟨_, _, _, hx, _⟩ := hop
      exact (hx.block _ HBL.out hnF).trans HBw4.out
    obtain ⟨L1, hp1, h5⟩ := H4.out.left hop
    have H5 := Lib.hid h5
    rw [← hp1]
    clear hop h5 hp1 hnF HXw4 HBw4 H3 H4
    by_cases hfe : s.forkE p m = 0
    · have HFE := Lib.hid hfe
      have hre := fork_readE HF.out.inv hfe HTH.out
      rw [hfe, hre]
      clear hfe hre
      go_wp2_with fail
      have HI1 := Lib.hid (inv_fork HF.out.inv p m)
      have HL1 : Hid ((s.fork p m).tab.length ≤ 900) := by show _ ≤ _; rw [fork_eq HFE.out]; exact HLEN.out
      refine (twrite_any L1 (s.fork p m) p v b d77 w5 H5.out.l HI1.out HL1.out).mono ?_
      rintro e w6 ⟨rfl, hop⟩
      have hnF : ¬ L1.F w3.heap.size := fun h => by
        have h2 := HB5.out
        have h3 := H5.out.l.tys
        have h4 : Ty w5 w3.heap.size 49 := ⟨_, _, h2⟩
        exact (inF_not H5.out.l h4 (by decide) (by decide) (by decide) (by decide) (by decide) (by decide) (by decide)) h
      have HB6 : Hid (w6.heap[w3.heap.size]? = some (.cells DA 49 (0, 0))) := by
        obtain ⟨_, _, _, hx, _⟩ := hop
        exact (hx.block _ (Array.getElem?_eq_some_iff.1 HB5.out).1 hnF).trans HB5.out
      obtain ⟨L2, hp2, h6⟩ := H5.out.left hop
      have H6 := Lib.hid h6
      rw [← hp2]
      clear hop h6 hp2 hnF HB5 H5
      by_cases hwe : (s.fork p m).writeE p v b = 0
      · obtain ⟨hr1, hr2, hr3, hr4⟩ := fork_shows HF.out.inv HLEN.out d77_ok HFE.out hwe
        rw [hwe, hr4]
        have HR1 := Lib.hid hr1
        have HR2 := Lib.hid hr2
        have HI2 := Lib.hid (inv_write HI1.out HL1.out p v b d77 d77_ok)
        have HL2 : Hid (((s.fork p m).write p v b d77).tab.length ≤ 900) := by show _ ≤ _; rw [write_eq hwe, fork_eq HFE.out]; have := HF.out.len; simp; omega
        obtain ⟨ii, hii⟩ : ∃ ii, s.forkI p m = ii := ⟨_, rfl⟩
        rw [hii] at hr3 HR1 HR2 ⊢
        obtain ⟨s2, hs2⟩ : ∃ s2, (s.fork p m).write p v b d77 = s2 := ⟨_, rfl⟩
        rw [hs2] at HR1 HR2 HI2 HL2 H6
        have hi3 : decide (0 < ii) = true := decide_eq_true hr3
        have et : IntKind.u64.wrap (s.top + 2) = s.top + 2 := by rw [IntKind.wrap_u64]; omega
        clear hwe hr1 hr2 hr4 hii hs2
        go_wp2_with fail
        refine (treadA L2 s2 ii (s.top + 2) v b w6 H6.out.l HI2.out HL2.out).mono ?_
        rintro e w7 ⟨rfl, hx7⟩
        have HB7 : Hid (w7.heap[w3.heap.size]? = some (.cells DA 49 (0, 0))) := (hx7.block _ (Array.getElem?_eq_some_iff.1 HB6.out).1 not_false).trans HB6.out
        have H7 := Lib.hid (H6.out.ex0 hx7)
        rw [HR1.out, HR2.out, HD.out, HDA.out]
        clear hx7 HB6 H6
        go_wp2_with (first | (refine wpList_store_all rfl 49 (.tmp 24) (.tmp 112) rfl w7.heap.size rfl DA _ rfl 49 (heap_alloc_new _ _) (by rw [HDL.out]; rfl) HDO.out (by rw [HDL.out]; kernel_rfl) ?_; rw [World.setRow_alloc_new]; have HXw8 : Hid (Ex0 w7 (w7.alloc (.cells DA 49))) := Ex.alloc _ _; have HBw8 : Hid ((w7.alloc (.cells DA 49)).heap[w7.heap.size]? = some (.cells DA 49 (0, 0))) := heap_alloc_new _ _; obtain ⟨w8, hw8⟩ : ∃ w8, w7.alloc (.cells DA 49) = w8 := ⟨_, rfl⟩; rw [hw8] at HXw8 HBw8 ⊢; clear hw8; have HB8 : Hid (w8.heap[w3.heap.size]? = some (.cells DA 49 (0, 0))) := (HXw8.out.block _ (Array.getElem?_eq_some_iff.1 HB7.out).1 not_false).trans HB7.out; have c3 : w8.cell? ⟨D.p, 3, none⟩ = some (.int .u64 s.top) := (H7.out.ex0 HXw8.out).d.cell rfl; have hlp : D.p < w8.heap.size := (H7.out.ex0 HXw8.out).d.lt; have heq := HEQ.out; have hg2 := eqg_blk) | refine wpList_load_row_g (by rfl) 49 (.tmp 24) rfl w7.heap.size rfl 49 DA (0, 0) _ HBw8.out Tryz.underlying49 rfl (by rw [HDL.out]; kernel_rfl) ?_ | refine wpList_load_row_g (by rfl) 49 (.tmp 18) rfl w3.heap.size rfl 49 DA (0, 0) _ HB8.out Tryz.underlying49 rfl (by rw [HDL.out]; kernel_rfl) ?_)
        go_ret
        exact ⟨rfl, (HX1.out.trans0 (H7.out.ex0 HXw8.out).x).below (Nat.le_refl _) (fun _ h => h.elim)⟩
      · have HFU := Lib.hid (fork_full HF.out.inv HFE.out HTH.out hwe)
        have hwb : ((s.fork p m).writeE p v b != 0) = true := by simpa using hwe
        have hws := write_ne (d := d77) hwe
        rw [hws] at H6
        have HW := Lib.hid hwe
        clear hwe hws
        go_wp2_with fail
        refine (top_any L2 (s.fork p m) w6 H6.out.l).mono ?_
        rintro e w7 ⟨rfl, hw⟩
        rw [hw, HFU.out]
        clear hw w7
        go_wp2
        go_ret
        exact ⟨rfl, (HX1.out.trans0 H6.out.x).below (Nat.le_refl _) (fun _ h => h.elim)⟩
    · have hfi : s.forkI p m = 0 := if_neg hfe
      have hfs : s.fork p m = s := if_neg hfe
      have hfb : (s.forkE p m != 0) = true := by simpa using hfe
      rw [hfs] at H5
      rw [hfi]
      clear hfi hfs
      go_wp2_with fail
      have H6 : Hid (At2 w1 w5.drew L1 D s s) := H5.out.ex0 (Ex.drew w5)
      have hS : (fun w' : World => w'.cell? ⟨D.p, 3, none⟩ = some (.int .u64 s.top) ∧ D.p < w'.heap.size) w5.drew := ⟨H6.out.d.cell rfl, H6.out.d.lt⟩
      refine wp_region_takes (fun w' : World => w'.cell? ⟨D.p, 3, none⟩ = some (.int .u64 s.top) ∧ D.p < w'.heap.size) (by kernel_rfl) ?_
      simp only [List.length_cons, List.length_nil]
      generalize w5.drew = wd at *
      refine' wpAnyH_do 0 rfl (by kernel_rfl) (fun _ _ _ _ h => h) (by rfl) (by assumption) ⟨_, fun w' hS => ?_, ?_⟩
      rotate_left
      · ((try dsimp only at hS); go_split_ands; go_simp; try (with_reducible rfl))
      simp only [Act.put, List.setIfInBounds_toArray, List.set_cons_zero, List.set_cons_succ]
      refine' wpAnyH_do 1 rfl (by kernel_rfl) (fun _ _ _ _ h => h) (by rfl) (by assumption) ⟨_, fun w' hS => ?_, ?_⟩
      rotate_left
      · ((try dsimp only at hS); go_split_ands; go_simp; try (with_reducible rfl))
      simp only [Act.put, List.setIfInBounds_toArray, List.set_cons_zero, List.set_cons_succ]
      refine' wpAnyH_do 2 rfl (by kernel_rfl) (fun _ _ _ _ h => h) (by rfl) (by assumption) ⟨_, fun w' hS => ?_, ?_⟩
      rotate_left
      · ((try dsimp only at hS); go_split_ands; go_simp; try (with_reducible rfl))
      simp only [Act.put, List.setIfInBounds_toArray, List.set_cons_zero, List.set_cons_succ]
      refine' wpAnyH_do 3 rfl (by kernel_rfl) (fun _ _ _ _ h => h) (by rfl) (by assumption) ⟨_, fun w' hS => ?_, ?_⟩
      rotate_left
      · ((try dsimp only at hS); go_split_ands; go_simp; try (with_reducible rfl))
      simp only [Act.put, List.setIfInBounds_toArray, List.set_cons_zero, List.set_cons_succ]
      refine' wpAnyH_do 5 rfl (by kernel_rfl) (fun _ _ _ _ h => h) (by rfl) (by assumption) ⟨_, fun w' hS => ?_, ?_⟩
      rotate_left
      · ((try dsimp only at hS); go_split_ands; go_simp; try (with_reducible rfl))
      simp only [Act.put, List.setIfInBounds_toArray, List.set_cons_zero, List.set_cons_succ]
      refine' wpAnyH_do 6 rfl (by kernel_rfl) (fun _ _ _ _ h => h) (by rfl) (by assumption) ⟨_, fun w' hS => ?_, ?_⟩
      rotate_left
      · ((try dsimp only at hS); go_split_ands; go_simp; try (with_reducible rfl))
      simp only [Act.put, List.setIfInBounds_toArray, List.set_cons_zero, List.set_cons_succ]
      refine' wpAnyH_do 7 rfl (by kernel_rfl) (fun _ _ _ _ h => h) (by rfl) (by assumption) ⟨_, fun w' hS => ?_, ?_⟩
      rotate_left
      · ((try dsimp only at hS); go_split_ands; go_simp; try (with_reducible rfl))
      simp only [Act.put, List.setIfInBounds_toArray, List.set_cons_zero, List.set_cons_succ]
      refine' wpAnyH_do 8 rfl (by kernel_rfl) (fun _ _ _ _ h => h) (by rfl) (by assumption) ⟨_, fun w' hS => ?_, ?_⟩
      rotate_left
      · ((try dsimp only at hS); go_split_ands; go_simp; try (with_reducible rfl))
      simp only [Act.put, List.setIfInBounds_toArray, List.set_cons_zero, List.set_cons_succ]
      refine wpAnyH_eff 4 rfl (by kernel_rfl) (by rfl) (fun K hK => ?_)
      have HKK := Lib.hid hK
      clear hK
      go_simp
      refine (top_any L1 s wd H6.out.l).mono ?_
      rintro e w6 ⟨rfl, hw⟩
      rw [hw]
      clear hw w6
      dsimp only
      refine HKK.out _ _ hS ?_
      clear HKK K
      (try simp only [Act.put, List.setIfInBounds_toArray, List.set_cons_zero, List.set_cons_succ])
      refine' wpAnyH_do 9 rfl (by kernel_rfl) (fun _ _ _ _ h => h) (by rfl) (by assumption) ⟨_, fun w' hS => ?_, ?_⟩
      rotate_left
      · ((try dsimp only at hS); go_split_ands; go_simp; try (with_reducible rfl))
      simp only [Act.put, List.setIfInBounds_toArray, List.set_cons_zero, List.set_cons_succ]
      refine' wpAnyH_do 10 rfl (by kernel_rfl) (fun _ _ _ _ h => h) (by rfl) (by assumption) ⟨_, fun w' hS => ?_, ?_⟩
      rotate_left
      · ((try dsimp only at hS); go_split_ands; go_simp; try (with_reducible rfl))
      simp only [Act.put, List.setIfInBounds_toArray, List.set_cons_zero, List.set_cons_succ]
      refine' wpAnyH_do 11 rfl (by kernel_rfl) (fun _ _ _ _ h => h) (by rfl) (by assumption) ⟨_, fun w' hS => ?_, ?_⟩
      rotate_left
      · ((try dsimp only at hS); go_split_ands; go_simp; try (with_reducible rfl))
      simp only [Act.put, List.setIfInBounds_toArray, List.set_cons_zero, List.set_cons_succ]
      refine wpAnyH_done (by kernel_rfl) ?_ _
      go_wp2
      go_ret
      exact ⟨rfl, (HX1.out.trans0 H6.out.x).below (Nat.le_refl _) (fun _ h => h.elim)⟩
end Go.Proofs.YtoglddndicmelaaGreat.Tr
