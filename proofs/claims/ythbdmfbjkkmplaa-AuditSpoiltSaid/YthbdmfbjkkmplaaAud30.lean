/- Contracts of layer 61: audit's leaves. Printed by genaud30.py. -/
import Derived.Test.YthbdmfbjkkmplaaAud29
import Derived.Test.YthbdmfbjkkmplaaB9
namespace Go.Proofs.Ythbdmfbjkkmplaa
open Go.RowKit Go.Proofs.YthbdmfbjkkmplaaB Go.Proofs.Ythbdmfbjkkmplaa.Sha

theorem infoBlock : (Try.prog.info? 24).map (fun i => (i.zero, i.size, i.bytes)) = some (some (.agg (u8s (List.replicate 32 0)).toArray), 32, 32) := by kernel_rfl
theorem block_fold (C : Array Value) (h : C.size = 32) : Array.foldl (fun (cs : Array Value) (x : Value × Nat) => cs.setIfInBounds x.snd x.fst)
      #[.int .u8 0, .int .u8 0, .int .u8 0, .int .u8 0, .int .u8 0, .int .u8 0, .int .u8 0, .int .u8 0, .int .u8 0, .int .u8 0, .int .u8 0, .int .u8 0, .int .u8 0, .int .u8 0, .int .u8 0, .int .u8 0,
        .int .u8 0, .int .u8 0, .int .u8 0, .int .u8 0, .int .u8 0, .int .u8 0, .int .u8 0, .int .u8 0, .int .u8 0, .int .u8 0, .int .u8 0, .int .u8 0, .int .u8 0, .int .u8 0, .int .u8 0, .int .u8 0] C.zipIdx 0 32 = C := by
  rw [fold_lay _ C 32 h.symm (by rw [h]; simp), h]
  apply Array.ext'
  simp

set_option maxRecDepth 100000 in
set_option maxHeartbeats 2000000 in
theorem leaves_any (v n : Nat) (hv : v ≤ 8) (hn : n ≤ 256) (fid : Nat) (cp : Array Value) (f : Nat → List Nat) (hf : ∀ i, (f i).length = 32 ∧ ∀ y ∈ f i, y < 256) (C : Nat → Prop) (I : Nat → World → Prop) (w : World)
    (hC : ∀ b, C b → b < w.heap.size) (hI0 : I 0 w) (hIs : ∀ i w1 w2, I i w1 → Ex (fun b => w.heap.size ≤ b) w1 w2 → I i w2) (he : ∀ args w, (callFunc fid args).run Try.prog w = .ok (.enter fid args) w)
    (hr : ∀ a b, a < v → b < n → ∀ w', I (a * n + b) w' → Calls Try.prog fid (#[.int .i64 a, .int .i64 b] ++ cp) w' fun e w'' => ∃ ok B, e = .returned (.tuple #[.agg (u8s B).toArray, .bool ok]) ∧ (B.length = 32 ∧ ∀ y ∈ B, y < 256) ∧ (if ok then B else z32) = f (a * n + b) ∧ I (a * n + b + 1) w'' ∧ Ex C w' w'') :
    Calls Try.prog 23 #[.int .i64 v, .int .i64 n, .func (.func fid) #[] cp] w fun e w' => ∃ vl vd, e = .returned (.tuple #[vl, vd]) ∧ w'.ownsRow w.heap.size 28 16 vl (v * n) (rowN 16 (leafN f n (v * n))) ∧ w'.ownsRow w.heap.size 24 32 vd (v * n) (rowN 32 ((List.range (v * n)).map f)) ∧ I (v * n) w' ∧ Ex C w w' := by
  obtain ⟨i0, hi0, hz0, hz1, hz2⟩ := info_parts infoSum
  obtain ⟨i1, hi1, hy0, hy1, hy2⟩ := info_parts infoBlock
  have HR := Lib.hid hr
  have HI0 := Lib.hid hI0
  have HCC := Lib.hid hC
  clear hr hI0 hC
  go_enter Try.func23, Try.ntmps23
  go_wp2_with fail
  go_loopw [8, 9, 10, 11, 12, 13, 15] (fun lv dv _ _ _ _ va wr => ∃ (a : Nat) (vl vd : Value), a ≤ v ∧ va = .int .i64 a ∧ vl = lv ∧ vd = dv ∧ wr.ownsRow w.heap.size 28 16 vl (a * n) (rowN 16 (leafN f n (a * n))) ∧ wr.ownsRow w.heap.size 24 32 vd (a * n) (rowN 32 ((List.range (a * n)).map f)) ∧
    (∀ j, vl.ownBlock = some j → ¬ vd.ownBlock = some j) ∧ I (a * n) wr ∧ Ex C w wr) (fun _ _ _ _ _ _ va _ => v - (intOf va).toNat)
  case atStart => exact ⟨0, _, _, by omega, rfl, rfl, rfl, ⟨by simp [rowN, leafN], .inl ⟨rfl, by simp⟩⟩, ⟨by simp [rowN], .inl ⟨rfl, by simp⟩⟩, (fun j h => by cases h), by simpa using HI0.out, Ex.refl _ _⟩
  case round =>
    obtain ⟨a, vl, vd, ha, rfl, rfl, rfl, hol, hod, hdj, hia, hx⟩ := hrel
    have HOL := Lib.hid hol
    have HOD := Lib.hid hod
    have HDJ := Lib.hid hdj
    have HIa := Lib.hid hia
    have HX := Lib.hid hx
    clear hol hod hdj hia hx
    by_cases hlt : a < v
    · have iav : (a : Int) < (v : Int) := by omega
      have hmb := mul_bound hlt hv hn
      obtain ⟨na, hna⟩ : ∃ na, na = a * n := ⟨_, rfl⟩
      rw [← hna] at hmb HOL HOD HIa
      have hnb : na ≤ 2048 := hmb.2
      have HNA := Lib.hid hna
      have ha8 : a < 8 := by omega
      clear hna hmb
      obtain ⟨wo, rfl⟩ : ∃ wo : World, wo = wr := ⟨_, rfl⟩
      go_wp2_with fail
      go_loopw [8, 9, 11, 12, 13, 19] (fun lv dv _ _ _ vb wr => ∃ (b : Nat) (vl vd : Value), b ≤ n ∧ vb = .int .i64 b ∧ vl = lv ∧ vd = dv ∧ wr.ownsRow w.heap.size 28 16 vl (na + b) (rowN 16 (leafN f n (na + b))) ∧ wr.ownsRow w.heap.size 24 32 vd (na + b) (rowN 32 ((List.range (na + b)).map f)) ∧
        (∀ j, vl.ownBlock = some j → ¬ vd.ownBlock = some j) ∧ I (na + b) wr ∧ Ex C w wr) (fun _ _ _ _ _ vb _ => n - (intOf vb).toNat)
      case atStart => exact ⟨0, _, _, by omega, rfl, rfl, rfl, HOL.out, HOD.out, HDJ.out, HIa.out, HX.out⟩
      case round =>
        obtain ⟨b, vl, vd, hb, rfl, rfl, rfl, hol, hod, hdj, hib, hx⟩ := hrel
        have HOL := Lib.hid hol
        have HOD := Lib.hid hod
        have HDJ := Lib.hid hdj
        have HIb := Lib.hid hib
        have HXb := Lib.hid hx
        clear hol hod hdj hib hx
        by_cases hlb : b < n
        · have ibn : (b : Int) < (n : Int) := by omega
          obtain ⟨i, hi⟩ : ∃ i, i = na + b := ⟨_, rfl⟩
          have hib : i ≤ 2304 := by omega
          have HDM := divmod (a := a) hlb
          rw [← HNA.out, ← hi] at HDM
          have HLS : Hid (leafN f n (i + 1) = leafN f n i ++ [leafS a b (f i)]) := by
            show _ = _
            rw [leafN_succ, HDM.1, HDM.2]
          have HCALL := Lib.hid (HR.out a b hlt hlb wr (by rw [← HNA.out]; exact HIb.out))
          rw [← HNA.out, ← hi] at HCALL
          rw [← hi] at HOL HOD
          have HI := Lib.hid (And.intro hi (show na + (b + 1) = i + 1 by omega))
          have hfi := hf i
          have HLF : Hid (∀ w', Calls Try.prog 13 #[.int .i64 a, .int .i64 b, .agg (u8s (f i)).toArray] w' fun e w'' => e = .returned (.agg (u8s (leafS a b (f i))).toArray) ∧ Ex0 w' w'') := fun w' => leaf_any a b (by omega) (by omega) (f i) hfi.1 hfi.2 w'
          obtain ⟨VL, hVL⟩ : ∃ V, V = (u8s (leafS a b (f i))).toArray := ⟨_, rfl⟩
          rw [← hVL] at HLF
          have hvs : VL.size = 16 := by rw [hVL]; simp [u8s_len, leafS_len]
          have H1V : Hid (∀ u ∈ VL.toList, u.oneCell' = true) := by show ∀ u ∈ _, _; rw [hVL]; exact u8s_one _
          have hf16 := sum_fold VL hvs
          have HVL := Lib.hid hVL
          obtain ⟨BV, hBV⟩ : ∃ V, V = (u8s (f i)).toArray := ⟨_, rfl⟩
          rw [← hBV] at HLF
          have hbs : BV.size = 32 := by rw [hBV]; simp [u8s_len, hfi.1]
          have H1B' : Hid (∀ u ∈ BV.toList, u.oneCell' = true) := by show ∀ u ∈ _, _; rw [hBV]; exact u8s_one _
          have hf32 := block_fold BV hbs
          have HBV := Lib.hid hBV
          have hHB : Hid (∀ u ∈ BV, u.oneCell' = true) := by show ∀ u ∈ _, _; rw [hBV]; simpa using u8s_one (f i)
          clear hi HDM hVL hBV hfi
          go_wp2_with fail
          refine HCALL.out.mono ?_
          rintro e wA ⟨ok, B, rfl, hBok, hBf, hiA, hxA⟩
          have HIA := Lib.hid hiA
          have HCA : Hid (Ex C w wA) := HXb.out.trans hxA (fun _ _ h => h) (fun _ _ h => h)
          have HOL0 := Lib.hid (own_ex HOL.out hxA (fun j hj hc => by have := (HOL.out.lt j hj).1; have := HCC.out j hc; omega))
          have HOD0 := Lib.hid (own_ex HOD.out hxA (fun j hj hc => by have := (HOD.out.lt j hj).1; have := HCC.out j hc; omega))
          have HBA : Hid (w.heap.size ≤ wA.heap.size) := HCA.out.size
          have HBf := Lib.hid hBf
          obtain ⟨BB, hBB⟩ : ∃ V, V = (u8s B).toArray := ⟨_, rfl⟩
          rw [← hBB]
          have hBBs : BB.size = 32 := by rw [hBB]; simp [u8s_len, hBok.1]
          have H1BB : Hid (∀ u ∈ BB, u.oneCell' = true) := by show ∀ u ∈ _, _; rw [hBB]; simpa using u8s_one B
          have HBB := Lib.hid hBB
          clear hiA hxA hBf hBok hBB HOL HOD
          have HZB : Hid (∀ u ∈ (u8s z32).toArray, u.oneCell' = true) := by show ∀ u ∈ _, _; simpa using u8s_one z32
          have hz32s : (u8s z32).toArray.size = 32 := by simp [u8s_len, z32]
          cases ok
          case' false =>
            have HEQ : Hid ((u8s z32).toArray = BV) := by have := HBf.out; show _ = _; rw [HBV.out, ← this]; rfl
            go_wp2_with (first | (refine wpList_store_all rfl 24 (.tmp 12) (.tmp 27) rfl wA.heap.size rfl BB _ rfl 24 (heap_alloc_new _ _) (by rw [hBBs]; rfl) H1BB.out (by rw [hBBs]; kernel_rfl) ?_; rw [World.setRow_alloc_new]) | (refine wpList_store_all rfl 24 (.tmp 12) (.tmp 31) rfl wA.heap.size rfl (u8s z32).toArray _ rfl 24 (heap_alloc_new _ _) (by rw [hBBs]; rfl) HZB.out (by kernel_rfl) ?_; rw [World.setRow_alloc_new, HEQ.out]))
          case' true =>
            have HEQ : Hid (BB = BV) := by have := HBf.out; show _ = _; rw [HBV.out, HBB.out, ← this]; rfl
            go_wp2_with (refine wpList_store_all rfl 24 (.tmp 12) (.tmp 27) rfl wA.heap.size rfl BB _ rfl 24 (heap_alloc_new _ _) (by rw [hBBs]; rfl) H1BB.out (by rw [hBBs]; kernel_rfl) ?_; rw [World.setRow_alloc_new, HEQ.out])
          all_goals
            obtain ⟨wB, hwB⟩ : ∃ wB, wB = wA.alloc (.cells BV 24) := ⟨_, rfl⟩
            rw [← hwB]
            have hxB : Ex0 wA wB := by rw [hwB]; exact Ex.alloc _ _
            have h12 : wB.heap[wA.heap.size]? = some (.cells BV 24 (0, 0)) := by rw [hwB]; exact heap_alloc_new _ _
            obtain ⟨b12, e12⟩ : ∃ b, b = wA.heap.size := ⟨_, rfl⟩
            rw [← e12] at h12 ⊢
            have HLB : Hid ((∀ j, vl.ownBlock = some j → j < b12) ∧ (∀ j, vd.ownBlock = some j → j < b12)) := ⟨fun j h => by have := (HOL0.out.lt j h).2; omega, fun j h => by have := (HOD0.out.lt j h).2; omega⟩
            have hxD : Ex0 wA wB.drew := hxB.drew'
            have HXB0 : Hid (Ex (fun b => w.heap.size ≤ b) wA wB.drew) := hxD.to (fun _ _ h => h.elim)
            have HOL0 := Lib.hid (own_ex HOL0.out hxD (fun _ _ => id))
            have HOD0 := Lib.hid (own_ex HOD0.out hxD (fun _ _ => id))
            have HLD8 : Hid (∀ (o : Oper) (a : Act) (w' : World), o.op = .load 24 (.tmp 12) → a.eval (.tmp 12) = .pointer (some ⟨b12, 0, none⟩) → w'.heap[b12]? = some (.cells BV 24 (0, 0)) → (execOp a.eval o).run Try.prog w' = .ok (.value (.agg BV)) w') := fun o a w' h1 h2 h3 => exec_load_row 24 (.tmp 12) h1 b12 h2 _ BV _ _ h3 Try.underlying24 rfl (by rw [hbs]; kernel_rfl)
            have hS0 : wB.drew.heap[b12]? = some (.cells BV 24 (0, 0)) := h12
            clear hwB hxB h12 e12 hxD
            refine wp_region_takes (fun w' => w'.heap[b12]? = some (.cells BV 24 (0, 0))) (by kernel_rfl) ?_
            simp only [List.length_cons, List.length_nil]
            generalize wB.drew = wD at *
            refine' wpAnyH_do 0 rfl (by kernel_rfl) (fun _ _ _ _ h => h) (by rfl) (by assumption) ⟨_, fun w' hS => ?_, ?_⟩
            rotate_left
            · ((try dsimp only at hS); go_split_ands; go_simp; try (with_reducible rfl))
            simp only [Act.put, List.setIfInBounds_toArray, List.set_cons_zero, List.set_cons_succ]
            refine' wpAnyH_do 1 rfl (by kernel_rfl) (fun _ _ _ _ h => h) (by rfl) (by assumption) ⟨_, fun w' hS => ?_, ?_⟩
            rotate_left
            · ((try dsimp only at hS); go_split_ands; go_simp; try (with_reducible rfl))
            simp only [Act.put, List.setIfInBounds_toArray, List.set_cons_zero, List.set_cons_succ]
            refine' wpAnyH_do 2 rfl (by kernel_rfl) (fun _ _ _ _ h => h) (by rfl) (by assumption) ⟨_, fun w' hS => ?_, ?_⟩
            rotate_left
            · ((try dsimp only at hS); go_split_ands; go_simp; try (with_reducible rfl))
            simp only [Act.put, List.setIfInBounds_toArray, List.set_cons_zero, List.set_cons_succ]
            refine' wpAnyH_do 3 rfl (by kernel_rfl) (fun _ _ _ _ h => h) (by rfl) (by assumption) ⟨_, fun w' hS => HLD8.out _ _ _ rfl rfl hS, ?_⟩
            simp only [Act.put, List.setIfInBounds_toArray, List.set_cons_zero, List.set_cons_succ]
            refine' wpAnyH_do 7 rfl (by kernel_rfl) (fun _ _ _ _ h => h) (by rfl) (by assumption) ⟨_, fun w' hS => ?_, ?_⟩
            rotate_left
            · ((try dsimp only at hS); go_split_ands; go_simp; try (with_reducible rfl))
            simp only [Act.put, List.setIfInBounds_toArray, List.set_cons_zero, List.set_cons_succ]
            refine' wpAnyH_do 8 rfl (by kernel_rfl) (fun _ _ _ _ h => h) (by rfl) (by assumption) ⟨_, fun w' hS => HLD8.out _ _ _ rfl rfl hS, ?_⟩
            simp only [Act.put, List.setIfInBounds_toArray, List.set_cons_zero, List.set_cons_succ]
            refine wpAnyH_two 4 9 rfl rfl (by kernel_rfl) (by rfl) (by rfl) (fun K hK => ?_) (fun K hK => ?_)
            · have HKK := Lib.hid hK
              clear hK
              go_simp
              refine (HLF.out _).mono ?_
              rintro e wx1 ⟨rfl, hx⟩
              have hS1 := (hx.block _ (Array.getElem?_eq_some_iff.1 hS0).1 not_false).trans hS0
              have HXB1 := Lib.hid (HXB0.out.trans0 hx)
              have HOL1 := Lib.hid (own_ex HOL0.out hx (fun _ _ => id))
              have HOD1 := Lib.hid (own_ex HOD0.out hx (fun _ _ => id))
              clear hx hS0 HXB0 HOL0 HOD0
              dsimp only
              refine HKK.out _ _ hS1 ?_
              clear HKK K
              refine wpAnyH_two 5 9 rfl rfl (by kernel_rfl) (by rfl) (by rfl) (fun K hK => ?_) (fun K hK => ?_)
              · have HKK := Lib.hid hK
                clear hK
                go_simp
                have hx : Ex0 wx1 (wx1.alloc (.cells VL 28)) := Ex.alloc _ _
                have hn : (wx1.alloc (.cells VL 28)).heap[wx1.heap.size]? = some (.cells VL 28 (0, 0)) := heap_alloc_new _ _
                have hS2 := (hx.block _ (Array.getElem?_eq_some_iff.1 hS1).1 not_false).trans hS1
                have HXB2 := Lib.hid (HXB1.out.trans0 hx)
                have HOL2 := Lib.hid (own_ex HOL1.out hx (fun _ _ => id))
                have HOD2 := Lib.hid (own_ex HOD1.out hx (fun _ _ => id))
                have hlt12 := (Array.getElem?_eq_some_iff.1 hS1).1
                generalize (wx1.alloc (.cells VL 28)) = wx2 at *
                obtain ⟨b37, e37⟩ : ∃ b, b = wx1.heap.size := ⟨_, rfl⟩
                rw [← e37] at hn ⊢
                have HT372 := Lib.hid hn
                have HB37 : Hid (b12 < b37) := by show b12 < b37; omega
                clear hx hn e37 hlt12 hS1 HXB1 HOL1 HOD1
                refine HKK.out _ _ hS2 ?_
                clear HKK K
                refine wpAnyH_two 6 9 rfl rfl (by kernel_rfl) (by rfl) (by rfl) (fun K hK => ?_) (fun K hK => ?_)
                · have HKK := Lib.hid hK
                  clear hK
                  refine wp_append_sl (.tmp 32) (.tmp 37) 37 rfl w.heap.size 28 i0 _ 16 16 Try.underlying37 hi0 hz0 hz1 hz2 rfl (by decide) vl i _ rfl HOL2.out (some ⟨b37, 0, none⟩) 1 1 VL.toList rfl (sl_block HT372.out (by simp [hvs]) (by decide)) (fun h => by cases h) H1V.out (by unfold maxLen; omega) (by omega) (by have := HXB2.out.size; have := HBA.out; omega) ?_
                  intro vl2 wx3 ho hg hb
                  have hxg : Ex (fun b => vl.ownBlock = some b) wx2 wx3 := Ex.ofGrown hg
                  have hS3 := (hxg.block b12 (Array.getElem?_eq_some_iff.1 hS2).1 (fun h => by have := HLB.out.1 b12 h; omega)).trans hS2
                  have HXB3 : Hid (Ex (fun b => w.heap.size ≤ b) wA wx3) := HXB2.out.trans hxg (fun _ _ h => h) (fun j _ h => (HOL2.out.lt j h).1)
                  have HOL3 := Lib.hid ho
                  have HOD3 := Lib.hid (own_ex HOD2.out hxg (fun j hj h => HDJ.out j h hj))
                  have HDJ2 : Hid (∀ j, vd.ownBlock = some j → ¬ vl2.ownBlock = some j) := by
                    intro j hj h
                    rcases hb with hb | hb
                    · rw [hb] at h; exact HDJ.out j h hj
                    · rw [hb] at h; have h1 := HLB.out.2 j hj; have h2 := (Array.getElem?_eq_some_iff.1 hS2).1; simp at h; omega
                  clear hxg ho hg hb hS2 HXB2 HOL2 HOD2 HT372
                  refine HKK.out _ _ hS3 ?_
                  clear HKK K
                  simp only [Act.put, List.setIfInBounds_toArray, List.set_cons_zero, List.set_cons_succ]
                  refine wpAnyH_eff 9 rfl (by kernel_rfl) (by rfl) (fun K hK => ?_)
                  have HKK := Lib.hid hK
                  clear hK
                  go_simp
                  have hx : Ex0 wx3 (wx3.alloc (.cells BV 24)) := Ex.alloc _ _
                  have hn : (wx3.alloc (.cells BV 24)).heap[wx3.heap.size]? = some (.cells BV 24 (0, 0)) := heap_alloc_new _ _
                  have hS4 := (hx.block _ (Array.getElem?_eq_some_iff.1 hS3).1 not_false).trans hS3
                  have HXB4 := Lib.hid (HXB3.out.trans0 hx)
                  have HOL4 := Lib.hid (own_ex HOL3.out hx (fun _ _ => id))
                  have HOD4 := Lib.hid (own_ex HOD3.out hx (fun _ _ => id))
                  have hlt12 := (Array.getElem?_eq_some_iff.1 hS3).1
                  generalize (wx3.alloc (.cells BV 24)) = wx4 at *
                  obtain ⟨b41, e41⟩ : ∃ b, b = wx3.heap.size := ⟨_, rfl⟩
                  rw [← e41] at hn ⊢
                  have HT414 := Lib.hid hn
                  have HB41 : Hid (b12 < b41) := by show b12 < b41; omega
                  clear hx hn e41 hlt12 hS3 HXB3 HOL3 HOD3
                  refine HKK.out _ _ hS4 ?_
                  clear HKK K
                  refine wpAnyH_eff 10 rfl (by kernel_rfl) (by rfl) (fun K hK => ?_)
                  have HKK := Lib.hid hK
                  clear hK
                  refine wp_append_sl (.tmp 39) (.tmp 41) 22 rfl w.heap.size 24 i1 _ 32 32 Try.underlying22 hi1 hy0 hy1 hy2 rfl (by decide) vd i _ rfl HOD4.out (some ⟨b41, 0, none⟩) 1 1 BV.toList rfl (sl_block HT414.out (by simp [hbs]) (by decide)) (fun h => by cases h) H1B'.out (by unfold maxLen; omega) (by omega) (by have := HXB4.out.size; have := HBA.out; omega) ?_
                  intro vd2 wx5 ho hg hb
                  have hxg : Ex (fun b => vd.ownBlock = some b) wx4 wx5 := Ex.ofGrown hg
                  have hS5 := (hxg.block b12 (Array.getElem?_eq_some_iff.1 hS4).1 (fun h => by have := HLB.out.2 b12 h; omega)).trans hS4
                  have HXBE : Hid (Ex (fun b => w.heap.size ≤ b) wA wx5) := HXB4.out.trans hxg (fun _ _ h => h) (fun j _ h => (HOD4.out.lt j h).1)
                  have HODE := Lib.hid ho
                  have HOLE := Lib.hid (own_ex HOL4.out hxg (fun j hj h => HDJ2.out j h hj))
                  have HDJE : Hid (∀ j, vl2.ownBlock = some j → ¬ vd2.ownBlock = some j) := by
                    intro j hj h
                    rcases hb with hb | hb
                    · rw [hb] at h; exact HDJ2.out j h hj
                    · rw [hb] at h; have h1 := (HOL4.out.lt j hj).2; simp at h; omega
                  clear hxg ho hg hb hS4 HXB4 HOL4 HOD4 HT414
                  refine HKK.out _ _ hS5 ?_
                  clear HKK K
                  simp only [Act.put, List.setIfInBounds_toArray, List.set_cons_zero, List.set_cons_succ]
                  refine' wpAnyH_do 11 rfl (by kernel_rfl) (fun _ _ _ _ h => h) (by rfl) (by assumption) ⟨_, fun w' hS => ?_, ?_⟩
                  rotate_left
                  · ((try dsimp only at hS); go_split_ands; go_simp; try (with_reducible rfl))
                  simp only [Act.put, List.setIfInBounds_toArray, List.set_cons_zero, List.set_cons_succ]
                  refine' wpAnyH_do 12 rfl (by kernel_rfl) (fun _ _ _ _ h => h) (by rfl) (by assumption) ⟨_, fun w' hS => ?_, ?_⟩
                  rotate_left
                  · ((try dsimp only at hS); go_split_ands; go_simp; try (with_reducible rfl))
                  simp only [Act.put, List.setIfInBounds_toArray, List.set_cons_zero, List.set_cons_succ]
                  refine wpAnyH_done (by kernel_rfl) ?_ _
                  clear hS5
                  go_wp2_with fail
                  go_roundw
                  case rel =>
                    refine ⟨b + 1, _, _, by omega, by go_num, rfl, rfl, ?_, ?_, HDJE.out, ?_, ?_⟩
                    · rw [HI.out.2, HLS.out, rowN_append, rowN_single, encN_eq (leafS_len _ _ _), show u8s (leafS a b (f i)) = VL.toList by rw [HVL.out]]; exact HOLE.out
                    · rw [HI.out.2, List.range_succ, List.map_append, rowN_append, List.map_singleton, rowN_single, encN_eq (hf i).1, show u8s (f i) = BV.toList by rw [HBV.out]]; exact HODE.out
                    · rw [HI.out.2]; exact hIs _ _ _ HIA.out HXBE.out
                    · exact HCA.out.trans HXBE.out (fun _ _ h => h) (fun j hj h => by omega)
                  case measure => simp [intOf]; omega
                · have HKK := Lib.hid hK
                  clear hK
                  go_simp
                  have hx : Ex0 wx2 (wx2.alloc (.cells BV 24)) := Ex.alloc _ _
                  have hn : (wx2.alloc (.cells BV 24)).heap[wx2.heap.size]? = some (.cells BV 24 (0, 0)) := heap_alloc_new _ _
                  have hS6 := (hx.block _ (Array.getElem?_eq_some_iff.1 hS2).1 not_false).trans hS2
                  have HXB6 := Lib.hid (HXB2.out.trans0 hx)
                  have HOL6 := Lib.hid (own_ex HOL2.out hx (fun _ _ => id))
                  have HOD6 := Lib.hid (own_ex HOD2.out hx (fun _ _ => id))
                  have HT376 := Lib.hid ((hx.block _ (Array.getElem?_eq_some_iff.1 HT372.out).1 not_false).trans HT372.out)
                  have hlt12 := (Array.getElem?_eq_some_iff.1 hS2).1
                  generalize (wx2.alloc (.cells BV 24)) = wx6 at *
                  obtain ⟨b41, e41⟩ : ∃ b, b = wx2.heap.size := ⟨_, rfl⟩
                  rw [← e41] at hn ⊢
                  have HT416 := Lib.hid hn
                  have HB41 : Hid (b12 < b41) := by show b12 < b41; omega
                  clear hx hn e41 hlt12 hS2 HXB2 HOL2 HOD2 HT372
                  refine HKK.out _ _ hS6 ?_
                  clear HKK K
                  refine wpAnyH_eff 6 rfl (by kernel_rfl) (by rfl) (fun K hK => ?_)
                  have HKK := Lib.hid hK
                  clear hK
                  refine wp_append_sl (.tmp 32) (.tmp 37) 37 rfl w.heap.size 28 i0 _ 16 16 Try.underlying37 hi0 hz0 hz1 hz2 rfl (by decide) vl i _ rfl HOL6.out (some ⟨b37, 0, none⟩) 1 1 VL.toList rfl (sl_block HT376.out (by simp [hvs]) (by decide)) (fun h => by cases h) H1V.out (by unfold maxLen; omega) (by omega) (by have := HXB6.out.size; have := HBA.out; omega) ?_
                  intro vl2 wx7 ho hg hb
                  have hxg : Ex (fun b => vl.ownBlock = some b) wx6 wx7 := Ex.ofGrown hg
                  have hS7 := (hxg.block b12 (Array.getElem?_eq_some_iff.1 hS6).1 (fun h => by have := HLB.out.1 b12 h; omega)).trans hS6
                  have HXB7 : Hid (Ex (fun b => w.heap.size ≤ b) wA wx7) := HXB6.out.trans hxg (fun _ _ h => h) (fun j _ h => (HOL6.out.lt j h).1)
                  have HOL7 := Lib.hid ho
                  have HOD7 := Lib.hid (own_ex HOD6.out hxg (fun j hj h => HDJ.out j h hj))
                  have HDJ2 : Hid (∀ j, vd.ownBlock = some j → ¬ vl2.ownBlock = some j) := by
                    intro j hj h
                    rcases hb with hb | hb
                    · rw [hb] at h; exact HDJ.out j h hj
                    · rw [hb] at h; have h1 := HLB.out.2 j hj; have h2 := (Array.getElem?_eq_some_iff.1 hS6).1; simp at h; omega
                  have HT417 := Lib.hid ((hxg.block b41 (Array.getElem?_eq_some_iff.1 HT416.out).1 (fun h => by have := HLB.out.1 b41 h; have := HB41.out; omega)).trans HT416.out)
                  clear hxg ho hg hb hS6 HXB6 HOL6 HOD6 HT376 HT416
                  refine HKK.out _ _ hS7 ?_
                  clear HKK K
                  simp only [Act.put, List.setIfInBounds_toArray, List.set_cons_zero, List.set_cons_succ]
                  refine wpAnyH_eff 10 rfl (by kernel_rfl) (by rfl) (fun K hK => ?_)
                  have HKK := Lib.hid hK
                  clear hK
                  refine wp_append_sl (.tmp 39) (.tmp 41) 22 rfl w.heap.size 24 i1 _ 32 32 Try.underlying22 hi1 hy0 hy1 hy2 rfl (by decide) vd i _ rfl HOD7.out (some ⟨b41, 0, none⟩) 1 1 BV.toList rfl (sl_block HT417.out (by simp [hbs]) (by decide)) (fun h => by cases h) H1B'.out (by unfold maxLen; omega) (by omega) (by have := HXB7.out.size; have := HBA.out; omega) ?_
                  intro vd2 wx8 ho hg hb
                  have hxg : Ex (fun b => vd.ownBlock = some b) wx7 wx8 := Ex.ofGrown hg
                  have hS8 := (hxg.block b12 (Array.getElem?_eq_some_iff.1 hS7).1 (fun h => by have := HLB.out.2 b12 h; omega)).trans hS7
                  have HXBE : Hid (Ex (fun b => w.heap.size ≤ b) wA wx8) := HXB7.out.trans hxg (fun _ _ h => h) (fun j _ h => (HOD7.out.lt j h).1)
                  have HODE := Lib.hid ho
                  have HOLE := Lib.hid (own_ex HOL7.out hxg (fun j hj h => HDJ2.out j h hj))
                  have HDJE : Hid (∀ j, vl2.ownBlock = some j → ¬ vd2.ownBlock = some j) := by
                    intro j hj h
                    rcases hb with hb | hb
                    · rw [hb] at h; exact HDJ2.out j h hj
                    · rw [hb] at h; have h1 := (HOL7.out.lt j hj).2; simp at h; omega
                  clear hxg ho hg hb hS7 HXB7 HOL7 HOD7 HT417
                  refine HKK.out _ _ hS8 ?_
                  clear HKK K
                  simp only [Act.put, List.setIfInBounds_toArray, List.set_cons_zero, List.set_cons_succ]
                  refine' wpAnyH_do 11 rfl (by kernel_rfl) (fun _ _ _ _ h => h) (by rfl) (by assumption) ⟨_, fun w' hS => ?_, ?_⟩
                  rotate_left
                  · ((try dsimp only at hS); go_split_ands; go_simp; try (with_reducible rfl))
                  simp only [Act.put, List.setIfInBounds_toArray, List.set_cons_zero, List.set_cons_succ]
                  refine' wpAnyH_do 12 rfl (by kernel_rfl) (fun _ _ _ _ h => h) (by rfl) (by assumption) ⟨_, fun w' hS => ?_, ?_⟩
                  rotate_left
                  · ((try dsimp only at hS); go_split_ands; go_simp; try (with_reducible rfl))
                  simp only [Act.put, List.setIfInBounds_toArray, List.set_cons_zero, List.set_cons_succ]
                  refine wpAnyH_done (by kernel_rfl) ?_ _
                  clear hS8
                  go_wp2_with fail
                  go_roundw
                  case rel =>
                    refine ⟨b + 1, _, _, by omega, by go_num, rfl, rfl, ?_, ?_, HDJE.out, ?_, ?_⟩
                    · rw [HI.out.2, HLS.out, rowN_append, rowN_single, encN_eq (leafS_len _ _ _), show u8s (leafS a b (f i)) = VL.toList by rw [HVL.out]]; exact HOLE.out
                    · rw [HI.out.2, List.range_succ, List.map_append, rowN_append, List.map_singleton, rowN_single, encN_eq (hf i).1, show u8s (f i) = BV.toList by rw [HBV.out]]; exact HODE.out
                    · rw [HI.out.2]; exact hIs _ _ _ HIA.out HXBE.out
                    · exact HCA.out.trans HXBE.out (fun _ _ h => h) (fun j hj h => by omega)
                  case measure => simp [intOf]; omega
              · have HKK := Lib.hid hK
                clear hK
                go_simp
                have hx : Ex0 wx1 (wx1.alloc (.cells BV 24)) := Ex.alloc _ _
                have hn : (wx1.alloc (.cells BV 24)).heap[wx1.heap.size]? = some (.cells BV 24 (0, 0)) := heap_alloc_new _ _
                have hS9 := (hx.block _ (Array.getElem?_eq_some_iff.1 hS1).1 not_false).trans hS1
                have HXB9 := Lib.hid (HXB1.out.trans0 hx)
                have HOL9 := Lib.hid (own_ex HOL1.out hx (fun _ _ => id))
                have HOD9 := Lib.hid (own_ex HOD1.out hx (fun _ _ => id))
                have hlt12 := (Array.getElem?_eq_some_iff.1 hS1).1
                generalize (wx1.alloc (.cells BV 24)) = wx9 at *
                obtain ⟨b41, e41⟩ : ∃ b, b = wx1.heap.size := ⟨_, rfl⟩
                rw [← e41] at hn ⊢
                have HT419 := Lib.hid hn
                have HB41 : Hid (b12 < b41) := by show b12 < b41; omega
                clear hx hn e41 hlt12 hS1 HXB1 HOL1 HOD1
                refine HKK.out _ _ hS9 ?_
                clear HKK K
                refine wpAnyH_eff 5 rfl (by kernel_rfl) (by rfl) (fun K hK => ?_)
                have HKK := Lib.hid hK
                clear hK
                go_simp
                have hx : Ex0 wx9 (wx9.alloc (.cells VL 28)) := Ex.alloc _ _
                have hn : (wx9.alloc (.cells VL 28)).heap[wx9.heap.size]? = some (.cells VL 28 (0, 0)) := heap_alloc_new _ _
                have hS10 := (hx.block _ (Array.getElem?_eq_some_iff.1 hS9).1 not_false).trans hS9
                have HXB10 := Lib.hid (HXB9.out.trans0 hx)
                have HOL10 := Lib.hid (own_ex HOL9.out hx (fun _ _ => id))
                have HOD10 := Lib.hid (own_ex HOD9.out hx (fun _ _ => id))
                have HT4110 := Lib.hid ((hx.block _ (Array.getElem?_eq_some_iff.1 HT419.out).1 not_false).trans HT419.out)
                have hlt12 := (Array.getElem?_eq_some_iff.1 hS9).1
                generalize (wx9.alloc (.cells VL 28)) = wx10 at *
                obtain ⟨b37, e37⟩ : ∃ b, b = wx9.heap.size := ⟨_, rfl⟩
                rw [← e37] at hn ⊢
                have HT3710 := Lib.hid hn
                have HB37 : Hid (b12 < b37) := by show b12 < b37; omega
                clear hx hn e37 hlt12 hS9 HXB9 HOL9 HOD9 HT419
                refine HKK.out _ _ hS10 ?_
                clear HKK K
                refine wpAnyH_eff 6 rfl (by kernel_rfl) (by rfl) (fun K hK => ?_)
                have HKK := Lib.hid hK
                clear hK
                refine wp_append_sl (.tmp 32) (.tmp 37) 37 rfl w.heap.size 28 i0 _ 16 16 Try.underlying37 hi0 hz0 hz1 hz2 rfl (by decide) vl i _ rfl HOL10.out (some ⟨b37, 0, none⟩) 1 1 VL.toList rfl (sl_block HT3710.out (by simp [hvs]) (by decide)) (fun h => by cases h) H1V.out (by unfold maxLen; omega) (by omega) (by have := HXB10.out.size; have := HBA.out; omega) ?_
                intro vl2 wx11 ho hg hb
                have hxg : Ex (fun b => vl.ownBlock = some b) wx10 wx11 := Ex.ofGrown hg
                have hS11 := (hxg.block b12 (Array.getElem?_eq_some_iff.1 hS10).1 (fun h => by have := HLB.out.1 b12 h; omega)).trans hS10
                have HXB11 : Hid (Ex (fun b => w.heap.size ≤ b) wA wx11) := HXB10.out.trans hxg (fun _ _ h => h) (fun j _ h => (HOL10.out.lt j h).1)
                have HOL11 := Lib.hid ho
                have HOD11 := Lib.hid (own_ex HOD10.out hxg (fun j hj h => HDJ.out j h hj))
                have HDJ2 : Hid (∀ j, vd.ownBlock = some j → ¬ vl2.ownBlock = some j) := by
                  intro j hj h
                  rcases hb with hb | hb
                  · rw [hb] at h; exact HDJ.out j h hj
                  · rw [hb] at h; have h1 := HLB.out.2 j hj; have h2 := (Array.getElem?_eq_some_iff.1 hS10).1; simp at h; omega
                have HT4111 := Lib.hid ((hxg.block b41 (Array.getElem?_eq_some_iff.1 HT4110.out).1 (fun h => by have := HLB.out.1 b41 h; have := HB41.out; omega)).trans HT4110.out)
                clear hxg ho hg hb hS10 HXB10 HOL10 HOD10 HT3710 HT4110
                refine HKK.out _ _ hS11 ?_
                clear HKK K
                simp only [Act.put, List.setIfInBounds_toArray, List.set_cons_zero, List.set_cons_succ]
                refine wpAnyH_eff 10 rfl (by kernel_rfl) (by rfl) (fun K hK => ?_)
                have HKK := Lib.hid hK
                clear hK
                refine wp_append_sl (.tmp 39) (.tmp 41) 22 rfl w.heap.size 24 i1 _ 32 32 Try.underlying22 hi1 hy0 hy1 hy2 rfl (by decide) vd i _ rfl HOD11.out (some ⟨b41, 0, none⟩) 1 1 BV.toList rfl (sl_block HT4111.out (by simp [hbs]) (by decide)) (fun h => by cases h) H1B'.out (by unfold maxLen; omega) (by omega) (by have := HXB11.out.size; have := HBA.out; omega) ?_
                intro vd2 wx12 ho hg hb
                have hxg : Ex (fun b => vd.ownBlock = some b) wx11 wx12 := Ex.ofGrown hg
                have hS12 := (hxg.block b12 (Array.getElem?_eq_some_iff.1 hS11).1 (fun h => by have := HLB.out.2 b12 h; omega)).trans hS11
                have HXBE : Hid (Ex (fun b => w.heap.size ≤ b) wA wx12) := HXB11.out.trans hxg (fun _ _ h => h) (fun j _ h => (HOD11.out.lt j h).1)
                have HODE := Lib.hid ho
                have HOLE := Lib.hid (own_ex HOL11.out hxg (fun j hj h => HDJ2.out j h hj))
                have HDJE : Hid (∀ j, vl2.ownBlock = some j → ¬ vd2.ownBlock = some j) := by
                  intro j hj h
                  rcases hb with hb | hb
                  · rw [hb] at h; exact HDJ2.out j h hj
                  · rw [hb] at h; have h1 := (HOL11.out.lt j hj).2; simp at h; omega
                clear hxg ho hg hb hS11 HXB11 HOL11 HOD11 HT4111
                refine HKK.out _ _ hS12 ?_
                clear HKK K
                simp only [Act.put, List.setIfInBounds_toArray, List.set_cons_zero, List.set_cons_succ]
                refine' wpAnyH_do 11 rfl (by kernel_rfl) (fun _ _ _ _ h => h) (by rfl) (by assumption) ⟨_, fun w' hS => ?_, ?_⟩
                rotate_left
                · ((try dsimp only at hS); go_split_ands; go_simp; try (with_reducible rfl))
                simp only [Act.put, List.setIfInBounds_toArray, List.set_cons_zero, List.set_cons_succ]
                refine' wpAnyH_do 12 rfl (by kernel_rfl) (fun _ _ _ _ h => h) (by rfl) (by assumption) ⟨_, fun w' hS => ?_, ?_⟩
                rotate_left
                · ((try dsimp only at hS); go_split_ands; go_simp; try (with_reducible rfl))
                simp only [Act.put, List.setIfInBounds_toArray, List.set_cons_zero, List.set_cons_succ]
                refine wpAnyH_done (by kernel_rfl) ?_ _
                clear hS12
                go_wp2_with fail
                go_roundw
                case rel =>
                  refine ⟨b + 1, _, _, by omega, by go_num, rfl, rfl, ?_, ?_, HDJE.out, ?_, ?_⟩
                  · rw [HI.out.2, HLS.out, rowN_append, rowN_single, encN_eq (leafS_len _ _ _), show u8s (leafS a b (f i)) = VL.toList by rw [HVL.out]]; exact HOLE.out
                  · rw [HI.out.2, List.range_succ, List.map_append, rowN_append, List.map_singleton, rowN_single, encN_eq (hf i).1, show u8s (f i) = BV.toList by rw [HBV.out]]; exact HODE.out
                  · rw [HI.out.2]; exact hIs _ _ _ HIA.out HXBE.out
                  · exact HCA.out.trans HXBE.out (fun _ _ h => h) (fun j hj h => by omega)
                case measure => simp [intOf]; omega
            · have HKK := Lib.hid hK
              clear hK
              go_simp
              have hx : Ex0 wD (wD.alloc (.cells BV 24)) := Ex.alloc _ _
              have hn : (wD.alloc (.cells BV 24)).heap[wD.heap.size]? = some (.cells BV 24 (0, 0)) := heap_alloc_new _ _
              have hS13 := (hx.block _ (Array.getElem?_eq_some_iff.1 hS0).1 not_false).trans hS0
              have HXB13 := Lib.hid (HXB0.out.trans0 hx)
              have HOL13 := Lib.hid (own_ex HOL0.out hx (fun _ _ => id))
              have HOD13 := Lib.hid (own_ex HOD0.out hx (fun _ _ => id))
              have hlt12 := (Array.getElem?_eq_some_iff.1 hS0).1
              generalize (wD.alloc (.cells BV 24)) = wx13 at *
              obtain ⟨b41, e41⟩ : ∃ b, b = wD.heap.size := ⟨_, rfl⟩
              rw [← e41] at hn ⊢
              have HT4113 := Lib.hid hn
              have HB41 : Hid (b12 < b41) := by show b12 < b41; omega
              clear hx hn e41 hlt12 hS0 HXB0 HOL0 HOD0
              refine HKK.out _ _ hS13 ?_
              clear HKK K
              refine wpAnyH_eff 4 rfl (by kernel_rfl) (by rfl) (fun K hK => ?_)
              have HKK := Lib.hid hK
              clear hK
              go_simp
              refine (HLF.out _).mono ?_
              rintro e wx14 ⟨rfl, hx⟩
              have hS14 := (hx.block _ (Array.getElem?_eq_some_iff.1 hS13).1 not_false).trans hS13
              have HXB14 := Lib.hid (HXB13.out.trans0 hx)
              have HOL14 := Lib.hid (own_ex HOL13.out hx (fun _ _ => id))
              have HOD14 := Lib.hid (own_ex HOD13.out hx (fun _ _ => id))
              have HT4114 := Lib.hid ((hx.block _ (Array.getElem?_eq_some_iff.1 HT4113.out).1 not_false).trans HT4113.out)
              clear hx hS13 HXB13 HOL13 HOD13 HT4113
              dsimp only
              refine HKK.out _ _ hS14 ?_
              clear HKK K
              refine wpAnyH_eff 5 rfl (by kernel_rfl) (by rfl) (fun K hK => ?_)
              have HKK := Lib.hid hK
              clear hK
              go_simp
              have hx : Ex0 wx14 (wx14.alloc (.cells VL 28)) := Ex.alloc _ _
              have hn : (wx14.alloc (.cells VL 28)).heap[wx14.heap.size]? = some (.cells VL 28 (0, 0)) := heap_alloc_new _ _
              have hS15 := (hx.block _ (Array.getElem?_eq_some_iff.1 hS14).1 not_false).trans hS14
              have HXB15 := Lib.hid (HXB14.out.trans0 hx)
              have HOL15 := Lib.hid (own_ex HOL14.out hx (fun _ _ => id))
              have HOD15 := Lib.hid (own_ex HOD14.out hx (fun _ _ => id))
              have HT4115 := Lib.hid ((hx.block _ (Array.getElem?_eq_some_iff.1 HT4114.out).1 not_false).trans HT4114.out)
              have hlt12 := (Array.getElem?_eq_some_iff.1 hS14).1
              generalize (wx14.alloc (.cells VL 28)) = wx15 at *
              obtain ⟨b37, e37⟩ : ∃ b, b = wx14.heap.size := ⟨_, rfl⟩
              rw [← e37] at hn ⊢
              have HT3715 := Lib.hid hn
              have HB37 : Hid (b12 < b37) := by show b12 < b37; omega
              clear hx hn e37 hlt12 hS14 HXB14 HOL14 HOD14 HT4114
              refine HKK.out _ _ hS15 ?_
              clear HKK K
              refine wpAnyH_eff 6 rfl (by kernel_rfl) (by rfl) (fun K hK => ?_)
              have HKK := Lib.hid hK
              clear hK
              refine wp_append_sl (.tmp 32) (.tmp 37) 37 rfl w.heap.size 28 i0 _ 16 16 Try.underlying37 hi0 hz0 hz1 hz2 rfl (by decide) vl i _ rfl HOL15.out (some ⟨b37, 0, none⟩) 1 1 VL.toList rfl (sl_block HT3715.out (by simp [hvs]) (by decide)) (fun h => by cases h) H1V.out (by unfold maxLen; omega) (by omega) (by have := HXB15.out.size; have := HBA.out; omega) ?_
              intro vl2 wx16 ho hg hb
              have hxg : Ex (fun b => vl.ownBlock = some b) wx15 wx16 := Ex.ofGrown hg
              have hS16 := (hxg.block b12 (Array.getElem?_eq_some_iff.1 hS15).1 (fun h => by have := HLB.out.1 b12 h; omega)).trans hS15
              have HXB16 : Hid (Ex (fun b => w.heap.size ≤ b) wA wx16) := HXB15.out.trans hxg (fun _ _ h => h) (fun j _ h => (HOL15.out.lt j h).1)
              have HOL16 := Lib.hid ho
              have HOD16 := Lib.hid (own_ex HOD15.out hxg (fun j hj h => HDJ.out j h hj))
              have HDJ2 : Hid (∀ j, vd.ownBlock = some j → ¬ vl2.ownBlock = some j) := by
                intro j hj h
                rcases hb with hb | hb
                · rw [hb] at h; exact HDJ.out j h hj
                · rw [hb] at h; have h1 := HLB.out.2 j hj; have h2 := (Array.getElem?_eq_some_iff.1 hS15).1; simp at h; omega
              have HT4116 := Lib.hid ((hxg.block b41 (Array.getElem?_eq_some_iff.1 HT4115.out).1 (fun h => by have := HLB.out.1 b41 h; have := HB41.out; omega)).trans HT4115.out)
              clear hxg ho hg hb hS15 HXB15 HOL15 HOD15 HT3715 HT4115
              refine HKK.out _ _ hS16 ?_
              clear HKK K
              simp only [Act.put, List.setIfInBounds_toArray, List.set_cons_zero, List.set_cons_succ]
              refine wpAnyH_eff 10 rfl (by kernel_rfl) (by rfl) (fun K hK => ?_)
              have HKK := Lib.hid hK
              clear hK
              refine wp_append_sl (.tmp 39) (.tmp 41) 22 rfl w.heap.size 24 i1 _ 32 32 Try.underlying22 hi1 hy0 hy1 hy2 rfl (by decide) vd i _ rfl HOD16.out (some ⟨b41, 0, none⟩) 1 1 BV.toList rfl (sl_block HT4116.out (by simp [hbs]) (by decide)) (fun h => by cases h) H1B'.out (by unfold maxLen; omega) (by omega) (by have := HXB16.out.size; have := HBA.out; omega) ?_
              intro vd2 wx17 ho hg hb
              have hxg : Ex (fun b => vd.ownBlock = some b) wx16 wx17 := Ex.ofGrown hg
              have hS17 := (hxg.block b12 (Array.getElem?_eq_some_iff.1 hS16).1 (fun h => by have := HLB.out.2 b12 h; omega)).trans hS16
              have HXBE : Hid (Ex (fun b => w.heap.size ≤ b) wA wx17) := HXB16.out.trans hxg (fun _ _ h => h) (fun j _ h => (HOD16.out.lt j h).1)
              have HODE := Lib.hid ho
              have HOLE := Lib.hid (own_ex HOL16.out hxg (fun j hj h => HDJ2.out j h hj))
              have HDJE : Hid (∀ j, vl2.ownBlock = some j → ¬ vd2.ownBlock = some j) := by
                intro j hj h
                rcases hb with hb | hb
                · rw [hb] at h; exact HDJ2.out j h hj
                · rw [hb] at h; have h1 := (HOL16.out.lt j hj).2; simp at h; omega
              clear hxg ho hg hb hS16 HXB16 HOL16 HOD16 HT4116
              refine HKK.out _ _ hS17 ?_
              clear HKK K
              simp only [Act.put, List.setIfInBounds_toArray, List.set_cons_zero, List.set_cons_succ]
              refine' wpAnyH_do 11 rfl (by kernel_rfl) (fun _ _ _ _ h => h) (by rfl) (by assumption) ⟨_, fun w' hS => ?_, ?_⟩
              rotate_left
              · ((try dsimp only at hS); go_split_ands; go_simp; try (with_reducible rfl))
              simp only [Act.put, List.setIfInBounds_toArray, List.set_cons_zero, List.set_cons_succ]
              refine' wpAnyH_do 12 rfl (by kernel_rfl) (fun _ _ _ _ h => h) (by rfl) (by assumption) ⟨_, fun w' hS => ?_, ?_⟩
              rotate_left
              · ((try dsimp only at hS); go_split_ands; go_simp; try (with_reducible rfl))
              simp only [Act.put, List.setIfInBounds_toArray, List.set_cons_zero, List.set_cons_succ]
              refine wpAnyH_done (by kernel_rfl) ?_ _
              clear hS17
              go_wp2_with fail
              go_roundw
              case rel =>
                refine ⟨b + 1, _, _, by omega, by go_num, rfl, rfl, ?_, ?_, HDJE.out, ?_, ?_⟩
                · rw [HI.out.2, HLS.out, rowN_append, rowN_single, encN_eq (leafS_len _ _ _), show u8s (leafS a b (f i)) = VL.toList by rw [HVL.out]]; exact HOLE.out
                · rw [HI.out.2, List.range_succ, List.map_append, rowN_append, List.map_singleton, rowN_single, encN_eq (hf i).1, show u8s (f i) = BV.toList by rw [HBV.out]]; exact HODE.out
                · rw [HI.out.2]; exact hIs _ _ _ HIA.out HXBE.out
                · exact HCA.out.trans HXBE.out (fun _ _ h => h) (fun j hj h => by omega)
              case measure => simp [intOf]; omega
        · have ibn : ¬ (b : Int) < (n : Int) := by omega
          have HMS : Hid (na + n = (a + 1) * n) := by have := HNA.out; show _ = _; rw [Nat.succ_mul, this]
          go_wp2_with fail
          go_roundw
          case rel =>
            have e : na + b = (a + 1) * n := by rw [show b = n by omega]; exact HMS.out
            refine ⟨a + 1, _, _, by omega, by go_num, rfl, rfl, ?_, ?_, HDJ.out, ?_, HXb.out⟩
            · rw [← e]; exact HOL.out
            · rw [← e]; exact HOD.out
            · rw [← e]; exact HIb.out
          case measure => simp [intOf]; omega
    · have iav : ¬ (a : Int) < (v : Int) := by omega
      go_wp2_with fail
      go_ret2
      have e : a = v := by omega
      subst e
      exact ⟨_, _, rfl, HOL.out, HOD.out, HIa.out, HX.out⟩
end Go.Proofs.Ythbdmfbjkkmplaa
