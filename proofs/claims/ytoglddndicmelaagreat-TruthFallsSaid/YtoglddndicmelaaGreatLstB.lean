/- Layer 54: what is not promised is released (release). Layer 54: Hold. Layer 54: Fork. Layer 54: Write. -/
import Derived.Test.YtoglddndicmelaaGreatLstA
namespace Go.Proofs.YtoglddndicmelaaGreat.Tr
open Go.RowKit Go.Proofs.YtoglddndicmelaaGreatB Go.Proofs.YtoglddndicmelaaGreat Go.Shelf
set_option maxRecDepth 100000
attribute [local go_sem] Oper.semAt_some

/-- is one to be released -/
def relQ (s : TS) (n : Int) : Bool := !Mo.outB n s.tab && !s.has n
theorem outB_mem {l : List Mo.It} (hk : Mo.TabOk l) {x : Mo.It} (hx : x ∈ l) : Mo.outB x.num l = x.out := by
  obtain ⟨i, hi, rfl⟩ := List.getElem_of_mem hx
  unfold Mo.outB
  rw [Mo.lo_of_get hk.srt hi, Mo.gt_get hi, has_mem.2 ⟨_, hx, rfl⟩]; rfl
theorem relNs_pick {s : TS} (h : Inv s) : pickP (relQ s) (s.tab.map Mo.It.pair) = relNs s := by
  rw [pickP_tab]
  unfold relNs
  congr 1
  apply List.filter_congr
  intro x hx
  unfold relQ
  rw [outB_mem h.tab hx]
/-- what holds through the walk -/
structure RelI (w : World) (p : Nat) (s : TS) (pre : List (Int × Int)) (W : World) : Prop where
  b0 : Boxed W w.heap.size 28 (.pointer (some ⟨p, 0, none⟩))
  bl : ∃ v, Boxed W (w.heap.size + 1) 33 v ∧ W.ownsRow (w.heap.size + 3) 31 1 v (pickP (relQ s) pre).length ((pickP (relQ s) pre).map (Value.int .u64))
  bel : Below w.heap.size w W
theorem RelI.kc {w : World} {p : Nat} {s : TS} {pre : List (Int × Int)} {W W' : World} (h : RelI w p s pre W) (hx : Kc0 W W') (hb : Below w.heap.size w W') : RelI w p s pre W' := by
  obtain ⟨v, h1, h2⟩ := h.bl
  exact ⟨boxed_kc h.b0 hx id, ⟨v, boxed_kc h1 hx id, own_kc h2 hx (fun _ _ => id)⟩, hb⟩
/-- another table's row -/
theorem LstAt.table {w w' : World} {L : LstP} {s : TS} (h : LstAt w L s) {tv : Value} {tab : List Mo.It} (hb : Mo.TabAt w' L.P.pt tv tab) (hx : Ex (fun b => b = L.P.pt ∨ L.P.tv.ownBlock = some b) w w') :
    LstAt w' { L with P := { L.P with tv := tv } } { s with tab := tab } := by
  obtain ⟨h1, h2⟩ := h.tys
  obtain ⟨h3, h4, h5, h6, h7⟩ := h.law.tys
  have hne : ∀ {b : Nat} {T : TypeId}, Ty w b T → T ≠ 171 → T ≠ 199 → ¬ (b = L.P.pt ∨ L.P.tv.ownBlock = some b) := fun ht n1 n2 hc => hc.elim (fun e => ht.ne h3 n1 e) (fun e => ht.ne (h4 _ e) n2 rfl)
  have hnc : NoCal w (fun b => b = L.P.pt ∨ L.P.tv.ownBlock = some b) := fun b hb => hb.elim (fun e => by subst e; exact NoCal.of h3 (by decide) (by decide)) (fun e => NoCal.of (h4 _ e) (by decide) (by decide))
  exact ⟨(hx.block _ h.lt (hne h1 (by decide) (by decide))).trans h.blk, own_ex h.ws hx (fun b hb => hne (h2 b hb) (by decide) (by decide)),
    ⟨hb, h.law.bk.ex hx (hne h5 (by decide) (by decide)) (fun b hb => hne (h6 b hb) (by decide) (by decide)), h.law.fs.ex hx (hne h7 (by decide) (by decide)), h.law.aut.nocal hx hnc⟩⟩
set_option maxHeartbeats 4000000 in
theorem release_any (L : LstP) (s : TS) (w : World) (h : LstAt w L s) (hI : Inv s) :
    Calls Tryz.prog 65 #[.pointer (some ⟨L.p, 0, none⟩)] w fun e w' => e = .returned (.tuple #[]) ∧ OpP L s.rel w w' := by
  obtain ⟨i0, hi0, hz0, hz1, hz2⟩ := info_parts infoU64
  have hK := lawOk_of hI
  have hn := hK.tab.len
  have HL := Lib.hid h
  have HOUT := fun x w' (hx : Ex0 w w') => Lib.hid (Mo.out_any L.P.pt L.P.tv s.tab x w' (h.law.tab.ex0 hx) hI.tab)
  have HHAS := fun x w' (hx : Ex0 w w') => Lib.hid (has_any L.P s.rules s.tab s.holds s.fs x s.now w' (h.law.ex0 hx) hK)
  have HT := fun w' (hx : Ex0 w w') => Lib.hid (h.law.tab.ex0 hx)
  have hb : w.cell? ⟨L.p, 5, none⟩ = some (.pointer (some ⟨L.P.pt, 0, none⟩)) := h.cell rfl
  have hlt := h.lt
  have HII0 := Lib.hid hI
  clear h hI hK
  refine (callsIn_wide (n := 10)).1 (callsIn_of_wp_marks Tryz.func65 rfl trivial ?_ rfl)
  simp only [Tryz.ntmps65, List.size_toArray, List.length_cons, List.length_nil, Nat.reduceAdd, Nat.reduceSub, Array.replicate_succ, Array.replicate_zero, List.push_toArray, List.append_toArray, List.nil_append, List.cons_append]
  refine wpIn_wide.2 ?_
  go_wp2_with fail
  refine (Mo.mall_any _ _).mono ?_
  rintro e w' ⟨rfl, rfl⟩
  go_wp2_with fail
  refine (wpIn_wide (n := 10)).1 ?_
  refine wpIn_named fun a0 ha => ?_
  obtain ⟨w1, hw1⟩ : ∃ w1, w1 = w.alloc (.cells #[.pointer (some ⟨L.p, 0, none⟩)] 28) := ⟨_, rfl⟩
  obtain ⟨w2, hw2⟩ : ∃ w2, w2 = w1.alloc (.cells #[.slice none 0 0] 33) := ⟨_, rfl⟩
  obtain ⟨w3, hw3⟩ : ∃ w3, w3 = w2.alloc (.cells #[.pointer (some ⟨L.P.pt, 0, none⟩)] 118) := ⟨_, rfl⟩
  rw [← hw1, ← hw2, ← hw3]
  have hs1 : w1.heap.size = w.heap.size + 1 := by rw [hw1]; simp
  have hs2 : w2.heap.size = w.heap.size + 2 := by rw [hw2, World.size_alloc, hs1]
  have hs3 : w3.heap.size = w.heap.size + 3 := by rw [hw3, World.size_alloc, hs2]
  have b0 : Boxed w3 w.heap.size 28 (.pointer (some ⟨L.p, 0, none⟩)) := by rw [hw3, hw2, hw1]; exact ((Boxed.new w _ _).alloc _).alloc _
  have b1 : Boxed w3 (w.heap.size + 1) 33 (.slice none 0 0) := by rw [hw3, hw2, ← hs1]; exact (Boxed.new w1 _ _).alloc _
  have b2 : Boxed w3 (w.heap.size + 2) 118 (.pointer (some ⟨L.P.pt, 0, none⟩)) := by rw [hw3, ← hs2]; exact Boxed.new w2 _ _
  have hx3 : Ex0 w w3 := by rw [hw3, hw2, hw1]; exact ((Ex.alloc _ _).alloc' _).alloc' _
  have hsz : w.heap.size ≤ w3.heap.size := hx3.size
  have hI0 : RelI w L.p s [] w3 := ⟨b0, ⟨_, b1, World.ownsRow_nil _ _ _ _⟩, hx3.below (Nat.le_refl _) (fun _ h => h.elim)⟩
  clear hw1 hw2 hw3 hs1 hs2 b0 b1
  clear w1 w2
  refine wpIn_rangeFunc_ownH rfl (by omega) (gf := 124) (lb := #[.pointer (some ⟨w.heap.size + 2, 0, none⟩)]) (by rw [ha]; rfl) trivial (enters_of Tryz.func124 (by kernel_rfl) rfl)
    (mallT_seq (w.heap.size + 2) L.P.pt L.P.tv s.tab _ b2.cell (HT _ hx3).out (by omega)) kct_t kct_b (Below.refl _ _) (fun _ => rfl)
    (RelI w L.p s) (fun _ _ _ => False)
    (ownFrom_kc (w0 := w) (Nat.le_refl _) hsz (fun _ _ _ h hx hb => h.kc hx hb) (fun _ _ h => h.bel)) (fun _ _ _ _ _ hs _ _ => hs)
    hI0
    (fun x a' W => a' = { tmps := ((a0.tmps.setIfInBounds 12 (.int .u64 x.1)).setIfInBounds 13 (.int .i64 x.2)).setIfInBounds 3 (.int .u64 x.1), defers := [] })
    (fun x a' s X Y row h hg hrow => h) ?assign ?body ?done ?stop
  case assign =>
    intro l' pre x W K hI hK
    rw [ha] at hK ⊢
    simp only [List.setIfInBounds_toArray, List.set_cons_zero, List.set_cons_succ] at hK
    gi_wp2
    exact hK _ _ (KeepsFrom.refl _ _) (KcT.refl _ _) hI rfl
  case body =>
    rintro l' pre x a' W hl' hr hI hA hlt'
    rw [ha] at hA
    simp only [List.setIfInBounds_toArray, List.set_cons_zero, List.set_cons_succ] at hA
    subst hA
    have HII := Lib.hid hI
    obtain ⟨v, hbl, hown⟩ := hI.bl
    have HBL := Lib.hid hbl
    have HO := Lib.hid hown
    have hxd : Ex0 W W.drew := Ex.drew W
    have hxw : Ex0 w W.drew := (Ex.ofBelow hI.bel).trans0 hxd
    have HOU := HOUT x.1 W.drew hxw
    have HHA := HHAS x.1
    have hAP := pickP_snoc (relQ s) pre x
    have hlen := pickP_len (relQ s) pre
    have hI3 : Hid (w3.heap.size ≤ W.heap.size) := by obtain ⟨r, hr'⟩ := hr; have := (Array.getElem?_eq_some_iff.1 hr').1; show _ ≤ _; omega
    obtain ⟨x1, x2⟩ := x
    dsimp only at HOU HHA hAP
    have HLd := HL.out.ex0 hxw
    have hS : (fun w' : World => w'.cell? ⟨w.heap.size, 0, none⟩ = some (.pointer (some ⟨L.p, 0, none⟩)) ∧ w'.cell? ⟨L.p, 5, none⟩ = some (.pointer (some ⟨L.P.pt, 0, none⟩)) ∧ w'.cell? ⟨L.p, 2, none⟩ = some (.int .i64 s.now) ∧ RowAt w' ⟨L.p, 5, none⟩ L.P.cells) W.drew := ⟨hxd.cellS hI.b0.cell not_false, HLd.cell rfl, HLd.cell rfl, HLd.lawRow⟩
    have hq : relQ s x1 = (!Mo.outB x1 s.tab && !hasP s.rules s.tab s.holds s.fs x1 s.now) := rfl
    rw [hq] at hAP
    have HAP := Lib.hid hAP
    have HXW := Lib.hid hxw
    have HXD := Lib.hid hxd
    clear hI hbl hown hr ha hxw hAP hxd HLd hq
    generalize hasP s.rules s.tab s.holds s.fs x1 s.now = q at HHA HAP
    generalize Mo.outB x1 s.tab = o at HOU HAP
    gi_wp2_with fail
    refine wpIn_region_round (fun w' : World => w'.cell? ⟨w.heap.size, 0, none⟩ = some (.pointer (some ⟨L.p, 0, none⟩)) ∧ w'.cell? ⟨L.p, 5, none⟩ = some (.pointer (some ⟨L.P.pt, 0, none⟩)) ∧ w'.cell? ⟨L.p, 2, none⟩ = some (.int .i64 s.now) ∧ RowAt w' ⟨L.p, 5, none⟩ L.P.cells) (by kernel_rfl) (by kernel_rfl) (by rintro ⟨_, _, h⟩; exact h) ?_
    simp only [List.length_cons, List.length_nil]
    generalize W.drew = Wd at *
    refine' wpAnyH_do 0 rfl (by kernel_rfl) (fun _ _ _ _ h => h) (by rfl) (by assumption) ⟨_, fun w' hS => ?_, ?_⟩
    rotate_left
    · ((try dsimp only at hS); go_split_ands; go_simp; try (with_reducible rfl))
    simp only [Act.put, List.setIfInBounds_toArray, List.set_cons_zero, List.set_cons_succ]
    refine' wpAnyH_do 1 rfl (by kernel_rfl) (fun _ _ _ _ h => h) (by rfl) (by assumption) ⟨_, fun w' hS => ?_, ?_⟩
    rotate_left
    · ((try dsimp only at hS); go_split_ands; go_simp; try (with_reducible rfl))
    simp only [Act.put, List.setIfInBounds_toArray, List.set_cons_zero, List.set_cons_succ]
    refine' wpAnyH_do 2 rfl (by kernel_rfl) (fun _ _ _ _ h => h) (by rfl) (by assumption) ⟨_, fun w' hS => ?_, ?_⟩
    rotate_left
    · ((try dsimp only at hS); go_split_ands; go_simp; try (with_reducible rfl))
    simp only [Act.put, List.setIfInBounds_toArray, List.set_cons_zero, List.set_cons_succ]
    refine' wpAnyH_do 3 rfl (by kernel_rfl) (fun _ _ _ _ h => h) (by rfl) (by assumption) ⟨_, fun w' hS => ?_, ?_⟩
    rotate_left
    · ((try dsimp only at hS); go_split_ands; go_simp; try (with_reducible rfl))
    simp only [Act.put, List.setIfInBounds_toArray, List.set_cons_zero, List.set_cons_succ]
    refine' wpAnyH_do 4 rfl (by kernel_rfl) (fun _ _ _ _ h => h) (by rfl) (by assumption) ⟨_, fun w' hS => ?_, ?_⟩
    rotate_left
    · ((try dsimp only at hS); go_split_ands; go_simp; try (with_reducible rfl))
    simp only [Act.put, List.setIfInBounds_toArray, List.set_cons_zero, List.set_cons_succ]
    refine' wpAnyH_do 5 rfl (by kernel_rfl) (fun _ _ _ _ h => h) (by rfl) (by assumption) ⟨_, fun w' hS => ?_, ?_⟩
    rotate_left
    · ((try dsimp only at hS); go_split_ands; go_simp; try (with_reducible rfl))
    simp only [Act.put, List.setIfInBounds_toArray, List.set_cons_zero, List.set_cons_succ]
    refine wpAnyH_eff 6 rfl (by kernel_rfl) (by rfl) (fun K hK => ?_)
    have HKK := Lib.hid hK
    clear hK
    go_simp
    refine HOU.out.mono ?_
    rintro e W2 ⟨rfl, hx2⟩
    have hS2 : (fun w' : World => w'.cell? ⟨w.heap.size, 0, none⟩ = some (.pointer (some ⟨L.p, 0, none⟩)) ∧ w'.cell? ⟨L.p, 5, none⟩ = some (.pointer (some ⟨L.P.pt, 0, none⟩)) ∧ w'.cell? ⟨L.p, 2, none⟩ = some (.int .i64 s.now) ∧ RowAt w' ⟨L.p, 5, none⟩ L.P.cells) W2 := ⟨hx2.cellS hS.1 not_false, hx2.cellS hS.2.1 not_false, hx2.cellS hS.2.2.1 not_false, hS.2.2.2.ex hx2 id⟩
    have HX2 := Lib.hid (HXD.out.trans0 hx2)
    have HHB := HHA W2 (HXW.out.trans0 hx2)
    clear HXD HXW hx2 hS HHA HOU
    dsimp only
    refine HKK.out _ _ hS2 ?_
    clear HKK K
    (try simp only [Act.put, List.setIfInBounds_toArray, List.set_cons_zero, List.set_cons_succ])
    have hS := hS2
    cases o with
    | true =>
      refine' wpAnyH_do 7 rfl (by kernel_rfl) (fun _ _ _ _ h => h) (by rfl) (by assumption) ⟨_, fun w' hS => ?_, ?_⟩
      rotate_left
      · ((try dsimp only at hS); go_split_ands; go_simp; try (with_reducible rfl))
      simp only [Act.put, List.setIfInBounds_toArray, List.set_cons_zero, List.set_cons_succ]
      refine' wpAnyH_do 8 rfl (by kernel_rfl) (fun _ _ _ _ h => h) (by rfl) (by assumption) ⟨_, fun w' hS => ?_, ?_⟩
      rotate_left
      · ((try dsimp only at hS); go_split_ands; go_simp; try (with_reducible rfl))
      simp only [Act.put, List.setIfInBounds_toArray, List.set_cons_zero, List.set_cons_succ]
      refine wpAnyH_pass 9 rfl (by kernel_rfl) (fun _ _ _ _ h => h) (by rfl) (by assumption) ?_
      simp only [Act.put, List.setIfInBounds_toArray, List.set_cons_zero, List.set_cons_succ]
      refine wpAnyH_pass 10 rfl (by kernel_rfl) (fun _ _ _ _ h => h) (by rfl) (by assumption) ?_
      simp only [Act.put, List.setIfInBounds_toArray, List.set_cons_zero, List.set_cons_succ]
      refine wpAnyH_pass 11 rfl (by kernel_rfl) (fun _ _ _ _ h => h) (by rfl) (by assumption) ?_
      simp only [Act.put, List.setIfInBounds_toArray, List.set_cons_zero, List.set_cons_succ]
      refine wpAnyH_pass 12 rfl (by kernel_rfl) (fun _ _ _ _ h => h) (by rfl) (by assumption) ?_
      simp only [Act.put, List.setIfInBounds_toArray, List.set_cons_zero, List.set_cons_succ]
      refine wpAnyH_pass 13 rfl (by kernel_rfl) (fun _ _ _ _ h => h) (by rfl) (by assumption) ?_
      simp only [Act.put, List.setIfInBounds_toArray, List.set_cons_zero, List.set_cons_succ]
      refine wpAnyH_pass 14 rfl (by kernel_rfl) (fun _ _ _ _ h => h) (by rfl) (by assumption) ?_
      simp only [Act.put, List.setIfInBounds_toArray, List.set_cons_zero, List.set_cons_succ]
      refine wpAnyH_pass 15 rfl (by kernel_rfl) (fun _ _ _ _ h => h) (by rfl) (by assumption) ?_
      simp only [Act.put, List.setIfInBounds_toArray, List.set_cons_zero, List.set_cons_succ]
      refine wpAnyH_pass 16 rfl (by kernel_rfl) (fun _ _ _ _ h => h) (by rfl) (by assumption) ?_
      simp only [Act.put, List.setIfInBounds_toArray, List.set_cons_zero, List.set_cons_succ]
      refine wpAnyH_pass 17 rfl (by kernel_rfl) (fun _ _ _ _ h => h) (by rfl) (by assumption) ?_
      simp only [Act.put, List.setIfInBounds_toArray, List.set_cons_zero, List.set_cons_succ]
      refine wpAnyH_pass 18 rfl (by kernel_rfl) (fun _ _ _ _ h => h) (by rfl) (by assumption) ?_
      simp only [Act.put, List.setIfInBounds_toArray, List.set_cons_zero, List.set_cons_succ]
      refine wpAnyH_pass 19 rfl (by kernel_rfl) (fun _ _ _ _ h => h) (by rfl) (by assumption) ?_
      simp only [Act.put, List.setIfInBounds_toArray, List.set_cons_zero, List.set_cons_succ]
      refine' wpAnyH_do 20 rfl (by kernel_rfl) (fun _ _ _ _ h => h) (by rfl) (by assumption) ⟨_, fun w' hS => ?_, ?_⟩
      rotate_left
      · ((try dsimp only at hS); go_split_ands; go_simp; try (with_reducible rfl))
      simp only [Act.put, List.setIfInBounds_toArray, List.set_cons_zero, List.set_cons_succ]
      refine wpAnyH_done (by kernel_rfl) ?_ _
      gi_wp2
      refine ⟨(others_ex0 HX2.out).from _, KcT.ex0 HX2.out, ⟨boxed_kc HII.out.b0 (Kc.ofEx HX2.out) id, ⟨v, boxed_kc HBL.out (Kc.ofEx HX2.out) id, ?_⟩, HII.out.bel.trans (HX2.out.below HII.out.bel.size (fun _ h => h.elim))⟩⟩
      rw [HAP.out]
      simpa using own_ex HO.out HX2.out (fun _ _ => id)
    | false =>
      refine' wpAnyH_do 7 rfl (by kernel_rfl) (fun _ _ _ _ h => h) (by rfl) (by assumption) ⟨_, fun w' hS => ?_, ?_⟩
      rotate_left
      · ((try dsimp only at hS); go_split_ands; go_simp; try (with_reducible rfl))
      simp only [Act.put, List.setIfInBounds_toArray, List.set_cons_zero, List.set_cons_succ]
      refine' wpAnyH_do 8 rfl (by kernel_rfl) (fun _ _ _ _ h => h) (by rfl) (by assumption) ⟨_, fun w' hS => ?_, ?_⟩
      rotate_left
      · ((try dsimp only at hS); go_split_ands; go_simp; try (with_reducible rfl))
      simp only [Act.put, List.setIfInBounds_toArray, List.set_cons_zero, List.set_cons_succ]
      refine' wpAnyH_do 9 rfl (by kernel_rfl) (fun _ _ _ _ h => h) (by rfl) (by assumption) ⟨_, fun w' hS => ?_, ?_⟩
      rotate_left
      · ((try dsimp only at hS); go_split_ands; go_simp; try (with_reducible rfl))
      simp only [Act.put, List.setIfInBounds_toArray, List.set_cons_zero, List.set_cons_succ]
      refine' wpAnyH_do 10 rfl (by kernel_rfl) (fun _ _ _ _ h => h) (by rfl) (by assumption) ⟨_, fun w' hS => ?_, ?_⟩
      rotate_left
      · ((try dsimp only at hS); go_split_ands; go_simp; try (with_reducible rfl))
      simp only [Act.put, List.setIfInBounds_toArray, List.set_cons_zero, List.set_cons_succ]
      refine' wpAnyH_do 11 rfl (by kernel_rfl) (fun _ _ _ _ h => h) (by rfl) (by assumption) ⟨_, fun w' hS => ?_, ?_⟩
      rotate_left
      · ((try dsimp only at hS); go_split_ands; go_simp; try (with_reducible rfl))
      simp only [Act.put, List.setIfInBounds_toArray, List.set_cons_zero, List.set_cons_succ]
      refine' wpAnyH_do 12 rfl (by kernel_rfl) (fun _ _ _ _ h => h) (by rfl) (by assumption) ⟨_, fun w' hS => exec_load_at 123 (.tmp 25) rfl ⟨L.p, 5, none⟩ rfl _ _ hS.2.2.2 Tryz.underlying123 rfl (by kernel_rfl), ?_⟩
      simp only [Act.put, List.setIfInBounds_toArray, List.set_cons_zero, List.set_cons_succ]
      refine' wpAnyH_do 13 rfl (by kernel_rfl) (fun _ _ _ _ h => h) (by rfl) (by assumption) ⟨_, fun w' hS => ?_, ?_⟩
      rotate_left
      · ((try dsimp only at hS); go_split_ands; go_simp; try (with_reducible rfl))
      simp only [Act.put, List.setIfInBounds_toArray, List.set_cons_zero, List.set_cons_succ]
      refine' wpAnyH_do 14 rfl (by kernel_rfl) (fun _ _ _ _ h => h) (by rfl) (by assumption) ⟨_, fun w' hS => ?_, ?_⟩
      rotate_left
      · ((try dsimp only at hS); go_split_ands; go_simp; try (with_reducible rfl))
      simp only [Act.put, List.setIfInBounds_toArray, List.set_cons_zero, List.set_cons_succ]
      refine' wpAnyH_do 15 rfl (by kernel_rfl) (fun _ _ _ _ h => h) (by rfl) (by assumption) ⟨_, fun w' hS => ?_, ?_⟩
      rotate_left
      · ((try dsimp only at hS); go_split_ands; go_simp; try (with_reducible rfl))
      simp only [Act.put, List.setIfInBounds_toArray, List.set_cons_zero, List.set_cons_succ]
      refine' wpAnyH_do 16 rfl (by kernel_rfl) (fun _ _ _ _ h => h) (by rfl) (by assumption) ⟨_, fun w' hS => ?_, ?_⟩
      rotate_left
      · ((try dsimp only at hS); go_split_ands; go_simp; try (with_reducible rfl))
      simp only [Act.put, List.setIfInBounds_toArray, List.set_cons_zero, List.set_cons_succ]
      refine' wpAnyH_do 17 rfl (by kernel_rfl) (fun _ _ _ _ h => h) (by rfl) (by assumption) ⟨_, fun w' hS => ?_, ?_⟩
      rotate_left
      · ((try dsimp only at hS); go_split_ands; go_simp; try (with_reducible rfl))
      simp only [Act.put, List.setIfInBounds_toArray, List.set_cons_zero, List.set_cons_succ]
      refine wpAnyH_eff 18 rfl (by kernel_rfl) (by rfl) (fun K hK => ?_)
      have HKK := Lib.hid hK
      clear hK
      go_simp
      refine HHB.out.mono ?_
      rintro e W3 ⟨rfl, hx3'⟩
      have hS3 : (fun w' : World => w'.cell? ⟨w.heap.size, 0, none⟩ = some (.pointer (some ⟨L.p, 0, none⟩)) ∧ w'.cell? ⟨L.p, 5, none⟩ = some (.pointer (some ⟨L.P.pt, 0, none⟩)) ∧ w'.cell? ⟨L.p, 2, none⟩ = some (.int .i64 s.now) ∧ RowAt w' ⟨L.p, 5, none⟩ L.P.cells) W3 := ⟨hx3'.cellS hS.1 not_false, hx3'.cellS hS.2.1 not_false, hx3'.cellS hS.2.2.1 not_false, hS.2.2.2.ex hx3' id⟩
      have HX3 := Lib.hid (HX2.out.trans0 hx3')
      clear HX2 hx3' hS HHB
      dsimp only
      refine HKK.out _ _ hS3 ?_
      clear HKK K
      (try simp only [Act.put, List.setIfInBounds_toArray, List.set_cons_zero, List.set_cons_succ])
      have hS := hS3
      cases q with
      | true =>
        refine' wpAnyH_do 19 rfl (by kernel_rfl) (fun _ _ _ _ h => h) (by rfl) (by assumption) ⟨_, fun w' hS => ?_, ?_⟩
        rotate_left
        · ((try dsimp only at hS); go_split_ands; go_simp; try (with_reducible rfl))
        simp only [Act.put, List.setIfInBounds_toArray, List.set_cons_zero, List.set_cons_succ]
        refine' wpAnyH_do 20 rfl (by kernel_rfl) (fun _ _ _ _ h => h) (by rfl) (by assumption) ⟨_, fun w' hS => ?_, ?_⟩
        rotate_left
        · ((try dsimp only at hS); go_split_ands; go_simp; try (with_reducible rfl))
        simp only [Act.put, List.setIfInBounds_toArray, List.set_cons_zero, List.set_cons_succ]
        refine wpAnyH_done (by kernel_rfl) ?_ _
        gi_wp2
        refine ⟨(others_ex0 HX3.out).from _, KcT.ex0 HX3.out, ⟨boxed_kc HII.out.b0 (Kc.ofEx HX3.out) id, ⟨v, boxed_kc HBL.out (Kc.ofEx HX3.out) id, ?_⟩, HII.out.bel.trans (HX3.out.below HII.out.bel.size (fun _ h => h.elim))⟩⟩
        rw [HAP.out]
        simpa using own_ex HO.out HX3.out (fun _ _ => id)
      | false =>
        refine' wpAnyH_do 19 rfl (by kernel_rfl) (fun _ _ _ _ h => h) (by rfl) (by assumption) ⟨_, fun w' hS => ?_, ?_⟩
        rotate_left
        · ((try dsimp only at hS); go_split_ands; go_simp; try (with_reducible rfl))
        simp only [Act.put, List.setIfInBounds_toArray, List.set_cons_zero, List.set_cons_succ]
        refine' wpAnyH_do 20 rfl (by kernel_rfl) (fun _ _ _ _ h => h) (by rfl) (by assumption) ⟨_, fun w' hS => ?_, ?_⟩
        rotate_left
        · ((try dsimp only at hS); go_split_ands; go_simp; try (with_reducible rfl))
        simp only [Act.put, List.setIfInBounds_toArray, List.set_cons_zero, List.set_cons_succ]
        refine wpAnyH_done (by kernel_rfl) ?_ _
        have hbl2 := boxed_kc HBL.out (Kc.ofEx HX3.out) id
        have HBL2 := Lib.hid hbl2
        have HO2 := Lib.hid (own_ex HO.out HX3.out (fun _ _ => id))
        have cl := hbl2.cell
        have fl := hbl2.frozen
        have hsz := HII.out.bel.size
        have hsz2 := HX3.out.size
        have hWs : w.heap.size + 3 ≤ W.heap.size := by have := hI3.out; omega
        generalize pickP (relQ s) pre = N at HO HO2 HAP hlen
        clear hbl2 hS hS3 hS2
        gi_wp2_with (refine wpListIn_append_own_at _ rfl (.tmp 35) (.tmp 37) 33 rfl (w.heap.size + 3) 31 i0 _ 1 8 Tryz.underlying33 hi0 hz0 hz1 hz2 rfl (by decide) v _ _ rfl (HO2.out.alloc _) ⟨W3.heap.size, 0, none⟩ 1 1 [.int .u64 x1] rfl rfl (World.news_of_block (cs := #[.int .u64 x1]) (t := 31) (fr := (0, 0)) (heap_alloc_new W3 _)) (by simp [Value.oneCell']) (by unfold maxLen; omega) (by omega) (by simp; omega) ?_)
        intro v2 w4 hown4 hgrow _ _
        obtain ⟨g2, cap2, hv2⟩ := ownsRow_succ hown4
        have HO4 := Lib.hid hown4
        subst hv2
        have hlv : ∀ b, v.ownBlock = some b → w.heap.size + 3 ≤ b := fun b hb => (HO2.out.lt b hb).1
        have hx4 : Ex (fun b => v.ownBlock = some b) W w4 := (HX3.out.alloc' _).trans (Ex.ofGrown hgrow) (fun _ _ h => h.elim) (fun _ _ h => h)
        have hb4 : Boxed w4 (w.heap.size + 1) 33 v := boxed_kc (HBL.out) (Kc.ofEx hx4) (fun e => by have := hlv _ e; omega)
        have hko : KeepsOthers W w4 := ((others_ex0 HX3.out).trans (KeepsOthers.alloc _ _)).trans (others_own (HO2.out.alloc _) hgrow)
        have cl4 := hb4.cell
        have fl4 := hb4.frozen
        have HX4 := Lib.hid hx4
        have HB4 := Lib.hid hb4
        have HKO := Lib.hid hko
        have HLV := Lib.hid hlv
        have HNT : Hid (∀ (k : Nat) (cs : Array Value), v.ownBlock = some k → W.heap[k]? ≠ some (Obj.cells cs 199 (0, 0))) := fun k cs hk e => (own_ty HO.out hk).ne ⟨_, _, e⟩ (by decide) rfl
        clear hown4 hgrow hlv hx4 hb4 hko cl fl
        gi_wp2
        have hx5 : Ex (fun b => v.ownBlock = some b ∨ b = w.heap.size + 1) W (w4.setCell ⟨w.heap.size + 1, 0, none⟩ (.slice (some ⟨g2, 0, none⟩) (N.length + 1) cap2)) := HX4.out.trans (Ex.setCell _ _ _) (fun _ _ h => .inl h) (fun _ _ h => .inr h)
        have hne2 : (Value.slice (some ⟨g2, 0, none⟩) (N.length + 1) cap2).ownBlock ≠ some (w.heap.size + 1) := fun e => by have := (HO4.out.lt _ e).1; omega
        refine ⟨(HKO.out.trans (KeepsOthers.setCell _ _ _)).from _, KcT.ofEx hx5 (fun k cs h => h.elim (HNT.out k cs) (fun h e => ?_)), ⟨boxed_kc HII.out.b0 (Kc.ofEx hx5) (fun h => h.elim (fun h => by have := HLV.out _ h; omega) (fun h => by omega)), ⟨_, HB4.out.set _, ?_⟩, HII.out.bel.trans (hx5.below HII.out.bel.size (fun i h => h.elim (fun h => by have := HLV.out _ h; omega) (fun h => by omega)))⟩⟩
        · subst h
          have hbb : Ty W (w.heap.size + 1) 33 := ⟨_, _, HBL.out⟩
          exact hbb.ne ⟨_, _, e⟩ (by decide) rfl
        · rw [HAP.out]
          simp only [List.length_append, List.map_append]
          exact own_ex HO4.out (Ex.setCell _ _ _) (fun b hb e => hne2 (by rw [hb, e]))
  case done =>
    rintro D xs W hD rfl hI hK
    obtain ⟨v, hbl, hown⟩ := hI.bl
    rw [relNs_pick HII0.out] at hown
    have HMEM := Lib.hid (fun n (hn : n ∈ relNs s) => relNs_mem HII0.out hn)
    have HEQ := Lib.hid (rel_outs (relNs_ok HII0.out))
    have hnl : (relNs s).length ≤ 1000 := by
      unfold relNs; rw [List.length_map]
      have := List.length_filter_le (fun x : Mo.It => !x.out && !s.has x.num) s.tab; omega
    generalize relNs s = N at hown HMEM HEQ hnl
    obtain ⟨A5, c5, rfl, hs5, _⟩ := own_sl hown
    have cl := hbl.cell
    have HII := Lib.hid hI
    have HK := Lib.hid hK
    have HO := Lib.hid hown
    rw [ha]
    clear hown hI hbl hK ha hs5
    dsimp only
    go_wp2_with fail
    have hb0W := HII.out.b0.cell
    have HLW := Lib.hid (HL.out.ex0 (Ex.ofBelow HII.out.bel))
    have hptl : L.P.pt < w.heap.size := HL.out.law.tab.lt
    have HTVL : Hid (∀ b, L.P.tv.ownBlock = some b → b < w.heap.size) := fun b hb => (HL.out.law.tab.own.lt b hb).2
    have HB0 := Lib.hid hb0W
    have hD2 : w.heap.size ≤ D := by omega
    have hW3 : w3.heap.size ≤ W.heap.size := by have := (Array.getElem?_eq_some_iff.1 HK.out).1; omega
    clear hb0W
    go_loopw [41] (fun i wr => ∃ (k : Nat) (tv : Value), k ≤ N.length ∧ i = .int .i64 k ∧ (∀ b, tv.ownBlock = some b → L.P.tv.ownBlock = some b ∨ W.heap.size ≤ b) ∧ LstAt wr { L with P := { L.P with tv := tv } } { s with tab := outs (N.take k) s.tab } ∧ Ex (fun b => b = L.P.pt ∨ L.P.tv.ownBlock = some b) W wr) (fun i _ => N.length - (intOf i).toNat)
    case atStart => exact ⟨0, L.P.tv, by omega, rfl, fun _ h => .inl h, by rw [List.take_zero, outs_nil]; exact HLW.out, Ex.refl _ _⟩
    case round =>
      obtain ⟨k, tv, hk, rfl, htv, hAt, hx⟩ := hrel
      have HX := Lib.hid hx
      have HAT := Lib.hid hAt
      have HTV := Lib.hid htv
      by_cases hlt : k < N.length
      · obtain ⟨A6, c6, e6, hs6, _⟩ := own_sl (own_ex HO.out hx (fun b hb h => h.elim (fun h => by have := (HO.out.lt b hb).1; omega) (fun h => by have := (HO.out.lt b hb).1; have := HTVL.out b h; omega)))
        cases e6
        obtain ⟨g, off, hA, _, hcell⟩ := hs6.one hlt
        subst hA
        have hcb : wr.cell? ⟨w.heap.size, 0, none⟩ = some (.pointer (some ⟨L.p, 0, none⟩)) := hx.cellS HB0.out (fun h => h.elim (fun h => by have h' : w.heap.size = L.P.pt := h; omega) (fun h => by have := HTVL.out _ h; simp at this))
        have hc5 : wr.cell? ⟨L.p, 5, none⟩ = some (.pointer (some ⟨L.P.pt, 0, none⟩)) := hAt.cell rfl
        have hlp : L.p < wr.heap.size := hAt.lt
        have hk0 : (0 : Int) ≤ (k : Int) := by omega
        have hk1 : (k : Int) < (N.length : Int) := by omega
        have hsn : N.take (k + 1) = N.take k ++ [N[k]] := List.take_succ_eq_append_getElem hlt
        have hm := HMEM.out N[k] (List.getElem_mem hlt)
        have HSN := Lib.hid hsn
        have HM := Lib.hid hm
        clear hx hAt hs6 hsn hm htv
        generalize N[k] = y at hcell HSN HM
        go_wp2_with fail
        refine (Mo.release_any L.P.pt tv _ y _ HAT.out.law.tab (outs_ok HII0.out.tab _)).mono ?_
        rintro e w5 ⟨tv5, rfl, hv5, hb5, hx5⟩
        have HX5 := Lib.hid hx5
        have HB5 := Lib.hid hb5
        have HV5 := Lib.hid hv5
        clear hx5 hb5 hv5
        rw [relL_outs (outs_ok HII0.out.tab _) (outs_has HM.out.1) (outs_last HM.out.2), outs_outs, ← HSN.out] at HB5
        go_wp2
        go_roundw
        case rel =>
          refine ⟨k + 1, tv5, by omega, by go_num, ?_, HAT.out.table HB5.out HX5.out, HX.out.trans HX5.out (fun _ _ h => h) (fun i hi h => h.imp id (fun h => (HTV.out i h).elim id (fun h => by omega)))⟩
          rcases HV5.out with h | ⟨b, h, hb⟩
          · rw [h]; exact HTV.out
          · intro b' h'
            rw [h] at h'
            injection h' with h'
            have := HX.out.size
            exact .inr (by omega)
        case measure => simp [intOf]; omega
      · have hkn : k = N.length := by omega
        subst hkn
        have hK3 : wr.heap[D]? = some (.deferred (some [])) := (hx.block D (Array.getElem?_eq_some_iff.1 HK.out).1 (fun h => h.elim (fun h => by have h' : D = L.P.pt := h; omega) (fun h => by have := HTVL.out _ h; omega))).trans HK.out
        rw [List.take_length, HEQ.out] at HAT
        clear hx hAt htv
        go_wp2
        refine ⟨by simp, .inl ⟨_, _, rfl, run_takeDeferred hK3, ?_⟩⟩
        have hxp : Ex (fun b => some D = some b) wr (wr.putObj D (.deferred none)) := Ex.ofGrown (grownBy_putObj' wr D (.deferred none))
        have hWw : w.heap.size ≤ W.heap.size := by omega
        have hFw : ∀ b, ({ L with P := { L.P with tv := tv } } : LstP).F b → L.F b ∨ (W.heap.size ≤ b) := fun b hb => by
          rcases hb with h | h | h | h | h | h | h
          · exact .inl (.inl h)
          · exact .inl (.inr (.inl h))
          · exact .inl (.inr (.inr (.inl h)))
          · exact (HTV.out b h).imp (fun h => .inr (.inr (.inr (.inl h)))) id
          · exact .inl (.inr (.inr (.inr (.inr (.inl h)))))
          · exact .inl (.inr (.inr (.inr (.inr (.inr (.inl h))))))
          · exact .inl (.inr (.inr (.inr (.inr (.inr (.inr h))))))
        have hnc : NoCal wr (fun b => some D = some b) := fun b hb => by
          cases hb
          have hn : ∀ T, ¬ Ty wr D T := fun T h => by obtain ⟨_, _, h⟩ := h; rw [hK3] at h; cases h
          exact ⟨hn _, hn _⟩
        have hDW : D < W.heap.size := (Array.getElem?_eq_some_iff.1 HK.out).1
        refine ⟨_, results_none rfl _ _ _, rfl, { L with P := { L.P with tv := tv } }, rfl, HAT.out.ex hxp hnc (fun b hb e => ?_), ?_, fun b hb => (hFw b hb).imp id (fun h => by omega)⟩
        · cases e
          rcases hFw _ hb with h | h
          · have := HL.out.fin _ h; omega
          · omega
        · refine ((Ex.ofBelow HII.out.bel).trans (U := L.F) HX.out (fun _ _ h => h.elim) (fun _ _ h => h.elim (fun e => .inr (.inr (.inl e))) (fun e => .inr (.inr (.inr (.inl e)))))).trans hxp (fun _ _ h => h) (fun i hi e => by cases e; omega)
  case stop =>
    rintro D c pre W _ _ h _
    exact h.elim
end Go.Proofs.YtoglddndicmelaaGreat.Tr

namespace Go.Proofs.YtoglddndicmelaaGreat.Tr
open Go.RowKit Go.Proofs.YtoglddndicmelaaGreatB Go.Proofs.YtoglddndicmelaaGreat
set_option maxRecDepth 100000

theorem ret_two {k k' : IntKind} {a b a' b' : Int} (h : a = b) (h' : a' = b') : Ending.returned (.tuple #[.int k a, .int k' a']) = .returned (.tuple #[.int k b, .int k' b']) := by rw [h, h']
theorem OpP.bind {L L1 : LstP} {s'' : TS} {w w1 w2 : World} (e1 : L1.p = L.p) (x1 : Ex L.F w w1) (n1 : Nw w L.F L1.F) (k : OpP L1 s'' w1 w2) : OpP L s'' w w2 := by
  obtain ⟨L2, e2, h2, x2, n2⟩ := k
  exact ⟨L2, e2.trans e1, h2, x1.then x2 n1, n1.trans n2 x1.size⟩
theorem OpP.swapBook {L : LstP} {s : TS} {w w2 : World} {p' : Nat} {v2 : Value} {hs' : List Ho.Put} (hx : Ex0 w w2) (h : LstAt w2 L s) (hb : Ho.BookAt w2 p' v2 hs') (hp : w.heap.size ≤ p') (hv : ∀ b, v2.ownBlock = some b → w.heap.size ≤ b) (t : Int) :
    OpP L { s with top := t, holds := hs' } w ((w2.setCell ⟨L.p, 9, none⟩ (.pointer (some ⟨p', 0, none⟩))).setCell ⟨L.p, 3, none⟩ (.int .u64 t)) := by
  refine ⟨{ L with P := { L.P with pb := p', bv := v2 } }, rfl, h.swapBook hb _, (((hx.to (fun _ _ h => h.elim)).trans (Ex.setCell _ _ _) (fun _ _ h => h) (fun _ _ h => .inl h)).trans (Ex.setCell _ _ _) (fun _ _ h => h) (fun _ _ h => .inl h)), fun b hb => ?_⟩
  rcases hb with h | h | h | h | h | h | h
  · exact .inl (.inl h)
  · exact .inl (.inr (.inl h))
  · exact .inl (.inr (.inr (.inl h)))
  · exact .inl (.inr (.inr (.inr (.inl h))))
  · exact .inr (by subst h; exact hp)
  · exact .inr (hv b h)
  · exact .inl (.inr (.inr (.inr (.inr (.inr (.inr h))))))
set_option maxHeartbeats 2000000 in
theorem thold_any (L : LstP) (s : TS) (a b c : Int) (w : World) (h : LstAt w L s) (hI : Inv s) :
    Calls Tryz.prog 27 #[.pointer (some ⟨L.p, 0, none⟩), .int .i64 a, .int .i64 b, .int .i64 c] w fun e w' => e = .returned (.tuple #[.int .u64 (s.holdN a b c), .int .i64 (s.holdE a b c)]) ∧ OpP L (s.hold a b c) w w' := by
  have HR := Lib.hid (release_any L s w h hI)
  have ht := hI.top
  have hlen := hI.hlen
  have hlp := h.lt
  clear h hI
  go_enter Tryz.func27, Tryz.ntmps27
  go_wp2_with fail
  refine HR.out.mono ?_
  rintro e w1 ⟨rfl, HOP⟩
  obtain ⟨L1, hp1, h1, hx1, hn1⟩ := HOP
  have HOP : Hid (∀ s'' w2, OpP L1 s'' w1 w2 → OpP L s'' w w2) := fun s'' w2 k => OpP.bind hp1 hx1 hn1 k
  have HL1 := Lib.hid h1
  have HN := Lib.hid (next_any L1 s.rel w1 h1 ht.1)
  have HC := Lib.hid (Ho.clone_any L1.P.pb L1.P.bv s.holds w1 h1.law.bk (by omega))
  have hlp1 := h1.lt
  have hc9 : w1.cell? ⟨L1.p, 9, none⟩ = some (.pointer (some ⟨L1.P.pb, 0, none⟩)) := h1.cell rfl
  rw [← hp1]
  rw [← hp1] at hlp
  have hnx : s.rel.next = s.next := rfl
  rw [hnx] at HN
  clear hp1 hx1 hn1 h1 HR hlp hnx
  go_wp2_with fail
  refine HN.out.mono ?_
  rintro e wa ⟨rfl, rfl⟩
  go_wp2_with fail
  refine HC.out.mono ?_
  rintro e w2 ⟨p', v', rfl, hp', hv', hb2, hx2⟩
  have HL2 := Lib.hid (HL1.out.ex0 hx2)
  have HX2 := Lib.hid hx2
  have HB2 := Lib.hid hb2
  have HV2 := Lib.hid hv'
  have HP2 := Lib.hid hp'
  clear hc9 hlp1 hx2 hb2 hv' hp'
  have hw1 : IntKind.u64.wrap (s.top + 1) = s.top + 1 := by rw [IntKind.wrap_u64]; omega
  go_wp2_with fail
  have hS : (fun w' : World => w'.cell? ⟨L1.p, 3, none⟩ = some (.int .u64 s.top) ∧ w'.cell? ⟨L1.p, 2, none⟩ = some (.int .i64 s.now)) w2.drew := ⟨(HL2.out.ex0 (Ex.drew _)).cell rfl, (HL2.out.ex0 (Ex.drew _)).cell rfl⟩
  have HXD : Hid (Ex0 w2 w2.drew) := Ex.drew w2
  refine wp_region_takes (fun w' : World => w'.cell? ⟨L1.p, 3, none⟩ = some (.int .u64 s.top) ∧ w'.cell? ⟨L1.p, 2, none⟩ = some (.int .i64 s.now)) (by kernel_rfl) ?_
  simp only [List.length_cons, List.length_nil]
  generalize w2.drew = wd at *
  refine' wpAnyH_do 0 rfl (by kernel_rfl) (fun _ _ _ _ h => h) (by rfl) (by assumption) ⟨_, fun w' hS => ?_, ?_⟩
  rotate_left
  · ((try dsimp only at hS); go_split_ands; go_simp; try (with_reducible rfl))
  simp only [Act.put, List.setIfInBounds_toArray, List.set_cons_zero, List.set_cons_succ]
  refine' wpAnyH_do 1 rfl (by kernel_rfl) (fun _ _ _ _ h => h) (by rfl) (by assumption) ⟨_, fun w' hS => ?_, ?_⟩
  rotate_left
  · ((try dsimp only at hS); go_split_ands; go_simp; try (with_reducible rfl))
  simp only [Act.put, List.setIfInBounds_toArray, List.set_cons_zero, List.set_cons_succ]
  refine' wpAnyH_do 2 rfl (by kernel_rfl) (fun _ _ _ _ h => h) (by rfl) (by assumption) ⟨_, fun w' hS => ?_, ?_⟩
  rotate_left
  · ((try dsimp only at hS); go_split_ands; go_simp; try (with_reducible rfl))
  simp only [Act.put, List.setIfInBounds_toArray, List.set_cons_zero, List.set_cons_succ]
  refine' wpAnyH_do 3 rfl (by kernel_rfl) (fun _ _ _ _ h => h) (by rfl) (by assumption) ⟨_, fun w' hS => ?_, ?_⟩
  rotate_left
  · ((try dsimp only at hS); go_split_ands; go_simp; try (with_reducible rfl))
  simp only [Act.put, List.setIfInBounds_toArray, List.set_cons_zero, List.set_cons_succ]
  refine' wpAnyH_do 4 rfl (by kernel_rfl) (fun _ _ _ _ h => h) (by rfl) (by assumption) ⟨_, fun w' hS => ?_, ?_⟩
  rotate_left
  · ((try dsimp only at hS); go_split_ands; go_simp; try (with_reducible rfl))
  simp only [Act.put, List.setIfInBounds_toArray, List.set_cons_zero, List.set_cons_succ]
  refine' wpAnyH_do 5 rfl (by kernel_rfl) (fun _ _ _ _ h => h) (by rfl) (by assumption) ⟨_, fun w' hS => ?_, ?_⟩
  rotate_left
  · ((try dsimp only at hS); go_split_ands; go_simp; try (with_reducible rfl))
  simp only [Act.put, List.setIfInBounds_toArray, List.set_cons_zero, List.set_cons_succ]
  refine' wpAnyH_do 6 rfl (by kernel_rfl) (fun _ _ _ _ h => h) (by rfl) (by assumption) ⟨_, fun w' hS => ?_, ?_⟩
  rotate_left
  · ((try dsimp only at hS); go_split_ands; go_simp; try (with_reducible rfl))
  simp only [Act.put, List.setIfInBounds_toArray, List.set_cons_zero, List.set_cons_succ]
  refine' wpAnyH_do 7 rfl (by kernel_rfl) (fun _ _ _ _ h => h) (by rfl) (by assumption) ⟨_, fun w' hS => ?_, ?_⟩
  rotate_left
  · ((try dsimp only at hS); go_split_ands; go_simp; try (with_reducible rfl))
  simp only [Act.put, List.setIfInBounds_toArray, List.set_cons_zero, List.set_cons_succ]
  refine' wpAnyH_do 8 rfl (by kernel_rfl) (fun _ _ _ _ h => h) (by rfl) (by assumption) ⟨_, fun w' hS => ?_, ?_⟩
  rotate_left
  · ((try dsimp only at hS); go_split_ands; go_simp; try (with_reducible rfl))
  simp only [Act.put, List.setIfInBounds_toArray, List.set_cons_zero, List.set_cons_succ]
  refine' wpAnyH_do 9 rfl (by kernel_rfl) (fun _ _ _ _ h => h) (by rfl) (by assumption) ⟨_, fun w' hS => ?_, ?_⟩
  rotate_left
  · ((try dsimp only at hS); go_split_ands; go_simp; try (with_reducible rfl))
  simp only [Act.put, List.setIfInBounds_toArray, List.set_cons_zero, List.set_cons_succ]
  refine' wpAnyH_do 10 rfl (by kernel_rfl) (fun _ _ _ _ h => h) (by rfl) (by assumption) ⟨_, fun w' hS => ?_, ?_⟩
  rotate_left
  · ((try dsimp only at hS); go_split_ands; go_simp; try (with_reducible rfl))
  simp only [Act.put, List.setIfInBounds_toArray, List.set_cons_zero, List.set_cons_succ]
  refine' wpAnyH_do 11 rfl (by kernel_rfl) (fun _ _ _ _ h => h) (by rfl) (by assumption) ⟨_, fun w' hS => ?_, ?_⟩
  rotate_left
  · ((try dsimp only at hS); go_split_ands; go_simp; try (with_reducible rfl))
  simp only [Act.put, List.setIfInBounds_toArray, List.set_cons_zero, List.set_cons_succ]
  refine' wpAnyH_do 12 rfl (by kernel_rfl) (fun _ _ _ _ h => h) (by rfl) (by assumption) ⟨_, fun w' hS => ?_, ?_⟩
  rotate_left
  · ((try dsimp only at hS); go_split_ands; go_simp; try (with_reducible rfl))
  simp only [Act.put, List.setIfInBounds_toArray, List.set_cons_zero, List.set_cons_succ]
  refine' wpAnyH_do 13 rfl (by kernel_rfl) (fun _ _ _ _ h => h) (by rfl) (by assumption) ⟨_, fun w' hS => ?_, ?_⟩
  rotate_left
  · ((try dsimp only at hS); go_split_ands; go_simp; try (with_reducible rfl))
  simp only [Act.put, List.setIfInBounds_toArray, List.set_cons_zero, List.set_cons_succ]
  refine' wpAnyH_do 14 rfl (by kernel_rfl) (fun _ _ _ _ h => h) (by rfl) (by assumption) ⟨_, fun w' hS => ?_, ?_⟩
  rotate_left
  · ((try dsimp only at hS); go_split_ands; go_simp; try (with_reducible rfl))
  simp only [Act.put, List.setIfInBounds_toArray, List.set_cons_zero, List.set_cons_succ]
  refine' wpAnyH_do 15 rfl (by kernel_rfl) (fun _ _ _ _ h => h) (by rfl) (by assumption) ⟨_, fun w' hS => ?_, ?_⟩
  rotate_left
  · ((try dsimp only at hS); go_split_ands; go_simp; try (with_reducible rfl))
  simp only [Act.put, List.setIfInBounds_toArray, List.set_cons_zero, List.set_cons_succ]
  refine' wpAnyH_do 16 rfl (by kernel_rfl) (fun _ _ _ _ h => h) (by rfl) (by assumption) ⟨_, fun w' hS => ?_, ?_⟩
  rotate_left
  · ((try dsimp only at hS); go_split_ands; go_simp; try (with_reducible rfl))
  simp only [Act.put, List.setIfInBounds_toArray, List.set_cons_zero, List.set_cons_succ]
  refine' wpAnyH_do 17 rfl (by kernel_rfl) (fun _ _ _ _ h => h) (by rfl) (by assumption) ⟨_, fun w' hS => ?_, ?_⟩
  rotate_left
  · ((try dsimp only at hS); go_split_ands; go_simp; try (with_reducible rfl))
  simp only [Act.put, List.setIfInBounds_toArray, List.set_cons_zero, List.set_cons_succ]
  refine' wpAnyH_do 18 rfl (by kernel_rfl) (fun _ _ _ _ h => h) (by rfl) (by assumption) ⟨_, fun w' hS => ?_, ?_⟩
  rotate_left
  · ((try dsimp only at hS); go_split_ands; go_simp; try (with_reducible rfl))
  simp only [Act.put, List.setIfInBounds_toArray, List.set_cons_zero, List.set_cons_succ]
  refine wpAnyH_eff 19 rfl (by kernel_rfl) (by rfl) (fun K hK => ?_)
  have HKK := Lib.hid hK
  clear hK
  go_simp
  refine (Ho.add_any p' v' s.holds ⟨s.top + 1, a, b, c⟩ (s.top + 1) s.now wd (HB2.out.ex0 HXD.out) (by omega)).mono ?_
  rintro e w3 ⟨v3, rfl, hv3, hb3, hx3⟩
  have hsz : wa.heap.size ≤ wd.heap.size := Nat.le_trans HX2.out.size HXD.out.size
  have HX3 : Hid (Ex0 wa w3) := (HX2.out.trans0 HXD.out).trans hx3 (fun _ _ h => h) (fun i hi h => h.elim (fun e => by have := HP2.out; omega) (fun e => by have := HV2.out _ e; omega))
  have HB3 := Lib.hid hb3
  have HV3 : Hid (∀ b, v3.ownBlock = some b → wa.heap.size ≤ b) := fun b hb => by
    rcases hv3 with h | ⟨b', h, hb'⟩
    · exact HV2.out b (h ▸ hb)
    · rw [h] at hb; injection hb with hb; omega
  have HL3 := Lib.hid (HL1.out.ex0 HX3.out)
  have hS3 : (fun w' : World => w'.cell? ⟨L1.p, 3, none⟩ = some (.int .u64 s.top) ∧ w'.cell? ⟨L1.p, 2, none⟩ = some (.int .i64 s.now)) w3 := ⟨HL3.out.cell rfl, HL3.out.cell rfl⟩
  clear hx3 hb3 hv3 hS HXD HX2 HB2 HL2
  dsimp only
  refine HKK.out _ _ hS3 ?_
  clear HKK K
  (try simp only [Act.put, List.setIfInBounds_toArray, List.set_cons_zero, List.set_cons_succ])
  have hS := hS3
  clear hS3
  obtain ⟨E, hE⟩ : ∃ E, Ho.addE ⟨s.top + 1, a, b, c⟩ (s.top + 1) s.now s.holds = E := ⟨_, rfl⟩
  have HE := Lib.hid hE
  rw [hE]
  clear hE
  refine' wpAnyH_do 20 rfl (by kernel_rfl) (fun _ _ _ _ h => h) (by rfl) (by assumption) ⟨_, fun w' hS => ?_, ?_⟩
  rotate_left
  · ((try dsimp only at hS); go_split_ands; go_simp; try (with_reducible rfl))
  simp only [Act.put, List.setIfInBounds_toArray, List.set_cons_zero, List.set_cons_succ]
  refine wpAnyH_done (by kernel_rfl) ?_ _
  have hc2 : w3.frozen? ⟨L1.p, 9, none⟩ = false := HL3.out.frozen 9
  have hc3 : w3.frozen? ⟨L1.p, 3, none⟩ = false := HL3.out.frozen 3
  have hlt3 := HL3.out.lt
  have k9 : w3.cell? ⟨L1.p, 9, none⟩ = some (.pointer (some ⟨L1.P.pb, 0, none⟩)) := HL3.out.cell rfl
  have k3 : w3.cell? ⟨L1.p, 3, none⟩ = some (.int .u64 s.top) := HL3.out.cell rfl
  clear hS
  by_cases he : E = 0
  · subst he
    by_cases hn : s.next = 0
    · have h14 : s.holdE a b c = 14 := by unfold TS.holdE; rw [if_pos HE.out, if_pos hn]
      have hN : s.holdN a b c = 0 := by unfold TS.holdN; rw [h14]; rfl
      have hst : s.hold a b c = s.rel := by unfold TS.hold; rw [h14]; rfl
      have H14 := Lib.hid h14
      have HNN := Lib.hid hN
      have HH := Lib.hid hst
      clear h14 hN hst
      rw [hn]
      go_wp2
      go_ret2
      refine ⟨ret_two HNN.out.symm H14.out.symm, HOP.out _ _ ?_⟩
      rw [HH.out]
      exact .same HL1.out HX3.out
    · have hv : s.next = s.top + 1 := (next_pos hn).2
      have h0 : s.holdE a b c = 0 := by unfold TS.holdE; rw [if_pos HE.out, if_neg hn]
      have hN : s.holdN a b c = s.top + 1 := by unfold TS.holdN; rw [h0]; rfl
      have hst : s.hold a b c = { s.rel with top := s.top + 1, holds := Ho.addL ⟨s.top + 1, a, b, c⟩ (s.top + 1) s.now s.holds } := by unfold TS.hold Ho.addL; rw [h0, if_pos rfl, if_pos HE.out]
      have hne : (s.top + 1 == 0) = false := by simp; omega
      have HH := Lib.hid hst
      have H0 := Lib.hid h0
      have HNN := Lib.hid hN
      rw [hv]
      clear hn hv h0 hN hst
      go_wp2
      go_ret2
      refine ⟨ret_two HNN.out.symm H0.out.symm, HOP.out _ _ ?_⟩
      rw [HH.out]
      exact OpP.swapBook HX3.out HL3.out HB3.out HP2.out HV3.out _
  · have h4' : s.holdE a b c = E := by unfold TS.holdE; rw [HE.out, if_neg he]
    have hN : s.holdN a b c = 0 := by unfold TS.holdN; rw [h4', if_neg he]
    have hst : s.hold a b c = s.rel := by unfold TS.hold; rw [h4', if_neg he]
    have hne : (E == 0) = false := by simpa using he
    have hne2 : (E != 0) = true := by simpa using he
    have H4 := Lib.hid h4'
    have HNN := Lib.hid hN
    have HH := Lib.hid hst
    clear h4' hN hst
    go_wp2
    go_ret2
    refine ⟨ret_two HNN.out.symm H4.out.symm, HOP.out _ _ ?_⟩
    rw [HH.out]
    exact .same HL1.out HX3.out
end Go.Proofs.YtoglddndicmelaaGreat.Tr

namespace Go.Proofs.YtoglddndicmelaaGreat.Tr
open Go.RowKit Go.Proofs.YtoglddndicmelaaGreatB Go.Proofs.YtoglddndicmelaaGreat
set_option maxRecDepth 100000

/-- what is forked, and another last number -/
theorem LstAt.forest {w w' : World} {L : LstP} {s : TS} (h : LstAt w L s) {fs' : List Tw} (hb : ForAt w' L.P.pf fs') (hx : Ex (· = L.P.pf) w w') : LstAt w' L { s with fs := fs' } := by
  obtain ⟨h1, h2⟩ := h.tys
  obtain ⟨h3, h4, h5, h6, h7⟩ := h.law.tys
  have hne : ∀ {b : Nat} {T : TypeId}, Ty w b T → T ≠ 159 → ¬ b = L.P.pf := fun ht n1 => ht.ne h7 n1
  have hnc : NoCal w (· = L.P.pf) := fun b hb => by subst hb; exact NoCal.of h7 (by decide) (by decide)
  exact ⟨(hx.block _ h.lt (hne h1 (by decide))).trans h.blk, own_ex h.ws hx (fun b hb => hne (h2 b hb) (by decide)),
    ⟨h.law.tab.ex hx (hne h3 (by decide)) (fun b hb => hne (h4 b hb) (by decide)), h.law.bk.ex hx (hne h5 (by decide)) (fun b hb => hne (h6 b hb) (by decide)), hb, h.law.aut.nocal hx hnc⟩⟩
theorem fork_zero {s : TS} (hI : Inv s) {pa m : Int} (ha : alive s.fs pa = true) (hh : s.has m = true) (hm : numF s.fs pa ≤ m) (hf : freeF s.fs < 16) : forkE s.fs (freeF s.fs) pa m (s.top + 1) = 0 ∧ forkF s.fs (freeF s.fs) pa m (s.top + 1) = s.fs.set (freeF s.fs) ⟨true, pa, m, s.top + 1⟩ := by
  obtain ⟨_, h1, h2, _⟩ := (freeF_spec s.fs).resolve_right (by omega)
  have hr := hI.has_rng hh
  have hn : numF s.fs pa = (tg s.fs pa.toNat).nu := by unfold numF; rw [if_pos ha]
  have e : forkE s.fs (freeF s.fs) pa m (s.top + 1) = 0 := by
    unfold forkE
    rw [if_neg (by omega), Int.toNat_natCast, h2, if_neg (by simp), if_neg (by rw [ha]; simp), if_neg (by omega)]
  refine ⟨e, ?_⟩
  unfold forkF
  rw [if_pos e, Int.toNat_natCast]
theorem freeF_lt {fs : List Tw} (h : freeF fs ≠ 16) : freeF fs < 16 := by
  rcases freeF_spec fs with ⟨h1, _⟩ | ⟨h1, _⟩ <;> omega
set_option maxHeartbeats 4000000 in
theorem tfork_any (L : LstP) (s : TS) (pa m : Int) (w : World) (h : LstAt w L s) (hI : Inv s) :
    Calls Tryz.prog 25 #[.pointer (some ⟨L.p, 0, none⟩), .int .i64 pa, .int .u64 m] w fun e w' => e = .returned (.tuple #[.int .i64 (s.forkI pa m), .int .i64 (s.forkE pa m)]) ∧ OpP L (s.fork pa m) w w' := by
  have ht := hI.top
  have HL := Lib.hid h
  have HI := Lib.hid hI
  have hlp := h.lt
  have HN := Lib.hid (fnum_any L.P.pf s.fs pa w h.law.fs)
  have HHAS := fun w' (hx : Ex0 w w') => Lib.hid (has_any L.P s.rules s.tab s.holds s.fs m s.now w' (h.law.ex0 hx) (lawOk_of hI))
  have hc10 : w.cell? ⟨L.p, 10, none⟩ = some (.pointer (some ⟨L.P.pf, 0, none⟩)) := h.cell rfl
  have hQ : hasP s.rules s.tab s.holds s.fs m s.now = s.has m := rfl
  rw [hQ] at HHAS
  clear h hI hQ
  have HB : Hid (∀ r w', s.forkE pa m = r → r ≠ 0 → Ex0 w w' → s.forkI pa m = 0 ∧ s.forkE pa m = r ∧ OpP L (s.fork pa m) w w') := fun r w' e h0 hx => by
    refine ⟨by unfold TS.forkI; rw [e, if_neg h0], e, ?_⟩
    have : s.fork pa m = s := by unfold TS.fork; rw [e, if_neg h0]
    rw [this]; exact .same HL.out hx
  obtain ⟨al, hal⟩ : ∃ al, alive s.fs pa = al := ⟨_, rfl⟩
  obtain ⟨hs, hhs⟩ : ∃ hs, s.has m = hs := ⟨_, rfl⟩
  rw [hal] at HN
  simp only [hhs] at HHAS
  have HAL := Lib.hid hal
  have HHS := Lib.hid hhs
  clear hal hhs
  go_enter Tryz.func25, Tryz.ntmps25
  go_wp2_with fail
  refine HN.out.mono ?_
  rintro e w1 ⟨rfl, hx1⟩
  have HL1 := Lib.hid (HL.out.ex0 hx1)
  have HX1 := Lib.hid hx1
  clear hx1 hc10
  go_wp2_with fail
  have hS : (fun w' : World => RowAt w' ⟨L.p, 5, none⟩ L.P.cells ∧ w'.cell? ⟨L.p, 2, none⟩ = some (.int .i64 s.now)) w1.drew := ⟨(HL1.out.ex0 (Ex.drew _)).lawRow, (HL1.out.ex0 (Ex.drew _)).cell rfl⟩
  have HXD : Hid (Ex0 w w1.drew) := HX1.out.trans0 (Ex.drew w1)
  refine wp_region_takes (fun w' : World => RowAt w' ⟨L.p, 5, none⟩ L.P.cells ∧ w'.cell? ⟨L.p, 2, none⟩ = some (.int .i64 s.now)) (by kernel_rfl) ?_
  simp only [List.length_cons, List.length_nil]
  have hlp1 : L.p < w1.drew.heap.size := HL1.out.lt
  generalize w1.drew = wd at *
  have HH := HHAS wd HXD.out
  clear HX1 HL1 HHAS
  cases al with
  | false =>
    have HE : Hid (s.forkE pa m = 4) := by show _ = _; unfold TS.forkE; rw [if_pos (.inl HAL.out)]
    refine' wpAnyH_do 0 rfl (by kernel_rfl) (fun _ _ _ _ h => h) (by rfl) (by assumption) ⟨_, fun w' hS => ?_, ?_⟩
    rotate_left
    · ((try dsimp only at hS); go_split_ands; go_simp; try (with_reducible rfl))
    simp only [Act.put, List.setIfInBounds_toArray, List.set_cons_zero, List.set_cons_succ]
    refine' wpAnyH_do 1 rfl (by kernel_rfl) (fun _ _ _ _ h => h) (by rfl) (by assumption) ⟨_, fun w' hS => ?_, ?_⟩
    rotate_left
    · ((try dsimp only at hS); go_split_ands; go_simp; try (with_reducible rfl))
    simp only [Act.put, List.setIfInBounds_toArray, List.set_cons_zero, List.set_cons_succ]
    refine' wpAnyH_do 2 rfl (by kernel_rfl) (fun _ _ _ _ h => h) (by rfl) (by assumption) ⟨_, fun w' hS => ?_, ?_⟩
    rotate_left
    · ((try dsimp only at hS); go_split_ands; go_simp; try (with_reducible rfl))
    simp only [Act.put, List.setIfInBounds_toArray, List.set_cons_zero, List.set_cons_succ]
    refine wpAnyH_pass 3 rfl (by kernel_rfl) (fun _ _ _ _ h => h) (by rfl) (by assumption) ?_
    simp only [Act.put, List.setIfInBounds_toArray, List.set_cons_zero, List.set_cons_succ]
    refine wpAnyH_pass 4 rfl (by kernel_rfl) (fun _ _ _ _ h => h) (by rfl) (by assumption) ?_
    simp only [Act.put, List.setIfInBounds_toArray, List.set_cons_zero, List.set_cons_succ]
    refine wpAnyH_pass 5 rfl (by kernel_rfl) (fun _ _ _ _ h => h) (by rfl) (by assumption) ?_
    simp only [Act.put, List.setIfInBounds_toArray, List.set_cons_zero, List.set_cons_succ]
    refine wpAnyH_pass 6 rfl (by kernel_rfl) (fun _ _ _ _ h => h) (by rfl) (by assumption) ?_
    simp only [Act.put, List.setIfInBounds_toArray, List.set_cons_zero, List.set_cons_succ]
    refine wpAnyH_pass 7 rfl (by kernel_rfl) (fun _ _ _ _ h => h) (by rfl) (by assumption) ?_
    simp only [Act.put, List.setIfInBounds_toArray, List.set_cons_zero, List.set_cons_succ]
    refine wpAnyH_pass 8 rfl (by kernel_rfl) (fun _ _ _ _ h => h) (by rfl) (by assumption) ?_
    simp only [Act.put, List.setIfInBounds_toArray, List.set_cons_zero, List.set_cons_succ]
    refine wpAnyH_pass 9 rfl (by kernel_rfl) (fun _ _ _ _ h => h) (by rfl) (by assumption) ?_
    simp only [Act.put, List.setIfInBounds_toArray, List.set_cons_zero, List.set_cons_succ]
    refine wpAnyH_pass 10 rfl (by kernel_rfl) (fun _ _ _ _ h => h) (by rfl) (by assumption) ?_
    simp only [Act.put, List.setIfInBounds_toArray, List.set_cons_zero, List.set_cons_succ]
    refine wpAnyH_pass 11 rfl (by kernel_rfl) (fun _ _ _ _ h => h) (by rfl) (by assumption) ?_
    simp only [Act.put, List.setIfInBounds_toArray, List.set_cons_zero, List.set_cons_succ]
    refine wpAnyH_pass 12 rfl (by kernel_rfl) (fun _ _ _ _ h => h) (by rfl) (by assumption) ?_
    simp only [Act.put, List.setIfInBounds_toArray, List.set_cons_zero, List.set_cons_succ]
    refine wpAnyH_pass 13 rfl (by kernel_rfl) (fun _ _ _ _ h => h) (by rfl) (by assumption) ?_
    simp only [Act.put, List.setIfInBounds_toArray, List.set_cons_zero, List.set_cons_succ]
    refine' wpAnyH_do 14 rfl (by kernel_rfl) (fun _ _ _ _ h => h) (by rfl) (by assumption) ⟨_, fun w' hS => ?_, ?_⟩
    rotate_left
    · ((try dsimp only at hS); go_split_ands; go_simp; try (with_reducible rfl))
    simp only [Act.put, List.setIfInBounds_toArray, List.set_cons_zero, List.set_cons_succ]
    refine wpAnyH_done (by kernel_rfl) ?_ _
    clear hS
    go_wp2
    go_ret2
    obtain ⟨h1, h2, h3⟩ := HB.out 4 wd HE.out (by decide) HXD.out
    exact ⟨ret_two h1.symm h2.symm, h3⟩
  | true =>
    refine' wpAnyH_do 0 rfl (by kernel_rfl) (fun _ _ _ _ h => h) (by rfl) (by assumption) ⟨_, fun w' hS => ?_, ?_⟩
    rotate_left
    · ((try dsimp only at hS); go_split_ands; go_simp; try (with_reducible rfl))
    simp only [Act.put, List.setIfInBounds_toArray, List.set_cons_zero, List.set_cons_succ]
    refine' wpAnyH_do 1 rfl (by kernel_rfl) (fun _ _ _ _ h => h) (by rfl) (by assumption) ⟨_, fun w' hS => ?_, ?_⟩
    rotate_left
    · ((try dsimp only at hS); go_split_ands; go_simp; try (with_reducible rfl))
    simp only [Act.put, List.setIfInBounds_toArray, List.set_cons_zero, List.set_cons_succ]
    refine' wpAnyH_do 2 rfl (by kernel_rfl) (fun _ _ _ _ h => h) (by rfl) (by assumption) ⟨_, fun w' hS => ?_, ?_⟩
    rotate_left
    · ((try dsimp only at hS); go_split_ands; go_simp; try (with_reducible rfl))
    simp only [Act.put, List.setIfInBounds_toArray, List.set_cons_zero, List.set_cons_succ]
    refine' wpAnyH_do 3 rfl (by kernel_rfl) (fun _ _ _ _ h => h) (by rfl) (by assumption) ⟨_, fun w' hS => ?_, ?_⟩
    rotate_left
    · ((try dsimp only at hS); go_split_ands; go_simp; try (with_reducible rfl))
    simp only [Act.put, List.setIfInBounds_toArray, List.set_cons_zero, List.set_cons_succ]
    refine' wpAnyH_do 4 rfl (by kernel_rfl) (fun _ _ _ _ h => h) (by rfl) (by assumption) ⟨_, fun w' hS => ?_, ?_⟩
    rotate_left
    · ((try dsimp only at hS); go_split_ands; go_simp; try (with_reducible rfl))
    simp only [Act.put, List.setIfInBounds_toArray, List.set_cons_zero, List.set_cons_succ]
    refine' wpAnyH_do 5 rfl (by kernel_rfl) (fun _ _ _ _ h => h) (by rfl) (by assumption) ⟨_, fun w' hS => ?_, ?_⟩
    rotate_left
    · ((try dsimp only at hS); go_split_ands; go_simp; try (with_reducible rfl))
    simp only [Act.put, List.setIfInBounds_toArray, List.set_cons_zero, List.set_cons_succ]
    refine' wpAnyH_do 6 rfl (by kernel_rfl) (fun _ _ _ _ h => h) (by rfl) (by assumption) ⟨_, fun w' hS => exec_load_at 123 (.tmp 31) rfl ⟨L.p, 5, none⟩ rfl _ _ hS.1 Tryz.underlying123 rfl (by kernel_rfl), ?_⟩
    simp only [Act.put, List.setIfInBounds_toArray, List.set_cons_zero, List.set_cons_succ]
    refine' wpAnyH_do 7 rfl (by kernel_rfl) (fun _ _ _ _ h => h) (by rfl) (by assumption) ⟨_, fun w' hS => ?_, ?_⟩
    rotate_left
    · ((try dsimp only at hS); go_split_ands; go_simp; try (with_reducible rfl))
    simp only [Act.put, List.setIfInBounds_toArray, List.set_cons_zero, List.set_cons_succ]
    refine' wpAnyH_do 8 rfl (by kernel_rfl) (fun _ _ _ _ h => h) (by rfl) (by assumption) ⟨_, fun w' hS => ?_, ?_⟩
    rotate_left
    · ((try dsimp only at hS); go_split_ands; go_simp; try (with_reducible rfl))
    simp only [Act.put, List.setIfInBounds_toArray, List.set_cons_zero, List.set_cons_succ]
    refine' wpAnyH_do 9 rfl (by kernel_rfl) (fun _ _ _ _ h => h) (by rfl) (by assumption) ⟨_, fun w' hS => ?_, ?_⟩
    rotate_left
    · ((try dsimp only at hS); go_split_ands; go_simp; try (with_reducible rfl))
    simp only [Act.put, List.setIfInBounds_toArray, List.set_cons_zero, List.set_cons_succ]
    refine' wpAnyH_do 10 rfl (by kernel_rfl) (fun _ _ _ _ h => h) (by rfl) (by assumption) ⟨_, fun w' hS => ?_, ?_⟩
    rotate_left
    · ((try dsimp only at hS); go_split_ands; go_simp; try (with_reducible rfl))
    simp only [Act.put, List.setIfInBounds_toArray, List.set_cons_zero, List.set_cons_succ]
    refine' wpAnyH_do 11 rfl (by kernel_rfl) (fun _ _ _ _ h => h) (by rfl) (by assumption) ⟨_, fun w' hS => ?_, ?_⟩
    rotate_left
    · ((try dsimp only at hS); go_split_ands; go_simp; try (with_reducible rfl))
    simp only [Act.put, List.setIfInBounds_toArray, List.set_cons_zero, List.set_cons_succ]
    refine wpAnyH_eff 12 rfl (by kernel_rfl) (by rfl) (fun K hK => ?_)
    have HKK := Lib.hid hK
    clear hK
    go_simp
    refine HH.out.mono ?_
    rintro e w2 ⟨rfl, hx2⟩
    have hS2 : (fun w' : World => RowAt w' ⟨L.p, 5, none⟩ L.P.cells ∧ w'.cell? ⟨L.p, 2, none⟩ = some (.int .i64 s.now)) w2 := ⟨hS.1.ex hx2 id, hx2.cellS hS.2 not_false⟩
    have HX2 := Lib.hid (HXD.out.trans0 hx2)
    clear hS hx2 HH HXD
    dsimp only
    refine HKK.out _ _ hS2 ?_
    clear HKK K
    (try simp only [Act.put, List.setIfInBounds_toArray, List.set_cons_zero, List.set_cons_succ])
    have hS := hS2
    clear hS2
    refine' wpAnyH_do 13 rfl (by kernel_rfl) (fun _ _ _ _ h => h) (by rfl) (by assumption) ⟨_, fun w' hS => ?_, ?_⟩
    rotate_left
    · ((try dsimp only at hS); go_split_ands; go_simp; try (with_reducible rfl))
    simp only [Act.put, List.setIfInBounds_toArray, List.set_cons_zero, List.set_cons_succ]
    refine' wpAnyH_do 14 rfl (by kernel_rfl) (fun _ _ _ _ h => h) (by rfl) (by assumption) ⟨_, fun w' hS => ?_, ?_⟩
    rotate_left
    · ((try dsimp only at hS); go_split_ands; go_simp; try (with_reducible rfl))
    simp only [Act.put, List.setIfInBounds_toArray, List.set_cons_zero, List.set_cons_succ]
    refine wpAnyH_done (by kernel_rfl) ?_ _
    have HL2 := Lib.hid (HL.out.ex0 HX2.out)
    have hlp2 := HL2.out.lt
    have hc10 : w2.cell? ⟨L.p, 10, none⟩ = some (.pointer (some ⟨L.P.pf, 0, none⟩)) := HL2.out.cell rfl
    clear hS hlp1
    cases hs with
    | false =>
      have HE : Hid (s.forkE pa m = 4) := by show _ = _; unfold TS.forkE; rw [if_pos (.inr HHS.out)]
      go_wp2
      go_ret2
      obtain ⟨h1, h2, h3⟩ := HB.out 4 w2 HE.out (by decide) HX2.out
      exact ⟨ret_two h1.symm h2.symm, h3⟩
    | true =>
      have HNE : Hid (¬ (alive s.fs pa = false ∨ s.has m = false)) := by show ¬ _; rw [HAL.out, HHS.out]; simp
      by_cases hm : m < numF s.fs pa
      · have HE : Hid (s.forkE pa m = 15) := by show _ = _; unfold TS.forkE; rw [if_neg HNE.out, if_pos hm]
        go_wp2
        go_ret2
        obtain ⟨h1, h2, h3⟩ := HB.out 15 w2 HE.out (by decide) HX2.out
        exact ⟨ret_two h1.symm h2.symm, h3⟩
      · have HMM := Lib.hid hm
        have hm' : decide (m < numF s.fs pa) = false := decide_eq_false hm
        go_wp2_with fail
        refine (free_any L.P.pf s.fs w2 HL2.out.law.fs).mono ?_
        rintro e w3 ⟨rfl, hx3⟩
        have HX3 := Lib.hid (HX2.out.trans0 hx3)
        have HL3 := Lib.hid (HL.out.ex0 HX3.out)
        have hlp3 := HL3.out.lt
        clear hx3 hc10 hlp2
        have HNX := Lib.hid (next_any L s w3 HL3.out ht.1)
        have hc10 : w3.cell? ⟨L.p, 10, none⟩ = some (.pointer (some ⟨L.P.pf, 0, none⟩)) := HL3.out.cell rfl
        by_cases hf : freeF s.fs = 16
        · have HE : Hid (s.forkE pa m = 6) := by show _ = _; unfold TS.forkE; rw [if_neg HNE.out, if_neg (by have := HMM.out; omega), if_pos hf]
          have hr : freeR s.fs = #[.int .i64 0, .bool false] := by unfold freeR; rw [if_neg (by omega)]
          rw [hr]
          go_wp2_with fail
          refine HNX.out.mono ?_
          rintro e w4 ⟨rfl, rfl⟩
          go_wp2
          go_ret2
          obtain ⟨h1, h2, h3⟩ := HB.out 6 _ HE.out (by decide) HX3.out
          exact ⟨ret_two h1.symm h2.symm, h3⟩
        · have hfl := freeF_lt hf
          have hr : freeR s.fs = #[.int .i64 (freeF s.fs), .bool true] := by unfold freeR; rw [if_pos hfl]
          rw [hr]
          go_wp2_with fail
          refine HNX.out.mono ?_
          rintro e w4 ⟨rfl, rfl⟩
          by_cases hn : s.next = 0
          · have HE : Hid (s.forkE pa m = 14) := by show _ = _; unfold TS.forkE; rw [if_neg HNE.out, if_neg (by have := HMM.out; omega), if_neg hf, if_pos hn]
            rw [hn]
            go_wp2
            go_ret2
            obtain ⟨h1, h2, h3⟩ := HB.out 14 _ HE.out (by decide) HX3.out
            exact ⟨ret_two h1.symm h2.symm, h3⟩
          · have hv : s.next = s.top + 1 := (next_pos hn).2
            have HE : Hid (s.forkE pa m = 0) := by show _ = _; unfold TS.forkE; rw [if_neg HNE.out, if_neg (by have := HMM.out; omega), if_neg hf, if_neg hn]
            obtain ⟨hz1, hz2⟩ := fork_zero HI.out HAL.out HHS.out (by have := HMM.out; omega) hfl
            have hne : (s.top + 1 == 0) = false := by simp; omega
            have HI2 : Hid (s.forkI pa m = freeF s.fs) := by show _ = _; unfold TS.forkI; rw [HE.out, if_pos rfl]
            have HST : Hid (s.fork pa m = { s with top := s.top + 1, fs := s.fs.set (freeF s.fs) ⟨true, pa, m, s.top + 1⟩ }) := by show _ = _; unfold TS.fork; rw [HE.out, if_pos rfl]
            have HFK := Lib.hid (ffork_any L.P.pf s.fs (freeF s.fs) pa m (s.top + 1) w4 HL3.out.law.fs)
            rw [hz1, hz2] at HFK
            rw [hv]
            clear hn hv hz1 hz2 hf hr HNX hm
            go_wp2_with fail
            refine HFK.out.mono ?_
            rintro e w5 ⟨rfl, hb5, hx5⟩
            have HL5 := Lib.hid (HL3.out.forest hb5 hx5)
            have HX5 := Lib.hid hx5
            have hlp5 := HL5.out.lt
            have hc3 : w5.frozen? ⟨L.p, 3, none⟩ = false := HL5.out.frozen 3
            have k3 : w5.cell? ⟨L.p, 3, none⟩ = some (.int .u64 s.top) := HL5.out.cell rfl
            clear hb5 hx5 hc10
            go_wp2
            go_ret2
            refine ⟨ret_two HI2.out.symm HE.out.symm, ?_⟩
            rw [HST.out]
            refine ⟨L, rfl, HL5.out.setC rfl rfl rfl rfl rfl rfl, (HX3.out.trans (U := L.F) HX5.out (fun _ _ h => h.elim) (fun _ _ h => .inr (.inr (.inr (.inr (.inr (.inr h))))))).trans (Ex.setCell _ _ _) (fun _ _ h => h) (fun _ _ h => .inl h), Nw.refl _ _⟩
end Go.Proofs.YtoglddndicmelaaGreat.Tr

namespace Go.Proofs.YtoglddndicmelaaGreat.Tr
open Go.RowKit Go.Proofs.YtoglddndicmelaaGreatB Go.Proofs.YtoglddndicmelaaGreat
set_option maxRecDepth 100000

/-- a write's place and data, as a value -/
def wrC (br vol blk : Int) (d : List Nat) : List Value := .int .i64 br :: .int .i64 vol :: .int .i64 blk :: encN 32 d
theorem wrC_len (br vol blk : Int) (d : List Nat) : (wrC br vol blk d).length = 35 := by simp [wrC, encN_len]
theorem wr_fold (a b c e : Int) (DA : Array Value) (h : DA.size = 32) : Array.foldl (fun (cs : Array Value) (x : Value × Nat) => cs.setIfInBounds (4 + x.snd) x.fst)
      #[.int .u64 a, .int .i64 b, .int .i64 c, .int .i64 e, .int .u8 0, .int .u8 0, .int .u8 0, .int .u8 0, .int .u8 0, .int .u8 0, .int .u8 0, .int .u8 0, .int .u8 0, .int .u8 0, .int .u8 0, .int .u8 0, .int .u8 0, .int .u8 0, .int .u8 0, .int .u8 0, .int .u8 0, .int .u8 0, .int .u8 0, .int .u8 0, .int .u8 0, .int .u8 0, .int .u8 0, .int .u8 0, .int .u8 0, .int .u8 0, .int .u8 0, .int .u8 0, .int .u8 0, .int .u8 0, .int .u8 0, .int .u8 0] DA.zipIdx 0 32 = ([Value.int .u64 a, .int .i64 b, .int .i64 c, .int .i64 e] ++ DA.toList).toArray := by
  rw [fold_lay_at _ DA 4 32 h.symm (by rw [h]; simp), h]
  simp
theorem infoWr : (Tryz.prog.info? 139).map (fun i => (i.zero, i.size, i.bytes)) = some (some (.agg #[.int .u64 0, .int .i64 0, .int .i64 0, .int .i64 0, .int .u8 0, .int .u8 0, .int .u8 0, .int .u8 0, .int .u8 0, .int .u8 0, .int .u8 0, .int .u8 0, .int .u8 0, .int .u8 0, .int .u8 0, .int .u8 0, .int .u8 0, .int .u8 0, .int .u8 0, .int .u8 0, .int .u8 0, .int .u8 0, .int .u8 0, .int .u8 0, .int .u8 0, .int .u8 0, .int .u8 0, .int .u8 0, .int .u8 0, .int .u8 0, .int .u8 0, .int .u8 0, .int .u8 0, .int .u8 0, .int .u8 0, .int .u8 0]), 36, 64) := by kernel_rfl
theorem wr_cells (n br vol blk : Int) (d : List Nat) : (Wr.mk n br vol blk d).cells = [.int .u64 n, .int .i64 br, .int .i64 vol, .int .i64 blk] ++ encN 32 d := rfl
theorem wr_one (x : Wr) : ∀ u ∈ x.cells, u.oneCell' = true := by
  obtain ⟨n, br, vol, blk, d⟩ := x
  intro u hu
  rw [wr_cells] at hu
  rcases List.mem_append.1 hu with h | h
  · simp at h; rcases h with rfl | rfl | rfl | rfl <;> rfl
  · exact encN_one 32 d u h
/-- a write more -/
theorem LstAt.wrote {w w' : World} {L : LstP} {s : TS} (h : LstAt w L s) {x : Wr} {v2 : Value} (hx : Ex (fun b => L.wv.ownBlock = some b) w w') (ho : w'.ownsRow 0 139 36 v2 (s.ws.length + 1) (s.ws.flatMap Wr.cells ++ x.cells)) :
    LstAt (w'.setCell ⟨L.p, 4, none⟩ v2) { L with wv := v2 } { s with ws := s.ws ++ [x] } := by
  obtain ⟨h1, h2⟩ := h.tys
  obtain ⟨h3, h4, h5, h6, h7⟩ := h.law.tys
  have hp : w'.heap[L.p]? = w.heap[L.p]? := hx.block _ h.lt (fun e => (h2 _ e).ne h1 (by decide) rfl)
  have hb := hp.trans h.blk
  have hx2 : Ex (fun b => b = L.p ∨ L.wv.ownBlock = some b) w (w'.setCell ⟨L.p, 4, none⟩ v2) := hx.trans (Ex.setCell w' ⟨L.p, 4, none⟩ v2) (fun _ _ h => .inr h) (fun _ _ h => .inl h)
  have hne : ∀ {b : Nat} {T : TypeId}, Ty w b T → T ≠ 126 → T ≠ 139 → ¬ (b = L.p ∨ L.wv.ownBlock = some b) := fun ht n1 n2 hc => hc.elim (fun e => ht.ne h1 n1 e) (fun e => ht.ne (h2 _ e) n2 rfl)
  have hnc : NoCal w (fun b => b = L.p ∨ L.wv.ownBlock = some b) := fun b hb => hb.elim (fun e => by subst e; exact NoCal.of h1 (by decide) (by decide)) (fun e => NoCal.of (h2 _ e) (by decide) (by decide))
  refine ⟨by rw [heap_setCell_same _ _ _ _ _ _ hb]; rfl, ?_, ?_⟩
  · dsimp only
    rw [List.length_append, List.flatMap_append]
    have : w'.ownsRow 0 139 36 v2 (s.ws.length + 1) (s.ws.flatMap Wr.cells ++ [x].flatMap Wr.cells) := by simpa using ho
    exact own_ex this (Ex.setCell w' ⟨L.p, 4, none⟩ v2) (fun b hb' e => by subst e; exact (own_ty ho hb').ne ⟨_, _, hb⟩ (by decide) rfl)
  · exact ⟨h.law.tab.ex hx2 (hne h3 (by decide) (by decide)) (fun b hb => hne (h4 b hb) (by decide) (by decide)), h.law.bk.ex hx2 (hne h5 (by decide) (by decide)) (fun b hb => hne (h6 b hb) (by decide) (by decide)), h.law.fs.ex hx2 (hne h7 (by decide) (by decide)), h.law.aut.nocal hx2 hnc⟩
set_option maxHeartbeats 4000000 in
theorem twrite_any (L : LstP) (s : TS) (br vol blk : Int) (d : List Nat) (w : World) (h : LstAt w L s) (hI : Inv s) (hlen : s.tab.length ≤ 900) :
    Calls Tryz.prog 23 #[.pointer (some ⟨L.p, 0, none⟩), .agg (wrC br vol blk d).toArray] w fun e w' => e = .returned (.tuple #[.int .u64 (s.writeN br vol blk), .int .i64 (s.writeE br vol blk)]) ∧ OpP L (s.write br vol blk d) w w' := by
  have ht := hI.top
  have HL := Lib.hid h
  have HI := Lib.hid hI
  have hlp := h.lt
  clear h hI
  have HB : Hid (∀ r w', s.writeE br vol blk = r → r ≠ 0 → Ex0 w w' → s.writeN br vol blk = 0 ∧ s.writeE br vol blk = r ∧ OpP L (s.write br vol blk d) w w') := fun r w' e h0 hx => by
    refine ⟨by unfold TS.writeN; rw [e, if_neg h0], e, ?_⟩
    have : s.write br vol blk d = s := by unfold TS.write; rw [e, if_neg h0]
    rw [this]; exact .same HL.out hx
  have HTH := fun w' (hx : Ex0 w w') => Lib.hid (there_any L s vol blk w' (HL.out.ex0 hx))
  obtain ⟨th, hth⟩ : ∃ th, s.there vol blk = th := ⟨_, rfl⟩
  obtain ⟨al, hal⟩ : ∃ al, alive s.fs br = al := ⟨_, rfl⟩
  have HAL := fun w' (hx : Ex0 w w') => Lib.hid (alive_any L.P.pf s.fs br w' ((HL.out.ex0 hx).law.fs))
  rw [hth] at HTH
  rw [hal] at HAL
  have HTE := Lib.hid hth
  have HLE := Lib.hid hal
  clear hth hal
  have hCl : (wrC br vol blk d).toArray.size = 35 := by rw [List.size_toArray]; exact wrC_len br vol blk d
  obtain ⟨C, hC⟩ : ∃ C, (wrC br vol blk d).toArray = C := ⟨_, rfl⟩
  rw [hC] at hCl ⊢
  have HCE := Lib.hid hC
  clear hC
  go_enter Tryz.func23, Tryz.ntmps23
  go_wp2_with fail
  obtain ⟨wa, hwa⟩ : ∃ wa, w.alloc (.cells C 63) = wa := ⟨_, rfl⟩
  have hBa : wa.heap[w.heap.size]? = some (.cells C 63 (0, 0)) := by rw [← hwa]; exact heap_alloc_new _ _
  have hxa : Ex0 w wa := by rw [← hwa]; exact Ex.alloc _ _
  rw [hwa]
  obtain ⟨B, hB⟩ : ∃ B, w.heap.size = B := ⟨_, rfl⟩
  rw [hB] at hBa ⊢
  have HBE := Lib.hid hB
  clear hwa hB
  have HBA := Lib.hid hBa
  have HXA := Lib.hid hxa
  have hb0 : wa.cell? ⟨B, 0, none⟩ = some (.int .i64 br) := by rw [cell_of_row _ _ _ _ _ _ hBa, ← HCE.out]; rfl
  have hb1 : wa.cell? ⟨B, 1, none⟩ = some (.int .i64 vol) := by rw [cell_of_row _ _ _ _ _ _ hBa, ← HCE.out]; rfl
  have hb2 : wa.cell? ⟨B, 2, none⟩ = some (.int .i64 blk) := by rw [cell_of_row _ _ _ _ _ _ hBa, ← HCE.out]; rfl
  have hlB : B < wa.heap.size := (Array.getElem?_eq_some_iff.1 hBa).1
  clear hBa hxa
  refine (next_any L s wa (HL.out.ex0 HXA.out) ht.1).mono ?_
  rintro e w1 ⟨rfl, rfl⟩
  by_cases hn0 : br < 0
  · have HE : Hid (s.writeE br vol blk = 2) := by show _ = _; unfold TS.writeE; rw [if_pos (.inl hn0)]
    go_wp2
    go_ret2
    obtain ⟨h1, h2, h3⟩ := HB.out 2 _ HE.out (by decide) (HXA.out.alloc' _)
    exact ⟨ret_two h1.symm h2.symm, h3⟩
  have hn0' : decide (br < 0) = false := decide_eq_false (by omega)
  by_cases hn1 : 16 ≤ br
  · have HE : Hid (s.writeE br vol blk = 2) := by show _ = _; unfold TS.writeE; rw [if_pos (.inr (.inl hn1))]
    go_wp2
    go_ret2
    obtain ⟨h1, h2, h3⟩ := HB.out 2 _ HE.out (by decide) (HXA.out.alloc' _)
    exact ⟨ret_two h1.symm h2.symm, h3⟩
  have hn1' : decide (16 ≤ br) = false := decide_eq_false (by omega)
  have HR : Hid (0 ≤ br ∧ br < 16) := ⟨by omega, by omega⟩
  go_wp2_with fail
  obtain ⟨w2, hw2⟩ : ∃ w2, w1.alloc (.cells #[.int .i64 br, .int .i64 vol, .int .i64 blk] 59) = w2 := ⟨_, rfl⟩
  have hP2 : w2.heap[w1.heap.size]? = some (.cells #[.int .i64 br, .int .i64 vol, .int .i64 blk] 59 (0, 0)) := by rw [← hw2]; exact heap_alloc_new _ _
  have hx2 : Ex0 w1 w2 := by rw [← hw2]; exact Ex.alloc _ _
  rw [hw2]
  obtain ⟨P, hP⟩ : ∃ P, w1.heap.size = P := ⟨_, rfl⟩
  rw [hP] at hP2 ⊢
  have HX2 := Lib.hid (HXA.out.trans0 hx2)
  have HX12 := Lib.hid hx2
  have HP2 := Lib.hid hP2
  clear hw2 hP hx2 hlB hb0 hb1 hb2
  have hp0 : w2.cell? ⟨P, 0, none⟩ = some (.int .i64 br) := by rw [cell_of_row _ _ _ _ _ _ hP2]; rfl
  have hlP : P < w2.heap.size := (Array.getElem?_eq_some_iff.1 hP2).1
  clear hP2
  refine (HTH w2 HX2.out).out.mono ?_
  rintro e w3 ⟨rfl, rfl⟩
  cases th with
  | false =>
    have HE : Hid (s.writeE br vol blk = 2) := by show _ = _; unfold TS.writeE; rw [if_pos (.inr (.inr HTE.out))]
    go_wp2
    go_ret2
    obtain ⟨h1, h2, h3⟩ := HB.out 2 _ HE.out (by decide) HX2.out
    exact ⟨ret_two h1.symm h2.symm, h3⟩
  | true =>
    have HNE : Hid (¬ (br < 0 ∨ 16 ≤ br ∨ s.there vol blk = false)) := by have := HR.out; show ¬ _; rw [HTE.out]; simp; omega
    go_wp2_with fail
    have HL2 := Lib.hid (HL.out.ex0 (HX2.out.trans0 (Ex.drew w3)))
    have hS : (fun w' : World => w'.cell? ⟨L.p, 10, none⟩ = some (.pointer (some ⟨L.P.pf, 0, none⟩)) ∧ w'.cell? ⟨P, 0, none⟩ = some (.int .i64 br)) w3.drew := ⟨HL2.out.cell rfl, hp0⟩
    have HXD : Hid (Ex0 w3 w3.drew) := Ex.drew w3
    refine wp_region_takes (fun w' : World => w'.cell? ⟨L.p, 10, none⟩ = some (.pointer (some ⟨L.P.pf, 0, none⟩)) ∧ w'.cell? ⟨P, 0, none⟩ = some (.int .i64 br)) (by kernel_rfl) ?_
    simp only [List.length_cons, List.length_nil]
    have hlp3 := HL2.out.lt
    generalize w3.drew = wd at *
    refine' wpAnyH_do 0 rfl (by kernel_rfl) (fun _ _ _ _ h => h) (by rfl) (by assumption) ⟨_, fun w' hS => ?_, ?_⟩
    rotate_left
    · ((try dsimp only at hS); go_split_ands; go_simp; try (with_reducible rfl))
    simp only [Act.put, List.setIfInBounds_toArray, List.set_cons_zero, List.set_cons_succ]
    refine' wpAnyH_do 1 rfl (by kernel_rfl) (fun _ _ _ _ h => h) (by rfl) (by assumption) ⟨_, fun w' hS => ?_, ?_⟩
    rotate_left
    · ((try dsimp only at hS); go_split_ands; go_simp; try (with_reducible rfl))
    simp only [Act.put, List.setIfInBounds_toArray, List.set_cons_zero, List.set_cons_succ]
    refine' wpAnyH_do 2 rfl (by kernel_rfl) (fun _ _ _ _ h => h) (by rfl) (by assumption) ⟨_, fun w' hS => ?_, ?_⟩
    rotate_left
    · ((try dsimp only at hS); go_split_ands; go_simp; try (with_reducible rfl))
    simp only [Act.put, List.setIfInBounds_toArray, List.set_cons_zero, List.set_cons_succ]
    refine' wpAnyH_do 3 rfl (by kernel_rfl) (fun _ _ _ _ h => h) (by rfl) (by assumption) ⟨_, fun w' hS => ?_, ?_⟩
    rotate_left
    · ((try dsimp only at hS); go_split_ands; go_simp; try (with_reducible rfl))
    simp only [Act.put, List.setIfInBounds_toArray, List.set_cons_zero, List.set_cons_succ]
    refine' wpAnyH_do 4 rfl (by kernel_rfl) (fun _ _ _ _ h => h) (by rfl) (by assumption) ⟨_, fun w' hS => ?_, ?_⟩
    rotate_left
    · ((try dsimp only at hS); go_split_ands; go_simp; try (with_reducible rfl))
    simp only [Act.put, List.setIfInBounds_toArray, List.set_cons_zero, List.set_cons_succ]
    refine' wpAnyH_do 5 rfl (by kernel_rfl) (fun _ _ _ _ h => h) (by rfl) (by assumption) ⟨_, fun w' hS => ?_, ?_⟩
    rotate_left
    · ((try dsimp only at hS); go_split_ands; go_simp; try (with_reducible rfl))
    simp only [Act.put, List.setIfInBounds_toArray, List.set_cons_zero, List.set_cons_succ]
    refine' wpAnyH_do 6 rfl (by kernel_rfl) (fun _ _ _ _ h => h) (by rfl) (by assumption) ⟨_, fun w' hS => ?_, ?_⟩
    rotate_left
    · ((try dsimp only at hS); go_split_ands; go_simp; try (with_reducible rfl))
    simp only [Act.put, List.setIfInBounds_toArray, List.set_cons_zero, List.set_cons_succ]
    refine wpAnyH_eff 7 rfl (by kernel_rfl) (by rfl) (fun K hK => ?_)
    have HKK := Lib.hid hK
    clear hK
    go_simp
    refine (HAL wd (HX2.out.trans0 HXD.out)).out.mono ?_
    rintro e w4 ⟨rfl, hx4⟩
    have HX4 := Lib.hid (HX2.out.trans0 (HXD.out.trans0 hx4))
    have HX24 := Lib.hid (HXD.out.trans0 hx4)
    have hS4 : (fun w' : World => w'.cell? ⟨L.p, 10, none⟩ = some (.pointer (some ⟨L.P.pf, 0, none⟩)) ∧ w'.cell? ⟨P, 0, none⟩ = some (.int .i64 br)) w4 := ⟨hx4.cellS hS.1 not_false, hx4.cellS hS.2 not_false⟩
    clear hS hx4 hp0 hlP HXD HL2 hlp3
    dsimp only
    refine HKK.out _ _ hS4 ?_
    clear HKK K
    (try simp only [Act.put, List.setIfInBounds_toArray, List.set_cons_zero, List.set_cons_succ])
    have hS := hS4
    clear hS4
    refine' wpAnyH_do 8 rfl (by kernel_rfl) (fun _ _ _ _ h => h) (by rfl) (by assumption) ⟨_, fun w' hS => ?_, ?_⟩
    rotate_left
    · ((try dsimp only at hS); go_split_ands; go_simp; try (with_reducible rfl))
    simp only [Act.put, List.setIfInBounds_toArray, List.set_cons_zero, List.set_cons_succ]
    refine' wpAnyH_do 9 rfl (by kernel_rfl) (fun _ _ _ _ h => h) (by rfl) (by assumption) ⟨_, fun w' hS => ?_, ?_⟩
    rotate_left
    · ((try dsimp only at hS); go_split_ands; go_simp; try (with_reducible rfl))
    simp only [Act.put, List.setIfInBounds_toArray, List.set_cons_zero, List.set_cons_succ]
    refine wpAnyH_done (by kernel_rfl) ?_ _
    clear hS
    cases al with
    | false =>
      have HE : Hid (s.writeE br vol blk = 4) := by show _ = _; unfold TS.writeE; rw [if_neg HNE.out, if_pos HLE.out]
      go_wp2
      go_ret2
      obtain ⟨h1, h2, h3⟩ := HB.out 4 _ HE.out (by decide) HX4.out
      exact ⟨ret_two h1.symm h2.symm, h3⟩
    | true =>
      have HNL : Hid (¬ alive s.fs br = false) := by show ¬ _; rw [HLE.out]; simp
      by_cases hn : s.next = 0
      · have HE : Hid (s.writeE br vol blk = 14) := by show _ = _; unfold TS.writeE; rw [if_neg HNE.out, if_neg HNL.out, if_pos hn]
        rw [hn]
        go_wp2
        go_ret2
        obtain ⟨h1, h2, h3⟩ := HB.out 14 _ HE.out (by decide) HX4.out
        exact ⟨ret_two h1.symm h2.symm, h3⟩
      · have HE : Hid (s.writeE br vol blk = 0) := by show _ = _; unfold TS.writeE; rw [if_neg HNE.out, if_neg HNL.out, if_neg hn]
        have hv : s.next = s.top + 1 := (next_pos hn).2
        have HAD := Lib.hid (add_tab HI.out hn)
        have hne : (s.top + 1 == 0) = false := by simp; omega
        rw [hv]
        clear hn hv
        go_wp2_with fail
        have HL4 := Lib.hid (HL.out.ex0 (HX4.out.trans0 (Ex.drew w4)))
        have hS : (fun w' : World => w'.cell? ⟨L.p, 5, none⟩ = some (.pointer (some ⟨L.P.pt, 0, none⟩)) ∧ w'.cell? ⟨L.p, 2, none⟩ = some (.int .i64 s.now)) w4.drew := ⟨HL4.out.cell rfl, HL4.out.cell rfl⟩
        have HXD : Hid (Ex0 w4 w4.drew) := Ex.drew w4
        refine wp_region_takes (fun w' : World => w'.cell? ⟨L.p, 5, none⟩ = some (.pointer (some ⟨L.P.pt, 0, none⟩)) ∧ w'.cell? ⟨L.p, 2, none⟩ = some (.int .i64 s.now)) (by kernel_rfl) ?_
        simp only [List.length_cons, List.length_nil]
        have hlp4 := HL4.out.lt
        generalize w4.drew = wd at *
        refine' wpAnyH_do 0 rfl (by kernel_rfl) (fun _ _ _ _ h => h) (by rfl) (by assumption) ⟨_, fun w' hS => ?_, ?_⟩
        rotate_left
        · ((try dsimp only at hS); go_split_ands; go_simp; try (with_reducible rfl))
        simp only [Act.put, List.setIfInBounds_toArray, List.set_cons_zero, List.set_cons_succ]
        refine' wpAnyH_do 1 rfl (by kernel_rfl) (fun _ _ _ _ h => h) (by rfl) (by assumption) ⟨_, fun w' hS => ?_, ?_⟩
        rotate_left
        · ((try dsimp only at hS); go_split_ands; go_simp; try (with_reducible rfl))
        simp only [Act.put, List.setIfInBounds_toArray, List.set_cons_zero, List.set_cons_succ]
        refine' wpAnyH_do 2 rfl (by kernel_rfl) (fun _ _ _ _ h => h) (by rfl) (by assumption) ⟨_, fun w' hS => ?_, ?_⟩
        rotate_left
        · ((try dsimp only at hS); go_split_ands; go_simp; try (with_reducible rfl))
        simp only [Act.put, List.setIfInBounds_toArray, List.set_cons_zero, List.set_cons_succ]
        refine' wpAnyH_do 3 rfl (by kernel_rfl) (fun _ _ _ _ h => h) (by rfl) (by assumption) ⟨_, fun w' hS => ?_, ?_⟩
        rotate_left
        · ((try dsimp only at hS); go_split_ands; go_simp; try (with_reducible rfl))
        simp only [Act.put, List.setIfInBounds_toArray, List.set_cons_zero, List.set_cons_succ]
        refine' wpAnyH_do 4 rfl (by kernel_rfl) (fun _ _ _ _ h => h) (by rfl) (by assumption) ⟨_, fun w' hS => ?_, ?_⟩
        rotate_left
        · ((try dsimp only at hS); go_split_ands; go_simp; try (with_reducible rfl))
        simp only [Act.put, List.setIfInBounds_toArray, List.set_cons_zero, List.set_cons_succ]
        refine' wpAnyH_do 5 rfl (by kernel_rfl) (fun _ _ _ _ h => h) (by rfl) (by assumption) ⟨_, fun w' hS => ?_, ?_⟩
        rotate_left
        · ((try dsimp only at hS); go_split_ands; go_simp; try (with_reducible rfl))
        simp only [Act.put, List.setIfInBounds_toArray, List.set_cons_zero, List.set_cons_succ]
        refine' wpAnyH_do 6 rfl (by kernel_rfl) (fun _ _ _ _ h => h) (by rfl) (by assumption) ⟨_, fun w' hS => ?_, ?_⟩
        rotate_left
        · ((try dsimp only at hS); go_split_ands; go_simp; try (with_reducible rfl))
        simp only [Act.put, List.setIfInBounds_toArray, List.set_cons_zero, List.set_cons_succ]
        refine' wpAnyH_do 7 rfl (by kernel_rfl) (fun _ _ _ _ h => h) (by rfl) (by assumption) ⟨_, fun w' hS => ?_, ?_⟩
        rotate_left
        · ((try dsimp only at hS); go_split_ands; go_simp; try (with_reducible rfl))
        simp only [Act.put, List.setIfInBounds_toArray, List.set_cons_zero, List.set_cons_succ]
        refine' wpAnyH_do 8 rfl (by kernel_rfl) (fun _ _ _ _ h => h) (by rfl) (by assumption) ⟨_, fun w' hS => ?_, ?_⟩
        rotate_left
        · ((try dsimp only at hS); go_split_ands; go_simp; try (with_reducible rfl))
        simp only [Act.put, List.setIfInBounds_toArray, List.set_cons_zero, List.set_cons_succ]
        refine' wpAnyH_do 9 rfl (by kernel_rfl) (fun _ _ _ _ h => h) (by rfl) (by assumption) ⟨_, fun w' hS => ?_, ?_⟩
        rotate_left
        · ((try dsimp only at hS); go_split_ands; go_simp; try (with_reducible rfl))
        simp only [Act.put, List.setIfInBounds_toArray, List.set_cons_zero, List.set_cons_succ]
        refine wpAnyH_eff 10 rfl (by kernel_rfl) (by rfl) (fun K hK => ?_)
        have HKK := Lib.hid hK
        clear hK
        go_simp
        have HTA := Lib.hid (Mo.add_any L.P.pt L.P.tv s.tab (s.top + 1) s.now wd HL4.out.law.tab HI.out.tab hlen)
        rw [HAD.out.1, HAD.out.2] at HTA
        refine HTA.out.mono ?_
        rintro e w5 ⟨tv5, rfl, hv5, ht5, hx5⟩
        have HL5 := Lib.hid (HL4.out.table ht5 hx5)
        have HX5 := Lib.hid hx5
        have HV5 := Lib.hid hv5
        have hS5 : (fun w' : World => w'.cell? ⟨L.p, 5, none⟩ = some (.pointer (some ⟨L.P.pt, 0, none⟩)) ∧ w'.cell? ⟨L.p, 2, none⟩ = some (.int .i64 s.now)) w5 := ⟨HL5.out.cell rfl, HL5.out.cell rfl⟩
        clear hS hx5 hv5 ht5 HTA hlp4
        dsimp only
        refine HKK.out _ _ hS5 ?_
        clear HKK K
        (try simp only [Act.put, List.setIfInBounds_toArray, List.set_cons_zero, List.set_cons_succ])
        have hS := hS5
        clear hS5
        refine' wpAnyH_do 11 rfl (by kernel_rfl) (fun _ _ _ _ h => h) (by rfl) (by assumption) ⟨_, fun w' hS => ?_, ?_⟩
        rotate_left
        · ((try dsimp only at hS); go_split_ands; go_simp; try (with_reducible rfl))
        simp only [Act.put, List.setIfInBounds_toArray, List.set_cons_zero, List.set_cons_succ]
        refine wpAnyH_done (by kernel_rfl) ?_ _
        clear hS
        have hc3 : w5.frozen? ⟨L.p, 3, none⟩ = false := HL5.out.frozen 3
        have k3 : w5.cell? ⟨L.p, 3, none⟩ = some (.int .u64 s.top) := HL5.out.cell rfl
        have hlp5 : L.p < w5.heap.size := HL5.out.lt
        go_wp2_with fail
        obtain ⟨w6, hw6⟩ : ∃ w6, w5.setCell ⟨L.p, 3, none⟩ (.int .u64 (s.top + 1)) = w6 := ⟨_, rfl⟩
        have HL6 : Hid (LstAt w6 { L with P := { L.P with tv := tv5 } } { s with tab := s.tab ++ [⟨s.top + 1, s.now, false⟩], top := s.top + 1 }) := by rw [← hw6]; exact HL5.out.setC rfl rfl rfl rfl rfl rfl
        have hx6 : Ex (· = L.p) w5 w6 := by rw [← hw6]; exact Ex.setCell w5 ⟨L.p, 3, none⟩ _
        rw [hw6]
        have HX46 : Hid (Ex (fun b => b = L.p ∨ b = L.P.pt ∨ L.P.tv.ownBlock = some b) w4 w6) := (HXD.out.trans HX5.out (U := fun b => b = L.p ∨ b = L.P.pt ∨ L.P.tv.ownBlock = some b) (fun _ _ h => h.elim) (fun _ _ h => .inr h)).trans hx6 (fun _ _ h => h) (fun _ _ h => .inl h)
        have HBF : Hid (w.heap.size ≤ B) := by show _ ≤ _; rw [HBE.out]; exact Nat.le_refl _
        have HB6 : Hid (w6.heap[B]? = some (.cells C 63 (0, 0))) := by
          show _ = _
          have h1 : w4.heap[B]? = some (.cells C 63 (0, 0)) := ((HX12.out.trans0 HX24.out).block B (Array.getElem?_eq_some_iff.1 HBA.out).1 id).trans HBA.out
          refine (HX46.out.block B (Array.getElem?_eq_some_iff.1 h1).1 (fun h => ?_)).trans h1
          have hF := HL.out.fin B
          have hBF := HBF.out
          have : L.F B := h.elim .inl (fun h => h.elim (fun h => .inr (.inr (.inl h))) (fun h => .inr (.inr (.inr (.inl h)))))
          have := hF this; omega
        clear hw6 hx6 hc3 k3 hlp5
        have hl4 := (HL6.out.ex0 (Ex.drew _)).lt
        have k4 : w6.drew.cell? ⟨L.p, 4, none⟩ = some L.wv := (HL6.out.ex0 (Ex.drew _)).cell rfl
        have hr1 : RowAt w6.drew ⟨B, 0, none⟩ [.int .i64 br, .int .i64 vol, .int .i64 blk] := fun j u hu => by
          rw [add_row, cell_of_row (w := w6.drew) _ _ _ _ _ HB6.out, ← HCE.out]
          rcases j with _ | _ | _ | j
          · exact hu
          · exact hu
          · exact hu
          · simp at hu
        have hr2 : RowAt w6.drew ⟨B, 3, none⟩ (encN 32 d) := fun j u hu => by
          rw [add_row, cell_of_row (w := w6.drew) _ _ _ _ _ HB6.out, ← HCE.out]
          unfold wrC
          rw [show 3 + j = j + 3 by omega]
          simpa using hu
        have hS : (fun w' : World => w'.cell? ⟨L.p, 4, none⟩ = some L.wv ∧ RowAt w' ⟨B, 0, none⟩ [.int .i64 br, .int .i64 vol, .int .i64 blk] ∧ RowAt w' ⟨B, 3, none⟩ (encN 32 d)) w6.drew := ⟨k4, hr1, hr2⟩
        have HXD6 : Hid (Ex0 w6 w6.drew) := Ex.drew w6
        clear k4 hr1 hr2
        refine wp_region_head (fun w' : World => w'.cell? ⟨L.p, 4, none⟩ = some L.wv ∧ RowAt w' ⟨B, 0, none⟩ [.int .i64 br, .int .i64 vol, .int .i64 blk] ∧ RowAt w' ⟨B, 3, none⟩ (encN 32 d)) 13 (by kernel_rfl) (by decide) ?_
        simp only [List.length_cons, List.length_nil, List.drop_succ_cons, List.drop_zero]
        generalize w6.drew = wd at *
        refine' wpHead_do 0 rfl (by kernel_rfl) (fun _ _ _ _ h => h) (by rfl) (by assumption) ⟨_, fun w' hS => ?_, ?_⟩
        rotate_left
        · ((try dsimp only at hS); go_split_ands; go_simp; try (with_reducible rfl))
        simp only [Act.put, List.setIfInBounds_toArray, List.set_cons_zero, List.set_cons_succ]
        refine' wpHead_do 1 rfl (by kernel_rfl) (fun _ _ _ _ h => h) (by rfl) (by assumption) ⟨_, fun w' hS => ?_, ?_⟩
        rotate_left
        · ((try dsimp only at hS); go_split_ands; go_simp; try (with_reducible rfl))
        simp only [Act.put, List.setIfInBounds_toArray, List.set_cons_zero, List.set_cons_succ]
        refine' wpHead_do 2 rfl (by kernel_rfl) (fun _ _ _ _ h => h) (by rfl) (by assumption) ⟨_, fun w' hS => ?_, ?_⟩
        rotate_left
        · ((try dsimp only at hS); go_split_ands; go_simp; try (with_reducible rfl))
        simp only [Act.put, List.setIfInBounds_toArray, List.set_cons_zero, List.set_cons_succ]
        refine' wpHead_do 3 rfl (by kernel_rfl) (fun _ _ _ _ h => h) (by rfl) (by assumption) ⟨_, fun w' hS => ?_, ?_⟩
        rotate_left
        · ((try dsimp only at hS); go_split_ands; go_simp; try (with_reducible rfl))
        simp only [Act.put, List.setIfInBounds_toArray, List.set_cons_zero, List.set_cons_succ]
        refine' wpHead_do 4 rfl (by kernel_rfl) (fun _ _ _ _ h => h) (by rfl) (by assumption) ⟨_, fun w' hS => ?_, ?_⟩
        rotate_left
        · ((try dsimp only at hS); go_split_ands; go_simp; try (with_reducible rfl))
        simp only [Act.put, List.setIfInBounds_toArray, List.set_cons_zero, List.set_cons_succ]
        refine' wpHead_do 5 rfl (by kernel_rfl) (fun _ _ _ _ h => h) (by rfl) (by assumption) ⟨_, fun w' hS => ?_, ?_⟩
        rotate_left
        · ((try dsimp only at hS); go_split_ands; go_simp; try (with_reducible rfl))
        simp only [Act.put, List.setIfInBounds_toArray, List.set_cons_zero, List.set_cons_succ]
        refine' wpHead_do 6 rfl (by kernel_rfl) (fun _ _ _ _ h => h) (by rfl) (by assumption) ⟨_, fun w' hS => ?_, ?_⟩
        rotate_left
        · ((try dsimp only at hS); go_split_ands; go_simp; try (with_reducible rfl))
        simp only [Act.put, List.setIfInBounds_toArray, List.set_cons_zero, List.set_cons_succ]
        refine' wpHead_do 7 rfl (by kernel_rfl) (fun _ _ _ _ h => h) (by rfl) (by assumption) ⟨_, fun w' hS => exec_load_at 59 (.tmp 70) rfl ⟨B, 0, none⟩ rfl _ _ hS.2.1 Tryz.underlying59 rfl (by kernel_rfl), ?_⟩
        simp only [Act.put, List.setIfInBounds_toArray, List.set_cons_zero, List.set_cons_succ]
        refine' wpHead_do 8 rfl (by kernel_rfl) (fun _ _ _ _ h => h) (by rfl) (by assumption) ⟨_, fun w' hS => ?_, ?_⟩
        rotate_left
        · ((try dsimp only at hS); go_split_ands; go_simp; try (with_reducible rfl))
        simp only [Act.put, List.setIfInBounds_toArray, List.set_cons_zero, List.set_cons_succ]
        refine' wpHead_do 9 rfl (by kernel_rfl) (fun _ _ _ _ h => h) (by rfl) (by assumption) ⟨_, fun w' hS => exec_load_at 49 (.tmp 72) rfl ⟨B, 3, none⟩ rfl _ _ hS.2.2 Tryz.underlying49 rfl (by rw [encN_len]; kernel_rfl), ?_⟩
        simp only [Act.put, List.setIfInBounds_toArray, List.set_cons_zero, List.set_cons_succ]
        obtain ⟨DA, hDA⟩ : ∃ DA, (encN 32 d).toArray = DA := ⟨_, rfl⟩
        have hDl : DA.size = 32 := by rw [← hDA, List.size_toArray, encN_len]
        rw [hDA]
        refine' wpHead_do 10 rfl (by kernel_rfl) (fun _ _ _ _ h => h) (by rfl) (by assumption) ⟨_, fun w' hS => ?_, ?_⟩
        rotate_left
        · go_simp
          rw [wr_fold _ _ _ _ DA hDl]
        simp only [Act.put, List.setIfInBounds_toArray, List.set_cons_zero, List.set_cons_succ]
        obtain ⟨WA, hWA⟩ : ∃ WA, ([Value.int .u64 (s.top + 1), .int .i64 br, .int .i64 vol, .int .i64 blk] ++ DA.toList).toArray = WA := ⟨_, rfl⟩
        have hWl : WA.toList = (Wr.mk (s.top + 1) br vol blk d).cells := by rw [← hWA, ← hDA, wr_cells]
        have hWs : WA.size = 36 := by rw [← Array.length_toList, hWl, Wr.length]
        rw [hWA]
        clear hWA hDA
        obtain ⟨i0, hi0, hz0, hz1, hz2⟩ := info_parts infoWr
        refine wpHead_eff 11 rfl (by kernel_rfl) (by rfl) (fun K hK => ?_)
        refine wp_buildSlice_all 124 139 1 _ rfl [.agg WA] i0 _ 36 Tryz.underlying124 hi0 hz0 hz1 (by decide) (by decide) rfl (by decide) rfl (by intro v hv; rw [List.mem_singleton.1 hv]; exact hWs) ?_
        obtain ⟨w7, hw7⟩ : ∃ w7, wd.alloc (.cells ([Value.agg WA].flatMap fun v => v.cells.toList).toArray 139) = w7 := ⟨_, rfl⟩
        have hb7 : w7.heap[wd.heap.size]? = some (.cells WA 139 (0, 0)) := by rw [← hw7, heap_alloc_new]; simp [Value.cells]
        have hx7 : Ex0 wd w7 := by rw [← hw7]; exact Ex.alloc _ _
        have hs7 : w7.heap.size = wd.heap.size + 1 := by rw [← hw7]; simp
        rw [hw7]
        refine hK _ _ ⟨hx7.cellS hS.1 not_false, hS.2.1.ex hx7 not_false, hS.2.2.ex hx7 not_false⟩ ?_
        clear hK K hw7
        have HL7 := Lib.hid (HL6.out.ex0 (HXD6.out.trans0 hx7))
        have hlw := HI.out
        have hws : s.ws.length = s.tab.length := by have := congrArg List.length hlw.ws; simpa using this
        have hwl : s.ws.length ≤ 900 := by omega
        clear hlw hws
        refine wpHead_eff 12 rfl (by kernel_rfl) (by rfl) (fun K hK => ?_)
        refine wp_append_lies _ _ _ _ rfl 0 139 i0 _ 36 64 Tryz.underlying124 hi0 hz0 hz1 hz2 rfl (by omega) L.wv s.ws.length (s.ws.flatMap Wr.cells) rfl HL7.out.ws ⟨wd.heap.size, 0, none⟩ 1 1 (Wr.mk (s.top + 1) br vol blk d).cells rfl (by rw [Wr.length]) (fun j u hu => by rw [add_row, cell_of_row _ _ _ _ _ _ hb7, Nat.zero_add, ← Array.getElem?_toList, hWl]; exact hu) (wr_one _) (by omega) (by unfold maxLen; omega) (by omega) (Nat.zero_le _) (wd.heap.size + 1) hs7 ?_
        intro gg cap1 w8 hown8 hgrow hat hlt8
        have hx8 : Ex (fun b => L.wv.ownBlock = some b) w7 w8 := Ex.ofGrown hgrow
        have hwB : ∀ b, L.wv.ownBlock = some b → b ≠ B := fun b hb e => by
          have h1 := HL.out.fin b (.inr (.inl hb)); have := HBF.out; omega
        have hwp : ∀ b, L.wv.ownBlock = some b → b ≠ L.p := fun b hb => HL.out.apart.1 b hb
        refine hK _ _ ⟨hx8.cellS (hx7.cellS hS.1 not_false) (fun e => hwp _ e rfl), (hS.2.1.ex hx7 not_false).ex hx8 (fun e => hwB _ e rfl), (hS.2.2.ex hx7 not_false).ex hx8 (fun e => hwB _ e rfl)⟩ ?_
        clear hK K hS
        have HX8 := Lib.hid hx8
        have HO8 := Lib.hid hown8
        have HAT := Lib.hid hat
        have hb8 := (hx8.block _ HL7.out.lt (fun e => hwp _ e rfl)).trans HL7.out.blk
        have hc4 : w8.frozen? ⟨L.p, 4, none⟩ = false := frozen_of_row _ _ _ _ _ hb8
        have k4 : w8.cell? ⟨L.p, 4, none⟩ = some L.wv := by rw [cell_of_row _ _ _ _ _ _ hb8]; rfl
        have hl8 : L.p < w8.heap.size := (Array.getElem?_eq_some_iff.1 hb8).1
        have HS7 := Lib.hid hs7
        have HX7 := Lib.hid hx7
        clear hx8 hown8 hgrow hat hb8 hb7 hx7 hs7
        refine wpHead_tail (by kernel_rfl) ?_
        have HL8 := Lib.hid (HL7.out.wrote HX8.out HO8.out)
        have HN : Hid (s.writeN br vol blk = s.top + 1) := by show _ = _; unfold TS.writeN; rw [HE.out, if_pos rfl]
        have HST : Hid (s.write br vol blk d = { s with top := s.top + 1, ws := s.ws ++ [⟨s.top + 1, br, vol, blk, d⟩], tab := s.tab ++ [⟨s.top + 1, s.now, false⟩] }) := by show _ = _; unfold TS.write; rw [HE.out, if_pos rfl]
        have hz4 : w.heap.size ≤ w4.heap.size := HX4.out.size
        have hz6 : w4.heap.size ≤ w6.heap.size := HX46.out.size
        have hzd : w6.heap.size ≤ wd.heap.size := HXD6.out.size
        have HTV : Hid (∀ b, tv5.ownBlock = some b → L.P.tv.ownBlock = some b ∨ w.heap.size ≤ b) := fun b hb => by
          rcases HV5.out with h | ⟨b', h, hb'⟩
          · exact .inl (h ▸ hb)
          · rw [h] at hb; injection hb with hb
            have := HXD.out.size
            exact .inr (by omega)
        have HGG : Hid (L.wv.ownBlock = some gg ∨ w.heap.size ≤ gg) := HAT.out.imp id (fun h => by omega)
        go_wp2
        go_ret2
        refine ⟨ret_two HN.out.symm HE.out.symm, ?_⟩
        rw [HST.out]
        refine ⟨{ L with wv := .slice (some ⟨gg, 0, none⟩) (s.ws.length + 1) cap1, P := { L.P with tv := tv5 } }, rfl, HL8.out, ?_, fun b hb => ?_⟩
        · have e1 : Ex L.F w w6 := HX4.out.trans HX46.out (fun _ _ h => h.elim) (fun _ _ h => h.elim .inl (fun h => h.elim (fun h => .inr (.inr (.inl h))) (fun h => .inr (.inr (.inr (.inl h))))))
          have e2 : Ex L.F w w8 := ((e1.trans0 HXD6.out).trans0 HX7.out).trans HX8.out (fun _ _ h => h) (fun _ _ h => .inr (.inl h))
          exact e2.trans (Ex.setCell w8 ⟨L.p, 4, none⟩ _) (fun _ _ h => h) (fun _ _ h => .inl h)
        · rcases hb with h | h | h | h | h | h | h
          · exact .inl (.inl h)
          · have e : gg = b := by injection h
            subst e
            exact HGG.out.imp (fun h => .inr (.inl h)) id
          · exact .inl (.inr (.inr (.inl h)))
          · exact (HTV.out b h).imp (fun h => .inr (.inr (.inr (.inl h)))) id
          · exact .inl (.inr (.inr (.inr (.inr (.inl h)))))
          · exact .inl (.inr (.inr (.inr (.inr (.inr (.inl h))))))
          · exact .inl (.inr (.inr (.inr (.inr (.inr (.inr h))))))
end Go.Proofs.YtoglddndicmelaaGreat.Tr
