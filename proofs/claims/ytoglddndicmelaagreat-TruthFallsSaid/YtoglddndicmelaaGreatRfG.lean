/- Contracts of layer 38: the document's All. -/
import Derived.Test.YtoglddndicmelaaGreatRfF
namespace Go.Proofs.YtoglddndicmelaaGreat.Tr
open Go.RowKit Go.Proofs.YtoglddndicmelaaGreatB Go.Proofs.YtoglddndicmelaaGreat
set_option maxRecDepth 100000

def allD (rs : List Rul) (tab : List Mo.It) (hs : List Ho.Put) (bs : List Br) (now : Int) (l : List Mo.It) : List Int := (l.filter fun x => hasD rs tab hs bs x.num now).map (·.num)
theorem allD_snoc (rs : List Rul) (tab : List Mo.It) (hs : List Ho.Put) (bs : List Br) (now : Int) (j : Nat) (hj : j < tab.length) : allD rs tab hs bs now (tab.take (j + 1)) = allD rs tab hs bs now (tab.take j) ++ (if hasD rs tab hs bs tab[j].num now then [tab[j].num] else []) := by
  unfold allD
  rw [List.take_succ_eq_append_getElem hj, List.filter_append, List.map_append]
  cases h : hasD rs tab hs bs tab[j].num now <;> simp [h]
theorem allD_len (rs : List Rul) (tab : List Mo.It) (hs : List Ho.Put) (bs : List Br) (now : Int) (l : List Mo.It) : (allD rs tab hs bs now l).length ≤ l.length := by
  unfold allD; rw [List.length_map]; exact List.length_filter_le _ _
theorem allD_P (rs : List Rul) (tab : List Mo.It) (hs : List Ho.Put) (fs : List Tw) (now : Int) : allD rs tab hs (brs fs) now tab = promL rs tab hs fs now := rfl
set_option maxHeartbeats 8000000 in
theorem rall_any (P : RLawP) (rs : List Rul) (tab : List Mo.It) (hs : List Ho.Put) (bs : List Br) (now : Int) (w : World) (hL : RLawAt w P rs tab hs bs) (hK : Mo.TabOk tab) (hR : rs.length ≤ 16 ∧ ∀ r ∈ rs, rightB r = true) :
    Calls Tryz.prog 49 #[P.val rs.length hs.length, .int .i64 now] w fun e w' => ∃ v, e = .returned v ∧ w'.ownsRow w.heap.size 31 1 v (allD rs tab hs bs now tab).length ((allD rs tab hs bs now tab).map (Value.int .u64)) ∧ Ex0 w w' := by
  obtain ⟨i0, hi0, hz0, hz1, hz2⟩ := info_parts infoU64
  have hlen := hK.len
  have HL := Lib.hid hL
  obtain ⟨wa, hwa⟩ : ∃ wa, w.alloc (.cells #[.pointer (some ⟨P.pt, 0, none⟩), .slice P.R rs.length P.cR, .slice P.H hs.length P.cH, .pointer (some ⟨P.pf, 0, none⟩)] 46) = wa := ⟨_, rfl⟩
  have HB : Hid (wa.heap[w.heap.size]? = some (.cells #[.pointer (some ⟨P.pt, 0, none⟩), .slice P.R rs.length P.cR, .slice P.H hs.length P.cH, .pointer (some ⟨P.pf, 0, none⟩)] 46 (0, 0))) := by show _ = _; rw [← hwa]; exact heap_alloc_new _ _
  have HXA : Hid (Ex0 w wa) := by show Ex0 _ _; rw [← hwa]; exact Ex.alloc _ _
  have HWA := Lib.hid hwa
  have HC : Hid (∀ w', Ex0 wa w' → RowAt w' ⟨w.heap.size, 0, none⟩ [.pointer (some ⟨P.pt, 0, none⟩), .slice P.R rs.length P.cR, .slice P.H hs.length P.cH, .pointer (some ⟨P.pf, 0, none⟩)] ∧ w.heap.size < w'.heap.size) := fun w' hx => by
    have hb := (hx.block _ (Array.getElem?_eq_some_iff.1 HB.out).1 not_false).trans HB.out
    refine ⟨fun j u hu => ?_, (Array.getElem?_eq_some_iff.1 hb).1⟩
    rw [add_row, cell_of_row _ _ _ _ _ _ hb, Nat.zero_add]
    simpa using hu
  have HHAS := Lib.hid (fun num w1 (hx : Ex0 w w1) => rhas_any P rs tab hs bs num now w1 (hL.ex0 hx) hK hR)
  clear hwa hL hK hR
  unfold RLawP.val at HHAS ⊢
  go_enter Tryz.func49, Tryz.ntmps49
  iterate 5 go_step
  rw [HWA.out]
  go_wp2_with fail
  go_loopw [5, 6] (fun v i wr => ∃ j : Nat, j ≤ tab.length ∧ i = .int .i64 j ∧ wr.ownsRow wa.heap.size 31 1 v (allD rs tab hs bs now (tab.take j)).length ((allD rs tab hs bs now (tab.take j)).map (Value.int .u64)) ∧ Ex0 wa wr) (fun _ i _ => tab.length - (intOf i).toNat)
  case atStart => exact ⟨0, Nat.zero_le _, rfl, World.ownsRow_nil _ _ _ _, Ex.refl _ _⟩
  case round =>
    obtain ⟨j, hj, rfl, ho, hx⟩ := hrel
    have HO := Lib.hid ho
    have HX := Lib.hid hx
    have hC := HC.out wr hx
    have HROW := Lib.hid hC.1
    have c0 : wr.cell? ⟨w.heap.size, 0, none⟩ = some (.pointer (some ⟨P.pt, 0, none⟩)) := hC.1 0 _ rfl
    have hlb := hC.2
    have hT := (HL.out.ex0 (HXA.out.trans0 hx)).tab
    have t0 := hT.cells.1
    have hlpt := hT.lt
    have hj0 : (0 : Int) ≤ (j : Int) := by omega
    by_cases hjl : j < tab.length
    · obtain ⟨gN, oN, hN, hgN, hcN⟩ := hT.sN.one hjl
      have hj1 : (j : Int) < (tab.length : Int) := by omega
      rw [hN] at t0
      have HSN := Lib.hid (allD_snoc rs tab hs bs now j hjl)
      have HLE := Lib.hid (allD_len rs tab hs bs now (tab.take j))
      obtain ⟨num, hnum⟩ : ∃ num, tab[j].num = num := ⟨_, rfl⟩
      rw [hnum] at hcN HSN
      obtain ⟨L, hLL⟩ : ∃ L, allD rs tab hs bs now (tab.take j) = L := ⟨_, rfl⟩
      rw [hLL] at HO HSN HLE
      have HLN : Hid (L.length ≤ 1000) := by have := HLE.out; rw [List.length_take] at this; show _ ≤ _; omega
      have HH := HHAS.out num
      obtain ⟨q, hq⟩ : ∃ q, hasD rs tab hs bs num now = q := ⟨_, rfl⟩
      rw [hq] at HH HSN
      have HHQ := Lib.hid HH
      clear ho hx hC hT hN hnum hLL HLE hq HHAS HH
      go_wp2_with fail
      have hS : (fun w' : World => RowAt w' ⟨w.heap.size, 0, none⟩ [.pointer (some ⟨P.pt, 0, none⟩), .slice P.R rs.length P.cR, .slice P.H hs.length P.cH, .pointer (some ⟨P.pf, 0, none⟩)] ∧ w'.cell? ⟨w.heap.size, 0, none⟩ = some (.pointer (some ⟨P.pt, 0, none⟩)) ∧ w'.cell? ⟨P.pt, 0, none⟩ = some (.slice (some ⟨gN, oN, none⟩) tab.length P.d.cN) ∧ w'.cell? ⟨gN, oN + j, none⟩ = some (.int .u64 num) ∧ P.pt < w'.heap.size) wr.drew := ⟨HROW.out, c0, t0, hcN, hlpt⟩
      have HXD : Hid (Ex0 wr wr.drew) := Ex.drew wr
      have KEEP : Hid (∀ w4, Ex0 wr w4 → (RowAt w4 ⟨w.heap.size, 0, none⟩ [.pointer (some ⟨P.pt, 0, none⟩), .slice P.R rs.length P.cR, .slice P.H hs.length P.cH, .pointer (some ⟨P.pf, 0, none⟩)] ∧ w4.cell? ⟨w.heap.size, 0, none⟩ = some (.pointer (some ⟨P.pt, 0, none⟩)) ∧ w4.cell? ⟨P.pt, 0, none⟩ = some (.slice (some ⟨gN, oN, none⟩) tab.length P.d.cN) ∧ w4.cell? ⟨gN, oN + j, none⟩ = some (.int .u64 num) ∧ P.pt < w4.heap.size)) := fun w4 hx => ⟨HROW.out.ex hx not_false, hx.cellS c0 not_false, hx.cellS t0 not_false, hx.cellS hcN not_false, Nat.lt_of_lt_of_le hlpt hx.size⟩
      refine wp_region_takes (fun w' : World => RowAt w' ⟨w.heap.size, 0, none⟩ [.pointer (some ⟨P.pt, 0, none⟩), .slice P.R rs.length P.cR, .slice P.H hs.length P.cH, .pointer (some ⟨P.pf, 0, none⟩)] ∧ w'.cell? ⟨w.heap.size, 0, none⟩ = some (.pointer (some ⟨P.pt, 0, none⟩)) ∧ w'.cell? ⟨P.pt, 0, none⟩ = some (.slice (some ⟨gN, oN, none⟩) tab.length P.d.cN) ∧ w'.cell? ⟨gN, oN + j, none⟩ = some (.int .u64 num) ∧ P.pt < w'.heap.size) (by kernel_rfl) ?_
      simp only [List.length_cons, List.length_nil]
      generalize wr.drew = wd at *
      refine' wpAnyH_do 0 rfl (by kernel_rfl) (fun _ _ _ _ h => h) (by rfl) (by assumption) ⟨_, fun w' hS => exec_load_at 46 (.tmp 2) rfl ⟨w.heap.size, 0, none⟩ rfl _ _ hS.1 Tryz.underlying46 rfl (by kernel_rfl), ?_⟩
      simp only [Act.put, List.setIfInBounds_toArray, List.set_cons_zero, List.set_cons_succ]
      refine' wpAnyH_do 1 rfl (by kernel_rfl) (fun _ _ _ _ h => h) (by rfl) (by assumption) ⟨_, fun w' hS => ?_, ?_⟩
      rotate_left
      · ((try dsimp only at hS); go_split_ands; go_simp; try (with_reducible rfl))
      simp only [Act.put, List.setIfInBounds_toArray, List.set_cons_zero, List.set_cons_succ]
      refine' wpAnyH_do 2 rfl (by kernel_rfl) (fun _ _ _ _ h => h) (by rfl) (by assumption) ⟨_, fun w' hS => ?_, ?_⟩
      rotate_left
      · ((try dsimp only at hS); go_split_ands; go_simp; try (with_reducible rfl))
      simp only [Act.put, List.setIfInBounds_toArray, List.set_cons_zero, List.set_cons_succ]
      refine' wpAnyH_do 3 rfl (by kernel_rfl) (fun _ _ _ _ h => h) (by rfl) (by assumption) ⟨_, fun w' hS => ?_, ?_⟩
      rotate_left
      · ((try dsimp only at hS); go_split_ands; go_simp; try (with_reducible rfl))
      simp only [Act.put, List.setIfInBounds_toArray, List.set_cons_zero, List.set_cons_succ]
      refine' wpAnyH_do 4 rfl (by kernel_rfl) (fun _ _ _ _ h => h) (by rfl) (by assumption) ⟨_, fun w' hS => ?_, ?_⟩
      rotate_left
      · ((try dsimp only at hS); go_split_ands; go_simp; try (with_reducible rfl))
      simp only [Act.put, List.setIfInBounds_toArray, List.set_cons_zero, List.set_cons_succ]
      refine' wpAnyH_do 5 rfl (by kernel_rfl) (fun _ _ _ _ h => h) (by rfl) (by assumption) ⟨_, fun w' hS => ?_, ?_⟩
      rotate_left
      · ((try dsimp only at hS); go_split_ands; go_simp; try (with_reducible rfl))
      simp only [Act.put, List.setIfInBounds_toArray, List.set_cons_zero, List.set_cons_succ]
      refine' wpAnyH_do 6 rfl (by kernel_rfl) (fun _ _ _ _ h => h) (by rfl) (by assumption) ⟨_, fun w' hS => ?_, ?_⟩
      rotate_left
      · ((try dsimp only at hS); go_split_ands; go_simp; try (with_reducible rfl))
      simp only [Act.put, List.setIfInBounds_toArray, List.set_cons_zero, List.set_cons_succ]
      refine' wpAnyH_do 7 rfl (by kernel_rfl) (fun _ _ _ _ h => h) (by rfl) (by assumption) ⟨_, fun w' hS => ?_, ?_⟩
      rotate_left
      · ((try dsimp only at hS); go_split_ands; go_simp; try (with_reducible rfl))
      simp only [Act.put, List.setIfInBounds_toArray, List.set_cons_zero, List.set_cons_succ]
      refine' wpAnyH_do 8 rfl (by kernel_rfl) (fun _ _ _ _ h => h) (by rfl) (by assumption) ⟨_, fun w' hS => ?_, ?_⟩
      rotate_left
      · ((try dsimp only at hS); go_split_ands; go_simp; try (with_reducible rfl))
      simp only [Act.put, List.setIfInBounds_toArray, List.set_cons_zero, List.set_cons_succ]
      refine' wpAnyH_do 9 rfl (by kernel_rfl) (fun _ _ _ _ h => h) (by rfl) (by assumption) ⟨_, fun w' hS => ?_, ?_⟩
      rotate_left
      · ((try dsimp only at hS); go_split_ands; go_simp; try (with_reducible rfl))
      simp only [Act.put, List.setIfInBounds_toArray, List.set_cons_zero, List.set_cons_succ]
      refine wpAnyH_eff 10 rfl (by kernel_rfl) (by rfl) (fun K hK => ?_)
      have HKK := Lib.hid hK
      clear hK
      go_simp
      refine (HHQ.out wd (HXA.out.trans0 (HX.out.trans0 HXD.out))).mono ?_
      rintro e w4 ⟨rfl, hx4⟩
      have hS4 := KEEP.out w4 (HXD.out.trans0 hx4)
      have HX4 := Lib.hid (HXD.out.trans0 hx4)
      clear hS hx4 c0 t0 hcN hlpt hlb hgN HHQ
      dsimp only
      refine HKK.out _ _ hS4 ?_
      clear HKK K
      (try simp only [Act.put, List.setIfInBounds_toArray, List.set_cons_zero, List.set_cons_succ])
      refine wpAnyH_done (by kernel_rfl) ?_ _
      obtain ⟨_, c0, t0, hcN, hlpt⟩ := hS4
      have hlb : w.heap.size < w4.heap.size := World.block_lt_of_cell? _ _ c0
      have hgN : gN < w4.heap.size := World.block_lt_of_cell? _ _ hcN
      cases q with
      | false =>
        have HSN' : Hid (allD rs tab hs bs now (tab.take (j + 1)) = L) := by show _ = _; rw [HSN.out]; simp
        go_wp2_with fail
        go_roundw
        case rel => exact ⟨j + 1, by omega, by go_num, by rw [HSN'.out]; exact own_ex HO.out HX4.out (fun _ _ h => h), HX.out.trans0 HX4.out⟩
        case measure => simp [intOf]; omega
      | true =>
        have HSN' : Hid (allD rs tab hs bs now (tab.take (j + 1)) = L ++ [num]) := by show _ = _; rw [HSN.out]; simp
        have HO4 := Lib.hid (own_ex HO.out HX4.out (fun _ _ h => h))
        have hbase : wa.heap.size ≤ w4.heap.size := Nat.le_trans HX.out.size HX4.out.size
        have hell := HLN.out
        go_wp2_with (refine wpList_append_own_at _ rfl (.tmp 28) (.tmp 37) 33 rfl wa.heap.size 31 i0 _ 1 8 Tryz.underlying33 hi0 hz0 hz1 hz2 rfl (by decide) u5 _ _ rfl (HO4.out.alloc _) ⟨w4.heap.size, 0, none⟩ 1 1 [.int .u64 num] rfl rfl (World.news_of_block (cs := #[.int .u64 num]) (t := 31) (fr := (0, 0)) (heap_alloc_new w4 _)) (by simp [Value.oneCell']) (by unfold maxLen; omega) (by omega) (by simp; omega) ?_; intro v2 w5 hown5 hgrow _ _; have HO5 := Lib.hid hown5; have HX5 : Hid (Ex0 wa w5) := ex_of_new ((HX.out.trans0 HX4.out).alloc' _) hgrow (fun b hb => (HO4.out.lt b hb).1); clear hown5 hgrow)
        go_roundw
        case rel => exact ⟨j + 1, by omega, by go_num, by rw [HSN'.out, List.length_append, List.map_append]; exact HO5.out, HX5.out⟩
        case measure => simp [intOf]; omega
    · have hjn : j = tab.length := by omega
      subst hjn
      rw [List.take_length] at HO
      have hj1 : ¬ (tab.length : Int) < (tab.length : Int) := by omega
      clear ho hC hT
      go_wp2
      go_ret
      exact ⟨_, rfl, own_base HO.out (fun b hb => Nat.le_trans HXA.out.size (HO.out.lt b hb).1), HXA.out.trans0 HX.out⟩
end Go.Proofs.YtoglddndicmelaaGreat.Tr
