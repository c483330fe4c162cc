/- Contracts of layers 29, 54: the document's Line. Contracts of layer 54: the document's Shown, Read. Contracts of layer 54: the document's Read. -/
import Derived.Test.YtoglddndicmelaaGreatRlH
namespace Go.Proofs.YtoglddndicmelaaGreat.Tr
open Go.RowKit Go.Proofs.YtoglddndicmelaaGreatB Go.Proofs.YtoglddndicmelaaGreat
set_option maxRecDepth 100000

theorem infoRStp : (Tryz.prog.info? 197).map (fun i => (i.zero, i.size, i.bytes)) = some (some (.agg #[.int .i64 0, .int .u64 0, .int .u64 0]), 3, 24) := by kernel_rfl
theorem idx_brs {fs : List Tw} (hf : FOk fs) {j : Nat} (ha : alive fs (j : Int) = true) : (j = 0 ∧ idxB j (brs fs) = -1) ∨ (j ≠ 0 ∧ (tg fs j).al = true ∧ ∃ k : Nat, ∃ hk : k < (brs fs).length, idxB j (brs fs) = k ∧ (brs fs)[k] = brOf fs j) := by
  rcases idxB_cases (j : Int) (brs fs) with ⟨k, hk, h1, h2, _, _, h3⟩ | ⟨h1, h2, _, _⟩
  · right
    have hm := brs_mem.1 (List.getElem_mem hk)
    obtain ⟨i, hi, hal, e⟩ := hm
    have : i = j := by rw [e] at h2; have h2' : (i : Int) = j := h2; omega
    subst this
    exact ⟨hf.pos hal, hal, k, hk, h1, e⟩
  · left
    rw [ralive_brs hf, ha] at h2
    have : (j : Int) = 0 := by simpa using h2.symm
    exact ⟨by omega, h1⟩
set_option maxHeartbeats 4000000 in
theorem rline_any (p : Nat) (A : Option Addr) (cap : Nat) (fs : List Tw) (id m : Int) (w : World) (h : RForAt w p A cap (brs fs)) (hf : FOk fs) (ha : alive fs id = true) (hm : numF fs id ≤ m) :
    Calls Tryz.prog 103 #[.pointer (some ⟨p, 0, none⟩), .int .i64 id, .int .u64 m] w fun e w' => ∃ v, e = .returned (.tuple #[v, .bool true]) ∧ w'.ownsRow w.heap.size 197 3 v (lineF fs id.toNat m).length ((lineF fs id.toNat m).flatMap Stp.cells) ∧ Ex0 w w' := by
  have HF := Lib.hid hf
  have HR : Hid (∀ w', Ex0 w w' → RForAt w' p A cap (brs fs)) := fun w' hx => h.ex0 hx
  have HAL := Lib.hid (rfalive_any p A cap (brs fs) id w h)
  have HNU := Lib.hid (rfnum_any p A cap (brs fs) id w h)
  rw [ralive_brs hf, ha] at HAL
  rw [rnum_brs hf] at HNU
  obtain ⟨i, rfl, hi, _⟩ := (alive_iff _ _).1 ha
  rw [Int.toNat_natCast]
  have HLEN := Lib.hid (lineF_len hf i m)
  obtain ⟨LN, hLN⟩ : ∃ L, L = lineF fs i m := ⟨_, rfl⟩
  rw [← hLN] at HLEN ⊢
  have HLN := Lib.hid hLN
  have HA := Lib.hid ha
  obtain ⟨is, his, hz0, hz1, hz2⟩ := info_parts infoRStp
  have hmn : ¬ m < numF fs i := by omega
  have hmd : decide (m < numF fs i) = false := decide_eq_false hmn
  generalize numF fs (i : Int) = q at HNU hmn hmd
  clear hf h ha hm hLN
  go_enter Tryz.func103, Tryz.ntmps103
  go_wp2_with fail
  refine HAL.out.mono ?_
  rintro e w1 ⟨rfl, hw⟩
  rw [hw]
  clear hw w1
  go_wp2_with fail
  refine HNU.out.mono ?_
  rintro e w1 ⟨rfl, hw⟩
  rw [hw]
  clear hw w1
  go_wp2_with fail
  go_loopw [1, 2, 8] (fun c b v wr => ∃ (j : Nat) (mm : Int) (done : List Stp), c = .int .i64 j ∧ b = .int .u64 mm ∧ j < 16 ∧ alive fs (j : Int) = true ∧ wr.ownsRow w.heap.size 197 3 v done.length (done.flatMap Stp.cells) ∧ LN = done ++ lineF fs j mm ∧ Ex0 w wr) (fun c _ _ _ => (tg fs (intOf c).toNat).nu.toNat)
  case atStart => exact ⟨i, m, [], rfl, rfl, hi, HA.out, World.ownsRow_nil _ _ _ _, HLN.out, Ex.refl _ _⟩
  case round =>
    obtain ⟨j, mm, done, rfl, rfl, hj, haj, hown, hLe, hxr⟩ := hrel
    have HRN := Lib.hid (rfnum_any p A cap (brs fs) j wr (HR.out wr hxr))
    have hn : numF fs (j : Int) = (tg fs j).nu := by unfold numF; rw [if_pos haj, Int.toNat_natCast]
    rw [rnum_brs HF.out, hn] at HRN
    have HL : Hid (LN = (done ++ [⟨(j : Int), (tg fs j).nu, mm⟩]) ++ (if j = 0 then [] else lineF fs (tg fs j).pa.toNat (tg fs j).ba)) := by
      show LN = _
      rw [hLe, lineF_step HF.out mm haj]; simp
    have hdl : done.length ≤ 65535 := by
      have e := HL.out
      have h1 := HLEN.out
      rw [e] at h1
      simp at h1
      omega
    have hbase : w.heap.size ≤ wr.heap.size := hxr.size
    have HO := Lib.hid hown
    have HX := Lib.hid hxr
    have HIX := Lib.hid (idx_brs HF.out haj)
    have HPR : Hid ((tg fs j).al = true → alive fs (tg fs j).pa = true ∧ (tg fs (tg fs j).pa.toNat).nu < (tg fs j).nu) := fun hal => by
      have := HF.out.par j hal; exact ⟨this.1, by omega⟩
    have HNR := Lib.hid (HF.out.nu_rng j)
    have HNRP := Lib.hid (HF.out.nu_rng (tg fs j).pa.toNat)
    obtain ⟨nu, hnu⟩ : ∃ nu, (tg fs j).nu = nu := ⟨_, rfl⟩
    rw [hnu] at HRN HL HPR HNR
    have HNU2 := Lib.hid hnu
    clear hn hown hLe hxr haj hnu
    go_wp2_with fail
    refine HRN.out.mono ?_
    rintro e w2 ⟨rfl, hw⟩
    rw [hw]
    clear hw w2 HRN
    go_wp2_with (first | (refine wpList_append_own_at _ rfl (.tmp 21) (.tmp 28) 194 rfl w.heap.size 197 is _ 3 24 Tryz.underlying194 his hz0 hz1 hz2 rfl (by decide) u8 _ _ rfl (HO.out.alloc _) ⟨wr.heap.size, 0, none⟩ 1 1 [.int .i64 (j : Int), .int .u64 nu, .int .u64 mm] rfl rfl (World.news_of_block (cs := #[.int .i64 (j : Int), .int .u64 nu, .int .u64 mm]) (t := 197) (fr := (0, 0)) (heap_alloc_new wr _)) (by simp [Value.oneCell']) (by unfold maxLen; omega) (by omega) (by simp; omega) ?_; intro v2 w5 hown5 hgrow _ _; have HO5 := Lib.hid hown5; have HX5 : Hid (Ex0 w w5) := ex_of_new (HX.out.alloc' _) hgrow (fun b hb => (HO.out.lt b hb).1); clear hown5 hgrow))
    refine (rffind_any p A cap (brs fs) j w5 (HR.out w5 HX5.out)).mono ?_
    rintro e w6 ⟨rfl, hw⟩
    rw [hw]
    clear hw w6
    rcases HIX.out with ⟨h0, hix⟩ | ⟨h0, hal, k, hk, hix, hbk⟩
    · rw [hix]
      have HE : Hid (LN = done ++ [⟨(j : Int), nu, mm⟩]) := by
        have e := HL.out
        rw [if_pos h0, List.append_nil] at e; exact e
      clear hix
      go_wp2
      go_ret2
      refine ⟨_, rfl, ?_, HX5.out⟩
      have e := HE.out
      rw [e, List.length_append, List.flatMap_append]
      exact HO5.out
    · rw [hix]
      have HR5 := HR.out w5 HX5.out
      have hlp := HR5.lt
      have hcp := HR5.cell
      have hbl := HR5.len
      obtain ⟨g, off, hl, rfl, hrow⟩ := HR5.sl.row Br.length (by omega) hk
      have hk0 : (0 : Int) ≤ (k : Int) := by omega
      have hk1 : (k : Int) < ((brs fs).length : Int) := by omega
      rw [hbk] at hrow
      have hc1 : w5.cell? ⟨g, off + k * 4 + 1, none⟩ = some (.int .i64 (tg fs j).pa) := by
        have := hrow 1 _ rfl
        rwa [add_row] at this
      have hc2 : w5.cell? ⟨g, off + k * 4 + 2, none⟩ = some (.int .u64 (tg fs j).ba) := by
        have := hrow 2 _ rfl
        rwa [add_row] at this
      have hb0 : g < w5.heap.size := World.block_lt_of_cell? _ _ hc1
      have HP2 := Lib.hid (HPR.out hal)
      have hpr := HF.out.pa_rng j
      obtain ⟨q2, hq2⟩ : ∃ q2 : Nat, (tg fs j).pa = q2 := ⟨(tg fs j).pa.toNat, by omega⟩
      have HL2 : Hid (LN = (done ++ [⟨(j : Int), nu, mm⟩]) ++ lineF fs q2 (tg fs j).ba) := by
        have e := HL.out
        rw [if_neg h0, hq2, Int.toNat_natCast] at e; exact e
      rw [hq2] at hc1 HP2 HNRP
      rw [Int.toNat_natCast] at HP2 HNRP
      have hq16 : q2 < 16 := by omega
      generalize (tg fs j).ba = ba at hc2 HL2
      clear hix HR5 hrow hbk hl hpr HL
      go_wp2
      go_roundw
      case rel =>
        refine ⟨q2, ba, done ++ [⟨(j : Int), nu, mm⟩], rfl, rfl, hq16, HP2.out.1, ?_, HL2.out, HX5.out⟩
        rw [List.length_append, List.flatMap_append]
        exact HO5.out
      case measure =>
        have h1 := HP2.out.2
        have h2 := HNR.out
        have h3 := HNRP.out
        have h4 := HNU2.out
        simp [intOf]; omega
end Go.Proofs.YtoglddndicmelaaGreat.Tr

namespace Go.Proofs.YtoglddndicmelaaGreat.Tr
open Go.RowKit Go.Proofs.YtoglddndicmelaaGreatB Go.Proofs.YtoglddndicmelaaGreat
set_option maxRecDepth 100000

def bestN (l : List Wr) : Int := match l.getLast? with | some x => x.num | none => 0
theorem bestN_snoc (p : Wr → Bool) (l : List Wr) (c : Nat) (hc : c < l.length) : bestN ((l.take (c + 1)).filter p) = if p l[c] then l[c].num else bestN ((l.take c).filter p) := by
  rw [List.take_succ_eq_append_getElem hc, List.filter_append, List.filter_cons]
  split
  · unfold bestN; simp
  · simp
theorem ws_pos {s : TS} (hI : Inv s) : ∀ x ∈ s.ws, 1 ≤ x.num := by
  intro x hx
  have hm : x.num ∈ s.tab.map (fun x => x.num) := by rw [← hI.ws]; exact List.mem_map.2 ⟨x, hx, rfl⟩
  obtain ⟨y, hy, e⟩ := List.mem_map.1 hm
  have := (hI.tab.rng y hy).1
  omega
def shownN (s : TS) (id m vol blk : Int) : Int := match s.shown id m vol blk with | some x => x.num | none => 0
theorem onB_eq (vol blk br lo hi n b v k : Int) (d : List Nat) : onB vol blk ⟨br, lo, hi⟩ ⟨n, b, v, k, d⟩ = (b == br && (v == vol && (k == blk && (decide (lo < n) && decide (n ≤ hi))))) := rfl
set_option maxHeartbeats 8000000 in
theorem rshown_any (D : RLstP) (s : TS) (id m vol blk : Int) (w : World) (h : RLstAt w D s) (hI : Inv s) (hlen : s.tab.length ≤ 900) (ha : alive s.fs id = true) (hm : numF s.fs id ≤ m) :
    Calls Tryz.prog 58 #[.pointer (some ⟨D.p, 0, none⟩), .int .i64 id, .int .u64 m, .int .i64 vol, .int .i64 blk] w fun e w' => e = .returned (.int .u64 (shownN s id m vol blk)) ∧ Ex0 w w' := by
  have HD := Lib.hid h
  have HI := Lib.hid hI
  have hlp := h.lt
  have hc8 : w.cell? ⟨D.p, 8, none⟩ = some (.pointer (some ⟨D.P.pf, 0, none⟩)) := h.cell rfl
  have HA := Lib.hid ha
  have HM := Lib.hid hm
  have hwl : s.ws.length ≤ 900 := by have := congrArg List.length hI.ws; simp at this; omega
  have HPOS := Lib.hid (ws_pos hI)
  clear h hI ha hm hlen
  go_enter Tryz.func58, Tryz.ntmps58
  go_wp2_with fail
  refine (rline_any D.P.pf D.P.A D.P.cA s.fs id m w HD.out.law.fs HI.out.fs HA.out HM.out).mono ?_
  rintro e w1 ⟨v1, rfl, ho1, hx1⟩
  obtain ⟨LN, hLN⟩ : ∃ LN, lineF s.fs id.toNat m = LN := ⟨_, rfl⟩
  have hll : LN.length ≤ 65536 := by rw [← hLN]; exact lineF_len HI.out.fs _ _
  rw [hLN] at ho1
  obtain ⟨A, cap, rfl, hsl, _⟩ := own_sl ho1
  have HSL := Lib.hid hsl
  have HX1 := Lib.hid hx1
  have HLN := Lib.hid hLN
  clear hx1 hc8 hlp ho1 hsl hLN
  go_wp2_with fail
  go_loopw [13] (fun i wr => ∃ k : Nat, k ≤ LN.length ∧ i = .int .i64 k ∧ Ex0 w1 wr ∧ ∀ j (hj : j < LN.length), j < k → (s.ws.filter (onB vol blk LN[j])).getLast? = none) (fun i _ => LN.length - (intOf i).toNat)
  case atStart => exact ⟨0, by omega, rfl, Ex.refl _ _, fun j _ h => by omega⟩
  case round =>
    rename World => wo
    obtain ⟨k, hk, rfl, hxr, hno⟩ := hrel
    have HXR := Lib.hid hxr
    have HNO := Lib.hid hno
    by_cases hlt : k < LN.length
    · obtain ⟨gl, ol, hl, hLA, hrowl⟩ := (HSL.out.ex0 hxr).row Stp.length (by omega) hlt
      have hk0 : (0 : Int) ≤ (k : Int) := by omega
      have hk1 : (k : Int) < (LN.length : Int) := by omega
      obtain ⟨st, hst⟩ : ∃ st, LN[k] = st := ⟨_, rfl⟩
      rw [hst] at hrowl
      have HST := Lib.hid hst
      obtain ⟨b0, b1, b2⟩ := st
      have HRL := Lib.hid hrowl
      subst hLA
      clear hxr hno hst hrowl
      go_wp2_with fail
      go_loopw [14, 15] (fun b i wx => ∃ c : Nat, c ≤ s.ws.length ∧ i = .int .i64 c ∧ b = .int .u64 (bestN ((s.ws.take c).filter (onB vol blk ⟨b0, b1, b2⟩))) ∧ Ex0 wo wx) (fun _ i _ => s.ws.length - (intOf i).toNat)
      case atStart => exact ⟨0, by omega, rfl, rfl, Ex.refl _ _⟩
      case round =>
        rename World => wx
        obtain ⟨c, hc, rfl, rfl, hxx⟩ := hrel
        have HXX := Lib.hid hxx
        have hDx := HD.out.ex0 (HX1.out.trans0 (HXR.out.trans0 hxx))
        have hlpx := hDx.lt
        have hc4 : wx.cell? ⟨D.p, 4, none⟩ = some (.slice D.LA s.ws.length D.cL) := hDx.cell rfl
        have hci0 : (0 : Int) ≤ (c : Int) := by omega
        by_cases hcl : c < s.ws.length
        · have hci1 : (c : Int) < (s.ws.length : Int) := by omega
          obtain ⟨gw, ow, _, hwA, hrw⟩ := hDx.ws.row Wr.length (by omega) hcl
          rw [hwA] at hc4
          obtain ⟨x, hx⟩ : ∃ x, s.ws[c] = x := ⟨_, rfl⟩
          rw [hx] at hrw
          have HWX := Lib.hid hx
          obtain ⟨xn, xb, xv, xk, xd⟩ := x
          have hC0 : ((Wr.mk xn xb xv xk xd).cells.toArray)[0]? = some (.int .u64 xn) := rfl
          have hC1 : ((Wr.mk xn xb xv xk xd).cells.toArray)[1]? = some (.int .i64 xb) := rfl
          have hC2 : ((Wr.mk xn xb xv xk xd).cells.toArray)[2]? = some (.int .i64 xv) := rfl
          have hC3 : ((Wr.mk xn xb xv xk xd).cells.toArray)[3]? = some (.int .i64 xk) := rfl
          have HCS : Hid ((Wr.mk xn xb xv xk xd).cells.toArray.size = 36) := by show _ = _; rw [List.size_toArray, Wr.length]
          have HCO : Hid (∀ v ∈ (Wr.mk xn xb xv xk xd).cells.toArray, v.oneCell' = true) := fun v hv => wr_one _ v (by simpa using hv)
          have hrl : (Wr.mk xn xb xv xk xd).cells.length = 36 := Wr.length _
          have HRW := Lib.hid hrw
          have HRLX := Lib.hid (HRL.out.ex hxx not_false)
          obtain ⟨C, hC⟩ : ∃ C, (Wr.mk xn xb xv xk xd).cells.toArray = C := ⟨_, rfl⟩
          have HC := Lib.hid hC
          rw [hC] at hC0 hC1 hC2 hC3 HCS HCO
          clear hx hrw hxx hDx hwA hC
          go_wp2_with (first | (refine wpList_load_at rfl 90 (.tmp 48) rfl _ rfl _ _ HRW.out Tryz.underlying90 rfl (by rw [hrl]; kernel_rfl) ?_; rw [HC.out]) | (refine wpList_store_all rfl 90 (.tmp 16) (.tmp 49) rfl wx.heap.size rfl C _ rfl 90 (heap_alloc_new _ _) (by rw [HCS.out]; rfl) HCO.out (by rw [HCS.out]; kernel_rfl) ?_; rw [World.setRow_alloc_new]))
          have HXC0 : Hid (Ex0 wx (wx.alloc (.cells C 90))) := Ex.alloc _ _
          have hbb : (wx.alloc (.cells C 90)).heap[wx.heap.size]? = some (.cells C 90 (0, 0)) := heap_alloc_new _ _
          obtain ⟨wb, hwb⟩ : ∃ wb, wx.alloc (.cells C 90) = wb := ⟨_, rfl⟩
          rw [hwb] at HXC0 hbb ⊢
          have c0 : wb.cell? ⟨wx.heap.size, 0, none⟩ = some (.int .u64 xn) := by rw [cell_of_row _ _ _ _ _ _ hbb]; exact hC0
          have c1 : wb.cell? ⟨wx.heap.size, 1, none⟩ = some (.int .i64 xb) := by rw [cell_of_row _ _ _ _ _ _ hbb]; exact hC1
          have c2 : wb.cell? ⟨wx.heap.size, 2, none⟩ = some (.int .i64 xv) := by rw [cell_of_row _ _ _ _ _ _ hbb]; exact hC2
          have c3 : wb.cell? ⟨wx.heap.size, 3, none⟩ = some (.int .i64 xk) := by rw [cell_of_row _ _ _ _ _ _ hbb]; exact hC3
          have hlb : wx.heap.size < wb.heap.size := (Array.getElem?_eq_some_iff.1 hbb).1
          have s0 : wb.cell? ⟨gl, ol + k * 3, none⟩ = some (.int .i64 b0) := (HRLX.out.ex HXC0.out not_false) 0 _ rfl
          have s1 : wb.cell? ⟨gl, ol + k * 3 + 1, none⟩ = some (.int .u64 b1) := by have := (HRLX.out.ex HXC0.out not_false) 1 _ rfl; rwa [add_row] at this
          have s2 : wb.cell? ⟨gl, ol + k * 3 + 2, none⟩ = some (.int .u64 b2) := by have := (HRLX.out.ex HXC0.out not_false) 2 _ rfl; rwa [add_row] at this
          have hlg : gl < wb.heap.size := World.block_lt_of_cell? _ _ s0
          have HXC' := Lib.hid (HXX.out.trans0 HXC0.out)
          clear hwb hbb hC0 hC1 hC2 hC3 hc4 hlpx hrl
          go_wp2_with fail
          have HXC : Hid (Ex0 wo wb.drew) := HXC'.out.trans0 (Ex.drew wb)
          have hS : (fun w' : World => w'.cell? ⟨wx.heap.size, 0, none⟩ = some (.int .u64 xn) ∧ w'.cell? ⟨wx.heap.size, 1, none⟩ = some (.int .i64 xb) ∧ w'.cell? ⟨wx.heap.size, 2, none⟩ = some (.int .i64 xv) ∧ w'.cell? ⟨wx.heap.size, 3, none⟩ = some (.int .i64 xk) ∧ wx.heap.size < w'.heap.size ∧ w'.cell? ⟨gl, ol + k * 3, none⟩ = some (.int .i64 b0) ∧ w'.cell? ⟨gl, ol + k * 3 + 1, none⟩ = some (.int .u64 b1) ∧ w'.cell? ⟨gl, ol + k * 3 + 2, none⟩ = some (.int .u64 b2) ∧ gl < w'.heap.size) wb.drew := ⟨c0, c1, c2, c3, hlb, s0, s1, s2, hlg⟩
          refine wp_region_takes (fun w' : World => w'.cell? ⟨wx.heap.size, 0, none⟩ = some (.int .u64 xn) ∧ w'.cell? ⟨wx.heap.size, 1, none⟩ = some (.int .i64 xb) ∧ w'.cell? ⟨wx.heap.size, 2, none⟩ = some (.int .i64 xv) ∧ w'.cell? ⟨wx.heap.size, 3, none⟩ = some (.int .i64 xk) ∧ wx.heap.size < w'.heap.size ∧ w'.cell? ⟨gl, ol + k * 3, none⟩ = some (.int .i64 b0) ∧ w'.cell? ⟨gl, ol + k * 3 + 1, none⟩ = some (.int .u64 b1) ∧ w'.cell? ⟨gl, ol + k * 3 + 2, none⟩ = some (.int .u64 b2) ∧ gl < w'.heap.size) (by kernel_rfl) ?_
          simp only [List.length_cons, List.length_nil]
          clear c0 c1 c2 c3 hlb s0 s1 s2 hlg
          generalize wb.drew = wd at *
          refine' wpAnyH_do 0 rfl (by kernel_rfl) (fun _ _ _ _ h => h) (by rfl) (by assumption) ⟨_, fun w' hS => ?_, ?_⟩
          rotate_left
          · ((try dsimp only at hS); go_split_ands; go_simp; try (with_reducible rfl))
          simp only [Act.put, List.setIfInBounds_toArray, List.set_cons_zero, List.set_cons_succ]
          refine' wpAnyH_do 1 rfl (by kernel_rfl) (fun _ _ _ _ h => h) (by rfl) (by assumption) ⟨_, fun w' hS => ?_, ?_⟩
          rotate_left
          · ((try dsimp only at hS); go_split_ands; go_simp; try (with_reducible rfl))
          simp only [Act.put, List.setIfInBounds_toArray, List.set_cons_zero, List.set_cons_succ]
          refine' wpAnyH_do 2 rfl (by kernel_rfl) (fun _ _ _ _ h => h) (by rfl) (by assumption) ⟨_, fun w' hS => ?_, ?_⟩
          rotate_left
          · ((try dsimp only at hS); go_split_ands; go_simp; try (with_reducible rfl))
          simp only [Act.put, List.setIfInBounds_toArray, List.set_cons_zero, List.set_cons_succ]
          refine' wpAnyH_do 3 rfl (by kernel_rfl) (fun _ _ _ _ h => h) (by rfl) (by assumption) ⟨_, fun w' hS => ?_, ?_⟩
          rotate_left
          · ((try dsimp only at hS); go_split_ands; go_simp; try (with_reducible rfl))
          simp only [Act.put, List.setIfInBounds_toArray, List.set_cons_zero, List.set_cons_succ]
          refine' wpAnyH_do 4 rfl (by kernel_rfl) (fun _ _ _ _ h => h) (by rfl) (by assumption) ⟨_, fun w' hS => ?_, ?_⟩
          rotate_left
          · ((try dsimp only at hS); go_split_ands; go_simp; try (with_reducible rfl))
          simp only [Act.put, List.setIfInBounds_toArray, List.set_cons_zero, List.set_cons_succ]
          refine' wpAnyH_do 5 rfl (by kernel_rfl) (fun _ _ _ _ h => h) (by rfl) (by assumption) ⟨_, fun w' hS => ?_, ?_⟩
          rotate_left
          · ((try dsimp only at hS); go_split_ands; go_simp; try (with_reducible rfl))
          simp only [Act.put, List.setIfInBounds_toArray, List.set_cons_zero, List.set_cons_succ]
          refine' wpAnyH_do 6 rfl (by kernel_rfl) (fun _ _ _ _ h => h) (by rfl) (by assumption) ⟨_, fun w' hS => ?_, ?_⟩
          rotate_left
          · ((try dsimp only at hS); go_split_ands; go_simp; try (with_reducible rfl))
          simp only [Act.put, List.setIfInBounds_toArray, List.set_cons_zero, List.set_cons_succ]
          refine' wpAnyH_do 7 rfl (by kernel_rfl) (fun _ _ _ _ h => h) (by rfl) (by assumption) ⟨_, fun w' hS => ?_, ?_⟩
          rotate_left
          · ((try dsimp only at hS); go_split_ands; go_simp; try (with_reducible rfl))
          simp only [Act.put, List.setIfInBounds_toArray, List.set_cons_zero, List.set_cons_succ]
          by_cases e1 : xb = b0
          · obtain rfl : b0 = xb := e1.symm
            refine' wpAnyH_do 8 rfl (by kernel_rfl) (fun _ _ _ _ h => h) (by rfl) (by assumption) ⟨_, fun w' hS => ?_, ?_⟩
            rotate_left
            · ((try dsimp only at hS); go_split_ands; go_simp; try (with_reducible rfl))
            simp only [Act.put, List.setIfInBounds_toArray, List.set_cons_zero, List.set_cons_succ]
            refine' wpAnyH_do 9 rfl (by kernel_rfl) (fun _ _ _ _ h => h) (by rfl) (by assumption) ⟨_, fun w' hS => ?_, ?_⟩
            rotate_left
            · ((try dsimp only at hS); go_split_ands; go_simp; try (with_reducible rfl))
            simp only [Act.put, List.setIfInBounds_toArray, List.set_cons_zero, List.set_cons_succ]
            refine' wpAnyH_do 10 rfl (by kernel_rfl) (fun _ _ _ _ h => h) (by rfl) (by assumption) ⟨_, fun w' hS => ?_, ?_⟩
            rotate_left
            · ((try dsimp only at hS); go_split_ands; go_simp; try (with_reducible rfl))
            simp only [Act.put, List.setIfInBounds_toArray, List.set_cons_zero, List.set_cons_succ]
            refine' wpAnyH_do 11 rfl (by kernel_rfl) (fun _ _ _ _ h => h) (by rfl) (by assumption) ⟨_, fun w' hS => ?_, ?_⟩
            rotate_left
            · ((try dsimp only at hS); go_split_ands; go_simp; try (with_reducible rfl))
            simp only [Act.put, List.setIfInBounds_toArray, List.set_cons_zero, List.set_cons_succ]
            refine' wpAnyH_do 12 rfl (by kernel_rfl) (fun _ _ _ _ h => h) (by rfl) (by assumption) ⟨_, fun w' hS => ?_, ?_⟩
            rotate_left
            · ((try dsimp only at hS); go_split_ands; go_simp; try (with_reducible rfl))
            simp only [Act.put, List.setIfInBounds_toArray, List.set_cons_zero, List.set_cons_succ]
            refine' wpAnyH_do 13 rfl (by kernel_rfl) (fun _ _ _ _ h => h) (by rfl) (by assumption) ⟨_, fun w' hS => ?_, ?_⟩
            rotate_left
            · ((try dsimp only at hS); go_split_ands; go_simp; try (with_reducible rfl))
            simp only [Act.put, List.setIfInBounds_toArray, List.set_cons_zero, List.set_cons_succ]
            by_cases e2 : xv = vol
            · obtain rfl : vol = xv := e2.symm
              refine' wpAnyH_do 14 rfl (by kernel_rfl) (fun _ _ _ _ h => h) (by rfl) (by assumption) ⟨_, fun w' hS => ?_, ?_⟩
              rotate_left
              · ((try dsimp only at hS); go_split_ands; go_simp; try (with_reducible rfl))
              simp only [Act.put, List.setIfInBounds_toArray, List.set_cons_zero, List.set_cons_succ]
              refine' wpAnyH_do 15 rfl (by kernel_rfl) (fun _ _ _ _ h => h) (by rfl) (by assumption) ⟨_, fun w' hS => ?_, ?_⟩
              rotate_left
              · ((try dsimp only at hS); go_split_ands; go_simp; try (with_reducible rfl))
              simp only [Act.put, List.setIfInBounds_toArray, List.set_cons_zero, List.set_cons_succ]
              refine' wpAnyH_do 16 rfl (by kernel_rfl) (fun _ _ _ _ h => h) (by rfl) (by assumption) ⟨_, fun w' hS => ?_, ?_⟩
              rotate_left
              · ((try dsimp only at hS); go_split_ands; go_simp; try (with_reducible rfl))
              simp only [Act.put, List.setIfInBounds_toArray, List.set_cons_zero, List.set_cons_succ]
              refine' wpAnyH_do 17 rfl (by kernel_rfl) (fun _ _ _ _ h => h) (by rfl) (by assumption) ⟨_, fun w' hS => ?_, ?_⟩
              rotate_left
              · ((try dsimp only at hS); go_split_ands; go_simp; try (with_reducible rfl))
              simp only [Act.put, List.setIfInBounds_toArray, List.set_cons_zero, List.set_cons_succ]
              refine' wpAnyH_do 18 rfl (by kernel_rfl) (fun _ _ _ _ h => h) (by rfl) (by assumption) ⟨_, fun w' hS => ?_, ?_⟩
              rotate_left
              · ((try dsimp only at hS); go_split_ands; go_simp; try (with_reducible rfl))
              simp only [Act.put, List.setIfInBounds_toArray, List.set_cons_zero, List.set_cons_succ]
              refine' wpAnyH_do 19 rfl (by kernel_rfl) (fun _ _ _ _ h => h) (by rfl) (by assumption) ⟨_, fun w' hS => ?_, ?_⟩
              rotate_left
              · ((try dsimp only at hS); go_split_ands; go_simp; try (with_reducible rfl))
              simp only [Act.put, List.setIfInBounds_toArray, List.set_cons_zero, List.set_cons_succ]
              refine' wpAnyH_do 20 rfl (by kernel_rfl) (fun _ _ _ _ h => h) (by rfl) (by assumption) ⟨_, fun w' hS => ?_, ?_⟩
              rotate_left
              · ((try dsimp only at hS); go_split_ands; go_simp; try (with_reducible rfl))
              simp only [Act.put, List.setIfInBounds_toArray, List.set_cons_zero, List.set_cons_succ]
              by_cases e3 : xk = blk
              · obtain rfl : blk = xk := e3.symm
                refine' wpAnyH_do 21 rfl (by kernel_rfl) (fun _ _ _ _ h => h) (by rfl) (by assumption) ⟨_, fun w' hS => ?_, ?_⟩
                rotate_left
                · ((try dsimp only at hS); go_split_ands; go_simp; try (with_reducible rfl))
                simp only [Act.put, List.setIfInBounds_toArray, List.set_cons_zero, List.set_cons_succ]
                refine' wpAnyH_do 22 rfl (by kernel_rfl) (fun _ _ _ _ h => h) (by rfl) (by assumption) ⟨_, fun w' hS => ?_, ?_⟩
                rotate_left
                · ((try dsimp only at hS); go_split_ands; go_simp; try (with_reducible rfl))
                simp only [Act.put, List.setIfInBounds_toArray, List.set_cons_zero, List.set_cons_succ]
                refine' wpAnyH_do 23 rfl (by kernel_rfl) (fun _ _ _ _ h => h) (by rfl) (by assumption) ⟨_, fun w' hS => ?_, ?_⟩
                rotate_left
                · ((try dsimp only at hS); go_split_ands; go_simp; try (with_reducible rfl))
                simp only [Act.put, List.setIfInBounds_toArray, List.set_cons_zero, List.set_cons_succ]
                refine' wpAnyH_do 24 rfl (by kernel_rfl) (fun _ _ _ _ h => h) (by rfl) (by assumption) ⟨_, fun w' hS => ?_, ?_⟩
                rotate_left
                · ((try dsimp only at hS); go_split_ands; go_simp; try (with_reducible rfl))
                simp only [Act.put, List.setIfInBounds_toArray, List.set_cons_zero, List.set_cons_succ]
                refine' wpAnyH_do 25 rfl (by kernel_rfl) (fun _ _ _ _ h => h) (by rfl) (by assumption) ⟨_, fun w' hS => ?_, ?_⟩
                rotate_left
                · ((try dsimp only at hS); go_split_ands; go_simp; try (with_reducible rfl))
                simp only [Act.put, List.setIfInBounds_toArray, List.set_cons_zero, List.set_cons_succ]
                refine' wpAnyH_do 26 rfl (by kernel_rfl) (fun _ _ _ _ h => h) (by rfl) (by assumption) ⟨_, fun w' hS => ?_, ?_⟩
                rotate_left
                · ((try dsimp only at hS); go_split_ands; go_simp; try (with_reducible rfl))
                simp only [Act.put, List.setIfInBounds_toArray, List.set_cons_zero, List.set_cons_succ]
                refine' wpAnyH_do 27 rfl (by kernel_rfl) (fun _ _ _ _ h => h) (by rfl) (by assumption) ⟨_, fun w' hS => ?_, ?_⟩
                rotate_left
                · ((try dsimp only at hS); go_split_ands; go_simp; try (with_reducible rfl))
                simp only [Act.put, List.setIfInBounds_toArray, List.set_cons_zero, List.set_cons_succ]
                refine' wpAnyH_do 28 rfl (by kernel_rfl) (fun _ _ _ _ h => h) (by rfl) (by assumption) ⟨_, fun w' hS => ?_, ?_⟩
                rotate_left
                · ((try dsimp only at hS); go_split_ands; go_simp; try (with_reducible rfl))
                simp only [Act.put, List.setIfInBounds_toArray, List.set_cons_zero, List.set_cons_succ]
                refine' wpAnyH_do 29 rfl (by kernel_rfl) (fun _ _ _ _ h => h) (by rfl) (by assumption) ⟨_, fun w' hS => ?_, ?_⟩
                rotate_left
                · ((try dsimp only at hS); go_split_ands; go_simp; try (with_reducible rfl))
                simp only [Act.put, List.setIfInBounds_toArray, List.set_cons_zero, List.set_cons_succ]
                refine' wpAnyH_do 30 rfl (by kernel_rfl) (fun _ _ _ _ h => h) (by rfl) (by assumption) ⟨_, fun w' hS => ?_, ?_⟩
                rotate_left
                · ((try dsimp only at hS); go_split_ands; go_simp; try (with_reducible rfl))
                simp only [Act.put, List.setIfInBounds_toArray, List.set_cons_zero, List.set_cons_succ]
                by_cases e4 : b1 < xn
                · have e4d : decide (b1 < xn) = true := decide_eq_true e4
                  refine' wpAnyH_do 31 rfl (by kernel_rfl) (fun _ _ _ _ h => h) (by rfl) (by assumption) ⟨_, fun w' hS => ?_, ?_⟩
                  rotate_left
                  · ((try dsimp only at hS); go_split_ands; go_simp; try (with_reducible rfl))
                  simp only [Act.put, List.setIfInBounds_toArray, List.set_cons_zero, List.set_cons_succ]
                  refine' wpAnyH_do 32 rfl (by kernel_rfl) (fun _ _ _ _ h => h) (by rfl) (by assumption) ⟨_, fun w' hS => ?_, ?_⟩
                  rotate_left
                  · ((try dsimp only at hS); go_split_ands; go_simp; try (with_reducible rfl))
                  simp only [Act.put, List.setIfInBounds_toArray, List.set_cons_zero, List.set_cons_succ]
                  refine' wpAnyH_do 33 rfl (by kernel_rfl) (fun _ _ _ _ h => h) (by rfl) (by assumption) ⟨_, fun w' hS => ?_, ?_⟩
                  rotate_left
                  · ((try dsimp only at hS); go_split_ands; go_simp; try (with_reducible rfl))
                  simp only [Act.put, List.setIfInBounds_toArray, List.set_cons_zero, List.set_cons_succ]
                  refine' wpAnyH_do 34 rfl (by kernel_rfl) (fun _ _ _ _ h => h) (by rfl) (by assumption) ⟨_, fun w' hS => ?_, ?_⟩
                  rotate_left
                  · ((try dsimp only at hS); go_split_ands; go_simp; try (with_reducible rfl))
                  simp only [Act.put, List.setIfInBounds_toArray, List.set_cons_zero, List.set_cons_succ]
                  refine' wpAnyH_do 35 rfl (by kernel_rfl) (fun _ _ _ _ h => h) (by rfl) (by assumption) ⟨_, fun w' hS => ?_, ?_⟩
                  rotate_left
                  · ((try dsimp only at hS); go_split_ands; go_simp; try (with_reducible rfl))
                  simp only [Act.put, List.setIfInBounds_toArray, List.set_cons_zero, List.set_cons_succ]
                  refine' wpAnyH_do 36 rfl (by kernel_rfl) (fun _ _ _ _ h => h) (by rfl) (by assumption) ⟨_, fun w' hS => ?_, ?_⟩
                  rotate_left
                  · ((try dsimp only at hS); go_split_ands; go_simp; try (with_reducible rfl))
                  simp only [Act.put, List.setIfInBounds_toArray, List.set_cons_zero, List.set_cons_succ]
                  refine' wpAnyH_do 37 rfl (by kernel_rfl) (fun _ _ _ _ h => h) (by rfl) (by assumption) ⟨_, fun w' hS => ?_, ?_⟩
                  rotate_left
                  · ((try dsimp only at hS); go_split_ands; go_simp; try (with_reducible rfl))
                  simp only [Act.put, List.setIfInBounds_toArray, List.set_cons_zero, List.set_cons_succ]
                  refine' wpAnyH_do 38 rfl (by kernel_rfl) (fun _ _ _ _ h => h) (by rfl) (by assumption) ⟨_, fun w' hS => ?_, ?_⟩
                  rotate_left
                  · ((try dsimp only at hS); go_split_ands; go_simp; try (with_reducible rfl))
                  simp only [Act.put, List.setIfInBounds_toArray, List.set_cons_zero, List.set_cons_succ]
                  refine' wpAnyH_do 39 rfl (by kernel_rfl) (fun _ _ _ _ h => h) (by rfl) (by assumption) ⟨_, fun w' hS => ?_, ?_⟩
                  rotate_left
                  · ((try dsimp only at hS); go_split_ands; go_simp; try (with_reducible rfl))
                  simp only [Act.put, List.setIfInBounds_toArray, List.set_cons_zero, List.set_cons_succ]
                  refine' wpAnyH_do 40 rfl (by kernel_rfl) (fun _ _ _ _ h => h) (by rfl) (by assumption) ⟨_, fun w' hS => ?_, ?_⟩
                  rotate_left
                  · ((try dsimp only at hS); go_split_ands; go_simp; try (with_reducible rfl))
                  simp only [Act.put, List.setIfInBounds_toArray, List.set_cons_zero, List.set_cons_succ]
                  by_cases e5 : xn ≤ b2
                  · have e5d : decide (xn ≤ b2) = true := decide_eq_true e5
                    refine' wpAnyH_do 41 rfl (by kernel_rfl) (fun _ _ _ _ h => h) (by rfl) (by assumption) ⟨_, fun w' hS => ?_, ?_⟩
                    rotate_left
                    · ((try dsimp only at hS); go_split_ands; go_simp; try (with_reducible rfl))
                    simp only [Act.put, List.setIfInBounds_toArray, List.set_cons_zero, List.set_cons_succ]
                    refine' wpAnyH_do 42 rfl (by kernel_rfl) (fun _ _ _ _ h => h) (by rfl) (by assumption) ⟨_, fun w' hS => ?_, ?_⟩
                    rotate_left
                    · ((try dsimp only at hS); go_split_ands; go_simp; try (with_reducible rfl))
                    simp only [Act.put, List.setIfInBounds_toArray, List.set_cons_zero, List.set_cons_succ]
                    have c0 := hS.1
                    refine wpAnyH_done (by kernel_rfl) ?_ _
                    clear hS
                    have HON : Hid (onB vol blk ⟨b0, b1, b2⟩ ⟨xn, b0, vol, blk, xd⟩ = true) := by show _ = _; rw [onB_eq]; simp [e4, e5]
                    go_wp2_with fail
                    go_roundw
                    case rel =>
                      refine ⟨c + 1, by omega, by go_num, ?_, HXC.out⟩
                      rw [bestN_snoc _ _ _ hcl, HWX.out, HON.out]
                      rfl
                    case measure => simp [intOf]; omega
                  · have e5d : decide (xn ≤ b2) = false := decide_eq_false e5
                    refine' wpAnyH_do 41 rfl (by kernel_rfl) (fun _ _ _ _ h => h) (by rfl) (by assumption) ⟨_, fun w' hS => ?_, ?_⟩
                    rotate_left
                    · ((try dsimp only at hS); go_split_ands; go_simp; try (with_reducible rfl))
                    simp only [Act.put, List.setIfInBounds_toArray, List.set_cons_zero, List.set_cons_succ]
                    refine' wpAnyH_do 42 rfl (by kernel_rfl) (fun _ _ _ _ h => h) (by rfl) (by assumption) ⟨_, fun w' hS => ?_, ?_⟩
                    rotate_left
                    · ((try dsimp only at hS); go_split_ands; go_simp; try (with_reducible rfl))
                    simp only [Act.put, List.setIfInBounds_toArray, List.set_cons_zero, List.set_cons_succ]
                    refine wpAnyH_done (by kernel_rfl) ?_ _
                    clear hS
                    have HON : Hid (onB vol blk ⟨b0, b1, b2⟩ ⟨xn, b0, vol, blk, xd⟩ = false) := by show _ = _; rw [onB_eq]; simp [e5]
                    go_wp2_with fail
                    go_roundw
                    case rel =>
                      refine ⟨c + 1, by omega, by go_num, ?_, HXC.out⟩
                      rw [bestN_snoc _ _ _ hcl, HWX.out, HON.out]
                      rfl
                    case measure => simp [intOf]; omega
                · have e4d : decide (b1 < xn) = false := decide_eq_false e4
                  refine' wpAnyH_do 31 rfl (by kernel_rfl) (fun _ _ _ _ h => h) (by rfl) (by assumption) ⟨_, fun w' hS => ?_, ?_⟩
                  rotate_left
                  · ((try dsimp only at hS); go_split_ands; go_simp; try (with_reducible rfl))
                  simp only [Act.put, List.setIfInBounds_toArray, List.set_cons_zero, List.set_cons_succ]
                  refine' wpAnyH_do 32 rfl (by kernel_rfl) (fun _ _ _ _ h => h) (by rfl) (by assumption) ⟨_, fun w' hS => ?_, ?_⟩
                  rotate_left
                  · ((try dsimp only at hS); go_split_ands; go_simp; try (with_reducible rfl))
                  simp only [Act.put, List.setIfInBounds_toArray, List.set_cons_zero, List.set_cons_succ]
                  refine' wpAnyH_do 33 rfl (by kernel_rfl) (fun _ _ _ _ h => h) (by rfl) (by assumption) ⟨_, fun w' hS => ?_, ?_⟩
                  rotate_left
                  · ((try dsimp only at hS); go_split_ands; go_simp; try (with_reducible rfl))
                  simp only [Act.put, List.setIfInBounds_toArray, List.set_cons_zero, List.set_cons_succ]
                  refine wpAnyH_pass 34 rfl (by kernel_rfl) (fun _ _ _ _ h => h) (by rfl) (by assumption) ?_
                  simp only [Act.put, List.setIfInBounds_toArray, List.set_cons_zero, List.set_cons_succ]
                  refine wpAnyH_pass 35 rfl (by kernel_rfl) (fun _ _ _ _ h => h) (by rfl) (by assumption) ?_
                  simp only [Act.put, List.setIfInBounds_toArray, List.set_cons_zero, List.set_cons_succ]
                  refine wpAnyH_pass 36 rfl (by kernel_rfl) (fun _ _ _ _ h => h) (by rfl) (by assumption) ?_
                  simp only [Act.put, List.setIfInBounds_toArray, List.set_cons_zero, List.set_cons_succ]
                  refine wpAnyH_pass 37 rfl (by kernel_rfl) (fun _ _ _ _ h => h) (by rfl) (by assumption) ?_
                  simp only [Act.put, List.setIfInBounds_toArray, List.set_cons_zero, List.set_cons_succ]
                  refine wpAnyH_pass 38 rfl (by kernel_rfl) (fun _ _ _ _ h => h) (by rfl) (by assumption) ?_
                  simp only [Act.put, List.setIfInBounds_toArray, List.set_cons_zero, List.set_cons_succ]
                  refine wpAnyH_pass 39 rfl (by kernel_rfl) (fun _ _ _ _ h => h) (by rfl) (by assumption) ?_
                  simp only [Act.put, List.setIfInBounds_toArray, List.set_cons_zero, List.set_cons_succ]
                  refine wpAnyH_pass 40 rfl (by kernel_rfl) (fun _ _ _ _ h => h) (by rfl) (by assumption) ?_
                  simp only [Act.put, List.setIfInBounds_toArray, List.set_cons_zero, List.set_cons_succ]
                  refine wpAnyH_pass 41 rfl (by kernel_rfl) (fun _ _ _ _ h => h) (by rfl) (by assumption) ?_
                  simp only [Act.put, List.setIfInBounds_toArray, List.set_cons_zero, List.set_cons_succ]
                  refine' wpAnyH_do 42 rfl (by kernel_rfl) (fun _ _ _ _ h => h) (by rfl) (by assumption) ⟨_, fun w' hS => ?_, ?_⟩
                  rotate_left
                  · ((try dsimp only at hS); go_split_ands; go_simp; try (with_reducible rfl))
                  simp only [Act.put, List.setIfInBounds_toArray, List.set_cons_zero, List.set_cons_succ]
                  refine wpAnyH_done (by kernel_rfl) ?_ _
                  clear hS
                  have HON : Hid (onB vol blk ⟨b0, b1, b2⟩ ⟨xn, b0, vol, blk, xd⟩ = false) := by show _ = _; rw [onB_eq]; simp [e4]
                  go_wp2_with fail
                  go_roundw
                  case rel =>
                    refine ⟨c + 1, by omega, by go_num, ?_, HXC.out⟩
                    rw [bestN_snoc _ _ _ hcl, HWX.out, HON.out]
                    rfl
                  case measure => simp [intOf]; omega
              · have e3d : (xk == blk) = false := by simpa using e3
                refine' wpAnyH_do 21 rfl (by kernel_rfl) (fun _ _ _ _ h => h) (by rfl) (by assumption) ⟨_, fun w' hS => ?_, ?_⟩
                rotate_left
                · ((try dsimp only at hS); go_split_ands; go_simp; try (with_reducible rfl))
                simp only [Act.put, List.setIfInBounds_toArray, List.set_cons_zero, List.set_cons_succ]
                refine' wpAnyH_do 22 rfl (by kernel_rfl) (fun _ _ _ _ h => h) (by rfl) (by assumption) ⟨_, fun w' hS => ?_, ?_⟩
                rotate_left
                · ((try dsimp only at hS); go_split_ands; go_simp; try (with_reducible rfl))
                simp only [Act.put, List.setIfInBounds_toArray, List.set_cons_zero, List.set_cons_succ]
                refine' wpAnyH_do 23 rfl (by kernel_rfl) (fun _ _ _ _ h => h) (by rfl) (by assumption) ⟨_, fun w' hS => ?_, ?_⟩
                rotate_left
                · ((try dsimp only at hS); go_split_ands; go_simp; try (with_reducible rfl))
                simp only [Act.put, List.setIfInBounds_toArray, List.set_cons_zero, List.set_cons_succ]
                refine wpAnyH_pass 24 rfl (by kernel_rfl) (fun _ _ _ _ h => h) (by rfl) (by assumption) ?_
                simp only [Act.put, List.setIfInBounds_toArray, List.set_cons_zero, List.set_cons_succ]
                refine wpAnyH_pass 25 rfl (by kernel_rfl) (fun _ _ _ _ h => h) (by rfl) (by assumption) ?_
                simp only [Act.put, List.setIfInBounds_toArray, List.set_cons_zero, List.set_cons_succ]
                refine wpAnyH_pass 26 rfl (by kernel_rfl) (fun _ _ _ _ h => h) (by rfl) (by assumption) ?_
                simp only [Act.put, List.setIfInBounds_toArray, List.set_cons_zero, List.set_cons_succ]
                refine wpAnyH_pass 27 rfl (by kernel_rfl) (fun _ _ _ _ h => h) (by rfl) (by assumption) ?_
                simp only [Act.put, List.setIfInBounds_toArray, List.set_cons_zero, List.set_cons_succ]
                refine wpAnyH_pass 28 rfl (by kernel_rfl) (fun _ _ _ _ h => h) (by rfl) (by assumption) ?_
                simp only [Act.put, List.setIfInBounds_toArray, List.set_cons_zero, List.set_cons_succ]
                refine wpAnyH_pass 29 rfl (by kernel_rfl) (fun _ _ _ _ h => h) (by rfl) (by assumption) ?_
                simp only [Act.put, List.setIfInBounds_toArray, List.set_cons_zero, List.set_cons_succ]
                refine wpAnyH_pass 30 rfl (by kernel_rfl) (fun _ _ _ _ h => h) (by rfl) (by assumption) ?_
                simp only [Act.put, List.setIfInBounds_toArray, List.set_cons_zero, List.set_cons_succ]
                refine wpAnyH_pass 31 rfl (by kernel_rfl) (fun _ _ _ _ h => h) (by rfl) (by assumption) ?_
                simp only [Act.put, List.setIfInBounds_toArray, List.set_cons_zero, List.set_cons_succ]
                refine' wpAnyH_do 32 rfl (by kernel_rfl) (fun _ _ _ _ h => h) (by rfl) (by assumption) ⟨_, fun w' hS => ?_, ?_⟩
                rotate_left
                · ((try dsimp only at hS); go_split_ands; go_simp; try (with_reducible rfl))
                simp only [Act.put, List.setIfInBounds_toArray, List.set_cons_zero, List.set_cons_succ]
                refine' wpAnyH_do 33 rfl (by kernel_rfl) (fun _ _ _ _ h => h) (by rfl) (by assumption) ⟨_, fun w' hS => ?_, ?_⟩
                rotate_left
                · ((try dsimp only at hS); go_split_ands; go_simp; try (with_reducible rfl))
                simp only [Act.put, List.setIfInBounds_toArray, List.set_cons_zero, List.set_cons_succ]
                refine wpAnyH_pass 34 rfl (by kernel_rfl) (fun _ _ _ _ h => h) (by rfl) (by assumption) ?_
                simp only [Act.put, List.setIfInBounds_toArray, List.set_cons_zero, List.set_cons_succ]
                refine wpAnyH_pass 35 rfl (by kernel_rfl) (fun _ _ _ _ h => h) (by rfl) (by assumption) ?_
                simp only [Act.put, List.setIfInBounds_toArray, List.set_cons_zero, List.set_cons_succ]
                refine wpAnyH_pass 36 rfl (by kernel_rfl) (fun _ _ _ _ h => h) (by rfl) (by assumption) ?_
                simp only [Act.put, List.setIfInBounds_toArray, List.set_cons_zero, List.set_cons_succ]
                refine wpAnyH_pass 37 rfl (by kernel_rfl) (fun _ _ _ _ h => h) (by rfl) (by assumption) ?_
                simp only [Act.put, List.setIfInBounds_toArray, List.set_cons_zero, List.set_cons_succ]
                refine wpAnyH_pass 38 rfl (by kernel_rfl) (fun _ _ _ _ h => h) (by rfl) (by assumption) ?_
                simp only [Act.put, List.setIfInBounds_toArray, List.set_cons_zero, List.set_cons_succ]
                refine wpAnyH_pass 39 rfl (by kernel_rfl) (fun _ _ _ _ h => h) (by rfl) (by assumption) ?_
                simp only [Act.put, List.setIfInBounds_toArray, List.set_cons_zero, List.set_cons_succ]
                refine wpAnyH_pass 40 rfl (by kernel_rfl) (fun _ _ _ _ h => h) (by rfl) (by assumption) ?_
                simp only [Act.put, List.setIfInBounds_toArray, List.set_cons_zero, List.set_cons_succ]
                refine wpAnyH_pass 41 rfl (by kernel_rfl) (fun _ _ _ _ h => h) (by rfl) (by assumption) ?_
                simp only [Act.put, List.setIfInBounds_toArray, List.set_cons_zero, List.set_cons_succ]
                refine' wpAnyH_do 42 rfl (by kernel_rfl) (fun _ _ _ _ h => h) (by rfl) (by assumption) ⟨_, fun w' hS => ?_, ?_⟩
                rotate_left
                · ((try dsimp only at hS); go_split_ands; go_simp; try (with_reducible rfl))
                simp only [Act.put, List.setIfInBounds_toArray, List.set_cons_zero, List.set_cons_succ]
                refine wpAnyH_done (by kernel_rfl) ?_ _
                clear hS
                have HON : Hid (onB vol blk ⟨b0, b1, b2⟩ ⟨xn, b0, vol, xk, xd⟩ = false) := by show _ = _; rw [onB_eq]; simp [e3]
                go_wp2_with fail
                go_roundw
                case rel =>
                  refine ⟨c + 1, by omega, by go_num, ?_, HXC.out⟩
                  rw [bestN_snoc _ _ _ hcl, HWX.out, HON.out]
                  rfl
                case measure => simp [intOf]; omega
            · have e2d : (xv == vol) = false := by simpa using e2
              refine' wpAnyH_do 14 rfl (by kernel_rfl) (fun _ _ _ _ h => h) (by rfl) (by assumption) ⟨_, fun w' hS => ?_, ?_⟩
              rotate_left
              · ((try dsimp only at hS); go_split_ands; go_simp; try (with_reducible rfl))
              simp only [Act.put, List.setIfInBounds_toArray, List.set_cons_zero, List.set_cons_succ]
              refine' wpAnyH_do 15 rfl (by kernel_rfl) (fun _ _ _ _ h => h) (by rfl) (by assumption) ⟨_, fun w' hS => ?_, ?_⟩
              rotate_left
              · ((try dsimp only at hS); go_split_ands; go_simp; try (with_reducible rfl))
              simp only [Act.put, List.setIfInBounds_toArray, List.set_cons_zero, List.set_cons_succ]
              refine' wpAnyH_do 16 rfl (by kernel_rfl) (fun _ _ _ _ h => h) (by rfl) (by assumption) ⟨_, fun w' hS => ?_, ?_⟩
              rotate_left
              · ((try dsimp only at hS); go_split_ands; go_simp; try (with_reducible rfl))
              simp only [Act.put, List.setIfInBounds_toArray, List.set_cons_zero, List.set_cons_succ]
              refine wpAnyH_pass 17 rfl (by kernel_rfl) (fun _ _ _ _ h => h) (by rfl) (by assumption) ?_
              simp only [Act.put, List.setIfInBounds_toArray, List.set_cons_zero, List.set_cons_succ]
              refine wpAnyH_pass 18 rfl (by kernel_rfl) (fun _ _ _ _ h => h) (by rfl) (by assumption) ?_
              simp only [Act.put, List.setIfInBounds_toArray, List.set_cons_zero, List.set_cons_succ]
              refine wpAnyH_pass 19 rfl (by kernel_rfl) (fun _ _ _ _ h => h) (by rfl) (by assumption) ?_
              simp only [Act.put, List.setIfInBounds_toArray, List.set_cons_zero, List.set_cons_succ]
              refine wpAnyH_pass 20 rfl (by kernel_rfl) (fun _ _ _ _ h => h) (by rfl) (by assumption) ?_
              simp only [Act.put, List.setIfInBounds_toArray, List.set_cons_zero, List.set_cons_succ]
              refine wpAnyH_pass 21 rfl (by kernel_rfl) (fun _ _ _ _ h => h) (by rfl) (by assumption) ?_
              simp only [Act.put, List.setIfInBounds_toArray, List.set_cons_zero, List.set_cons_succ]
              refine' wpAnyH_do 22 rfl (by kernel_rfl) (fun _ _ _ _ h => h) (by rfl) (by assumption) ⟨_, fun w' hS => ?_, ?_⟩
              rotate_left
              · ((try dsimp only at hS); go_split_ands; go_simp; try (with_reducible rfl))
              simp only [Act.put, List.setIfInBounds_toArray, List.set_cons_zero, List.set_cons_succ]
              refine' wpAnyH_do 23 rfl (by kernel_rfl) (fun _ _ _ _ h => h) (by rfl) (by assumption) ⟨_, fun w' hS => ?_, ?_⟩
              rotate_left
              · ((try dsimp only at hS); go_split_ands; go_simp; try (with_reducible rfl))
              simp only [Act.put, List.setIfInBounds_toArray, List.set_cons_zero, List.set_cons_succ]
              refine wpAnyH_pass 24 rfl (by kernel_rfl) (fun _ _ _ _ h => h) (by rfl) (by assumption) ?_
              simp only [Act.put, List.setIfInBounds_toArray, List.set_cons_zero, List.set_cons_succ]
              refine wpAnyH_pass 25 rfl (by kernel_rfl) (fun _ _ _ _ h => h) (by rfl) (by assumption) ?_
              simp only [Act.put, List.setIfInBounds_toArray, List.set_cons_zero, List.set_cons_succ]
              refine wpAnyH_pass 26 rfl (by kernel_rfl) (fun _ _ _ _ h => h) (by rfl) (by assumption) ?_
              simp only [Act.put, List.setIfInBounds_toArray, List.set_cons_zero, List.set_cons_succ]
              refine wpAnyH_pass 27 rfl (by kernel_rfl) (fun _ _ _ _ h => h) (by rfl) (by assumption) ?_
              simp only [Act.put, List.setIfInBounds_toArray, List.set_cons_zero, List.set_cons_succ]
              refine wpAnyH_pass 28 rfl (by kernel_rfl) (fun _ _ _ _ h => h) (by rfl) (by assumption) ?_
              simp only [Act.put, List.setIfInBounds_toArray, List.set_cons_zero, List.set_cons_succ]
              refine wpAnyH_pass 29 rfl (by kernel_rfl) (fun _ _ _ _ h => h) (by rfl) (by assumption) ?_
              simp only [Act.put, List.setIfInBounds_toArray, List.set_cons_zero, List.set_cons_succ]
              refine wpAnyH_pass 30 rfl (by kernel_rfl) (fun _ _ _ _ h => h) (by rfl) (by assumption) ?_
              simp only [Act.put, List.setIfInBounds_toArray, List.set_cons_zero, List.set_cons_succ]
              refine wpAnyH_pass 31 rfl (by kernel_rfl) (fun _ _ _ _ h => h) (by rfl) (by assumption) ?_
              simp only [Act.put, List.setIfInBounds_toArray, List.set_cons_zero, List.set_cons_succ]
              refine' wpAnyH_do 32 rfl (by kernel_rfl) (fun _ _ _ _ h => h) (by rfl) (by assumption) ⟨_, fun w' hS => ?_, ?_⟩
              rotate_left
              · ((try dsimp only at hS); go_split_ands; go_simp; try (with_reducible rfl))
              simp only [Act.put, List.setIfInBounds_toArray, List.set_cons_zero, List.set_cons_succ]
              refine' wpAnyH_do 33 rfl (by kernel_rfl) (fun _ _ _ _ h => h) (by rfl) (by assumption) ⟨_, fun w' hS => ?_, ?_⟩
              rotate_left
              · ((try dsimp only at hS); go_split_ands; go_simp; try (with_reducible rfl))
              simp only [Act.put, List.setIfInBounds_toArray, List.set_cons_zero, List.set_cons_succ]
              refine wpAnyH_pass 34 rfl (by kernel_rfl) (fun _ _ _ _ h => h) (by rfl) (by assumption) ?_
              simp only [Act.put, List.setIfInBounds_toArray, List.set_cons_zero, List.set_cons_succ]
              refine wpAnyH_pass 35 rfl (by kernel_rfl) (fun _ _ _ _ h => h) (by rfl) (by assumption) ?_
              simp only [Act.put, List.setIfInBounds_toArray, List.set_cons_zero, List.set_cons_succ]
              refine wpAnyH_pass 36 rfl (by kernel_rfl) (fun _ _ _ _ h => h) (by rfl) (by assumption) ?_
              simp only [Act.put, List.setIfInBounds_toArray, List.set_cons_zero, List.set_cons_succ]
              refine wpAnyH_pass 37 rfl (by kernel_rfl) (fun _ _ _ _ h => h) (by rfl) (by assumption) ?_
              simp only [Act.put, List.setIfInBounds_toArray, List.set_cons_zero, List.set_cons_succ]
              refine wpAnyH_pass 38 rfl (by kernel_rfl) (fun _ _ _ _ h => h) (by rfl) (by assumption) ?_
              simp only [Act.put, List.setIfInBounds_toArray, List.set_cons_zero, List.set_cons_succ]
              refine wpAnyH_pass 39 rfl (by kernel_rfl) (fun _ _ _ _ h => h) (by rfl) (by assumption) ?_
              simp only [Act.put, List.setIfInBounds_toArray, List.set_cons_zero, List.set_cons_succ]
              refine wpAnyH_pass 40 rfl (by kernel_rfl) (fun _ _ _ _ h => h) (by rfl) (by assumption) ?_
              simp only [Act.put, List.setIfInBounds_toArray, List.set_cons_zero, List.set_cons_succ]
              refine wpAnyH_pass 41 rfl (by kernel_rfl) (fun _ _ _ _ h => h) (by rfl) (by assumption) ?_
              simp only [Act.put, List.setIfInBounds_toArray, List.set_cons_zero, List.set_cons_succ]
              refine' wpAnyH_do 42 rfl (by kernel_rfl) (fun _ _ _ _ h => h) (by rfl) (by assumption) ⟨_, fun w' hS => ?_, ?_⟩
              rotate_left
              · ((try dsimp only at hS); go_split_ands; go_simp; try (with_reducible rfl))
              simp only [Act.put, List.setIfInBounds_toArray, List.set_cons_zero, List.set_cons_succ]
              refine wpAnyH_done (by kernel_rfl) ?_ _
              clear hS
              have HON : Hid (onB vol blk ⟨b0, b1, b2⟩ ⟨xn, b0, xv, xk, xd⟩ = false) := by show _ = _; rw [onB_eq]; simp [e2]
              go_wp2_with fail
              go_roundw
              case rel =>
                refine ⟨c + 1, by omega, by go_num, ?_, HXC.out⟩
                rw [bestN_snoc _ _ _ hcl, HWX.out, HON.out]
                rfl
              case measure => simp [intOf]; omega
          · have e1d : (xb == b0) = false := by simpa using e1
            refine' wpAnyH_do 8 rfl (by kernel_rfl) (fun _ _ _ _ h => h) (by rfl) (by assumption) ⟨_, fun w' hS => ?_, ?_⟩
            rotate_left
            · ((try dsimp only at hS); go_split_ands; go_simp; try (with_reducible rfl))
            simp only [Act.put, List.setIfInBounds_toArray, List.set_cons_zero, List.set_cons_succ]
            refine' wpAnyH_do 9 rfl (by kernel_rfl) (fun _ _ _ _ h => h) (by rfl) (by assumption) ⟨_, fun w' hS => ?_, ?_⟩
            rotate_left
            · ((try dsimp only at hS); go_split_ands; go_simp; try (with_reducible rfl))
            simp only [Act.put, List.setIfInBounds_toArray, List.set_cons_zero, List.set_cons_succ]
            refine wpAnyH_pass 10 rfl (by kernel_rfl) (fun _ _ _ _ h => h) (by rfl) (by assumption) ?_
            simp only [Act.put, List.setIfInBounds_toArray, List.set_cons_zero, List.set_cons_succ]
            refine wpAnyH_pass 11 rfl (by kernel_rfl) (fun _ _ _ _ h => h) (by rfl) (by assumption) ?_
            simp only [Act.put, List.setIfInBounds_toArray, List.set_cons_zero, List.set_cons_succ]
            refine wpAnyH_pass 12 rfl (by kernel_rfl) (fun _ _ _ _ h => h) (by rfl) (by assumption) ?_
            simp only [Act.put, List.setIfInBounds_toArray, List.set_cons_zero, List.set_cons_succ]
            refine wpAnyH_pass 13 rfl (by kernel_rfl) (fun _ _ _ _ h => h) (by rfl) (by assumption) ?_
            simp only [Act.put, List.setIfInBounds_toArray, List.set_cons_zero, List.set_cons_succ]
            refine wpAnyH_pass 14 rfl (by kernel_rfl) (fun _ _ _ _ h => h) (by rfl) (by assumption) ?_
            simp only [Act.put, List.setIfInBounds_toArray, List.set_cons_zero, List.set_cons_succ]
            refine' wpAnyH_do 15 rfl (by kernel_rfl) (fun _ _ _ _ h => h) (by rfl) (by assumption) ⟨_, fun w' hS => ?_, ?_⟩
            rotate_left
            · ((try dsimp only at hS); go_split_ands; go_simp; try (with_reducible rfl))
            simp only [Act.put, List.setIfInBounds_toArray, List.set_cons_zero, List.set_cons_succ]
            refine' wpAnyH_do 16 rfl (by kernel_rfl) (fun _ _ _ _ h => h) (by rfl) (by assumption) ⟨_, fun w' hS => ?_, ?_⟩
            rotate_left
            · ((try dsimp only at hS); go_split_ands; go_simp; try (with_reducible rfl))
            simp only [Act.put, List.setIfInBounds_toArray, List.set_cons_zero, List.set_cons_succ]
            refine wpAnyH_pass 17 rfl (by kernel_rfl) (fun _ _ _ _ h => h) (by rfl) (by assumption) ?_
            simp only [Act.put, List.setIfInBounds_toArray, List.set_cons_zero, List.set_cons_succ]
            refine wpAnyH_pass 18 rfl (by kernel_rfl) (fun _ _ _ _ h => h) (by rfl) (by assumption) ?_
            simp only [Act.put, List.setIfInBounds_toArray, List.set_cons_zero, List.set_cons_succ]
            refine wpAnyH_pass 19 rfl (by kernel_rfl) (fun _ _ _ _ h => h) (by rfl) (by assumption) ?_
            simp only [Act.put, List.setIfInBounds_toArray, List.set_cons_zero, List.set_cons_succ]
            refine wpAnyH_pass 20 rfl (by kernel_rfl) (fun _ _ _ _ h => h) (by rfl) (by assumption) ?_
            simp only [Act.put, List.setIfInBounds_toArray, List.set_cons_zero, List.set_cons_succ]
            refine wpAnyH_pass 21 rfl (by kernel_rfl) (fun _ _ _ _ h => h) (by rfl) (by assumption) ?_
            simp only [Act.put, List.setIfInBounds_toArray, List.set_cons_zero, List.set_cons_succ]
            refine' wpAnyH_do 22 rfl (by kernel_rfl) (fun _ _ _ _ h => h) (by rfl) (by assumption) ⟨_, fun w' hS => ?_, ?_⟩
            rotate_left
            · ((try dsimp only at hS); go_split_ands; go_simp; try (with_reducible rfl))
            simp only [Act.put, List.setIfInBounds_toArray, List.set_cons_zero, List.set_cons_succ]
            refine' wpAnyH_do 23 rfl (by kernel_rfl) (fun _ _ _ _ h => h) (by rfl) (by assumption) ⟨_, fun w' hS => ?_, ?_⟩
            rotate_left
            · ((try dsimp only at hS); go_split_ands; go_simp; try (with_reducible rfl))
            simp only [Act.put, List.setIfInBounds_toArray, List.set_cons_zero, List.set_cons_succ]
            refine wpAnyH_pass 24 rfl (by kernel_rfl) (fun _ _ _ _ h => h) (by rfl) (by assumption) ?_
            simp only [Act.put, List.setIfInBounds_toArray, List.set_cons_zero, List.set_cons_succ]
            refine wpAnyH_pass 25 rfl (by kernel_rfl) (fun _ _ _ _ h => h) (by rfl) (by assumption) ?_
            simp only [Act.put, List.setIfInBounds_toArray, List.set_cons_zero, List.set_cons_succ]
            refine wpAnyH_pass 26 rfl (by kernel_rfl) (fun _ _ _ _ h => h) (by rfl) (by assumption) ?_
            simp only [Act.put, List.setIfInBounds_toArray, List.set_cons_zero, List.set_cons_succ]
            refine wpAnyH_pass 27 rfl (by kernel_rfl) (fun _ _ _ _ h => h) (by rfl) (by assumption) ?_
            simp only [Act.put, List.setIfInBounds_toArray, List.set_cons_zero, List.set_cons_succ]
            refine wpAnyH_pass 28 rfl (by kernel_rfl) (fun _ _ _ _ h => h) (by rfl) (by assumption) ?_
            simp only [Act.put, List.setIfInBounds_toArray, List.set_cons_zero, List.set_cons_succ]
            refine wpAnyH_pass 29 rfl (by kernel_rfl) (fun _ _ _ _ h => h) (by rfl) (by assumption) ?_
            simp only [Act.put, List.setIfInBounds_toArray, List.set_cons_zero, List.set_cons_succ]
            refine wpAnyH_pass 30 rfl (by kernel_rfl) (fun _ _ _ _ h => h) (by rfl) (by assumption) ?_
            simp only [Act.put, List.setIfInBounds_toArray, List.set_cons_zero, List.set_cons_succ]
            refine wpAnyH_pass 31 rfl (by kernel_rfl) (fun _ _ _ _ h => h) (by rfl) (by assumption) ?_
            simp only [Act.put, List.setIfInBounds_toArray, List.set_cons_zero, List.set_cons_succ]
            refine' wpAnyH_do 32 rfl (by kernel_rfl) (fun _ _ _ _ h => h) (by rfl) (by assumption) ⟨_, fun w' hS => ?_, ?_⟩
            rotate_left
            · ((try dsimp only at hS); go_split_ands; go_simp; try (with_reducible rfl))
            simp only [Act.put, List.setIfInBounds_toArray, List.set_cons_zero, List.set_cons_succ]
            refine' wpAnyH_do 33 rfl (by kernel_rfl) (fun _ _ _ _ h => h) (by rfl) (by assumption) ⟨_, fun w' hS => ?_, ?_⟩
            rotate_left
            · ((try dsimp only at hS); go_split_ands; go_simp; try (with_reducible rfl))
            simp only [Act.put, List.setIfInBounds_toArray, List.set_cons_zero, List.set_cons_succ]
            refine wpAnyH_pass 34 rfl (by kernel_rfl) (fun _ _ _ _ h => h) (by rfl) (by assumption) ?_
            simp only [Act.put, List.setIfInBounds_toArray, List.set_cons_zero, List.set_cons_succ]
            refine wpAnyH_pass 35 rfl (by kernel_rfl) (fun _ _ _ _ h => h) (by rfl) (by assumption) ?_
            simp only [Act.put, List.setIfInBounds_toArray, List.set_cons_zero, List.set_cons_succ]
            refine wpAnyH_pass 36 rfl (by kernel_rfl) (fun _ _ _ _ h => h) (by rfl) (by assumption) ?_
            simp only [Act.put, List.setIfInBounds_toArray, List.set_cons_zero, List.set_cons_succ]
            refine wpAnyH_pass 37 rfl (by kernel_rfl) (fun _ _ _ _ h => h) (by rfl) (by assumption) ?_
            simp only [Act.put, List.setIfInBounds_toArray, List.set_cons_zero, List.set_cons_succ]
            refine wpAnyH_pass 38 rfl (by kernel_rfl) (fun _ _ _ _ h => h) (by rfl) (by assumption) ?_
            simp only [Act.put, List.setIfInBounds_toArray, List.set_cons_zero, List.set_cons_succ]
            refine wpAnyH_pass 39 rfl (by kernel_rfl) (fun _ _ _ _ h => h) (by rfl) (by assumption) ?_
            simp only [Act.put, List.setIfInBounds_toArray, List.set_cons_zero, List.set_cons_succ]
            refine wpAnyH_pass 40 rfl (by kernel_rfl) (fun _ _ _ _ h => h) (by rfl) (by assumption) ?_
            simp only [Act.put, List.setIfInBounds_toArray, List.set_cons_zero, List.set_cons_succ]
            refine wpAnyH_pass 41 rfl (by kernel_rfl) (fun _ _ _ _ h => h) (by rfl) (by assumption) ?_
            simp only [Act.put, List.setIfInBounds_toArray, List.set_cons_zero, List.set_cons_succ]
            refine' wpAnyH_do 42 rfl (by kernel_rfl) (fun _ _ _ _ h => h) (by rfl) (by assumption) ⟨_, fun w' hS => ?_, ?_⟩
            rotate_left
            · ((try dsimp only at hS); go_split_ands; go_simp; try (with_reducible rfl))
            simp only [Act.put, List.setIfInBounds_toArray, List.set_cons_zero, List.set_cons_succ]
            refine wpAnyH_done (by kernel_rfl) ?_ _
            clear hS
            have HON : Hid (onB vol blk ⟨b0, b1, b2⟩ ⟨xn, xb, xv, xk, xd⟩ = false) := by show _ = _; rw [onB_eq]; simp [e1]
            go_wp2_with fail
            go_roundw
            case rel =>
              refine ⟨c + 1, by omega, by go_num, ?_, HXC.out⟩
              rw [bestN_snoc _ _ _ hcl, HWX.out, HON.out]
              rfl
            case measure => simp [intOf]; omega
        · have hce : c = s.ws.length := by omega
          subst hce
          rw [List.take_length]
          obtain ⟨bn, hbn⟩ : ∃ bn, bestN (s.ws.filter (onB vol blk ⟨b0, b1, b2⟩)) = bn := ⟨_, rfl⟩
          rw [hbn]
          cases hq : (s.ws.filter (onB vol blk ⟨b0, b1, b2⟩)).getLast? with
          | none =>
            have hb0 : bn = 0 := by rw [← hbn]; unfold bestN; rw [hq]
            subst hb0
            have HQ := Lib.hid hq
            clear hxx hDx hq hbn
            go_wp2
            go_roundw
            case rel =>
              refine ⟨k + 1, by omega, by go_num, HXR.out.trans0 HXX.out, fun j hj hjk => ?_⟩
              by_cases e : j = k
              · subst e; rw [HST.out]; exact HQ.out
              · exact HNO.out j hj (by omega)
            case measure => simp [intOf]; omega
          | some x =>
            have hxm := (List.mem_filter.1 (List.mem_of_getLast? hq)).1
            have hbx : bn = x.num := by rw [← hbn]; unfold bestN; rw [hq]
            have hb0 : 0 < bn := by have := HPOS.out x hxm; omega
            have hb0d : decide (0 < bn) = true := decide_eq_true hb0
            have HE : Hid (shownN s id m vol blk = bn) := by
              show _ = _
              unfold shownN TS.shown
              rw [HLN.out, shownL_at s.ws vol blk LN k hlt x (fun j hj hjk => HNO.out j hj hjk) (by rw [HST.out]; exact hq), hbx]
            clear hxx hDx hq hbn hxm hbx
            go_wp2
            go_ret
            exact ⟨ret_int HE.out.symm, HX1.out.trans0 (HXR.out.trans0 HXX.out)⟩
    · have hkn : k = LN.length := by omega
      subst hkn
      have HE : Hid (shownN s id m vol blk = 0) := by
        show _ = _
        unfold shownN TS.shown
        rw [HLN.out, shownL_end s.ws vol blk LN (fun j hj => HNO.out j hj hj)]
      clear hxr hno
      go_wp2
      go_ret
      exact ⟨ret_int HE.out.symm, HX1.out.trans0 HXR.out⟩
end Go.Proofs.YtoglddndicmelaaGreat.Tr

namespace Go.Proofs.YtoglddndicmelaaGreat.Tr
open Go.RowKit Go.Proofs.YtoglddndicmelaaGreatB Go.Proofs.YtoglddndicmelaaGreat
set_option maxRecDepth 100000

theorem ws_uniq {s : TS} (hI : Inv s) {i j : Nat} (hi : i < s.ws.length) (hj : j < s.ws.length) (e : s.ws[i].num = s.ws[j].num) : i = j := by
  have hl : s.ws.length = s.tab.length := by have := congrArg List.length hI.ws; simpa using this
  have hg : ∀ k (hk : k < s.ws.length) (hk' : k < s.tab.length), s.ws[k].num = s.tab[k].num := fun k hk hk' => by
    have := congrArg (fun l => l[k]?) hI.ws
    simpa [hk, hk'] using this
  have e' : s.tab[i].num = s.tab[j].num := by rw [← hg i hi (by omega), ← hg j hj (by omega)]; exact e
  have h1 := Mo.lo_of_get hI.tab.srt (i := i) (by omega)
  have h2 := Mo.lo_of_get hI.tab.srt (i := j) (by omega)
  rw [e', h2] at h1; exact h1.symm
theorem shown_mem {ws : List Wr} {vol blk : Int} : ∀ {l : List Stp} {x : Wr}, shownL ws vol blk l = some x → x ∈ ws := by
  intro l
  induction l with
  | nil => intro x h; cases h
  | cons st l ih =>
    intro x h
    unfold shownL at h
    cases hq : (ws.filter (onB vol blk st)).getLast? with
    | some y =>
      rw [hq] at h
      injection h with h
      subst h
      exact (List.mem_filter.1 (List.mem_of_getLast? hq)).1
    | none => rw [hq] at h; exact ih h
set_option maxHeartbeats 4000000 in
theorem rread54_any (D : RLstP) (s : TS) (id m vol blk : Int) (w : World) (h : RLstAt w D s) (hI : Inv s) (hlen : s.tab.length ≤ 900) :
    Calls Tryz.prog 22 #[.pointer (some ⟨D.p, 0, none⟩), .int .i64 id, .int .u64 m, .int .i64 vol, .int .i64 blk] w fun e w' => e = .returned (.tuple #[.agg (encN 32 (s.readD id m vol blk)).toArray, .int .i64 (s.readE id m vol blk)]) ∧ Ex0 w w' := by
  have HD := Lib.hid h
  have HI := Lib.hid hI
  have HLE := Lib.hid hlen
  have hlp := h.lt
  have hwl : s.ws.length ≤ 900 := by have := congrArg List.length hI.ws; simp at this; omega
  have HQ : Hid (∀ r w', s.readE id m vol blk = r → r ≠ 0 → Ex0 w w' → (Ending.returned (.tuple #[.agg Z32, .int .i64 r]) = .returned (.tuple #[.agg (encN 32 (s.readD id m vol blk)).toArray, .int .i64 (s.readE id m vol blk)])) ∧ Ex0 w w') := fun r w' e h0 hx => by
    refine ⟨?_, hx⟩
    unfold TS.readD Z32; rw [e, if_neg h0]
  obtain ⟨wa, hwa⟩ : ∃ wa, w.alloc (.cells #[.int .u8 0, .int .u8 0, .int .u8 0, .int .u8 0, .int .u8 0, .int .u8 0, .int .u8 0, .int .u8 0, .int .u8 0, .int .u8 0, .int .u8 0, .int .u8 0, .int .u8 0, .int .u8 0, .int .u8 0, .int .u8 0, .int .u8 0, .int .u8 0, .int .u8 0, .int .u8 0, .int .u8 0, .int .u8 0, .int .u8 0, .int .u8 0, .int .u8 0, .int .u8 0, .int .u8 0, .int .u8 0, .int .u8 0, .int .u8 0, .int .u8 0, .int .u8 0] 49) = wa := ⟨_, rfl⟩
  have HZ : Hid (wa.heap[w.heap.size]? = some (.cells Z32 49 (0, 0))) := by show _ = _; rw [← hwa]; exact heap_alloc_new _ _
  have HXA : Hid (Ex0 w wa) := by show Ex0 _ _; rw [← hwa]; exact Ex.alloc _ _
  have HWA := Lib.hid hwa
  have HDA := Lib.hid (h.ex0 HXA.out)
  have hlpa := HDA.out.lt
  have hc8 : wa.cell? ⟨D.p, 8, none⟩ = some (.pointer (some ⟨D.P.pf, 0, none⟩)) := HDA.out.cell rfl
  have HAL := Lib.hid (rfalive_any D.P.pf D.P.A D.P.cA (brs s.fs) id wa HDA.out.law.fs)
  have HNU := Lib.hid (rfnum_any D.P.pf D.P.A D.P.cA (brs s.fs) id wa HDA.out.law.fs)
  rw [ralive_brs hI.fs] at HAL
  rw [rnum_brs hI.fs] at HNU
  have HHAS := Lib.hid (fun w' (hx : Ex0 w w') => rhas_any D.P s.rules s.tab s.holds (brs s.fs) m s.now w' (h.ex0 hx).law hI.tab hI.rules)
  have hrh : hasD s.rules s.tab s.holds (brs s.fs) m s.now = s.has m := rfl
  rw [hrh] at HHAS
  have HTH := Lib.hid (rhere_any D s vol blk wa HDA.out)
  obtain ⟨th, hth⟩ : ∃ th, s.there vol blk = th := ⟨_, rfl⟩
  obtain ⟨al, hal⟩ : ∃ al, alive s.fs id = al := ⟨_, rfl⟩
  obtain ⟨hs, hhs⟩ : ∃ hs, s.has m = hs := ⟨_, rfl⟩
  rw [hth] at HTH
  rw [hal] at HAL
  rw [hhs] at HHAS
  have HTE := Lib.hid hth
  have HALE := Lib.hid hal
  have HHS := Lib.hid hhs
  clear h hI hwa hth hal hhs hrh hlen
  go_enter Tryz.func22, Tryz.ntmps22
  iterate 5 go_step
  rw [HWA.out]
  go_wp2_with fail
  refine HTH.out.mono ?_
  rintro e w1 ⟨rfl, hw⟩
  rw [hw]
  clear hw w1
  cases th with
  | false =>
    have HE : Hid (s.readE id m vol blk = 2) := by show _ = _; unfold TS.readE; rw [if_pos HTE.out]
    go_wp2_with (refine wpList_store_all rfl 49 (.tmp 10) (.tmp 19) rfl w.heap.size rfl Z32 _ rfl 49 HZ.out rfl Z32_one (by kernel_rfl) ?_; rw [setRow_self _ _ _ _ _ HZ.out])
    refine bodyPost_ret (results_row_tmp rfl _ _ w.heap.size _ _ _ _ rfl HZ.out Tryz.underlying49 rfl (by kernel_rfl) (.int .i64 2) rfl) rfl ?_
    exact HQ.out 2 _ HE.out (by decide) HXA.out
  | true =>
    have HNT : Hid (¬ s.there vol blk = false) := by show ¬ _; rw [HTE.out]; simp
    go_wp2_with fail
    refine HAL.out.mono ?_
    rintro e w1 ⟨rfl, hw⟩
    rw [hw]
    clear hw w1
    cases al with
    | false =>
      have HE : Hid (s.readE id m vol blk = 4) := by show _ = _; unfold TS.readE; rw [if_neg HNT.out, if_pos (.inl HALE.out)]
      go_wp2_with (refine wpList_store_all rfl 49 (.tmp 10) (.tmp 39) rfl w.heap.size rfl Z32 _ rfl 49 HZ.out rfl Z32_one (by kernel_rfl) ?_; rw [setRow_self _ _ _ _ _ HZ.out])
      refine bodyPost_ret (results_row_tmp rfl _ _ w.heap.size _ _ _ _ rfl HZ.out Tryz.underlying49 rfl (by kernel_rfl) (.int .i64 4) rfl) rfl ?_
      exact HQ.out 4 _ HE.out (by decide) HXA.out
    | true =>
      go_wp2_with fail
      refine HNU.out.mono ?_
      rintro e w1 ⟨rfl, hw⟩
      rw [hw]
      clear hw w1
      by_cases hm : m < numF s.fs id
      · have HE : Hid (s.readE id m vol blk = 4) := by show _ = _; unfold TS.readE; rw [if_neg HNT.out, if_pos (.inr hm)]
        have hmd : decide (m < numF s.fs id) = true := decide_eq_true hm
        go_wp2_with (refine wpList_store_all rfl 49 (.tmp 10) (.tmp 39) rfl w.heap.size rfl Z32 _ rfl 49 HZ.out rfl Z32_one (by kernel_rfl) ?_; rw [setRow_self _ _ _ _ _ HZ.out])
        refine bodyPost_ret (results_row_tmp rfl _ _ w.heap.size _ _ _ _ rfl HZ.out Tryz.underlying49 rfl (by kernel_rfl) (.int .i64 4) rfl) rfl ?_
        exact HQ.out 4 _ HE.out (by decide) HXA.out
      have hmd : decide (m < numF s.fs id) = false := decide_eq_false hm
      have HNA : Hid (¬ (alive s.fs id = false ∨ m < numF s.fs id)) := by show ¬ _; rw [HALE.out]; simpa using hm
      go_wp2_with fail
      have hS : (fun w' : World => RowAt w' ⟨D.p, 5, none⟩ (D.P.cells s.rules.length s.holds.length) ∧ w'.cell? ⟨D.p, 2, none⟩ = some (.int .i64 s.now)) wa.drew := ⟨(HDA.out.ex0 (Ex.drew _)).lawRow, (HDA.out.ex0 (Ex.drew _)).cell rfl⟩
      have HXD : Hid (Ex0 w wa.drew) := HXA.out.trans0 (Ex.drew wa)
      refine wp_region_takes (fun w' : World => RowAt w' ⟨D.p, 5, none⟩ (D.P.cells s.rules.length s.holds.length) ∧ w'.cell? ⟨D.p, 2, none⟩ = some (.int .i64 s.now)) (by kernel_rfl) ?_
      simp only [List.length_cons, List.length_nil]
      have hlpd : D.p < wa.drew.heap.size := hlpa
      have HZD : Hid (wa.drew.heap[w.heap.size]? = some (.cells Z32 49 (0, 0))) := HZ.out
      generalize wa.drew = wd at *
      clear hc8 hlpa
      refine' wpAnyH_do 0 rfl (by kernel_rfl) (fun _ _ _ _ h => h) (by rfl) (by assumption) ⟨_, fun w' hS => ?_, ?_⟩
      rotate_left
      · ((try dsimp only at hS); go_split_ands; go_simp; try (with_reducible rfl))
      simp only [Act.put, List.setIfInBounds_toArray, List.set_cons_zero, List.set_cons_succ]
      refine' wpAnyH_do 1 rfl (by kernel_rfl) (fun _ _ _ _ h => h) (by rfl) (by assumption) ⟨_, fun w' hS => ?_, ?_⟩
      rotate_left
      · ((try dsimp only at hS); go_split_ands; go_simp; try (with_reducible rfl))
      simp only [Act.put, List.setIfInBounds_toArray, List.set_cons_zero, List.set_cons_succ]
      refine' wpAnyH_do 2 rfl (by kernel_rfl) (fun _ _ _ _ h => h) (by rfl) (by assumption) ⟨_, fun w' hS => ?_, ?_⟩
      rotate_left
      · ((try dsimp only at hS); go_split_ands; go_simp; try (with_reducible rfl))
      simp only [Act.put, List.setIfInBounds_toArray, List.set_cons_zero, List.set_cons_succ]
      refine' wpAnyH_do 3 rfl (by kernel_rfl) (fun _ _ _ _ h => h) (by rfl) (by assumption) ⟨_, fun w' hS => exec_load_at 46 (.tmp 42) rfl ⟨D.p, 5, none⟩ rfl _ _ hS.1 Tryz.underlying46 rfl (by kernel_rfl), ?_⟩
      simp only [Act.put, List.setIfInBounds_toArray, List.set_cons_zero, List.set_cons_succ]
      refine' wpAnyH_do 4 rfl (by kernel_rfl) (fun _ _ _ _ h => h) (by rfl) (by assumption) ⟨_, fun w' hS => ?_, ?_⟩
      rotate_left
      · ((try dsimp only at hS); go_split_ands; go_simp; try (with_reducible rfl))
      simp only [Act.put, List.setIfInBounds_toArray, List.set_cons_zero, List.set_cons_succ]
      refine' wpAnyH_do 5 rfl (by kernel_rfl) (fun _ _ _ _ h => h) (by rfl) (by assumption) ⟨_, fun w' hS => ?_, ?_⟩
      rotate_left
      · ((try dsimp only at hS); go_split_ands; go_simp; try (with_reducible rfl))
      simp only [Act.put, List.setIfInBounds_toArray, List.set_cons_zero, List.set_cons_succ]
      refine' wpAnyH_do 6 rfl (by kernel_rfl) (fun _ _ _ _ h => h) (by rfl) (by assumption) ⟨_, fun w' hS => ?_, ?_⟩
      rotate_left
      · ((try dsimp only at hS); go_split_ands; go_simp; try (with_reducible rfl))
      simp only [Act.put, List.setIfInBounds_toArray, List.set_cons_zero, List.set_cons_succ]
      refine' wpAnyH_do 7 rfl (by kernel_rfl) (fun _ _ _ _ h => h) (by rfl) (by assumption) ⟨_, fun w' hS => ?_, ?_⟩
      rotate_left
      · ((try dsimp only at hS); go_split_ands; go_simp; try (with_reducible rfl))
      simp only [Act.put, List.setIfInBounds_toArray, List.set_cons_zero, List.set_cons_succ]
      refine' wpAnyH_do 8 rfl (by kernel_rfl) (fun _ _ _ _ h => h) (by rfl) (by assumption) ⟨_, fun w' hS => ?_, ?_⟩
      rotate_left
      · ((try dsimp only at hS); go_split_ands; go_simp; try (with_reducible rfl))
      simp only [Act.put, List.setIfInBounds_toArray, List.set_cons_zero, List.set_cons_succ]
      refine wpAnyH_eff 9 rfl (by kernel_rfl) (by rfl) (fun K hK => ?_)
      have HKK := Lib.hid hK
      clear hK
      go_simp
      refine (HHAS.out wd HXD.out).mono ?_
      rintro e w2 ⟨rfl, hx2⟩
      have hS2 : (fun w' : World => RowAt w' ⟨D.p, 5, none⟩ (D.P.cells s.rules.length s.holds.length) ∧ w'.cell? ⟨D.p, 2, none⟩ = some (.int .i64 s.now)) w2 := ⟨hS.1.ex hx2 not_false, hx2.cellS hS.2 not_false⟩
      have HX2 := Lib.hid (HXD.out.trans0 hx2)
      have HZ2 : Hid (w2.heap[w.heap.size]? = some (.cells Z32 49 (0, 0))) := (hx2.block _ (Array.getElem?_eq_some_iff.1 HZD.out).1 not_false).trans HZD.out
      clear hS hx2 HXD hlpd
      dsimp only
      refine HKK.out _ _ hS2 ?_
      clear HKK K
      (try simp only [Act.put, List.setIfInBounds_toArray, List.set_cons_zero, List.set_cons_succ])
      have hS := hS2
      clear hS2
      refine' wpAnyH_do 10 rfl (by kernel_rfl) (fun _ _ _ _ h => h) (by rfl) (by assumption) ⟨_, fun w' hS => ?_, ?_⟩
      rotate_left
      · ((try dsimp only at hS); go_split_ands; go_simp; try (with_reducible rfl))
      simp only [Act.put, List.setIfInBounds_toArray, List.set_cons_zero, List.set_cons_succ]
      refine wpAnyH_done (by kernel_rfl) ?_ _
      clear hS
      cases hs with
      | false =>
        have HE : Hid (s.readE id m vol blk = 10) := by show _ = _; unfold TS.readE; rw [if_neg HNT.out, if_neg HNA.out, if_pos HHS.out]
        go_wp2_with (refine wpList_store_all rfl 49 (.tmp 10) (.tmp 51) rfl w.heap.size rfl Z32 _ rfl 49 HZ2.out rfl Z32_one (by kernel_rfl) ?_; rw [setRow_self _ _ _ _ _ HZ2.out])
        refine bodyPost_ret (results_row_tmp rfl _ _ w.heap.size _ _ _ _ rfl HZ2.out Tryz.underlying49 rfl (by kernel_rfl) (.int .i64 10) rfl) rfl ?_
        exact HQ.out 10 _ HE.out (by decide) HX2.out
      | true =>
        have HE : Hid (s.readE id m vol blk = 0) := by show _ = _; unfold TS.readE; rw [if_neg HNT.out, if_neg HNA.out, if_neg (by rw [HHS.out]; simp)]
        have HMM : Hid (numF s.fs id ≤ m) := by show _ ≤ _; omega
        go_wp2_with fail
        refine (rshown_any D s id m vol blk w2 (HD.out.ex0 HX2.out) HI.out HLE.out HALE.out HMM.out).mono ?_
        rintro e w3 ⟨rfl, hx3⟩
        have HX3 := Lib.hid (HX2.out.trans0 hx3)
        have HZ3 : Hid (w3.heap[w.heap.size]? = some (.cells Z32 49 (0, 0))) := (hx3.block _ (Array.getElem?_eq_some_iff.1 HZ2.out).1 not_false).trans HZ2.out
        obtain ⟨sn, hsn⟩ : ∃ sn, shownN s id m vol blk = sn := ⟨_, rfl⟩
        have HSN := Lib.hid hsn
        rw [hsn]
        clear hx3 hsn hmd hm hlp
        go_wp2_with fail
        go_loopw [13] (fun i wr => ∃ k : Nat, k ≤ s.ws.length ∧ i = .int .i64 k ∧ Ex0 w3 wr ∧ ∀ j (hj : j < s.ws.length), j < k → s.ws[j].num ≠ sn) (fun i _ => s.ws.length - (intOf i).toNat)
        case atStart => exact ⟨0, by omega, rfl, Ex.refl _ _, fun j _ h => by omega⟩
        case round =>
          obtain ⟨k, hk, rfl, hxr, hno⟩ := hrel
          have HXR := Lib.hid hxr
          have HNO := Lib.hid hno
          have hDr := HD.out.ex0 (HX3.out.trans0 hxr)
          have hlpr := hDr.lt
          have hc4 : wr.cell? ⟨D.p, 4, none⟩ = some (.slice D.LA s.ws.length D.cL) := hDr.cell rfl
          have hk0 : (0 : Int) ≤ (k : Int) := by omega
          have HZr : Hid (wr.heap[w.heap.size]? = some (.cells Z32 49 (0, 0))) := (hxr.block _ (Array.getElem?_eq_some_iff.1 HZ3.out).1 not_false).trans HZ3.out
          by_cases hlt : k < s.ws.length
          · have hk1 : (k : Int) < (s.ws.length : Int) := by omega
            obtain ⟨gw, ow, _, hwA, hrw⟩ := hDr.ws.row Wr.length (by omega) hlt
            rw [hwA] at hc4
            obtain ⟨x, hx⟩ : ∃ x, s.ws[k] = x := ⟨_, rfl⟩
            rw [hx] at hrw
            have HWX := Lib.hid hx
            have hrd : RowAt wr ⟨gw, ow + k * 36 + 4, none⟩ (encN 32 x.data) := fun j u hu => by
              have := hrw (4 + j) u (by obtain ⟨_, _, _, _, _⟩ := x; rw [wr_cells]; rw [List.getElem?_append_right (by simp)]; simpa using hu)
              rw [add_row] at this ⊢
              rw [← this]; congr 2; omega
            have hc0 : wr.cell? ⟨gw, ow + k * 36, none⟩ = some (.int .u64 x.num) := hrw 0 _ rfl
            have hlg : gw < wr.heap.size := World.block_lt_of_cell? _ _ hc0
            have HRD := Lib.hid hrd
            obtain ⟨xn, hxn⟩ : ∃ xn, x.num = xn := ⟨_, rfl⟩
            rw [hxn] at hc0
            have HXN := Lib.hid hxn
            clear hxr hno hDr hwA hrw hx hrd hxn
            by_cases he : xn = sn
            · subst he
              obtain ⟨DA, hDA⟩ : ∃ DA, (encN 32 x.data).toArray = DA := ⟨_, rfl⟩
              have HDA' := Lib.hid hDA
              have HDL : Hid (DA.size = 32) := by show _ = _; rw [← hDA, List.size_toArray, encN_len]
              have HDO : Hid (∀ v ∈ DA, v.oneCell' = true) := by
                show ∀ v ∈ DA, _
                rw [← hDA]; intro v hv; exact encN_one 32 x.data v (by simpa using hv)
              have HDD : Hid (s.readD id m vol blk = x.data) := by
                show _ = _
                have hp := ws_pos HI.out x (by rw [← HWX.out]; exact List.getElem_mem hlt)
                have h1 := HSN.out
                have h2 := HXN.out
                unfold TS.readD
                rw [HE.out, if_pos rfl]
                unfold shownN at h1
                cases hq : s.shown id m vol blk with
                | none => rw [hq] at h1; dsimp only at h1; omega
                | some y =>
                  rw [hq] at h1
                  dsimp only at h1 ⊢
                  obtain ⟨i, hi, e⟩ := List.getElem_of_mem (shown_mem hq)
                  have : i = k := ws_uniq HI.out hi hlt (by rw [e, HWX.out]; omega)
                  subst this
                  rw [← e, HWX.out]
              clear hDA
              go_wp2_with (first | (refine wpList_load_at rfl 49 (.tmp 83) rfl _ rfl _ _ HRD.out Tryz.underlying49 rfl (by rw [encN_len]; kernel_rfl) ?_; rw [HDA'.out]) | (refine wpList_store_all rfl 49 (.tmp 10) (.tmp 84) rfl w.heap.size rfl DA _ rfl 49 HZr.out HDL.out.symm HDO.out (by rw [HDL.out]; kernel_rfl) ?_))
              refine bodyPost_ret (results_row_tmp rfl _ _ w.heap.size _ _ _ _ rfl (setRow_heap _ _ _ _ _ _ HZr.out) Tryz.underlying49 rfl (by rw [HDL.out]; kernel_rfl) (.int .i64 0) rfl) rfl ?_
              refine ⟨by rw [HDD.out, HE.out, HDA'.out], (HX3.out.trans0 HXR.out).trans (ex_setRow _ _ _) (fun _ _ h => h) (fun i hi h => by have h' : i = w.heap.size := h; omega)⟩
            · have hne : (xn == sn) = false := by simpa using he
              clear HZr
              go_wp2
              go_roundw
              case rel =>
                refine ⟨k + 1, by omega, by go_num, HXR.out, fun j hj hjk => ?_⟩
                by_cases e : j = k
                · subst e; rw [HWX.out, HXN.out]; exact he
                · exact HNO.out j hj (by omega)
              case measure => simp [intOf]; omega
          · have HDD : Hid (s.readD id m vol blk = z32) := by
              show _ = _
              have h1 := HSN.out
              unfold TS.readD
              rw [HE.out, if_pos rfl]
              unfold shownN at h1
              cases hq : s.shown id m vol blk with
              | none => rfl
              | some y =>
                exfalso
                rw [hq] at h1
                dsimp only at h1
                obtain ⟨i, hi, e⟩ := List.getElem_of_mem (shown_mem hq)
                exact HNO.out i hi (by omega) (by rw [e]; exact h1)
            clear hxr hno hDr
            go_wp2_with (refine wpList_store_all rfl 49 (.tmp 10) (.tmp 85) rfl w.heap.size rfl Z32 _ rfl 49 HZr.out rfl Z32_one (by kernel_rfl) ?_; rw [setRow_self _ _ _ _ _ HZr.out])
            refine bodyPost_ret (results_row_tmp rfl _ _ w.heap.size _ _ _ _ rfl HZr.out Tryz.underlying49 rfl (by kernel_rfl) (.int .i64 0) rfl) rfl ?_
            exact ⟨by rw [HDD.out, HE.out]; rfl, HX3.out.trans0 HXR.out⟩
end Go.Proofs.YtoglddndicmelaaGreat.Tr
