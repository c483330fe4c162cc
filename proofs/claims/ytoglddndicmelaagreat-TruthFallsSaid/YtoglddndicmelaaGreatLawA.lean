/- Layer 54: setups, and rows of numbers that are the same. Layer 54: the document's example. Layer 54: of no list there is nothing: the law's walk. Layer 54: the document's May. -/
import Derived.Test.YtoglddndicmelaaGreatLstC
namespace Go.Proofs.YtoglddndicmelaaGreat.Tr
open Go.RowKit Go.Proofs.YtoglddndicmelaaGreatB Go.Proofs.YtoglddndicmelaaGreat
set_option maxRecDepth 100000

theorem results_row1 {P : Program} {fn : Func} {p : Tmp} {ty : TypeId} (h : fn.results = #[.cell p ty]) (tmps : Array Value) (w : World) (g : Nat) (t : TypeId) (cs : Array Value) (fr : Nat × Nat) (d : TypeDesc)
    (hp : tmps.getD p undef = .pointer (some ⟨g, 0, none⟩)) (hg : w.heap[g]? = some (.cells cs t fr))
    (hu : P.underlying ty = some d) (hd : (match d with | .struct _ | .array _ _ => true | _ => false) = true) (hi : (P.info? ty).map (·.size) = some cs.size) :
    (results fn tmps).run P w = .ok (.agg cs) w := by
  have hp' : tmps[p]?.getD undef = .pointer (some ⟨g, 0, none⟩) := by simpa using hp
  simp [results, h, hp', asAddr, run_loadVar_row w g t ty cs fr d hg hu hd hi]
/-- the cells of the laws' setup -/
def setC (A : Option Addr) (n cap : Nat) : Array Value := #[.int .i64 0, .int .i64 0, .int .i64 2, .int .i64 2, .int .u8 0, .int .u8 0, .int .u8 0, .int .u8 0, .int .u8 0, .int .u8 0, .int .u8 0, .int .u8 0, .int .u8 0, .int .u8 0, .int .u8 0, .int .u8 0, .int .u8 0, .int .u8 0, .int .u8 0, .int .u8 0, .int .u8 0, .int .u8 0, .int .u8 0, .int .u8 0, .int .u8 0, .int .u8 0, .int .u8 0, .int .u8 0, .int .u8 0, .int .u8 0, .int .u8 0, .int .u8 0, .int .u8 0, .int .u8 0, .int .u8 0, .int .u8 0, .slice A n cap, .bool false]
set_option maxHeartbeats 1000000 in
theorem setup_any (A : Option Addr) (n cap : Nat) (w : World) :
    Calls Tryz.prog 41 #[.slice A n cap] w fun e w' => e = .returned (.agg (setC A n cap)) ∧ Ex0 w w' := by
  have hone : ∀ v ∈ setC A n cap, v.oneCell' = true := by simp [setC, Value.oneCell']
  go_enter Tryz.func41, Tryz.ntmps41
  go_wp2_with (refine wpList_store_all rfl 26 (.tmp 2) (.tmp 4) rfl w.heap.size rfl (setC A n cap) _ rfl 26 (heap_alloc_new w _) rfl hone (by kernel_rfl) ?_; rw [World.setRow_alloc_new])
  refine bodyPost_ret (results_row1 rfl _ _ w.heap.size _ _ _ _ rfl (heap_alloc_new w _) Tryz.underlying26 rfl (by kernel_rfl)) rfl ?_
  exact ⟨rfl, Ex.alloc _ _⟩
set_option maxHeartbeats 1000000 in
theorem same_any (A B : Option Addr) (ca cb : Nat) (xs ys : List Int) (w : World) (ha : Sl w 1 A xs.length (xs.map (Value.int .u64))) (hb : Sl w 1 B ys.length (ys.map (Value.int .u64))) :
    Calls Tryz.prog 19 #[.slice A xs.length ca, .slice B ys.length cb] w fun e w' => e = .returned (.bool (decide (xs = ys))) ∧ Ex0 w w' := by
  have hm := ha.small
  have hm2 := hb.small
  by_cases hlen : xs.length = ys.length
  case neg =>
    have hd : decide (xs = ys) = false := by rw [decide_eq_false_iff_not]; intro e; exact hlen (congrArg List.length e)
    have HD := Lib.hid hd
    have hne : ((xs.length : Int) != (ys.length : Int)) = true := by rw [bne_iff_ne]; omega
    clear hd
    go_enter Tryz.func19, Tryz.ntmps19
    go_wp2
    go_ret
    exact ⟨by rw [HD.out]; rfl, Ex.refl _ _⟩
  have hne : ((xs.length : Int) != (ys.length : Int)) = false := by rw [hlen]; simp
  have HL := Lib.hid hlen
  clear hlen
  go_enter Tryz.func19, Tryz.ntmps19
  go_wp2
  go_loopw [5] (fun i wr => ∃ k : Nat, k ≤ xs.length ∧ i = .int .i64 k ∧ Ex0 w wr ∧ ∀ j (h1 : j < xs.length) (h2 : j < ys.length), j < k → xs[j] = ys[j]) (fun i _ => xs.length - (intOf i).toNat)
  case atStart => exact ⟨0, Nat.zero_le _, rfl, Ex.refl _ _, fun j h h' hj => by omega⟩
  case round =>
    obtain ⟨k, hk, rfl, hx, hq⟩ := hrel
    have HX := Lib.hid hx
    have HQ := Lib.hid hq
    by_cases hlt : k < xs.length
    · have hlt2 : k < ys.length := by rw [← HL.out]; exact hlt
      obtain ⟨ga, oa, rfl, _, ca'⟩ := (ha.ex0 hx).one hlt
      obtain ⟨gb, ob, rfl, _, cb'⟩ := (hb.ex0 hx).one hlt2
      have hi0' : (0 : Int) ≤ (k : Int) := Int.natCast_nonneg _
      have hi1 : (k : Int) < (xs.length : Int) := by omega
      have hi2 : (k : Int) < (ys.length : Int) := by omega
      clear hx hq
      by_cases he : xs[k] = ys[k]
      · have HE' : Hid (xs[k] = ys[k]) := he
        have hne2 : (xs[k] != ys[k]) = false := by rw [he]; simp
        obtain ⟨x, hxx⟩ : ∃ x, xs[k] = x := ⟨_, rfl⟩
        obtain ⟨y, hyy⟩ : ∃ y, ys[k] = y := ⟨_, rfl⟩
        rw [hxx] at ca' hne2 he
        rw [hyy] at cb' hne2 he
        clear hxx hyy
        clear ha hb
        go_wp2
        go_quiet (fail)
        go_wp2
        go_roundw
        case rel =>
          refine ⟨k + 1, by omega, by go_num, HX.out.drewN' _, fun j h1 h2 hj => ?_⟩
          by_cases e : j = k
          · subst e; exact HE'.out
          · exact HQ.out j h1 h2 (by omega)
        case measure => simp [intOf]; omega
      · have hne2 : (xs[k] != ys[k]) = true := by simpa using he
        have HD : Hid (decide (xs = ys) = false) := by
          show _ = _
          rw [decide_eq_false_iff_not]
          intro e; exact he (by subst e; rfl)
        generalize xs[k] = x at ca' hne2 he
        generalize ys[k] = y at cb' hne2 he
        clear ha hb
        go_wp2
        go_quiet (fail)
        go_wp2
        go_ret
        exact ⟨ret_bool HD.out.symm, HX.out.drewN' _⟩
    · have HD : Hid (decide (xs = ys) = true) := by
        show _ = _
        rw [decide_eq_true_iff]
        exact List.ext_getElem HL.out (fun j h1 h2 => hq j h1 h2 (by omega))
      clear hx hq
      go_wp2
      go_ret
      exact ⟨ret_bool HD.out.symm, HX.out⟩
end Go.Proofs.YtoglddndicmelaaGreat.Tr

namespace Go.Proofs.YtoglddndicmelaaGreat.Tr
open Go.RowKit Go.Proofs.YtoglddndicmelaaGreatB Go.Proofs.YtoglddndicmelaaGreat
set_option maxRecDepth 100000

def r60 : Rul := ⟨1, 0, 60⟩
def d7 : List Nat := 7 :: List.replicate 31 0
def d9 : List Nat := 9 :: List.replicate 31 0
def e0 : TS := TS.init 2 2 [r60]
def e1 : TS := e0.write 0 0 0 d7
def e2 : TS := e1.write 0 0 0 d9
def e3 : TS := e2.tick 59
def e4 : TS := e3.tick 60
theorem e_may : mayS 2 2 1 [r60] = true := by decide +kernel
theorem e0_inv : Inv e0 := inv_init e_may rfl
theorem d7_ok : d7.length = 32 ∧ ∀ y ∈ d7, y < 256 := by decide +kernel
theorem d9_ok : d9.length = 32 ∧ ∀ y ∈ d9, y < 256 := by decide +kernel
theorem e1_inv : Inv e1 := inv_write e0_inv (by decide +kernel) 0 0 0 d7 d7_ok
theorem e2_inv : Inv e2 := inv_write e1_inv (by decide +kernel) 0 0 0 d9 d9_ok
theorem e3_inv : Inv e3 := inv_tick e2_inv 59
theorem e4_inv : Inv e4 := inv_tick e3_inv 60
theorem e0_w : e0.writeN 0 0 0 = 1 ∧ e0.writeE 0 0 0 = 0 := by decide +kernel
theorem e1_w : e1.writeN 0 0 0 = 2 ∧ e1.writeE 0 0 0 = 0 := by decide +kernel
theorem e2_t : e2.tickE 59 = 0 := by decide +kernel
theorem e3_t : e3.tickE 60 = 0 := by decide +kernel
theorem e3_all : e3.all = [1, 2] := by decide +kernel
theorem e4_all : e4.all = [2] := by decide +kernel
theorem e3_read : e3.readE 0 1 0 0 = 0 ∧ e3.readD 0 1 0 0 = d7 := by decide +kernel
theorem e4_read : e4.readE 0 1 0 0 = 10 := by decide +kernel
/-- an operation on a list that is new -/
theorem op_step {L : LstP} {s' : TS} {w wk wk' : World} (hx : Ex0 w wk) (hf : Fr w.heap.size L.F) (h : OpP L s' wk wk') : ∃ L' : LstP, L'.p = L.p ∧ LstAt wk' L' s' ∧ Ex0 w wk' ∧ Fr w.heap.size L'.F := by
  obtain ⟨L', e, h1, h2, h3⟩ := h
  exact ⟨L', e, h1, hx.trans h2 (fun _ _ h => h) (fun i hi h => by have := hf i h; omega), hf.step h3 hx.size⟩
def D7 : Array Value := (encN 32 d7).toArray
theorem D7_len : D7.size = 32 := by decide +kernel
theorem D7_one : ∀ v ∈ D7, v.oneCell' = true := fun v hv => encN_one 32 d7 v (by simpa [D7] using hv)
theorem eql_d7 (w : World) : (Op.equalIn 10000 49 (.agg D7) (.agg #[.int .u8 7, .int .u8 0, .int .u8 0, .int .u8 0, .int .u8 0, .int .u8 0, .int .u8 0, .int .u8 0, .int .u8 0, .int .u8 0, .int .u8 0, .int .u8 0, .int .u8 0, .int .u8 0, .int .u8 0, .int .u8 0, .int .u8 0, .int .u8 0, .int .u8 0, .int .u8 0, .int .u8 0, .int .u8 0, .int .u8 0, .int .u8 0, .int .u8 0, .int .u8 0, .int .u8 0, .int .u8 0, .int .u8 0, .int .u8 0, .int .u8 0, .int .u8 0])).run Tryz.prog w = .ok true w := by
  have := run_eql_bytes (P := Tryz.prog) w 49 5 32 .u8 Tryz.underlying49 Tryz.underlying5 (by kernel_rfl) (fun w => by kernel_rfl) d7 d7 d7_ok.1 d7_ok.1
  rw [decide_eq_true rfl] at this
  exact this
set_option maxHeartbeats 4000000 in
theorem awake_any (w : World) : Calls Tryz.prog 13 #[] w fun e w' => e = .returned (.bool true) ∧ Ex0 w w' := by
  have hg2 : Tryz.prog.eqGuardType Tryz.prog.depth 49 = false := by kernel_rfl
  have HG2 := Lib.hid hg2
  clear hg2
  go_enter Tryz.func13, Tryz.ntmps13
  go_wp2_with fail
  have hsl : Sl (w.alloc (.cells #[.int .i64 1, .int .i64 0, .int .i64 60] 112)) 3 (some ⟨w.heap.size, 0, none⟩) 1 ([r60].flatMap Rul.cells) := sl_block (heap_alloc_new w _) rfl (by decide)
  have HX0 : Hid (Ex0 w (w.alloc (.cells #[.int .i64 1, .int .i64 0, .int .i64 60] 112))) := Ex.alloc _ _
  generalize w.alloc (.cells #[.int .i64 1, .int .i64 0, .int .i64 60] 112) = w0 at *
  have HSL := Lib.hid hsl
  clear hsl
  refine (setup_any _ _ _ w0).mono ?_
  rintro e w1 ⟨rfl, hx1⟩
  have HX1 := Lib.hid (HX0.out.trans0 hx1)
  have HSL1 := Lib.hid (HSL.out.ex0 hx1)
  clear hx1
  go_wp2_with fail
  refine (tnew_any (setC (some ⟨w.heap.size, 0, none⟩) 1 1) 2 2 (some ⟨w.heap.size, 0, none⟩) 1 1 [r60] w1 rfl rfl rfl rfl (by decide) (fun _ => HSL1.out)).mono ?_
  rintro e w2 ⟨hx2, _, hy⟩
  obtain ⟨L, rfl, hL, hF⟩ := hy e_may
  have HX2 := Lib.hid (HX1.out.trans0 hx2)
  have HL2 : Hid (LstAt w2 L e0) := hL
  have HF2 : Hid (Fr w.heap.size L.F) := fun b hb => Nat.le_trans HX1.out.size (hF b hb)
  clear hx2 hy hL hF
  go_wp2_with fail
  refine (twrite_any L e0 0 0 0 d7 w2 HL2.out e0_inv (by decide +kernel)).mono ?_
  rintro e w3 ⟨rfl, hop⟩
  obtain ⟨L3, hp3, hL, hx, hF⟩ := op_step HX2.out HF2.out hop
  have HL3 : Hid (LstAt w3 L3 e1) := hL
  have HX3 := Lib.hid hx
  have HF3 := Lib.hid hF
  rw [← hp3, e0_w.1, e0_w.2]
  clear hop hL hx hF hp3 HL2 HX2 HF2
  go_wp2_with fail
  refine (twrite_any L3 e1 0 0 0 d9 w3 HL3.out e1_inv (by decide +kernel)).mono ?_
  rintro e w4 ⟨rfl, hop⟩
  obtain ⟨L4, hp4, hL, hx, hF⟩ := op_step HX3.out HF3.out hop
  have HL4 : Hid (LstAt w4 L4 e2) := hL
  have HX4 := Lib.hid hx
  have HF4 := Lib.hid hF
  rw [← hp4, e1_w.1, e1_w.2]
  clear hop hL hx hF hp4 HL3 HX3 HF3
  go_wp2_with fail
  refine (tick_any L4 e2 59 w4 HL4.out e2_inv).mono ?_
  rintro e w5 ⟨rfl, hop⟩
  obtain ⟨L5, hp5, hL, hx, hF⟩ := op_step HX4.out HF4.out hop
  have HL5 : Hid (LstAt w5 L5 e3) := hL
  have HX5 := Lib.hid hx
  have HF5 := Lib.hid hF
  rw [← hp5, e2_t]
  clear hop hL hx hF hp5 HL4 HX4 HF4
  go_wp2_with fail
  refine (promised_any L5 e3 w5 HL5.out e3_inv).mono ?_
  rintro e w6 ⟨v6, rfl, ho6, hx6⟩
  rw [e3_all] at ho6
  obtain ⟨A6, c6, rfl, hsl6, _⟩ := own_sl ho6
  have HL6 := Lib.hid (HL5.out.ex0 hx6)
  have HX6 := Lib.hid (HX5.out.trans0 hx6)
  clear ho6 hx6 hsl6 HL5 HX5
  have hl2 : ([1, 2] : List Int).length = 2 := rfl
  rw [hl2]
  go_wp2_with fail
  refine (tread_any L5 e3 0 1 0 0 w6 HL6.out e3_inv (by decide +kernel)).mono ?_
  rintro e w7 ⟨rfl, hx7⟩
  have HL7 := Lib.hid (HL6.out.ex0 hx7)
  have HX7 := Lib.hid (HX6.out.trans0 hx7)
  rw [e3_read.1, e3_read.2, show (encN 32 d7).toArray = D7 from rfl]
  clear hx7 HL6 HX6
  go_wp2_with (refine wpList_store_all rfl 49 (.tmp 8) (.tmp 37) rfl w7.heap.size rfl D7 _ rfl 49 (heap_alloc_new _ _) (by rw [D7_len]; rfl) D7_one (by rw [D7_len]; kernel_rfl) ?_; rw [World.setRow_alloc_new])
  have HD8 : Hid ((w7.alloc (.cells D7 49)).heap[w7.heap.size]? = some (.cells D7 49 (0, 0))) := heap_alloc_new _ _
  have HX8 : Hid (Ex0 w7 (w7.alloc (.cells D7 49))) := Ex.alloc _ _
  generalize w7.alloc (.cells D7 49) = w8 at *
  have HL8 := Lib.hid (HL7.out.ex0 HX8.out)
  have HX8' := Lib.hid (HX7.out.trans0 HX8.out)
  have HB8 : Hid (w7.heap.size < w8.heap.size) := (Array.getElem?_eq_some_iff.1 HD8.out).1
  have HB7 : Hid (w.heap.size ≤ w7.heap.size) := HX7.out.size
  have HFB : Hid (¬ L5.F w7.heap.size) := fun h => by have := HL7.out.fin _ h; omega
  obtain ⟨bd, hbd⟩ : ∃ bd, w7.heap.size = bd := ⟨_, rfl⟩
  rw [hbd] at HD8 HB8 HB7 HFB ⊢
  clear hbd HL7 HX7 HX8
  refine (tick_any L5 e3 60 w8 HL8.out e3_inv).mono ?_
  rintro e w9 ⟨rfl, hop⟩
  have HD9 : Hid (w9.heap[bd]? = some (.cells D7 49 (0, 0))) := by
    obtain ⟨_, _, _, hx, _⟩ := hop
    exact (hx.block _ HB8.out HFB.out).trans HD8.out
  obtain ⟨L9, hp9, hL, hx, hF⟩ := op_step HX8'.out HF5.out hop
  have HL9 : Hid (LstAt w9 L9 e4) := hL
  have HX9 := Lib.hid hx
  rw [← hp9]
  clear hop hL hx hF hp9 HL8 HX8' HD8
  go_wp2_with fail
  refine (tread_any L9 e4 0 1 0 0 w9 HL9.out e4_inv (by decide +kernel)).mono ?_
  rintro e w10 ⟨rfl, hx10⟩
  have HL10 := Lib.hid (HL9.out.ex0 hx10)
  have HX10 := Lib.hid (HX9.out.trans0 hx10)
  have HD10 : Hid (w10.heap[bd]? = some (.cells D7 49 (0, 0))) := (hx10.block _ (Array.getElem?_eq_some_iff.1 HD9.out).1 not_false).trans HD9.out
  rw [e4_read]
  obtain ⟨DR, hDR⟩ : ∃ DR, (encN 32 (e4.readD 0 1 0 0)).toArray = DR := ⟨_, rfl⟩
  have HRL : Hid (DR.size = 32) := by show _ = _; rw [← hDR, List.size_toArray, encN_len]
  have HRO : Hid (∀ v ∈ DR, v.oneCell' = true) := by show ∀ v ∈ DR, _; rw [← hDR]; intro v hv; exact encN_one 32 _ v (by simpa using hv)
  rw [hDR]
  clear hx10 HL9 HX9 HD9 hDR
  go_wp2_with (first | (refine wpList_store_all rfl 49 (.tmp 10) (.tmp 44) rfl w10.heap.size rfl DR _ rfl 49 (heap_alloc_new _ _) (by rw [HRL.out]; rfl) HRO.out (by rw [HRL.out]; kernel_rfl) ?_; rw [World.setRow_alloc_new]; have HX11 : Hid (Ex0 w10 (w10.alloc (.cells DR 49))) := Ex.alloc _ _; have HD11 : Hid ((w10.alloc (.cells DR 49)).heap[bd]? = some (.cells D7 49 (0, 0))) := (HX11.out.block _ (Array.getElem?_eq_some_iff.1 HD10.out).1 not_false).trans HD10.out; obtain ⟨w11, hw11⟩ : ∃ w11, w10.alloc (.cells DR 49) = w11 := ⟨_, rfl⟩; rw [hw11] at HX11 HD11 ⊢; have heq := eql_d7; have hg2 := HG2.out; clear hw11) | refine wpList_load_row_g (by rfl) 49 (.tmp 8) rfl bd rfl 49 D7 (0, 0) _ HD11.out Tryz.underlying49 rfl (by rw [D7_len]; kernel_rfl) ?_)
  clear heq hg2
  refine (promised_any L9 e4 w11 (HL10.out.ex0 HX11.out) e4_inv).mono ?_
  rintro e w12 ⟨v12, rfl, ho12, hx12⟩
  rw [e4_all] at ho12
  obtain ⟨A12, c12, rfl, hsl12, _⟩ := own_sl ho12
  have HS12 := Lib.hid hsl12
  have HX12 := Lib.hid (HX10.out.trans0 (HX11.out.trans0 hx12))
  clear ho12 hx12 hsl12
  have hl1 : ([2] : List Int).length = 1 := rfl
  rw [hl1]
  go_wp2_with fail
  have hx13 : Ex0 w12 (w12.alloc (.cells #[.int .u64 2] 31)) := Ex.alloc _ _
  refine (same_any A12 (some ⟨w12.heap.size, 0, none⟩) c12 1 [2] [2] _ (HS12.out.ex0 hx13) (sl_block (heap_alloc_new w12 _) rfl (by decide))).mono ?_
  rintro e w14 ⟨rfl, hx14⟩
  have HX14 := Lib.hid (HX12.out.trans0 (hx13.trans0 hx14))
  clear hx13 hx14
  rw [decide_eq_true rfl]
  go_wp2
  go_ret
  exact ⟨rfl, HX14.out⟩
end Go.Proofs.YtoglddndicmelaaGreat.Tr

namespace Go.Proofs.YtoglddndicmelaaGreat.Tr
open Go.RowKit Go.Proofs.YtoglddndicmelaaGreatB Go.Proofs.YtoglddndicmelaaGreat
set_option maxRecDepth 100000

theorem eql_z (w : World) : (Op.equalIn 10000 49 (.agg Z32) (.agg #[.int .u8 0, .int .u8 0, .int .u8 0, .int .u8 0, .int .u8 0, .int .u8 0, .int .u8 0, .int .u8 0, .int .u8 0, .int .u8 0, .int .u8 0, .int .u8 0, .int .u8 0, .int .u8 0, .int .u8 0, .int .u8 0, .int .u8 0, .int .u8 0, .int .u8 0, .int .u8 0, .int .u8 0, .int .u8 0, .int .u8 0, .int .u8 0, .int .u8 0, .int .u8 0, .int .u8 0, .int .u8 0, .int .u8 0, .int .u8 0, .int .u8 0, .int .u8 0])).run Tryz.prog w = .ok true w := by
  have := run_eql_bytes (P := Tryz.prog) w 49 5 32 .u8 Tryz.underlying49 Tryz.underlying5 (by kernel_rfl) (fun w => by kernel_rfl) z32 z32 rfl rfl
  rw [decide_eq_true rfl] at this
  exact this
set_option maxHeartbeats 4000000 in
theorem none_walk (C : Array Value) (hC : C.size = 35) (n : Int) (W : World) : Calls Tryz.prog 10 #[.agg C, .int .i64 n] W fun e W' => e = .returned (.bool true) ∧ Below W.heap.size W W' := by
  have hg2 : Tryz.prog.eqGuardType Tryz.prog.depth 49 = false := by kernel_rfl
  have HG2 := Lib.hid hg2
  have HCS := Lib.hid hC
  clear hg2 hC
  obtain ⟨w0, hw0⟩ : ∃ w0, W.alloc (.cells C 63) = w0 := ⟨_, rfl⟩
  have HB : Hid (w0.heap[W.heap.size]? = some (.cells C 63 (0, 0))) := by show _ = _; rw [← hw0]; exact heap_alloc_new _ _
  have HX0 : Hid (Ex0 W w0) := by show Ex0 _ _; rw [← hw0]; exact Ex.alloc _ _
  have HW0 := Lib.hid hw0
  clear hw0
  go_enter Tryz.func10, Tryz.ntmps10
  iterate 5 go_step
  rw [HW0.out]
  go_wp2_with fail
  refine (awake_any w0).mono ?_
  rintro e w1 ⟨rfl, hx1⟩
  have HX1 := Lib.hid (HX0.out.trans0 hx1)
  have HB1 : Hid (w1.heap[W.heap.size]? = some (.cells C 63 (0, 0))) := (hx1.block _ (Array.getElem?_eq_some_iff.1 HB.out).1 id).trans HB.out
  clear hx1 HX0 HB
  go_wp2_with fail
  refine (skip_nil _ w1).mono ?_
  rintro e w2 ⟨rfl, hx2⟩
  have HX2 := Lib.hid (HX1.out.trans0 hx2)
  have HB2 : Hid (w2.heap[W.heap.size]? = some (.cells C 63 (0, 0))) := (hx2.block _ (Array.getElem?_eq_some_iff.1 HB1.out).1 id).trans HB1.out
  clear hx2 HX1 HB1
  go_wp2_with (refine wpList_load_row rfl 63 (.tmp 2) rfl W.heap.size rfl 63 C (0, 0) _ HB2.out Tryz.underlying63 rfl (by rw [HCS.out]; kernel_rfl) ?_)
  refine (write_nil C w2).mono ?_
  rintro e w3 ⟨rfl, hx3⟩
  have HX3 := Lib.hid (HX2.out.trans0 hx3)
  clear hx3 HX2 HB2
  go_wp2_with fail
  refine (fork_nil _ _ w3).mono ?_
  rintro e w4 ⟨rfl, hx4⟩
  have HX4 := Lib.hid (HX3.out.trans0 hx4)
  clear hx4 HX3
  go_wp2_with fail
  refine (hold_nil _ _ _ w4).mono ?_
  rintro e w5 ⟨rfl, hx5⟩
  have HX5 := Lib.hid (HX4.out.trans0 hx5)
  clear hx5 HX4
  go_wp2_with fail
  refine (read_nil54 _ _ _ _ w5).mono ?_
  rintro e w6 ⟨rfl, hx6⟩
  have HX6 := Lib.hid (HX5.out.trans0 hx6)
  clear hx6 HX5
  have heq := eql_z
  have hg2 := HG2.out
  go_wp2_with (first | (refine wpList_store_all rfl 49 (.tmp 12) (.tmp 44) rfl w6.heap.size rfl Z32 _ rfl 49 (heap_alloc_new _ _) rfl Z32_one (by kernel_rfl) ?_; rw [World.setRow_alloc_new]; have HX7 : Hid (Ex0 W (w6.alloc (.cells Z32 49))) := HX6.out.alloc' _; have HB7 : Hid ((w6.alloc (.cells Z32 49)).heap[w6.heap.size]? = some (.cells Z32 49 (0, 0))) := heap_alloc_new _ _; obtain ⟨w7, hw7⟩ : ∃ w7, w6.alloc (.cells Z32 49) = w7 := ⟨_, rfl⟩; rw [hw7] at HX7 HB7 ⊢; clear hw7; repeat (first | refine wpList_load_row_g (by rfl) 49 (.tmp 12) rfl w6.heap.size rfl 49 Z32 (0, 0) _ HB7.out Tryz.underlying49 rfl (by kernel_rfl) ?_ | go_guarded | go_step)))
  refine (tick_nil _ w7).mono ?_
  rintro e w8 ⟨rfl, hx8⟩
  have HX8 := Lib.hid (HX7.out.trans0 hx8)
  clear hx8 HX7
  go_wp2_with fail
  refine (mark_nil w8).mono ?_
  rintro e w9 ⟨rfl, hx9⟩
  have HX9 := Lib.hid (HX8.out.trans0 hx9)
  clear hx9 HX8
  go_wp2_with fail
  refine (drop_nil _ w9).mono ?_
  rintro e w10 ⟨rfl, hx10⟩
  have HX10 := Lib.hid (HX9.out.trans0 hx10)
  clear hx10 HX9
  go_wp2_with fail
  refine (lift_nil _ w10).mono ?_
  rintro e w11 ⟨rfl, hx11⟩
  have HX11 := Lib.hid (HX10.out.trans0 hx11)
  clear hx11 HX10
  go_wp2_with fail
  refine (promised_nil w11).mono ?_
  rintro e w12 ⟨rfl, hx12⟩
  have HX12 := Lib.hid (HX11.out.trans0 hx12)
  clear hx12 HX11
  go_wp2_with fail
  refine (top_nil w12).mono ?_
  rintro e w13 ⟨rfl, hx13⟩
  have HX13 := Lib.hid (HX12.out.trans0 hx13)
  clear hx13 HX12
  go_wp2
  go_ret
  exact ⟨rfl, HX13.out.below (Nat.le_refl _) (fun _ h => h.elim)⟩
end Go.Proofs.YtoglddndicmelaaGreat.Tr

namespace Go.Proofs.YtoglddndicmelaaGreat.Tr
open Go.RowKit Go.Proofs.YtoglddndicmelaaGreatB Go.Proofs.YtoglddndicmelaaGreat
set_option maxRecDepth 100000

theorem right34_any (r : Rul) (w : World) : Calls Tryz.prog 45 #[r.val] w fun e w' => e = .returned (.bool (rightB r)) ∧ Ex0 w w' := by
  obtain ⟨k, l, t⟩ := r
  unfold Rul.val
  by_cases h1 : t < 1
  · have HE : Hid (rightB ⟨k, l, t⟩ = false) := by
      have hs : spanB t = false := by simp [spanB]; omega
      show _ = _; unfold rightB; rw [hs]; simp
    go_enter Tryz.func45, Tryz.ntmps45
    go_wp2
    go_ret
    exact ⟨ret_bool HE.out.symm, Ex.alloc _ _⟩
  by_cases h2 : 1073741824 < t
  · have HE : Hid (rightB ⟨k, l, t⟩ = false) := by
      have hs : spanB t = false := by simp [spanB]; omega
      show _ = _; unfold rightB; rw [hs]; simp
    go_enter Tryz.func45, Tryz.ntmps45
    go_wp2
    go_ret
    exact ⟨ret_bool HE.out.symm, Ex.alloc _ _⟩
  have HS : Hid (spanB t = true) := by show _ = _; simp [spanB]; omega
  by_cases h3 : k = 1
  · subst h3
    have HE : Hid (rightB ⟨1, l, t⟩ = (l == 0)) := by show _ = _; unfold rightB; rw [if_pos (.inl rfl), HS.out]; simp
    go_enter Tryz.func45, Tryz.ntmps45
    go_wp2
    go_ret
    exact ⟨ret_bool HE.out.symm, Ex.alloc _ _⟩
  by_cases h4 : k = 4
  · subst h4
    have HE : Hid (rightB ⟨4, l, t⟩ = (l == 0)) := by show _ = _; unfold rightB; rw [if_pos (.inr rfl), HS.out]; simp
    go_enter Tryz.func45, Tryz.ntmps45
    go_wp2
    go_ret
    exact ⟨ret_bool HE.out.symm, Ex.alloc _ _⟩
  have HK : Hid (¬ (k = 1 ∨ k = 4)) := fun h => h.elim h3 h4
  by_cases h5 : k = 2 ∨ k = 3
  · have HE : Hid (rightB ⟨k, l, t⟩ = spanB l) := by show _ = _; unfold rightB; rw [if_neg HK.out, if_pos h5, HS.out]; simp
    by_cases h6 : 1 ≤ l
    · by_cases h7 : l ≤ 1073741824
      · have HL : Hid (spanB l = true) := by show _ = _; simp [spanB]; omega
        rcases h5 with h5 | h5
        all_goals
          subst h5
          go_enter Tryz.func45, Tryz.ntmps45
          go_wp2
          go_ret
          exact ⟨ret_bool (HE.out.trans HL.out).symm, Ex.alloc _ _⟩
      · have HL : Hid (spanB l = false) := by show _ = _; simp [spanB]; omega
        rcases h5 with h5 | h5
        all_goals
          subst h5
          go_enter Tryz.func45, Tryz.ntmps45
          go_wp2
          go_ret
          exact ⟨ret_bool (HE.out.trans HL.out).symm, Ex.alloc _ _⟩
    · have HL : Hid (spanB l = false) := by show _ = _; simp [spanB]; omega
      rcases h5 with h5 | h5
      all_goals
        subst h5
        go_enter Tryz.func45, Tryz.ntmps45
        go_wp2
        go_ret
        exact ⟨ret_bool (HE.out.trans HL.out).symm, Ex.alloc _ _⟩
  · have b1 : (k == 1) = false := by simpa using h3
    have b4 : (k == 4) = false := by simpa using h4
    have b2 : (k == 2) = false := by simpa using fun h => h5 (.inl h)
    have b3 : (k == 3) = false := by simpa using fun h => h5 (.inr h)
    have h5a : ¬ k = 2 := fun h => h5 (.inl h)
    have h5b : ¬ k = 3 := fun h => h5 (.inr h)
    have HE : Hid (rightB ⟨k, l, t⟩ = false) := by show _ = _; unfold rightB; rw [if_neg HK.out, if_neg h5]
    clear h5
    go_enter Tryz.func45, Tryz.ntmps45
    go_wp2
    go_ret
    exact ⟨ret_bool HE.out.symm, Ex.alloc _ _⟩
theorem rights_take {rs : List Rul} (h : ∀ j (hj : j < rs.length), rightB rs[j] = true) : rightsB rs = true := by
  unfold rightsB
  rw [List.all_eq_true]
  intro x hx
  obtain ⟨j, hj, rfl⟩ := List.getElem_of_mem hx
  exact h j hj
theorem rights_not {rs : List Rul} {j : Nat} (hj : j < rs.length) (h : rightB rs[j] = false) : rightsB rs = false := by
  unfold rightsB
  rw [List.all_eq_false]
  exact ⟨_, List.getElem_mem hj, by rw [h]; simp⟩
set_option maxHeartbeats 4000000 in
theorem rmay_any (C : Array Value) (vols blocks : Int) (A : Option Addr) (n cap : Nat) (rs : List Rul) (w : World) (h2 : C[2]? = some (.int .i64 vols)) (h3 : C[3]? = some (.int .i64 blocks)) (h36 : C[36]? = some (.slice A n cap)) (hs : Sl w 3 A n (rs.flatMap Rul.cells)) :
    Calls Tryz.prog 15 #[.agg C] w fun e w' => e = .returned (.bool (mayS vols blocks n rs)) ∧ Ex0 w w' := by
  have hln : rs.length = n := by have := hs.len; rw [flat_len Rul.cells 3 Rul.length] at this; omega
  have hm := hs.small
  have HNO : Hid (∀ w', Ex0 w w' → (vols < 1 ∨ 8 < vols ∨ blocks < 1 ∨ 256 < blocks ∨ ¬ (n ≤ 16 ∧ rightsB rs = true)) → Ending.returned (.bool false) = .returned (.bool (mayS vols blocks n rs)) ∧ Ex0 w w') :=
    fun w' hx h => ⟨ret_bool (mayS_no h).symm, hx⟩
  obtain ⟨wa, hwa⟩ : ∃ wa, w.alloc (.cells C 26) = wa := ⟨_, rfl⟩
  have hB : wa.heap[w.heap.size]? = some (.cells C 26 (0, 0)) := by rw [← hwa]; exact heap_alloc_new _ _
  have HXA : Hid (Ex0 w wa) := by show Ex0 _ _; rw [← hwa]; exact Ex.alloc _ _
  have HWA := Lib.hid hwa
  have HB := Lib.hid hB
  have hlb : w.heap.size < wa.heap.size := (Array.getElem?_eq_some_iff.1 hB).1
  have c2 : wa.cell? ⟨w.heap.size, 2, none⟩ = some (.int .i64 vols) := by rw [cell_of_row _ _ _ _ _ _ hB]; exact h2
  have c3 : wa.cell? ⟨w.heap.size, 3, none⟩ = some (.int .i64 blocks) := by rw [cell_of_row _ _ _ _ _ _ hB]; exact h3
  have c36 : wa.cell? ⟨w.heap.size, 36, none⟩ = some (.slice A n cap) := by rw [cell_of_row _ _ _ _ _ _ hB]; exact h36
  have HSL := Lib.hid (hs.ex0 HXA.out)
  clear hwa hB h2 h3 h36 hs
  go_enter Tryz.func15, Tryz.ntmps15
  iterate 5 go_step
  rw [HWA.out]
  by_cases q1 : vols < 1
  · have Q := Lib.hid q1
    go_wp2
    go_ret
    exact HNO.out _ HXA.out (.inl Q.out)
  by_cases q2 : 8 < vols
  · have Q := Lib.hid q2
    go_wp2
    go_ret
    exact HNO.out _ HXA.out (.inr (.inl Q.out))
  by_cases q3 : blocks < 1
  · have Q := Lib.hid q3
    go_wp2
    go_ret
    exact HNO.out _ HXA.out (.inr (.inr (.inl Q.out)))
  by_cases q4 : 256 < blocks
  · have Q := Lib.hid q4
    go_wp2
    go_ret
    exact HNO.out _ HXA.out (.inr (.inr (.inr (.inl Q.out))))
  by_cases q5 : 16 < n
  · have Q := Lib.hid q5
    have q6 : (16 : Int) < (n : Int) := by omega
    go_wp2
    go_ret
    exact HNO.out _ HXA.out (.inr (.inr (.inr (.inr (fun h => by have := Q.out; omega)))))
  have q6 : ¬ (16 : Int) < (n : Int) := by omega
  have HQ : Hid (1 ≤ vols ∧ vols ≤ 8 ∧ 1 ≤ blocks ∧ blocks ≤ 256 ∧ n ≤ 16) := ⟨by omega, by omega, by omega, by omega, by omega⟩
  go_wp2
  have HC36 : Hid (∀ w', Ex0 wa w' → w'.cell? ⟨w.heap.size, 36, none⟩ = some (.slice A n cap)) := fun w' hx => hx.cellS c36 not_false
  clear c2 c3 c36 hlb q1 q2 q3 q4 q5 q6
  go_loopw [3] (fun i wr => ∃ k : Nat, k ≤ n ∧ i = .int .i64 k ∧ Ex0 wa wr ∧ ∀ j (hj : j < rs.length), j < k → rightB rs[j] = true) (fun i _ => n - (intOf i).toNat)
  case atStart => exact ⟨0, by omega, rfl, Ex.refl _ _, fun j _ h => by omega⟩
  case round =>
    obtain ⟨k, hk, rfl, hx, hr⟩ := hrel
    have HX := Lib.hid hx
    have HR := Lib.hid hr
    have hb := (hx.block _ (Array.getElem?_eq_some_iff.1 HB.out).1 id).trans HB.out
    have hlb : w.heap.size < wr.heap.size := (Array.getElem?_eq_some_iff.1 hb).1
    have c36 : wr.cell? ⟨w.heap.size, 36, none⟩ = some (.slice A n cap) := HC36.out wr hx
    by_cases hlt : k < n
    · obtain ⟨g, off, hl, rfl, hrow⟩ := (HSL.out.ex0 hx).row Rul.length (by omega) hlt
      have hk0 : (0 : Int) ≤ (k : Int) := by omega
      have hk1 : (k : Int) < (n : Int) := by omega
      have hlr : k < rs.length := by omega
      obtain ⟨r, hrr⟩ : ∃ r, rs[k] = r := ⟨_, rfl⟩
      rw [hrr] at hrow
      have HRR := Lib.hid hrr
      have HRI := Lib.hid (fun w' => right34_any r w')
      obtain ⟨rb, hrb⟩ : ∃ rb, rightB r = rb := ⟨_, rfl⟩
      rw [hrb] at HRI
      have HRB := Lib.hid hrb
      obtain ⟨r0, r1, r2⟩ := r
      unfold Rul.cells at hrow
      unfold Rul.val at HRI
      clear hx hr hb hrr hrb
      go_wp2_with (first | refine wpList_load_at rfl 112 (.tmp 38) rfl _ rfl _ _ hrow Tryz.underlying112 rfl (by kernel_rfl) ?_ | fail)
      refine (HRI.out wr).mono ?_
      rintro e w2 ⟨rfl, hx2⟩
      have HX2 := Lib.hid (HX.out.trans0 hx2)
      clear hx2 hrow
      cases rb with
      | false =>
        go_wp2
        go_ret
        exact HNO.out _ (HXA.out.trans0 HX2.out) (.inr (.inr (.inr (.inr (fun h => by
          have h9 := HRB.out
          rw [rights_not hlr (by rw [HRR.out]; exact h9)] at h
          cases h.2)))))
      | true =>
        go_wp2
        go_roundw
        case rel =>
          refine ⟨k + 1, by omega, by go_num, HX2.out, fun j hj hjk => ?_⟩
          by_cases e : j = k
          · subst e
            have h9 := HRB.out
            have h8 := HRR.out
            rw [h8]; exact h9
          · exact HR.out j hj (by omega)
        case measure => simp [intOf]; omega
    · have hkn : k = n := by omega
      subst hkn
      have HE : Hid (mayS vols blocks k rs = true) := by
        show _ = _
        obtain ⟨h1, h2, h3, h4, h5⟩ := HQ.out
        unfold mayS
        rw [rights_take (fun j hj => HR.out j hj (by omega))]
        simp; omega
      clear hx hr hb
      go_wp2
      go_ret
      exact ⟨ret_bool HE.out.symm, HXA.out.trans0 HX.out⟩
end Go.Proofs.YtoglddndicmelaaGreat.Tr
