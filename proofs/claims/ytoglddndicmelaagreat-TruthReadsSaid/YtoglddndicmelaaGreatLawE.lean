/- Layer 54: what is read. -/
import Derived.Test.YtoglddndicmelaaGreatLawD
import Derived.Test.YtoglddndicmelaaGreatRlI
import Derived.Test.YtoglddndicmelaaGreatLwU
namespace Go.Proofs.YtoglddndicmelaaGreat.Tr
open Go.RowKit Go.Proofs.YtoglddndicmelaaGreatB Go.Proofs.YtoglddndicmelaaGreat
set_option maxRecDepth 100000

set_option maxHeartbeats 8000000 in
theorem reads_walk (A : Option Addr) (n cap : Nat) (rs : List Rul) (B : Option Addr) (m capb : Nat) (xs : List ActT) (id vol blk : Int) (W : World) (hs : Sl W 3 A n (rs.flatMap Rul.cells)) (hA : ∀ b, Bl A b → b < W.heap.size) (ha : Sl W 8 B m (xs.flatMap ActT.cells)) (hx : ∀ x ∈ xs, x.Ok) :
    Calls Tryz.prog 5 #[.slice A n cap, .slice B m capb, .int .i64 id, .int .i64 vol, .int .i64 blk] W fun e W' => e = .returned (.bool true) ∧ Below W.heap.size W W' := by
  have hln : rs.length = n := by have := hs.len; rw [flat_len Rul.cells 3 Rul.length] at this; omega
  have HP : Hid (∀ w, Ex0 W w → Calls Tryz.prog 18 #[.slice A n cap, .slice B m capb] w (PlayP n rs xs w)) := fun w hw => played_any A n cap rs B m capb xs w (hs.ex0 hw) (fun b hb => Nat.lt_of_lt_of_le (hA b hb) hw.size) (ha.ex0 hw) hx
  have HOK := Lib.hid hx
  clear hs hA ha hx
  go_enter Tryz.func5, Tryz.ntmps5
  go_wp2_with fail
  refine (awake_any W).mono ?_
  rintro e w1 ⟨rfl, hx1⟩
  have HX1 := Lib.hid hx1
  clear hx1
  go_wp2_with fail
  refine (HP.out w1 HX1.out).mono ?_
  rintro e w2 ⟨hno, hyes⟩
  cases hlk : lookB n xs.length rs with
  | false =>
    obtain ⟨rfl, hx2⟩ := hno hlk
    have HX2 := Lib.hid (HX1.out.trans0 hx2)
    clear hno hyes hlk hx2
    go_wp2
    go_ret
    exact ⟨rfl, HX2.out.below (Nat.le_refl _) (fun _ h => h.elim)⟩
  | true =>
    obtain ⟨L, D, rfl, hat⟩ := hyes hlk
    have hf := play_facts hln HOK.out hlk
    obtain ⟨s, hs⟩ : ∃ s, playA (s22 rs) xs = s := ⟨_, rfl⟩
    rw [hs] at hat hf
    have HAT := Lib.hid hat
    have HF := Lib.hid hf
    have ht := hf.inv.top
    have ht2 := hf.top
    clear hno hyes hlk hat hf hs
    have et : IntKind.u64.wrap (s.top + 1) = s.top + 1 := by rw [IntKind.wrap_u64]; omega
    go_wp2_with fail
    go_loopw [14] (fun i wr => ∃ k : Nat, k ≤ 200 ∧ i = .int .u64 k ∧ At2 w1 wr L D s s) (fun i _ => 200 - (intOf i).toNat)
    case atStart => exact ⟨0, by omega, rfl, HAT.out⟩
    case round =>
      obtain ⟨k, hk, rfl, hat⟩ := hrel
      have H0 := Lib.hid hat
      have hc3 : wr.cell? ⟨D.p, 3, none⟩ = some (.int .u64 s.top) := hat.d.cell rfl
      have hlp : D.p < wr.heap.size := hat.d.lt
      clear hat
      by_cases hk1 : (k : Int) ≤ s.top + 1
      · have hk1d : decide ((k : Int) ≤ s.top + 1) = true := decide_eq_true hk1
        by_cases hk2 : (k : Int) < 200
        · have hk2d : decide ((k : Int) < 200) = true := decide_eq_true hk2
          have ek : IntKind.u64.wrap ((k : Int) + 1) = (k : Int) + 1 := by rw [IntKind.wrap_u64]; omega
          go_wp2_with fail
          have HRL := Lib.hid (readD_len HF.out.inv id k vol blk)
          refine (treadA L s id k vol blk wr H0.out.l HF.out.inv (by have := HF.out.len; omega)).mono ?_
          rintro e w3 ⟨rfl, hx3⟩
          have H3 := Lib.hid (H0.out.ex0 hx3)
          have HRR := Lib.hid (fun w (h : At2 w1 w L D s s) => rread54_any D s id k vol blk w h.d HF.out.inv (by have := HF.out.len; omega))
          obtain ⟨d, hd⟩ : ∃ d, s.readD id k vol blk = d := ⟨_, rfl⟩
          obtain ⟨q, hq⟩ : ∃ q, s.readE id k vol blk = q := ⟨_, rfl⟩
          rw [hd] at HRR HRL ⊢
          rw [hq] at HRR ⊢
          have HDL : Hid ((blkA d).size = 32) := blkA_len d
          have HDO : Hid (∀ v ∈ blkA d, v.oneCell' = true) := blkA_one d
          have HEQ := Lib.hid (fun w => eql_blkA d d HRL.out HRL.out w)
          rw [decide_eq_true rfl] at HEQ
          obtain ⟨DA, hDA⟩ : ∃ DA, blkA d = DA := ⟨_, rfl⟩
          have hDA' : (encN 32 d).toArray = DA := hDA
          rw [hDA'] at HRR
          rw [hDA] at HDL HDO HEQ ⊢
          clear hx3 hd hq hDA hDA' hc3 hlp H0
          go_wp2_with (refine wpList_store_all rfl 49 (.tmp 15) (.tmp 52) rfl w3.heap.size rfl DA _ rfl 49 (heap_alloc_new _ _) (by rw [HDL.out]; rfl) HDO.out (by rw [HDL.out]; kernel_rfl) ?_; rw [World.setRow_alloc_new])
          have HX4 : Hid (Ex0 w3 (w3.alloc (.cells DA 49))) := Ex.alloc _ _
          have HB4 : Hid ((w3.alloc (.cells DA 49)).heap[w3.heap.size]? = some (.cells DA 49 (0, 0))) := heap_alloc_new _ _
          generalize w3.alloc (.cells DA 49) = w4 at *
          have H4 := Lib.hid (H3.out.ex0 HX4.out)
          refine (HRR.out w4 H4.out).mono ?_
          rintro e w5 ⟨rfl, hx5⟩
          have H5 := Lib.hid (H4.out.ex0 hx5)
          have HB5 : Hid (w5.heap[w3.heap.size]? = some (.cells DA 49 (0, 0))) := (hx5.block _ (Array.getElem?_eq_some_iff.1 HB4.out).1 not_false).trans HB4.out
          clear hx5 HX4 HB4 H3 H4 HRR
          go_wp2_with (first | (refine wpList_store_all rfl 49 (.tmp 17) (.tmp 61) rfl w5.heap.size rfl DA _ rfl 49 (heap_alloc_new _ _) (by rw [HDL.out]; rfl) HDO.out (by rw [HDL.out]; kernel_rfl) ?_; rw [World.setRow_alloc_new]; have HX6 : Hid (Ex0 w5 (w5.alloc (.cells DA 49))) := Ex.alloc _ _; have HB6 : Hid ((w5.alloc (.cells DA 49)).heap[w5.heap.size]? = some (.cells DA 49 (0, 0))) := heap_alloc_new _ _; have HB6' : Hid ((w5.alloc (.cells DA 49)).heap[w3.heap.size]? = some (.cells DA 49 (0, 0))) := (HX6.out.block _ (Array.getElem?_eq_some_iff.1 HB5.out).1 not_false).trans HB5.out; obtain ⟨w6, hw6⟩ : ∃ w6, w5.alloc (.cells DA 49) = w6 := ⟨_, rfl⟩; rw [hw6] at HX6 HB6 HB6' ⊢; have heq := HEQ.out; have hg2 := eqg_blk; clear hw6) | refine wpList_load_row_g (by rfl) 49 (.tmp 15) rfl w3.heap.size rfl 49 DA (0, 0) _ HB6'.out Tryz.underlying49 rfl (by rw [HDL.out]; kernel_rfl) ?_ | refine wpList_load_row_g (by rfl) 49 (.tmp 17) rfl w5.heap.size rfl 49 DA (0, 0) _ HB6.out Tryz.underlying49 rfl (by rw [HDL.out]; kernel_rfl) ?_)
          go_roundw
          case rel => exact ⟨k + 1, by omega, by go_num, H5.out.ex0 HX6.out⟩
          case measure => simp [intOf]; omega
        · have hk2d : decide ((k : Int) < 200) = false := decide_eq_false hk2
          go_wp2
          go_ret
          exact ⟨rfl, (HX1.out.trans0 H0.out.x).below (Nat.le_refl _) (fun _ h => h.elim)⟩
      · have hk1d : decide ((k : Int) ≤ s.top + 1) = false := decide_eq_false hk1
        go_wp2
        go_ret
        exact ⟨rfl, (HX1.out.trans0 H0.out.x).below (Nat.le_refl _) (fun _ h => h.elim)⟩
end Go.Proofs.YtoglddndicmelaaGreat.Tr
