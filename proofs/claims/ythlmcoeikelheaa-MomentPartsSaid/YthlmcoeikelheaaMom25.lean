/- Contracts of layer 28: the walk over a table. -/
import Derived.Test.YthlmcoeikelheaaMom5
import Derived.Test.YthlmcoeikelheaaB7
import Derived.Shelf.Abstract
namespace Go.Proofs.Ythlmcoeikelheaa
open Go.RowKit Go.Proofs.YthlmcoeikelheaaB Go.Shelf

theorem TabAt.kc {S : Nat → Prop} {w w' : World} {p : Nat} {v : Value} {l : List It} (h : TabAt w p v l) (hx : Kc S w w') (h1 : ¬ S p) (h2 : ∀ b, v.ownBlock = some b → ¬ S b) : TabAt w' p v l :=
  ⟨hx.cells h.blk h1, own_kc h.own hx h2, h.ne⟩

theorem mall_any (p : Option Addr) (w : World) :
    Calls Try.prog 42 #[.pointer p] w fun e w' => e = .returned (.func (.func 47) #[] #[.pointer (some ⟨w.heap.size, 0, none⟩)]) ∧ w' = w.alloc (.cells #[.pointer p] 25) := by
  go_enter Try.func42, Try.ntmps42
  go_wp2
  go_ret
  exact ⟨rfl, rfl⟩

/-- what a walk tells of a moment -/
def It.pair (x : It) : Int × Int := (x.num, x.min)

set_option maxRecDepth 100000 in
set_option maxHeartbeats 1000000 in
theorem mall1_in (l Bn p : Nat) (v : Value) (xs : List It) (S0 : Nat → Prop) (J Jx : List (Int × Int) → World → Prop)
    (hY : ∀ pre x W, J pre W → pre.length < xs.length → YieldAt Fence.wide 8 Try.prog l #[.int .u64 x.1, .int .i64 x.2] W fun e W' =>
      (e = .returned (.bool true) ∧ J (pre ++ [x]) W' ∧ Kc S0 W W') ∨ (e = .returned (.bool false) ∧ Jx (pre ++ [x]) W'))
    (W : World) (hJ : AbidesFrom W.heap.size J) (hBn : W.cell? ⟨Bn, 0, none⟩ = some (.pointer (some ⟨p, 0, none⟩))) (hT : TabAt W p v xs) (hn : xs.length ≤ 1000000) (hS0 : ∀ b, S0 b → b < W.heap.size) (h0 : J [] W) :
    CallsIn Fence.wide 9 Try.prog 47 #[.func (.yield l) #[] #[], .pointer (some ⟨Bn, 0, none⟩)] W fun e W' => (∃ v, e = .returned v) ∧
      ((∃ ys, ys = xs.map It.pair ∧ J ys W') ∨ (∃ pre, pre <+: xs.map It.pair ∧ Jx pre W')) := by
  have hc := hT.cell
  have HT := Lib.hid hT.own
  clear hT
  refine callsIn_of_wp Try.func47 rfl trivial ?_ rfl
  simp only [Try.ntmps47, List.size_toArray, List.length_cons, List.length_nil, Nat.reduceAdd, Nat.reduceSub, Array.replicate_succ, Array.replicate_zero, List.push_toArray, List.append_toArray, List.nil_append, List.cons_append]
  gi_wp2_with fail
  refine ⟨trivial, (callsIn_wide.2 (sclone_any v xs.length _ _ HT.out (it_one xs) hn)).mono ?_⟩
  rintro e w1 ⟨v', rfl, ho, hx1⟩
  have h1 : J [] w1 := hJ _ _ w1 none h0 (grownOfEx hx1) (fun r e => by cases e)
  obtain ⟨A, cap, rfl, hsl, hbl⟩ := own_sl ho
  have hge : ∀ b, Bl A b → ¬ S0 b := fun b hb hs => by
    have := (ho.lt b (by rw [hbl]; exact hb)).1
    have := hS0 b hs; omega
  have HGE := Lib.hid hge
  have HSL := Lib.hid hsl
  have hsz1 := hx1.size
  clear ho hbl hx1 hc hBn hsl hge h0
  gi_wp2
  gi_loopw [4, 13] (fun _ i wr => ∃ k : Nat, k ≤ xs.length ∧ i = .int .i64 k ∧ Sl wr 3 A xs.length (xs.flatMap It.cells) ∧ W.heap.size ≤ wr.heap.size ∧ J ((xs.take k).map It.pair) wr)
    (fun _ i _ => xs.length - (intOf i).toNat)
  case atStart => exact ⟨0, Nat.zero_le _, rfl, HSL.out, hsz1, by simpa using h1⟩
  case round =>
    obtain ⟨k, hk, rfl, hs, hsz, hJs⟩ := hrel
    by_cases hlt : k < xs.length
    · obtain ⟨g, off, hl, rfl, hr⟩ := hs.row It.len (by omega) hlt
      have hJ2 : ∀ W2, Ex0 wr W2 → J ((xs.take k).map It.pair) W2 := fun W2 hx => hJ _ _ W2 none hJs (grownOfEx hx) (fun r e => by cases e)
      have ht : (xs.take (k + 1)).map It.pair = (xs.take k).map It.pair ++ [xs[k].pair] := by rw [List.take_succ_eq_append_getElem hl, List.map_append]; rfl
      have hlen : ((xs.take k).map It.pair).length < xs.length := by rw [List.length_map, List.length_take]; omega
      have HY := Lib.hid (hY ((xs.take k).map It.pair) xs[k].pair)
      have HTK := Lib.hid ht
      have HS := Lib.hid hs
      clear hs
      generalize xs[k] = x at hr HY HTK
      obtain ⟨a1, a2, a3⟩ := x
      unfold It.cells at hr
      obtain ⟨fn, tmps, assign, body, hy, hR⟩ := HY.out (wr.alloc (.cells #[.int .u64 a1, .int .i64 a2, .bool a3] 71)) (hJ2 _ (Ex.alloc _ _)) hlen
      have HR := Lib.hid hR
      dsimp only [It.pair] at hy
      clear hJ2 ht hJs hY hR
      gi_wp2_with (first | (refine wpListIn_load_at rfl _ _ rfl _ rfl _ _ hr Try.underlying71 rfl (by kernel_rfl) ?_))
      refine HR.out.mono ?_
      rintro e W3 (⟨rfl, hJ3, hk3⟩ | ⟨rfl, hJx3⟩)
      · have HJ3 := Lib.hid hJ3
        clear hJ3
        gi_wp2
        go_roundw
        case rel => exact ⟨k + 1, by omega, by go_num, (HS.out.ex0 (Ex.alloc _ _)).kc hk3 HGE.out, by have := hk3.size; simp at this; omega, by rw [HTK.out]; exact HJ3.out⟩
        case measure => simp [intOf]; omega
      · have HJ3 := Lib.hid hJx3
        clear hJx3
        gi_wp2
        refine bodyPost_ret (results_none rfl _ _ _) rfl ?_
        exact ⟨⟨_, rfl⟩, .inr ⟨(xs.take (k + 1)).map It.pair, (List.take_prefix _ _).map _, by rw [HTK.out]; exact HJ3.out⟩⟩
    · gi_wp2
      go_end0
      have : k = xs.length := by omega
      exact ⟨⟨_, rfl⟩, .inl ⟨_, rfl, by rw [this, List.take_length] at hJs; exact hJs⟩⟩

theorem mall_seq (Bn p : Nat) (v : Value) (xs : List It) (S0 : Nat → Prop) (w : World) (hBn : w.cell? ⟨Bn, 0, none⟩ = some (.pointer (some ⟨p, 0, none⟩))) (hT : TabAt w p v xs) (hn : xs.length ≤ 1000000) (hS0 : ∀ b, S0 b → b < w.heap.size) :
    SeqStopsK Fence.wide 9 Try.prog 47 #[.pointer (some ⟨Bn, 0, none⟩)] (fun x : Int × Int => #[.int .u64 x.1, .int .i64 x.2]) (Kc S0) (fun ys => ys = xs.map It.pair) (fun pre => pre <+: xs.map It.pair) xs.length w := fun l J Jx W hW hJ _ hY h0 =>
  mall1_in l Bn p v xs S0 J Jx hY W hJ ((Ex.ofBelow hW).cellS hBn not_false) (hT.ex0 (Ex.ofBelow hW)) hn (fun b hb => Nat.lt_of_lt_of_le (hS0 b hb) hW.size) h0

/-- of a table that there isn't -/
theorem mall_seq_nil (Bn : Nat) (S0 : Nat → Prop) (w : World) (hBn : w.cell? ⟨Bn, 0, none⟩ = some (.pointer none)) :
    SeqStopsK Fence.wide 9 Try.prog 47 #[.pointer (some ⟨Bn, 0, none⟩)] (fun x : Int × Int => #[.int .u64 x.1, .int .i64 x.2]) (Kc S0) (fun ys => ys = []) (fun pre => pre <+: []) 0 w := fun l J Jx W hW hJ _ hY h0 => by
  have hb : W.cell? ⟨Bn, 0, none⟩ = some (.pointer none) := (Ex.ofBelow hW).cellS hBn not_false
  refine callsIn_of_wp Try.func47 rfl trivial ?_ rfl
  simp only [Try.ntmps47, List.size_toArray, List.length_cons, List.length_nil, Nat.reduceAdd, Nat.reduceSub, Array.replicate_succ, Array.replicate_zero, List.push_toArray, List.append_toArray, List.nil_append, List.cons_append]
  gi_wp2
  refine bodyPost_ret (results_none rfl _ _ _) rfl ?_
  exact ⟨⟨_, rfl⟩, .inl h0⟩
end Go.Proofs.Ythlmcoeikelheaa
