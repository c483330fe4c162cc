/- Contracts of layer 37: the walk over a book. -/
import Derived.Test.YtbolioeopcmfcaaHold5
import Derived.Test.YtbolioeopcmfcaaB3
import Derived.Shelf.Abstract
namespace Go.Proofs.Ytbolioeopcmfcaa
open Go.RowKit Go.Proofs.YtbolioeopcmfcaaB Go.Shelf

theorem all_any (p : Option Addr) (w : World) :
    CallsIn Fence.wide 9 Try.prog 16 #[.pointer p] w fun e w' => e = .returned (.func (.func 29) #[] #[.pointer (some ⟨w.heap.size, 0, none⟩)]) ∧ w' = w.alloc (.cells #[.pointer p] 25) := by
  refine callsIn_of_wp Try.func16 rfl trivial ?_ rfl
  simp only [Try.ntmps16, List.size_toArray, List.length_cons, List.length_nil, Nat.reduceAdd, Nat.reduceSub, Array.replicate_succ, Array.replicate_zero, List.push_toArray, List.append_toArray, List.nil_append, List.cons_append]
  gi_wp2
  go_ret
  exact ⟨rfl, rfl⟩

set_option maxRecDepth 100000 in
set_option maxHeartbeats 1000000 in
theorem all1_in (l Bn n0 p : Nat) (A : Option Addr) (cap : Nat) (xs : List Put) (J Jx : List Put → World → Prop)
    (hY : ∀ pre x W, J pre W → pre.length < xs.length → YieldAt Fence.wide 8 Try.prog l #[x.val] W fun e W' =>
      (e = .returned (.bool true) ∧ J (pre ++ [x]) W' ∧ Below n0 W W') ∨ (e = .returned (.bool false) ∧ Jx (pre ++ [x]) W'))
    (W : World) (hJ : AbidesFrom W.heap.size J) (hBn : W.cell? ⟨Bn, 0, none⟩ = some (.pointer (some ⟨p, 0, none⟩))) (hp : W.cell? ⟨p, 0, none⟩ = some (.slice A xs.length cap)) (hs : Sl W 6 A xs.length (xs.flatMap Put.cells)) (hA : ∀ b, Bl A b → b < n0) (hn0 : n0 ≤ W.heap.size) (h0 : J [] W) :
    CallsIn Fence.wide 9 Try.prog 29 #[.func (.yield l) #[] #[], .pointer (some ⟨Bn, 0, none⟩)] W fun e W' => (∃ v, e = .returned v) ∧
      ((∃ ys, ys = xs ∧ J ys W') ∨ (∃ pre, pre <+: xs ∧ Jx pre W')) := by
  have hm := hs.small
  refine callsIn_of_wp Try.func29 rfl trivial ?_ rfl
  simp only [Try.ntmps29, List.size_toArray, List.length_cons, List.length_nil, Nat.reduceAdd, Nat.reduceSub, Array.replicate_succ, Array.replicate_zero, List.push_toArray, List.append_toArray, List.nil_append, List.cons_append]
  gi_wp2
  gi_loopw [4, 12] (fun _ i wr => ∃ k : Nat, k ≤ xs.length ∧ i = .int .i64 k ∧ Below n0 W wr ∧ W.heap.size ≤ wr.heap.size ∧ J (xs.take k) wr)
    (fun _ i _ => xs.length - (intOf i).toNat)
  case atStart =>
    exact ⟨0, Nat.zero_le _, rfl, Below.refl _ _, Nat.le_refl _, by simpa using h0⟩
  case round =>
    obtain ⟨k, hk, rfl, hb, hsz, hJs⟩ := hrel
    by_cases hlt : k < xs.length
    · obtain ⟨g, off, hl, rfl, hr⟩ := (hs.ex (exOfBelow hb) (fun b hbl => by have := hA b hbl; omega)).row Put.len (by omega) hlt
      have hJ2 : ∀ W2, Ex0 wr W2 → J (xs.take k) W2 := fun W2 hx => hJ _ _ W2 none hJs (grownOfEx hx) (fun r e => by cases e)
      have ht : xs.take (k + 1) = xs.take k ++ [xs[k]] := by rw [List.take_succ_eq_append_getElem hl]
      have hlen : (xs.take k).length < xs.length := by rw [List.length_take]; omega
      have HY := Lib.hid (hY (xs.take k) xs[k])
      have HT := Lib.hid ht
      generalize xs[k] = x at hr HY HT
      obtain ⟨⟨a1, a2, a3, a4⟩, a5, a6⟩ := x
      unfold Put.cells at hr
      obtain ⟨fn, tmps, assign, body, hy, hR⟩ := HY.out (wr.alloc (.cells #[.int .u64 a1, .int .i64 a2, .int .i64 a3, .int .i64 a4, .int .u64 a5, .int .i64 a6] 38)) (hJ2 _ (Ex.alloc _ _)) hlen
      have HR := Lib.hid hR
      unfold Put.val at hy
      clear hJ2 ht hJs hY hR
      gi_wp2_with (first | (refine wpListIn_load_at rfl _ _ rfl _ rfl _ _ hr Try.underlying38 rfl (by kernel_rfl) ?_))
      refine HR.out.mono ?_
      rintro e W3 (⟨rfl, hJ3, hk3⟩ | ⟨rfl, hJx3⟩)
      · have HJ3 := Lib.hid hJ3
        clear hJ3
        gi_wp2
        go_roundw
        case rel => exact ⟨k + 1, by omega, by go_num, (hb.trans (((Ex.alloc wr _).below (Nat.le_refl _) (fun _ h => h.elim)).mono (by omega))).trans hk3, by have := hk3.size; simp at this; omega, by rw [HT.out]; exact HJ3.out⟩
        case measure => simp [intOf]; omega
      · have HJ3 := Lib.hid hJx3
        clear hJx3
        gi_wp2
        refine bodyPost_ret (results_none rfl _ _ _) rfl ?_
        exact ⟨⟨_, rfl⟩, .inr ⟨xs.take (k + 1), List.take_prefix _ _, by rw [HT.out]; exact HJ3.out⟩⟩
    · gi_wp2
      go_end0
      have : k = xs.length := by omega
      exact ⟨⟨_, rfl⟩, .inl ⟨_, rfl, by rw [this, List.take_length] at hJs; exact hJs⟩⟩

theorem all_seq (Bn n0 p : Nat) (A : Option Addr) (cap : Nat) (xs : List Put) (w : World) (hBn : w.cell? ⟨Bn, 0, none⟩ = some (.pointer (some ⟨p, 0, none⟩))) (hp : w.cell? ⟨p, 0, none⟩ = some (.slice A xs.length cap)) (hs : Sl w 6 A xs.length (xs.flatMap Put.cells)) (hA : ∀ b, Bl A b → b < n0) (hn0 : n0 ≤ w.heap.size) :
    SeqStopsK Fence.wide 9 Try.prog 29 #[.pointer (some ⟨Bn, 0, none⟩)] (fun x : Put => #[x.val]) (Below n0) (fun ys => ys = xs) (fun pre => pre <+: xs) xs.length w := fun l J Jx W hW hJ _ hY h0 =>
  all1_in l Bn n0 p A cap xs J Jx hY W hJ ((exOfBelow hW).cellS hBn (by have := World.block_lt_of_cell? _ _ hBn; simp at this ⊢; omega)) ((exOfBelow hW).cellS hp (by have := World.block_lt_of_cell? _ _ hp; simp at this ⊢; omega))
    (hs.ex (exOfBelow hW) (fun b hb => by have := hA b hb; omega)) hA (Nat.le_trans hn0 hW.size) h0
end Go.Proofs.Ytbolioeopcmfcaa
