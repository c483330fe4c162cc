/- Layer 28: both tables, side by side; a deed on both. Layer 28: what the law MomentLast says of the lists; a table's writing methods with known answers. Contracts of layer 28: the walk over a table. -/
import Derived.Test.YtoglddndicmelaaGreatMoB
import Derived.Test.YtoglddndicmelaaGreatB7
import Derived.Shelf.Abstract
namespace Go.Proofs.YtoglddndicmelaaGreat.Mo
open Go.RowKit Go.Proofs.YtoglddndicmelaaGreatB Go.Shelf
open Go.RowKit Go.Proofs.YtoglddndicmelaaGreatB
set_option maxRecDepth 100000

/-- the table and the document's, apart, new since a world -/
structure Both (w0 : World) (p px : Nat) (v : Value) (d : DocV) (l : List It) (w : World) : Prop where
  T : TabAt w p v l
  D : DocAt w px d l
  ok : TabOk l
  sp : ∀ b, (b = px ∨ Bld d b) → ¬ (b = p ∨ v.ownBlock = some b)
  ge : w0.heap.size ≤ p ∧ w0.heap.size ≤ px ∧ ∀ b, v.ownBlock = some b → w0.heap.size ≤ b
  bel : Below w0.heap.size w0 w
theorem Both.ex0 {w0 : World} {p px : Nat} {v : Value} {d : DocV} {l : List It} {w w' : World} (h : Both w0 p px v d l w) (hx : Ex0 w w') : Both w0 p px v d l w' :=
  ⟨h.T.ex0 hx, h.D.ex0 hx, h.ok, h.sp, h.ge, h.bel.trans (hx.below h.bel.size (fun _ h => h.elim))⟩
theorem Both.mid {w0 : World} {p px : Nat} {v : Value} {d : DocV} {l : List It} {w wa w1 : World} (h : Both w0 p px v d l w) (hx : Ex0 w wa) (hx1 : Ex (fun b => b = p ∨ v.ownBlock = some b) wa w1) : DocAt w1 px d l :=
  (h.D.ex0 hx).ex hx1 (h.sp px (.inl rfl)) (fun b hb => h.sp b (.inr hb))
theorem Both.step {w0 : World} {p px : Nat} {v v' : Value} {d d' : DocV} {l l' : List It} {w wa w1 wb w2 : World} (h : Both w0 p px v d l w) (hx : Ex0 w wa)
    (hv : v'.ownBlock = v.ownBlock ∨ ∃ b, v'.ownBlock = some b ∧ wa.heap.size ≤ b) (hT : TabAt w1 p v' l') (hx1 : Ex (fun b => b = p ∨ v.ownBlock = some b) wa w1) (hxb : Ex0 w1 wb)
    (hD : DocAt w2 px d' l') (hb : ∀ b, Bld d' b → Bld d b ∨ wb.heap.size ≤ b) (hx2 : Ex (· = px) wb w2) (hok : TabOk l') : Both w0 p px v' d' l' w2 := by
  have s0 := hx.size
  have s1 := hx1.size
  have sb := hxb.size
  have s2 := hx2.size
  have hpx := h.D.lt
  have hp1 := hT.lt
  have hnp : p ≠ px := fun e => h.sp px (.inl rfl) (.inl e.symm)
  have hvx : ∀ b, (b = px ∨ (Bld d b)) → v'.ownBlock ≠ some b := fun b hb' e => by
    rcases hv with h1 | ⟨c, h1, h2⟩
    · exact h.sp b hb' (.inr (by rw [← h1]; exact e))
    · rw [h1] at e; cases e
      rcases hb' with rfl | hb'
      · omega
      · have := (h.D.ap _ hb').2; omega
  refine ⟨(hT.ex0 hxb).ex hx2 hnp (fun b hb' e => hvx b (.inl e) hb'), hD, hok, ?_, ⟨h.ge.1, h.ge.2.1, ?_⟩, ?_⟩
  · rintro b (rfl | hb') (e | e)
    · exact hnp e.symm
    · exact hvx _ (.inl rfl) e
    · rcases hb b hb' with h1 | h1
      · exact h.sp b (.inr h1) (.inl e)
      · omega
    · rcases hb b hb' with h1 | h1
      · exact hvx b (.inr h1) e
      · have := (hT.own.lt b e).2; omega
  · intro b hb'
    rcases hv with h1 | ⟨c, h1, h2⟩
    · exact h.ge.2.2 b (by rw [← h1]; exact hb')
    · rw [h1] at hb'; cases hb'
      have := h.bel.size; omega
  · have b0 := h.bel
    have b1 := b0.trans (hx.below b0.size (fun _ h => h.elim))
    have b2 := b1.trans (hx1.below b1.size (fun i e => by
      rcases e with e | e
      · rw [e]; exact h.ge.1
      · exact h.ge.2.2 i e))
    have b3 := b2.trans (hxb.below b2.size (fun _ h => h.elim))
    exact b3.trans (hx2.below b3.size (fun i e => by rw [e]; exact h.ge.2.1))

/-! ### deeds -/
structure DeedM where
  kind : Int
  num : Int
  min : Int
def DeedM.cells (x : DeedM) : List Value := [.int .i64 x.kind, .int .u64 x.num, .int .i64 x.min]
def DeedM.val (x : DeedM) : Value := .agg #[.int .i64 x.kind, .int .u64 x.num, .int .i64 x.min]
theorem DeedM.len (x : DeedM) : x.cells.length = 3 := rfl
def momStep (l : List It) (d : DeedM) : List It := if d.kind = 0 then addL d.num d.min l else if d.kind = 1 then relL d.num l else if d.kind = 2 then dropL d.num l else l
def moms (l : List DeedM) : List It := l.foldl momStep []
theorem moms_take (l : List DeedM) (k : Nat) (hk : k < l.length) : moms (l.take (k + 1)) = momStep (moms (l.take k)) l[k] := by
  unfold moms
  rw [List.take_succ_eq_append_getElem hk, List.foldl_append]; rfl
theorem addE_ok {num min : Int} {l : List It} (h : addE num min l = 0) : rngB num min = true ∧ l.any (pastI num min) = false := by
  unfold addE at h
  cases hr : rngB num min
  · rw [hr] at h; simp at h
  · rw [hr] at h
    cases ha : l.any (pastI num min)
    · exact ⟨rfl, rfl⟩
    · rw [ha] at h; simp at h
theorem ok_add {num min : Int} {l : List It} (hk : TabOk l) (hl : l.length ≤ 900) : TabOk (addL num min l) := by
  unfold addL
  split
  · rename_i h0
    obtain ⟨h1, h2⟩ := addE_ok h0
    unfold rngB at h1
    simp only [Bool.and_eq_true, decide_eq_true_eq] at h1
    rw [List.any_eq_false] at h2
    refine ⟨List.pairwise_append.2 ⟨hk.srt, List.pairwise_singleton _ _, fun x hx y hy => ?_⟩, fun x hx => ?_, by simp; omega⟩
    · simp only [List.mem_singleton] at hy; subst hy
      have := h2 x hx
      unfold pastI at this
      simp at this
      exact ⟨by simp; omega, by simp; omega⟩
    · rcases List.mem_append.1 hx with hx | hx
      · exact hk.rng x hx
      · simp only [List.mem_singleton] at hx; subst hx
        exact ⟨h1.1.1.1, h1.1.1.2, h1.1.2, h1.2⟩
  · exact hk
theorem ok_sub {l k : List It} (hk : TabOk l) (hs : k.Sublist l) : TabOk k :=
  ⟨hk.srt.sublist hs, fun x hx => hk.rng x (hs.subset hx), Nat.le_trans hs.length_le hk.len⟩
theorem ok_drop {num : Int} {l : List It} (hk : TabOk l) : TabOk (dropL num l) := by
  unfold dropL
  split
  · exact ok_sub hk (List.eraseIdx_sublist _ _)
  · exact hk
theorem ok_set {l : List It} (hk : TabOk l) (i : Nat) (x' : It) (h : i < l.length) (h1 : x'.num = l[i].num) (h2 : x'.min = l[i].min) : TabOk (l.set i x') := by
  have hg : ∀ t (ht : t < (l.set i x').length), (l.set i x')[t].num = (l[t]'(by simpa using ht)).num ∧ (l.set i x')[t].min = (l[t]'(by simpa using ht)).min := fun t ht => by
    rw [List.getElem_set]
    split
    · rename_i e; subst e; exact ⟨h1, h2⟩
    · exact ⟨rfl, rfl⟩
  refine ⟨List.pairwise_iff_getElem.2 fun a b ha hb hab => ?_, fun x hx => ?_, by rw [List.length_set]; exact hk.len⟩
  · rw [(hg a ha).1, (hg b hb).1, (hg a ha).2, (hg b hb).2]
    exact srt_get hk.srt _ _ hab
  · obtain ⟨t, ht, rfl⟩ := List.getElem_of_mem hx
    rw [(hg t ht).1, (hg t ht).2]
    exact hk.rng _ (List.getElem_mem _)
theorem ok_rel {num : Int} {l : List It} (hk : TabOk l) : TabOk (relL num l) := by
  unfold relL
  split
  · rename_i h0
    cases hh : has num l
    · unfold relE at h0; rw [hh] at h0; simp at h0
    · obtain ⟨hi, _⟩ := has_get hk.srt hh
      exact ok_set hk _ _ hi (by rw [gt_get hi]) (by rw [gt_get hi])
  · exact hk
theorem ok_step {l : List It} (d : DeedM) (hk : TabOk l) (hl : l.length ≤ 900) : TabOk (momStep l d) := by
  unfold momStep
  split
  · exact ok_add hk hl
  · split
    · exact ok_rel hk
    · split
      · exact ok_drop hk
      · exact hk
theorem step_len (l : List It) (d : DeedM) : (momStep l d).length ≤ l.length + 1 := by
  unfold momStep addL relL dropL
  split
  · split <;> simp
  · split
    · split <;> simp
    · split
      · split
        · have := (List.eraseIdx_sublist l (lo d.num l)).length_le; omega
        · omega
      · omega

/-- the last one is not out -/
def LastIn (l : List It) : Prop := ∀ x, l.getLast? = some x → x.out = false
theorem lastIn_add {l : List It} (h : LastIn l) (num min : Int) : LastIn (addL num min l) := by
  unfold addL
  split
  · intro x hx; rw [List.getLast?_append] at hx; simp at hx; subst hx; rfl
  · exact h
theorem lastIn_set {l : List It} (h : LastIn l) {i : Nat} (hi : i + 1 ≠ l.length) (x : It) : LastIn (l.set i x) := by
  intro y hy
  apply h y
  rw [← hy, List.getLast?_eq_getElem?, List.getLast?_eq_getElem?, List.length_set, List.getElem?_set]
  split
  · rename_i e
    split
    · omega
    · rw [List.getElem?_eq_none (by omega)]
  · rfl
theorem lastIn_rel {l : List It} (h : LastIn l) (num : Int) : LastIn (relL num l) := by
  unfold relL
  split
  · rename_i h0
    refine lastIn_set h (fun e => ?_) _
    unfold relE at h0
    split at h0
    · split at h0
      · cases h0
      · cases h0
    · cases h0
  · exact h

theorem TabAt.kc {S : Nat → Prop} {w w' : World} {p : Nat} {v : Value} {l : List It} (h : TabAt w p v l) (hx : Kc S w w') (h1 : ¬ S p) (h2 : ∀ b, v.ownBlock = some b → ¬ S b) : TabAt w' p v l :=
  ⟨hx.cells h.blk h1, own_kc h.own hx h2, h.ne⟩
theorem mall_any (p : Option Addr) (w : World) :
    Calls Tryz.prog 83 #[.pointer p] w fun e w' => e = .returned (.func (.func 124) #[] #[.pointer (some ⟨w.heap.size, 0, none⟩)]) ∧ w' = w.alloc (.cells #[.pointer p] 118) := by
  go_enter Tryz.func83, Tryz.ntmps83
  go_wp2
  go_ret
  exact ⟨rfl, rfl⟩
/-- what a walk tells of a moment -/
def It.pair (x : It) : Int × Int := (x.num, x.min)
set_option maxRecDepth 100000 in
set_option maxHeartbeats 1000000 in
theorem mall1_in (l Bn p : Nat) (v : Value) (xs : List It) (S0 : Nat → Prop) (J Jx : List (Int × Int) → World → Prop)
    (hY : ∀ pre x W, J pre W → pre.length < xs.length → YieldAt Fence.wide 8 Tryz.prog l #[.int .u64 x.1, .int .i64 x.2] W fun e W' =>
      (e = .returned (.bool true) ∧ J (pre ++ [x]) W' ∧ Kc S0 W W') ∨ (e = .returned (.bool false) ∧ Jx (pre ++ [x]) W'))
    (W : World) (hJ : AbidesFrom W.heap.size J) (hBn : W.cell? ⟨Bn, 0, none⟩ = some (.pointer (some ⟨p, 0, none⟩))) (hT : TabAt W p v xs) (hn : xs.length ≤ 1000000) (hS0 : ∀ b, S0 b → b < W.heap.size) (h0 : J [] W) :
    CallsIn Fence.wide 9 Tryz.prog 124 #[.func (.yield l) #[] #[], .pointer (some ⟨Bn, 0, none⟩)] W fun e W' => (∃ v, e = .returned v) ∧
      ((∃ ys, ys = xs.map It.pair ∧ J ys W') ∨ (∃ pre, pre <+: xs.map It.pair ∧ Jx pre W')) := by
  have hc := hT.cell
  have HT := Lib.hid hT.own
  clear hT
  refine callsIn_of_wp Tryz.func124 rfl trivial ?_ rfl
  simp only [Tryz.ntmps124, List.size_toArray, List.length_cons, List.length_nil, Nat.reduceAdd, Nat.reduceSub, Array.replicate_succ, Array.replicate_zero, List.push_toArray, List.append_toArray, List.nil_append, List.cons_append]
  gi_wp2_with fail
  refine ⟨trivial, (callsIn_wide.2 (sclone_any v xs.length _ _ HT.out (it_one xs) hn)).mono ?_⟩
  rintro e w1 ⟨v', rfl, ho, hx1⟩
  have h1 : J [] w1 := hJ _ _ w1 none h0 (grownOfEx hx1) (fun r e => by cases e)
  obtain ⟨A, cap, rfl, hsl, hbl⟩ := own_sl ho
  have hge : ∀ b, Bl A b → ¬ S0 b := fun b hb hs => by
    have := (ho.lt b (by rw [hbl]; exact hb)).1
    have := hS0 b hs; omega
  have HGE := Lib.hid hge
  have HSL := Lib.hid hsl
  have hsz1 := hx1.size
  clear ho hbl hx1 hc hBn hsl hge h0
  gi_wp2
  gi_loopw [4, 13] (fun _ i wr => ∃ k : Nat, k ≤ xs.length ∧ i = .int .i64 k ∧ Sl wr 3 A xs.length (xs.flatMap It.cells) ∧ W.heap.size ≤ wr.heap.size ∧ J ((xs.take k).map It.pair) wr)
    (fun _ i _ => xs.length - (intOf i).toNat)
  case atStart => exact ⟨0, Nat.zero_le _, rfl, HSL.out, hsz1, by simpa using h1⟩
  case round =>
    obtain ⟨k, hk, rfl, hs, hsz, hJs⟩ := hrel
    by_cases hlt : k < xs.length
    · obtain ⟨g, off, hl, rfl, hr⟩ := hs.row It.len (by omega) hlt
      have hJ2 : ∀ W2, Ex0 wr W2 → J ((xs.take k).map It.pair) W2 := fun W2 hx => hJ _ _ W2 none hJs (grownOfEx hx) (fun r e => by cases e)
      have ht : (xs.take (k + 1)).map It.pair = (xs.take k).map It.pair ++ [xs[k].pair] := by rw [List.take_succ_eq_append_getElem hl, List.map_append]; rfl
      have hlen : ((xs.take k).map It.pair).length < xs.length := by rw [List.length_map, List.length_take]; omega
      have HY := Lib.hid (hY ((xs.take k).map It.pair) xs[k].pair)
      have HTK := Lib.hid ht
      have HS := Lib.hid hs
      clear hs
      generalize xs[k] = x at hr HY HTK
      obtain ⟨a1, a2, a3⟩ := x
      unfold It.cells at hr
      obtain ⟨fn, tmps, assign, body, hy, hR⟩ := HY.out (wr.alloc (.cells #[.int .u64 a1, .int .i64 a2, .bool a3] 199)) (hJ2 _ (Ex.alloc _ _)) hlen
      have HR := Lib.hid hR
      dsimp only [It.pair] at hy
      clear hJ2 ht hJs hY hR
      gi_wp2_with (first | (refine wpListIn_load_at rfl _ _ rfl _ rfl _ _ hr Tryz.underlying199 rfl (by kernel_rfl) ?_))
      refine HR.out.mono ?_
      rintro e W3 (⟨rfl, hJ3, hk3⟩ | ⟨rfl, hJx3⟩)
      · have HJ3 := Lib.hid hJ3
        clear hJ3
        gi_wp2
        go_roundw
        case rel => exact ⟨k + 1, by omega, by go_num, (HS.out.ex0 (Ex.alloc _ _)).kc hk3 HGE.out, by have := hk3.size; simp at this; omega, by rw [HTK.out]; exact HJ3.out⟩
        case measure => simp [intOf]; omega
      · have HJ3 := Lib.hid hJx3
        clear hJx3
        gi_wp2
        refine bodyPost_ret (results_none rfl _ _ _) rfl ?_
        exact ⟨⟨_, rfl⟩, .inr ⟨(xs.take (k + 1)).map It.pair, (List.take_prefix _ _).map _, by rw [HTK.out]; exact HJ3.out⟩⟩
    · gi_wp2
      go_end0
      have : k = xs.length := by omega
      exact ⟨⟨_, rfl⟩, .inl ⟨_, rfl, by rw [this, List.take_length] at hJs; exact hJs⟩⟩
theorem mall_seq (Bn p : Nat) (v : Value) (xs : List It) (S0 : Nat → Prop) (w : World) (hBn : w.cell? ⟨Bn, 0, none⟩ = some (.pointer (some ⟨p, 0, none⟩))) (hT : TabAt w p v xs) (hn : xs.length ≤ 1000000) (hS0 : ∀ b, S0 b → b < w.heap.size) :
    SeqStopsK Fence.wide 9 Tryz.prog 124 #[.pointer (some ⟨Bn, 0, none⟩)] (fun x : Int × Int => #[.int .u64 x.1, .int .i64 x.2]) (Kc S0) (fun ys => ys = xs.map It.pair) (fun pre => pre <+: xs.map It.pair) xs.length w := fun l J Jx W hW hJ _ hY h0 =>
  mall1_in l Bn p v xs S0 J Jx hY W hJ ((Ex.ofBelow hW).cellS hBn not_false) (hT.ex0 (Ex.ofBelow hW)) hn (fun b hb => Nat.lt_of_lt_of_le (hS0 b hb) hW.size) h0
/-- of a table that there isn't -/
theorem mall_seq_nil (Bn : Nat) (S0 : Nat → Prop) (w : World) (hBn : w.cell? ⟨Bn, 0, none⟩ = some (.pointer none)) :
    SeqStopsK Fence.wide 9 Tryz.prog 124 #[.pointer (some ⟨Bn, 0, none⟩)] (fun x : Int × Int => #[.int .u64 x.1, .int .i64 x.2]) (Kc S0) (fun ys => ys = []) (fun pre => pre <+: []) 0 w := fun l J Jx W hW hJ _ hY h0 => by
  have hb : W.cell? ⟨Bn, 0, none⟩ = some (.pointer none) := (Ex.ofBelow hW).cellS hBn not_false
  refine callsIn_of_wp Tryz.func124 rfl trivial ?_ rfl
  simp only [Tryz.ntmps124, List.size_toArray, List.length_cons, List.length_nil, Nat.reduceAdd, Nat.reduceSub, Array.replicate_succ, Array.replicate_zero, List.push_toArray, List.append_toArray, List.nil_append, List.cons_append]
  gi_wp2
  refine bodyPost_ret (results_none rfl _ _ _) rfl ?_
  exact ⟨⟨_, rfl⟩, .inl h0⟩
end Go.Proofs.YtoglddndicmelaaGreat.Mo
