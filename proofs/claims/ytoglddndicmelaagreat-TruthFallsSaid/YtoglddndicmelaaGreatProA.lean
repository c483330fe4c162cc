/- Contracts of layer 38: which moments are promised. Contracts of layer 38: is a moment promised. The walk over a table, for rounds that build rows of their own. Contracts of layer 38: all promised moments. -/
import Derived.Test.YtoglddndicmelaaGreatCalA
import Derived.Test.YtoglddndicmelaaGreatBraB
import Derived.Test.YtoglddndicmelaaGreatSrtB
import Derived.Test.YtoglddndicmelaaGreatMoC
namespace Go.Proofs.YtoglddndicmelaaGreat.Tr
open Go.RowKit Go.Proofs.YtoglddndicmelaaGreatB Go.Proofs.YtoglddndicmelaaGreat
set_option maxRecDepth 100000

/-- where a law's things lie -/
structure LawP where
  pt : Nat
  tv : Value
  pb : Nat
  bv : Value
  pf : Nat
  n0 : Nat
  n1 : Nat
  A : Option Addr
  n : Nat
  c : Nat
  nev : Int
  nevs : Bool
def LawP.av (P : LawP) : Value := .slice P.A P.n P.c
def LawP.cells (P : LawP) : List Value := [.pointer (some ⟨P.pt, 0, none⟩), P.av, .int .i64 P.nev, .bool P.nevs, .pointer (some ⟨P.pb, 0, none⟩), .pointer (some ⟨P.pf, 0, none⟩)]
def LawP.val (P : LawP) : Value := .agg #[.pointer (some ⟨P.pt, 0, none⟩), P.av, .int .i64 P.nev, .bool P.nevs, .pointer (some ⟨P.pb, 0, none⟩), .pointer (some ⟨P.pf, 0, none⟩)]
structure LawAt (w : World) (P : LawP) (rs : List Rul) (tab : List Mo.It) (hs : List Ho.Put) (fs : List Tw) : Prop where
  tab : Mo.TabAt w P.pt P.tv tab
  bk : Ho.BookAt w P.pb P.bv hs
  fs : ForAt w P.pf fs
  aut : AutC w P.n0 P.n1 rs P.av P.nev P.nevs
theorem LawAt.ex0 {w w' : World} {P : LawP} {rs : List Rul} {tab : List Mo.It} {hs : List Ho.Put} {fs : List Tw} (h : LawAt w P rs tab hs fs) (hx : Ex0 w w') : LawAt w' P rs tab hs fs :=
  ⟨h.tab.ex0 hx, h.bk.ex0 hx, h.fs.ex0 hx, h.aut.ex hx fun _ _ _ => id⟩
structure LawOk (rs : List Rul) (tab : List Mo.It) (hs : List Ho.Put) (fs : List Tw) : Prop where
  tab : Mo.TabOk tab
  hs : hs.length ≤ 1000
  fs : FOk fs
  rs : rs.length ≤ 16 ∧ ∀ r ∈ rs, rightB r = true

theorem held1_any (p : Ho.Put) (num : Int) (b : Nat) (w : World) (hb : w.cell? ⟨b, 0, none⟩ = some (.int .u64 num)) :
    Calls Tryz.prog 139 #[p.val, .pointer (some ⟨b, 0, none⟩)] w fun e w' => e = .returned (.bool (decide (num < p.num))) ∧ Ex0 w w' := by
  have hl := World.block_lt_of_cell? _ _ hb
  unfold Ho.Put.val
  by_cases h : num < p.num
  · rw [decide_eq_true h]
    go_enter Tryz.func139, Tryz.ntmps139
    go_wp2
    go_ret
    exact ⟨rfl, Ex.alloc _ _⟩
  · rw [decide_eq_false h]
    go_enter Tryz.func139, Tryz.ntmps139
    go_wp2
    go_ret
    exact ⟨rfl, Ex.alloc _ _⟩
def heldB (hs : List Ho.Put) (num min now : Int) : Bool := hs.any fun p => Ho.isOver min now p && decide (num < p.num)
theorem heldB_over (hs : List Ho.Put) (num min now : Int) : (Ho.overL min now hs).any (fun p => decide (num < p.num)) = heldB hs num min now := by
  unfold Ho.overL heldB
  rw [List.any_filter]
set_option maxHeartbeats 2000000 in
theorem held_any (P : LawP) (hs : List Ho.Put) (num min now : Int) (w : World) (hB : Ho.BookAt w P.pb P.bv hs) (hl : hs.length ≤ 1000) :
    Calls Tryz.prog 96 #[P.val, .int .u64 num, .int .i64 min, .int .i64 now] w fun e w' => e = .returned (.bool (heldB hs num min now)) ∧ Ex0 w w' := by
  have HH := Lib.hid (heldB_over hs num min now)
  have HB := fun w' hx => Lib.hid (Ho.over_any P.pb P.bv hs min now w' (hB.ex0 (w := w) hx) hl)
  clear hB
  unfold LawP.val LawP.av
  go_enter Tryz.func96, Tryz.ntmps96
  go_wp2_with fail
  refine (HB _ ((Ex.alloc _ _).alloc' _)).out.mono ?_
  rintro e w1 ⟨v', rfl, ho, hx1⟩
  obtain ⟨A, cap, rfl, hsl, _⟩ := own_sl ho
  have HX : Hid (Ex0 w w1) := ((Ex.alloc _ _).alloc' _).trans0 hx1
  have hc := hx1.cellS (p := ⟨w.heap.size + 1, 0, none⟩) (v := .int .u64 num) (by rw [cell_of_row _ _ _ _ _ _ (heap_alloc2_new w _ _)]; rfl) not_false
  have HC := Lib.hid hc
  have HS := Lib.hid hsl
  clear ho hx1 HB hc hsl
  have HF : Hid (∀ x ∈ Ho.overL min now hs, ∀ w', Ex0 w1 w' → Calls Tryz.prog 139 (#[x.val] ++ #[.pointer (some ⟨w.heap.size + 1, 0, none⟩)]) w' fun e w'' => e = .returned (.bool (decide (num < x.num))) ∧ Ex0 w' w'') :=
    fun x _ w' hx => held1_any x num (w.heap.size + 1) w' (hx.cellS HC.out not_false)
  have HE : Hid (∀ args w, (callFunc 139 args).run Tryz.prog w = .ok (.enter 139 args) w) := run_callFunc Tryz.func139 (by kernel_rfl) (by kernel_rfl)
  go_wp2_with fail
  refine (Ho.containsFunc_any A _ cap (Ho.overL min now hs) _ _ (fun p => decide (num < p.num)) _ HS.out HE.out HF.out).mono ?_
  rintro e w2 ⟨rfl, hx2⟩
  go_wp2
  go_ret
  exact ⟨Ho.ret_bool HH.out, HX.out.trans0 hx2⟩
end Go.Proofs.YtoglddndicmelaaGreat.Tr

namespace Go.Proofs.YtoglddndicmelaaGreat.Tr
open Go.RowKit Go.Proofs.YtoglddndicmelaaGreatB Go.Proofs.YtoglddndicmelaaGreat
set_option maxRecDepth 100000

theorem has_pos {num : Int} {l : List Mo.It} (h : Mo.has num l = true) : 0 < l.length := by
  cases l with
  | nil => cases h
  | cons => simp
set_option maxHeartbeats 2000000 in
theorem has_any (P : LawP) (rs : List Rul) (tab : List Mo.It) (hs : List Ho.Put) (fs : List Tw) (num now : Int) (w : World) (hL : LawAt w P rs tab hs fs) (hK : LawOk rs tab hs fs) :
    Calls Tryz.prog 52 #[P.val, .int .u64 num, .int .i64 now] w fun e w' => e = .returned (.bool (hasP rs tab hs fs num now)) ∧ Ex0 w w' := by
  have HM := fun w' hx => Lib.hid (Mo.min_any P.pt P.tv tab num w' (hL.tab.ex0 (w := w) hx) hK.tab)
  have HO := fun w' hx => Lib.hid (Mo.out_any P.pt P.tv tab num w' (hL.tab.ex0 (w := w) hx) hK.tab)
  have HLA := fun w' hx => Lib.hid (Mo.last_any P.pt P.tv tab w' (hL.tab.ex0 (w := w) hx) hK.tab)
  have HST := fun (hh : Mo.has num tab = true) w' hx => Lib.hid (stays_any P.pt P.tv tab num now P.n0 P.n1 rs P.av P.nev P.nevs w' (hL.tab.ex0 (w := w) hx) hK.tab (hL.aut.ex hx (fun _ _ _ => id)) hK.rs hh)
  have HH := fun w' hx => Lib.hid (held_any P hs num (Mo.minV num tab) now w' (hL.bk.ex0 (w := w) hx) hK.hs)
  have HBA := fun w' hx => Lib.hid (bases_any P.pf fs w' (hL.fs.ex0 (w := w) hx) hK.fs)
  have hb0 := heap_alloc_new w (.cells #[.pointer (some ⟨P.pt, 0, none⟩), P.av, .int .i64 P.nev, .bool P.nevs, .pointer (some ⟨P.pb, 0, none⟩), .pointer (some ⟨P.pf, 0, none⟩)] 123)
  clear hL hK
  generalize hr : hasP rs tab hs fs num now = r
  have HR := Lib.hid hr
  clear hr
  go_enter Tryz.func52, Tryz.ntmps52
  unfold LawP.val LawP.av
  cases hh : Mo.has num tab with
  | false =>
    go_wp2_with fail
    refine (HM _ (Ex.alloc _ _)).out.mono ?_
    rintro e w1 ⟨rfl, hx1⟩
    rw [hh]
    go_wp2
    go_ret
    exact ⟨Ho.ret_bool (by rw [← HR.out]; unfold hasP; rw [hh]; rfl), (Ex.alloc _ _).trans0 hx1⟩
  | true =>
    have HST' := HST hh
    clear HST
    go_wp2_with fail
    refine (HM _ (Ex.alloc _ _)).out.mono ?_
    rintro e w1 ⟨rfl, hx1⟩
    rw [hh]
    have HX1 : Hid (Ex0 w w1) := (Ex.alloc _ _).trans0 hx1
    have hb1 := (hx1.block _ (Array.getElem?_eq_some_iff.1 hb0).1 not_false).trans hb0
    have hc0 : w1.cell? ⟨w.heap.size, 0, none⟩ = some (.pointer (some ⟨P.pt, 0, none⟩)) := by rw [cell_of_row _ _ _ _ _ _ hb1]; rfl
    have hl1 : w.heap.size < w1.heap.size := (Array.getElem?_eq_some_iff.1 hb1).1
    have HB1 := Lib.hid hb1
    clear hx1 HM hb0 hb1
    go_wp2_with fail
    refine (HO _ HX1.out).out.mono ?_
    rintro e w2 ⟨rfl, hx2⟩
    have HX2 : Hid (Ex0 w w2) := HX1.out.trans0 hx2
    have hb2 := (hx2.block _ (Array.getElem?_eq_some_iff.1 HB1.out).1 not_false).trans HB1.out
    have hc02 : w2.cell? ⟨w.heap.size, 0, none⟩ = some (.pointer (some ⟨P.pt, 0, none⟩)) := by rw [cell_of_row _ _ _ _ _ _ hb2]; rfl
    have hl2 : w.heap.size < w2.heap.size := (Array.getElem?_eq_some_iff.1 hb2).1
    have HB2 := Lib.hid hb2
    clear hx2 HO hb2 hc0 hl1
    cases ho : Mo.outB num tab with
    | true =>
      go_wp2
      go_ret
      exact ⟨Ho.ret_bool (by rw [← HR.out]; unfold hasP; rw [hh, ho]; rfl), HX2.out⟩
    | false =>
      have hpos := has_pos hh
      go_wp2_with fail
      refine (HLA _ HX2.out).out.mono ?_
      rintro e w3 ⟨rfl, hx3⟩
      rw [decide_eq_true hpos]
      have HX3 : Hid (Ex0 w w3) := HX2.out.trans0 hx3
      have HB3 := Lib.hid ((hx3.block _ (Array.getElem?_eq_some_iff.1 HB2.out).1 not_false).trans HB2.out)
      clear hx3 HLA hc02 hl2
      cases hla : (Mo.lastN tab == num) with
      | true =>
        go_wp2
        go_ret
        exact ⟨Ho.ret_bool (by rw [← HR.out]; unfold hasP; rw [hh, ho, hla]; rfl), HX3.out⟩
      | false =>
        have HR2 : Hid (r = (decide (now < tillI rs num tab) || (heldB hs num (Mo.minV num tab) now || (brs fs).any (fun b => b.ba == num)))) := by
          show _ = _
          rw [← HR.out]; unfold hasP heldB; rw [hh, ho, hla]; simp
        have hc1 : w3.cell? ⟨w.heap.size, 0, none⟩ = some (.pointer (some ⟨P.pt, 0, none⟩)) := by rw [cell_of_row _ _ _ _ _ _ HB3.out]; rfl
        have hl3 : w.heap.size < w3.heap.size := (Array.getElem?_eq_some_iff.1 HB3.out).1
        have hrow : RowAt w3 ⟨w.heap.size, 1, none⟩ [.slice P.A P.n P.c, .int .i64 P.nev, .bool P.nevs] := fun j u hu => by
          rw [add_row, cell_of_row _ _ _ _ _ _ HB3.out]
          rcases j with _ | _ | _ | j
          · exact hu
          · exact hu
          · exact hu
          · simp at hu
        generalize tillI rs num tab = ti at HST' HR2
        go_wp2_with (refine wpList_load_at rfl 115 (.tmp 38) rfl _ rfl _ _ hrow Tryz.underlying115 rfl (by kernel_rfl) ?_)
        refine (HST' _ HX3.out).out.mono ?_
        rintro e w4 ⟨rfl, hx4⟩
        have HX4 : Hid (Ex0 w w4) := HX3.out.trans0 hx4
        have HB4 := Lib.hid ((hx4.block _ (Array.getElem?_eq_some_iff.1 HB3.out).1 not_false).trans HB3.out)
        clear hx4 hc1 hl3 hrow
        cases hst : decide (now < ti) with
        | true =>
          go_wp2
          go_ret
          exact ⟨Ho.ret_bool (by rw [HR2.out, hst]; rfl), HX4.out⟩
        | false =>
          go_wp2_with (first | refine wpList_load_row_g rfl 123 (.tmp 3) rfl w.heap.size rfl 123 #[.pointer (some ⟨P.pt, 0, none⟩), .slice P.A P.n P.c, .int .i64 P.nev, .bool P.nevs, .pointer (some ⟨P.pb, 0, none⟩), .pointer (some ⟨P.pf, 0, none⟩)] (0, 0) _ HB4.out Tryz.underlying123 rfl (by kernel_rfl) ?_ | fail)
          refine (HH _ HX4.out).out.mono ?_
          rintro e w5 ⟨rfl, hx5⟩
          have HX5 : Hid (Ex0 w w5) := HX4.out.trans0 hx5
          have HB5 := Lib.hid ((hx5.block _ (Array.getElem?_eq_some_iff.1 HB4.out).1 not_false).trans HB4.out)
          clear hx5
          cases hhe : heldB hs num (Mo.minV num tab) now with
          | true =>
            go_wp2
            go_ret
            exact ⟨Ho.ret_bool (by rw [HR2.out, hst, hhe]; rfl), HX5.out⟩
          | false =>
            have hc5 : w5.cell? ⟨w.heap.size, 5, none⟩ = some (.pointer (some ⟨P.pf, 0, none⟩)) := by rw [cell_of_row _ _ _ _ _ _ HB5.out]; rfl
            have hl5 : w.heap.size < w5.heap.size := (Array.getElem?_eq_some_iff.1 HB5.out).1
            go_wp2_with fail
            refine (HBA _ HX5.out).out.mono ?_
            rintro e w6 ⟨v, n, bs, rfl, ho6, hm6, hx6⟩
            obtain ⟨A6, c6, rfl, hs6, _⟩ := own_sl ho6
            have HX6 : Hid (Ex0 w w6) := HX5.out.trans0 hx6
            have HM6 := Lib.hid hm6
            have HS6 := Lib.hid hs6
            clear hx6 ho6 hm6 hs6
            go_wp2_with fail
            refine (So.contains_any A6 n c6 bs num _ HS6.out).mono ?_
            rintro e w7 ⟨rfl, rfl⟩
            go_wp2
            go_ret
            refine ⟨Ho.ret_bool ?_, HX6.out⟩
            rw [HR2.out, hst, hhe]
            have h := HM6.out num
            rw [Bool.false_or, Bool.false_or, Bool.eq_iff_iff, decide_eq_true_eq]
            exact h
end Go.Proofs.YtoglddndicmelaaGreat.Tr

namespace Go.Proofs.YtoglddndicmelaaGreat.Tr
open Go.RowKit Go.Proofs.YtoglddndicmelaaGreatB Go.Proofs.YtoglddndicmelaaGreat Go.Shelf

/-- blocks of cells of one type have not turned -/
structure KcT (T : TypeId) (w w' : World) : Prop where
  size : w.heap.size ≤ w'.heap.size
  block : ∀ (k : Nat) (cs : Array Value), w.heap[k]? = some (Obj.cells cs T (0, 0)) → w'.heap[k]? = some (Obj.cells cs T (0, 0))
theorem KcT.refl (T : TypeId) (w : World) : KcT T w w := ⟨Nat.le_refl _, fun _ _ h => h⟩
theorem KcT.trans {T : TypeId} {a b c : World} (h : KcT T a b) (k : KcT T b c) : KcT T a c := ⟨Nat.le_trans h.size k.size, fun i cs ho => k.block i cs (h.block i cs ho)⟩
theorem KcT.ofEx {T : TypeId} {S : Nat → Prop} {a b : World} (h : Ex S a b) (hS : ∀ (k : Nat) (cs : Array Value), S k → a.heap[k]? ≠ some (Obj.cells cs T (0, 0))) : KcT T a b :=
  ⟨h.size, fun i cs ho => (h.block i (Array.getElem?_eq_some_iff.1 ho).1 (fun hs => hS i cs hs ho)).trans ho⟩
theorem KcT.ex0 {T : TypeId} {a b : World} (h : Ex0 a b) : KcT T a b := KcT.ofEx h fun _ _ h => h.elim
theorem kct_t {T : TypeId} {A B C : World} (h : KcT T A B) (k : KcT T B C) : KcT T A C := h.trans k
theorem kct_b {T : TypeId} {w : World} (W : World) (l : Nat) (o o' : Obj) (_ : w.heap.size ≤ l) (h : W.heap[l]? = some o) (hc : o.isCells = false) (_ : o.isWalk = false) : KcT T W (W.putObj l o') := by
  have hg := grownBy_putObj' W l o'
  refine ⟨hg.size, fun k cs ho => (hg.block k (Array.getElem?_eq_some_iff.1 ho).1 (fun e => ?_)).trans ho⟩
  cases e
  rw [h] at ho
  injection ho with ho
  subst ho
  cases hc
theorem own_kct {w w' : World} {b : Nat} {e : TypeId} {sz : Nat} {v : Value} {n : Nat} {cs : List Value} (h : w.ownsRow b e sz v n cs) (hx : KcT e w w') : w'.ownsRow b e sz v n cs := by
  refine ⟨h.1, ?_⟩
  rcases h.2 with hn | ⟨g, cap, cur, rfl, hb, hgg, rest⟩
  · exact .inl hn
  · exact .inr ⟨g, cap, cur, rfl, hb, hx.block g cur hgg, rest⟩
set_option maxRecDepth 100000 in
set_option maxHeartbeats 1000000 in
theorem mallT_in (l Bn p : Nat) (v : Value) (xs : List Mo.It) (J Jx : List (Int × Int) → World → Prop)
    (hY : ∀ pre x W, J pre W → pre.length < xs.length → YieldAt Fence.wide 8 Tryz.prog l #[.int .u64 x.1, .int .i64 x.2] W fun e W' =>
      (e = .returned (.bool true) ∧ J (pre ++ [x]) W' ∧ KcT 199 W W') ∨ (e = .returned (.bool false) ∧ Jx (pre ++ [x]) W'))
    (W : World) (hJ : AbidesFrom W.heap.size J) (hBn : W.cell? ⟨Bn, 0, none⟩ = some (.pointer (some ⟨p, 0, none⟩))) (hT : Mo.TabAt W p v xs) (hn : xs.length ≤ 1000000) (h0 : J [] W) :
    CallsIn Fence.wide 9 Tryz.prog 124 #[.func (.yield l) #[] #[], .pointer (some ⟨Bn, 0, none⟩)] W fun e W' => (∃ v, e = .returned v) ∧
      ((∃ ys, ys = xs.map Mo.It.pair ∧ J ys W') ∨ (∃ pre, pre <+: xs.map Mo.It.pair ∧ Jx pre W')) := by
  have hc := hT.cell
  have HT := Lib.hid hT.own
  clear hT
  refine callsIn_of_wp Tryz.func124 rfl trivial ?_ rfl
  simp only [Tryz.ntmps124, List.size_toArray, List.length_cons, List.length_nil, Nat.reduceAdd, Nat.reduceSub, Array.replicate_succ, Array.replicate_zero, List.push_toArray, List.append_toArray, List.nil_append, List.cons_append]
  gi_wp2_with fail
  refine ⟨trivial, (callsIn_wide.2 (Mo.sclone_any v xs.length _ _ HT.out (Mo.it_one xs) hn)).mono ?_⟩
  rintro e w1 ⟨v', rfl, ho, hx1⟩
  have h1 : J [] w1 := hJ _ _ w1 none h0 (grownOfEx hx1) (fun r e => by cases e)
  obtain ⟨A, cap, rfl, hsl, hbl⟩ := own_sl ho
  have HSL := Lib.hid ho
  have hsz1 := hx1.size
  clear ho hbl hx1 hc hBn hsl h0
  gi_wp2
  gi_loopw [4, 13] (fun _ i wr => ∃ k : Nat, k ≤ xs.length ∧ i = .int .i64 k ∧ wr.ownsRow W.heap.size 199 3 (.slice A xs.length cap) xs.length (xs.flatMap Mo.It.cells) ∧ W.heap.size ≤ wr.heap.size ∧ J ((xs.take k).map Mo.It.pair) wr)
    (fun _ i _ => xs.length - (intOf i).toNat)
  case atStart => exact ⟨0, Nat.zero_le _, rfl, HSL.out, hsz1, by simpa using h1⟩
  case round =>
    obtain ⟨k, hk, rfl, ho, hsz, hJs⟩ := hrel
    obtain ⟨A', cap', e, hs, _⟩ := own_sl ho
    cases e
    by_cases hlt : k < xs.length
    · obtain ⟨g, off, hl, rfl, hr⟩ := hs.row Mo.It.len (by omega) hlt
      have hJ2 : ∀ W2, Ex0 wr W2 → J ((xs.take k).map Mo.It.pair) W2 := fun W2 hx => hJ _ _ W2 none hJs (grownOfEx hx) (fun r e => by cases e)
      have ht : (xs.take (k + 1)).map Mo.It.pair = (xs.take k).map Mo.It.pair ++ [xs[k].pair] := by rw [List.take_succ_eq_append_getElem hl, List.map_append]; rfl
      have hlen : ((xs.take k).map Mo.It.pair).length < xs.length := by rw [List.length_map, List.length_take]; omega
      have HY := Lib.hid (hY ((xs.take k).map Mo.It.pair) xs[k].pair)
      have HTK := Lib.hid ht
      have HS := Lib.hid ho
      clear hs ho
      generalize xs[k] = x at hr HY HTK
      obtain ⟨a1, a2, a3⟩ := x
      unfold Mo.It.cells at hr
      obtain ⟨fn, tmps, assign, body, hy, hR⟩ := HY.out (wr.alloc (.cells #[.int .u64 a1, .int .i64 a2, .bool a3] 199)) (hJ2 _ (Ex.alloc _ _)) hlen
      have HR := Lib.hid hR
      dsimp only [Mo.It.pair] at hy
      clear hJ2 ht hJs hY hR
      gi_wp2_with (first | (refine wpListIn_load_at rfl _ _ rfl _ rfl _ _ hr Tryz.underlying199 rfl (by kernel_rfl) ?_))
      refine HR.out.mono ?_
      rintro e W3 (⟨rfl, hJ3, hk3⟩ | ⟨rfl, hJx3⟩)
      · have HJ3 := Lib.hid hJ3
        clear hJ3
        gi_wp2
        go_roundw
        case rel => exact ⟨k + 1, by omega, by go_num, own_kct (own_ex HS.out (Ex.alloc _ _) (fun _ _ => id)) hk3, by have := hk3.size; simp at this; omega, by rw [HTK.out]; exact HJ3.out⟩
        case measure => simp [intOf]; omega
      · have HJ3 := Lib.hid hJx3
        clear hJx3
        gi_wp2
        refine bodyPost_ret (results_none rfl _ _ _) rfl ?_
        exact ⟨⟨_, rfl⟩, .inr ⟨(xs.take (k + 1)).map Mo.It.pair, (List.take_prefix _ _).map _, by rw [HTK.out]; exact HJ3.out⟩⟩
    · gi_wp2
      go_end0
      have : k = xs.length := by omega
      exact ⟨⟨_, rfl⟩, .inl ⟨_, rfl, by rw [this, List.take_length] at hJs; exact hJs⟩⟩
theorem mallT_seq (Bn p : Nat) (v : Value) (xs : List Mo.It) (w : World) (hBn : w.cell? ⟨Bn, 0, none⟩ = some (.pointer (some ⟨p, 0, none⟩))) (hT : Mo.TabAt w p v xs) (hn : xs.length ≤ 1000000) :
    SeqStopsK Fence.wide 9 Tryz.prog 124 #[.pointer (some ⟨Bn, 0, none⟩)] (fun x : Int × Int => #[.int .u64 x.1, .int .i64 x.2]) (KcT 199) (fun ys => ys = xs.map Mo.It.pair) (fun pre => pre <+: xs.map Mo.It.pair) xs.length w := fun l J Jx W hW hJ _ hY h0 =>
  mallT_in l Bn p v xs J Jx hY W hJ ((Ex.ofBelow hW).cellS hBn not_false) (hT.ex0 (Ex.ofBelow hW)) hn h0
end Go.Proofs.YtoglddndicmelaaGreat.Tr

namespace Go.Proofs.YtoglddndicmelaaGreat.Tr
open Go.RowKit Go.Proofs.YtoglddndicmelaaGreatB Go.Proofs.YtoglddndicmelaaGreat Go.Shelf
set_option maxRecDepth 100000
attribute [local go_sem] Oper.semAt_some

/-- those numbers of a walk that a test lets by -/
def pickP (q : Int → Bool) (pre : List (Int × Int)) : List Int := (pre.filter fun x => q x.1).map (·.1)
theorem pickP_snoc (q : Int → Bool) (pre : List (Int × Int)) (x : Int × Int) : pickP q (pre ++ [x]) = pickP q pre ++ (if q x.1 then [x.1] else []) := by
  unfold pickP
  rw [List.filter_append, List.map_append]
  cases h : q x.1 <;> simp [h]
theorem pickP_len (q : Int → Bool) (pre : List (Int × Int)) : (pickP q pre).length ≤ pre.length := by
  unfold pickP; rw [List.length_map]; exact List.length_filter_le _ _
def promL (rs : List Rul) (tab : List Mo.It) (hs : List Ho.Put) (fs : List Tw) (now : Int) : List Int := (tab.filter fun x => hasP rs tab hs fs x.num now).map (·.num)
theorem pickP_tab (q : Int → Bool) (tab : List Mo.It) : pickP q (tab.map Mo.It.pair) = (tab.filter fun x => q x.num).map (·.num) := by
  unfold pickP
  rw [List.filter_map, List.map_map]
  rfl
/-- what holds through the walk -/
structure AllI (w : World) (P : LawP) (rs : List Rul) (tab : List Mo.It) (hs : List Ho.Put) (fs : List Tw) (now : Int) (pre : List (Int × Int)) (W : World) : Prop where
  b1 : Boxed W (w.heap.size + 1) 3 (.int .i64 now)
  b2 : Boxed W (w.heap.size + 2) 135 (.func (.func 52) #[P.val] #[])
  bl : ∃ v, Boxed W (w.heap.size + 3) 33 v ∧ W.ownsRow (w.heap.size + 5) 31 1 v (pickP (fun x => hasP rs tab hs fs x now) pre).length ((pickP (fun x => hasP rs tab hs fs x now) pre).map (Value.int .u64))
  bel : Below w.heap.size w W
theorem AllI.kc {w : World} {P : LawP} {rs : List Rul} {tab : List Mo.It} {hs : List Ho.Put} {fs : List Tw} {now : Int} {pre : List (Int × Int)} {W W' : World} (h : AllI w P rs tab hs fs now pre W) (hx : Kc0 W W') (hb : Below w.heap.size w W') : AllI w P rs tab hs fs now pre W' := by
  obtain ⟨v, h1, h2⟩ := h.bl
  exact ⟨boxed_kc h.b1 hx id, boxed_kc h.b2 hx id, ⟨v, boxed_kc h1 hx id, own_kc h2 hx (fun _ _ => id)⟩, hb⟩
set_option maxHeartbeats 4000000 in
theorem pall_any (P : LawP) (rs : List Rul) (tab : List Mo.It) (hs : List Ho.Put) (fs : List Tw) (now : Int) (w : World) (hL : LawAt w P rs tab hs fs) (hK : LawOk rs tab hs fs) :
    Calls Tryz.prog 46 #[P.val, .int .i64 now] w fun e w' => ∃ v, e = .returned v ∧ w'.ownsRow w.heap.size 31 1 v (promL rs tab hs fs now).length ((promL rs tab hs fs now).map (Value.int .u64)) ∧ Ex0 w w' := by
  obtain ⟨i0, hi0, hz0, hz1, hz2⟩ := info_parts infoU64
  have hn := hK.tab.len
  have HHAS := fun x w' (hx : Ex0 w w') => Lib.hid (has_any P rs tab hs fs x now w' (hL.ex0 hx) hK)
  have HT := fun w' (hx : Ex0 w w') => Lib.hid (hL.tab.ex0 hx)
  clear hL hK
  refine (callsIn_wide (n := 10)).1 (callsIn_of_wp_marks Tryz.func46 rfl trivial ?_ rfl)
  simp only [Tryz.ntmps46, List.size_toArray, List.length_cons, List.length_nil, Nat.reduceAdd, Nat.reduceSub, Array.replicate_succ, Array.replicate_zero, List.push_toArray, List.append_toArray, List.nil_append, List.cons_append]
  refine wpIn_wide.2 ?_
  unfold LawP.val LawP.av
  go_wp2_with fail
  refine (Mo.mall_any _ _).mono ?_
  rintro e w' ⟨rfl, rfl⟩
  go_wp2_with fail
  refine (wpIn_wide (n := 10)).1 ?_
  refine wpIn_named fun a0 ha => ?_
  obtain ⟨w1, hw1⟩ : ∃ w1, w1 = w.alloc (.cells #[.pointer (some ⟨P.pt, 0, none⟩), .slice P.A P.n P.c, .int .i64 P.nev, .bool P.nevs, .pointer (some ⟨P.pb, 0, none⟩), .pointer (some ⟨P.pf, 0, none⟩)] 123) := ⟨_, rfl⟩
  obtain ⟨w2, hw2⟩ : ∃ w2, w2 = w1.alloc (.cells #[.int .i64 now] 3) := ⟨_, rfl⟩
  obtain ⟨w3, hw3⟩ : ∃ w3, w3 = w2.alloc (.cells #[.func (.func 52) #[P.val] #[]] 135) := ⟨_, rfl⟩
  obtain ⟨w4, hw4⟩ : ∃ w4, w4 = w3.alloc (.cells #[.slice none 0 0] 33) := ⟨_, rfl⟩
  obtain ⟨w5, hw5⟩ : ∃ w5, w5 = w4.alloc (.cells #[.pointer (some ⟨P.pt, 0, none⟩)] 118) := ⟨_, rfl⟩
  unfold LawP.val LawP.av at hw3
  rw [← hw1, ← hw2, ← hw3, ← hw4, ← hw5]
  have hs1 : w1.heap.size = w.heap.size + 1 := by rw [hw1]; simp
  have hs2 : w2.heap.size = w.heap.size + 2 := by rw [hw2, World.size_alloc, hs1]
  have hs3 : w3.heap.size = w.heap.size + 3 := by rw [hw3, World.size_alloc, hs2]
  have hs4 : w4.heap.size = w.heap.size + 4 := by rw [hw4, World.size_alloc, hs3]
  have hs5 : w5.heap.size = w.heap.size + 5 := by rw [hw5, World.size_alloc, hs4]
  have b1 : Boxed w5 (w.heap.size + 1) 3 (.int .i64 now) := by rw [hw5, hw4, hw3, hw2, ← hs1]; exact (((Boxed.new w1 _ _).alloc _).alloc _).alloc _
  have b2 : Boxed w5 (w.heap.size + 2) 135 (.func (.func 52) #[P.val] #[]) := by rw [hw5, hw4, hw3, ← hs2]; exact ((Boxed.new w2 _ _).alloc _).alloc _
  have b3 : Boxed w5 (w.heap.size + 3) 33 (.slice none 0 0) := by rw [hw5, hw4, ← hs3]; exact (Boxed.new w3 _ _).alloc _
  have ba : Boxed w5 (w.heap.size + 4) 118 (.pointer (some ⟨P.pt, 0, none⟩)) := by rw [hw5, ← hs4]; exact Boxed.new w4 _ _
  have hx5 : Ex0 w w5 := by rw [hw5, hw4, hw3, hw2, hw1]; exact ((((Ex.alloc _ _).alloc' _).alloc' _).alloc' _).alloc' _
  have hI0 : AllI w P rs tab hs fs now [] w5 := ⟨b1, b2, ⟨_, b3, World.ownsRow_nil _ _ _ _⟩, hx5.below (Nat.le_refl _) (fun _ h => h.elim)⟩
  clear hw1 hw2 hw3 hw4 hw5 hs1 hs2 hs3 hs4 b1 b2 b3
  clear w1 w2 w3 w4
  refine wpIn_rangeFunc_ownH rfl (by omega) (gf := 124) (lb := #[.pointer (some ⟨w.heap.size + 4, 0, none⟩)]) (by rw [ha]; rfl) trivial (enters_of Tryz.func124 (by kernel_rfl) rfl)
    (mallT_seq (w.heap.size + 4) P.pt P.tv tab _ ba.cell (HT _ hx5).out (by omega)) kct_t kct_b (Below.refl _ _) (fun _ => rfl)
    (AllI w P rs tab hs fs now) (fun _ _ _ => False)
    (ownFrom_kc (w0 := w) (Nat.le_refl _) hx5.size (fun _ _ _ h hx hb => h.kc hx hb) (fun _ _ h => h.bel)) (fun _ _ _ _ _ hs _ _ => hs)
    hI0
    (fun x a' W => a' = { tmps := ((a0.tmps.setIfInBounds 13 (.int .u64 x.1)).setIfInBounds 14 (.int .i64 x.2)).setIfInBounds 7 (.int .u64 x.1), defers := [] })
    (fun x a' s X Y row h hg hrow => h) ?assign ?body ?done ?stop
  case assign =>
    intro l' pre x W K hI hK
    rw [ha] at hK ⊢
    simp only [List.setIfInBounds_toArray, List.set_cons_zero, List.set_cons_succ] at hK
    gi_wp2
    exact hK _ _ (KeepsFrom.refl _ _) (KcT.refl _ _) hI rfl
  case body =>
    rintro l' pre x a' W hl' hr hI hA hlt
    rw [ha] at hA
    simp only [List.setIfInBounds_toArray, List.set_cons_zero, List.set_cons_succ] at hA
    subst hA
    have c1 := hI.b1.cell
    have c2 := hI.b2.cell
    have HII := Lib.hid hI
    obtain ⟨v, hbl, hown⟩ := hI.bl
    have HBL := Lib.hid hbl
    have HO := Lib.hid hown
    have hxw : Ex0 w W := Ex.ofBelow hI.bel
    have HH := HHAS x.1 W hxw
    have hAP := pickP_snoc (fun x => hasP rs tab hs fs x now) pre x
    have hlen := pickP_len (fun x => hasP rs tab hs fs x now) pre
    have hI3 : Hid (w5.heap.size ≤ W.heap.size) := by obtain ⟨r, hr'⟩ := hr; have := (Array.getElem?_eq_some_iff.1 hr').1; show _ ≤ _; omega
    obtain ⟨x1, x2⟩ := x
    dsimp only at HH hAP
    have HAP := Lib.hid hAP
    clear hI hbl hown hr ha hxw hAP
    generalize hasP rs tab hs fs x1 now = q at HH HAP
    unfold LawP.val LawP.av at c2
    cases q with
    | false =>
      gi_wp2_with fail
      refine ⟨trivial, (CallsIn.inRound l' (callsIn_wide.2 HH.out)).mono ?_⟩
      rintro e W2 ⟨rfl, hx2⟩
      have HX2 := Lib.hid hx2
      clear hx2 c1 c2
      gi_wp2
      refine ⟨(others_ex0 HX2.out).from _, KcT.ex0 HX2.out, ⟨boxed_kc HII.out.b1 (Kc.ofEx HX2.out) id, boxed_kc HII.out.b2 (Kc.ofEx HX2.out) id, ⟨v, boxed_kc HBL.out (Kc.ofEx HX2.out) id, ?_⟩, HII.out.bel.trans (HX2.out.below HII.out.bel.size (fun _ h => h.elim))⟩⟩
      rw [HAP.out]
      simpa using own_ex HO.out HX2.out (fun _ _ => id)
    | true =>
      gi_wp2_with fail
      refine ⟨trivial, (CallsIn.inRound l' (callsIn_wide.2 HH.out)).mono ?_⟩
      rintro e W2 ⟨rfl, hx2⟩
      have HX2 := Lib.hid hx2
      have hbl2 := boxed_kc HBL.out (Kc.ofEx hx2) id
      have HBL2 := Lib.hid hbl2
      have HO2 := Lib.hid (own_ex HO.out hx2 (fun _ _ => id))
      have cl := hbl2.cell
      have fl := hbl2.frozen
      have hsz := HII.out.bel.size
      have hsz2 := hx2.size
      have hWs : w.heap.size + 5 ≤ W.heap.size := by have := hI3.out; omega
      generalize pickP (fun x => hasP rs tab hs fs x now) pre = L at HO HO2 HAP hlen
      clear hx2 c1 c2 hbl2
      gi_wp2_with (refine wpListIn_append_own_at _ rfl (.tmp 19) (.tmp 21) 33 rfl (w.heap.size + 5) 31 i0 _ 1 8 Tryz.underlying33 hi0 hz0 hz1 hz2 rfl (by decide) v _ _ rfl (HO2.out.alloc _) ⟨W2.heap.size, 0, none⟩ 1 1 [.int .u64 x1] rfl rfl (World.news_of_block (cs := #[.int .u64 x1]) (t := 31) (fr := (0, 0)) (heap_alloc_new W2 _)) (by simp [Value.oneCell']) (by unfold maxLen; omega) (by omega) (by simp; omega) ?_)
      intro v2 w4 hown4 hgrow _ _
      obtain ⟨g2, cap2, hv2⟩ := ownsRow_succ hown4
      have HO4 := Lib.hid hown4
      subst hv2
      have hlv : ∀ b, v.ownBlock = some b → w.heap.size + 5 ≤ b := fun b hb => (HO2.out.lt b hb).1
      have hx4 : Ex (fun b => v.ownBlock = some b) W w4 := (HX2.out.alloc' _).trans (Ex.ofGrown hgrow) (fun _ _ h => h.elim) (fun _ _ h => h)
      have hb4 : Boxed w4 (w.heap.size + 3) 33 v := boxed_kc (HBL.out) (Kc.ofEx hx4) (fun e => by have := hlv _ e; omega)
      have hko : KeepsOthers W w4 := ((others_ex0 HX2.out).trans (KeepsOthers.alloc _ _)).trans (others_own (HO2.out.alloc _) hgrow)
      have cl4 := hb4.cell
      have fl4 := hb4.frozen
      have HX4 := Lib.hid hx4
      have HB4 := Lib.hid hb4
      have HKO := Lib.hid hko
      have HLV := Lib.hid hlv
      have HNT : Hid (∀ (k : Nat) (cs : Array Value), v.ownBlock = some k → W.heap[k]? ≠ some (Obj.cells cs 199 (0, 0))) := fun k cs hk e => by
        rcases HO.out.2 with ⟨rfl, _⟩ | ⟨g, cap, cur, rfl, _, hgg, _⟩
        · cases hk
        · injection hk with hk
          subst hk
          rw [show g = (⟨g, 0, none⟩ : Addr).block from rfl] at hgg
          have := hgg.symm.trans e
          injection this with this
          injection this with _ h2 _
          exact absurd h2 (by decide)
      clear hown4 hgrow hlv hx4 hb4 hko cl fl
      gi_wp2
      have hx5 : Ex (fun b => v.ownBlock = some b ∨ b = w.heap.size + 3) W (w4.setCell ⟨w.heap.size + 3, 0, none⟩ (.slice (some ⟨g2, 0, none⟩) (L.length + 1) cap2)) := HX4.out.trans (Ex.setCell _ _ _) (fun _ _ h => .inl h) (fun _ _ h => .inr h)
      have hne2 : (Value.slice (some ⟨g2, 0, none⟩) (L.length + 1) cap2).ownBlock ≠ some (w.heap.size + 3) := fun e => by have := (HO4.out.lt _ e).1; omega
      refine ⟨(HKO.out.trans (KeepsOthers.setCell _ _ _)).from _, KcT.ofEx hx5 (fun k cs h => h.elim (HNT.out k cs) (fun h e => ?_)), ⟨boxed_kc HII.out.b1 (Kc.ofEx hx5) (fun h => h.elim (fun h => by have := HLV.out _ h; omega) (fun h => by omega)), boxed_kc HII.out.b2 (Kc.ofEx hx5) (fun h => h.elim (fun h => by have := HLV.out _ h; omega) (fun h => by omega)), ⟨_, HB4.out.set _, ?_⟩, HII.out.bel.trans (hx5.below HII.out.bel.size (fun i h => h.elim (fun h => by have := HLV.out _ h; omega) (fun h => by omega)))⟩⟩
      · subst h
        have := HBL.out.symm.trans e
        injection this with this
        injection this with _ h2 _
        exact absurd h2 (by decide)
      · rw [HAP.out]
        simp only [if_true, List.length_append, List.map_append]
        exact own_ex HO4.out (Ex.setCell _ _ _) (fun b hb e => hne2 (by rw [hb, e]))
  case done =>
    rintro D xs W hD rfl hI hK
    obtain ⟨v, hbl, hown⟩ := hI.bl
    have cl := hbl.cell
    rw [pickP_tab] at hown
    have HO := Lib.hid hown
    have HP := Lib.hid hI.bel
    rw [ha]
    clear hown hI hbl ha
    dsimp only
    go_wp2
    refine ⟨by simp, .inl ⟨_, _, rfl, run_takeDeferred hK, ?_⟩⟩
    refine ⟨_, results_tmp rfl _ _ _, v, rfl, own_base (ownsRow_putObj HO.out _ hK rfl) (fun k hk => by have := (HO.out.lt k hk).1; omega), Ex.ofBelow (HP.out.trans (belowK_b (w := w) (Nat.le_refl _) W D _ _ (Nat.le_trans hx5.size hD) hK rfl rfl))⟩
  case stop =>
    rintro D c pre W _ _ h _
    exact h.elim
end Go.Proofs.YtoglddndicmelaaGreat.Tr
