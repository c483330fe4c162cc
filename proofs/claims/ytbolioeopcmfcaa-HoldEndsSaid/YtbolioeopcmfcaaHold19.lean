/- Layer 37: the law HoldWalks, the walk. -/
import Derived.Test.YtbolioeopcmfcaaHold18
import Derived.Test.YtbolioeopcmfcaaB7
namespace Go.Proofs.Ytbolioeopcmfcaa
open Go.RowKit Go.Proofs.YtbolioeopcmfcaaB Go.Shelf

attribute [local go_sem] Oper.semAt_some

def eqPut (x y : Put) : Bool := x.h.id == y.h.id && x.h.fr == y.h.fr && x.h.to == y.h.to && x.h.til == y.h.til && x.num == y.num && x.min == y.min
theorem eqPut_iff {x y : Put} : eqPut x y = true ↔ x = y := by
  obtain ⟨⟨a1, a2, a3, a4⟩, a5, a6⟩ := x
  obtain ⟨⟨b1, b2, b3, b4⟩, b5, b6⟩ := y
  simp [eqPut, and_assoc]
theorem run_nePut (x y : Put) (w : World) : (binOp .neq 38 x.val y.val).run Try.prog w = .ok (.bool (!eqPut x y)) w := by
  obtain ⟨⟨a1, a2, a3, a4⟩, a5, a6⟩ := x
  obtain ⟨⟨b1, b2, b3, b4⟩, b5, b6⟩ := y
  simp [go_sem, Put.val, eqPut]
  repeat (first | (split <;> simp_all; done) | split)
  all_goals simp_all

theorem One.kc {w0 : World} {p : Nat} {v : Value} {l : List Put} {w w' : World} (h : One w0 p v l w) (hx : Kc0 w w') (hb : Below w0.heap.size w0 w') : One w0 p v l w' :=
  ⟨⟨hx.cells h.A.blk id, own_kc h.A.own hx (fun _ _ => id), h.A.ne⟩, h.ha, h.ge, hb⟩
theorem One.box {w0 : World} {p : Nat} {v : Value} {l : List Put} {w w' : World} {b : Nat} (h : One w0 p v l w) (hx : Ex (· = b) w w') (hb : w0.heap.size ≤ b) (hp : b ≠ p) (hv : ∀ c, v.ownBlock = some c → c ≠ b) : One w0 p v l w' :=
  ⟨h.A.ex hx (fun e => hp e.symm) hv, h.ha, h.ge, h.bel.trans (hx.below h.bel.size (fun i e => by omega))⟩

structure WalkF (w w1 : World) (p B : Nat) (v : Value) (A4 : Option Addr) (cap4 : Nat) (s : List Put) (q kk : Nat) (W : World) : Prop where
  b8 : Boxed W w.heap.size 4 (.bool false)
  b11 : Boxed W B 35 (.slice A4 s.length cap4)
  b12 : Boxed W (B + 1) 3 (.int .i64 (q : Nat))
  b13 : Boxed W (B + 1 + 1) 3 (.int .i64 (kk : Nat))
  sl : Sl W 6 A4 s.length (s.flatMap Put.cells)
  one : One w1 p v s W
theorem WalkF.kc {w w1 : World} {p B : Nat} {v : Value} {A4 : Option Addr} {cap4 : Nat} {s : List Put} {q kk : Nat} {W W' : World} (h : WalkF w w1 p B v A4 cap4 s q kk W) (hx : Kc0 W W') (hb : Below w1.heap.size w1 W') : WalkF w w1 p B v A4 cap4 s q kk W' :=
  ⟨boxed_kc h.b8 hx id, boxed_kc h.b11 hx id, boxed_kc h.b12 hx id, boxed_kc h.b13 hx id, h.sl.kc hx (fun _ _ => id), h.one.kc hx hb⟩
theorem WalkF.ex0 {w w1 : World} {p B : Nat} {v : Value} {A4 : Option Addr} {cap4 : Nat} {s : List Put} {q kk : Nat} {W W' : World} (h : WalkF w w1 p B v A4 cap4 s q kk W) (hx : Ex0 W W') : WalkF w w1 p B v A4 cap4 s q kk W' :=
  h.kc (Kc.ofEx hx) (h.one.bel.trans (hx.below h.one.bel.size (fun _ h => h.elim)))

def walkI (w w1 : World) (p B : Nat) (v : Value) (A4 : Option Addr) (cap4 : Nat) (s : List Put) (q : Nat) (pre : List Put) (W : World) : Prop :=
  WalkF w w1 p B v A4 cap4 s q pre.length W ∧ pre <+: s ∧ pre.length ≤ q
def walkX (w w1 : World) (p B : Nat) (v : Value) (A4 : Option Addr) (cap4 : Nat) (s : List Put) (q : Nat) (c : Code) (pre : List Put) (W : World) : Prop :=
  (c = .exit 2 ∧ WalkF w w1 p B v A4 cap4 s q q W ∧ pre.length = q + 1) ∨ (c = .ret ∧ ¬ pre <+: s)
theorem walkI_kc {w w1 : World} {p B : Nat} {v : Value} {A4 : Option Addr} {cap4 : Nat} {s : List Put} {q : Nat} {pre : List Put} {W W' : World} (h : walkI w w1 p B v A4 cap4 s q pre W) (hx : Kc0 W W') (hb : Below w1.heap.size w1 W') : walkI w w1 p B v A4 cap4 s q pre W' := ⟨h.1.kc hx hb, h.2⟩
theorem walkX_own {w w1 : World} {p B B' : Nat} {v : Value} {A4 : Option Addr} {cap4 : Nat} {s : List Put} {q : Nat} (hB : w1.heap.size ≤ B') (c : Code) : OwnFrom B' (walkX w w1 p B v A4 cap4 s q c) := fun pre W W' row hs hg hr => by
  rcases hs with ⟨h1, h2, h3⟩ | h
  · exact .inl ⟨h1, h2.kc (Kc.ofGrown hg (fun r e => (hr r e).2) _) (h2.one.bel.grown hg (by have := h2.one.bel.size; omega) (fun r e => by have := (hr r e).1; omega)), h3⟩
  · exact .inr h

set_option maxRecDepth 100000 in
set_option maxHeartbeats 8000000 in
theorem walks_walk (A : Option Addr) (n cap : Nat) (l : List DeedA) (many mn now : Int) (hm0 : 0 ≤ many) (hm1 : many ≤ 255) (w : World) (hl : Sl w 7 A n (l.flatMap DeedA.cells)) :
    Calls Try.prog 6 #[.slice A n cap, .int .u8 many, .int .i64 mn, .int .i64 now] w fun e w' => e = .returned (.bool true) ∧ Below w.heap.size w w' := by
  have hm := hl.small
  have hln : l.length = n := by have := hl.len; rw [flat_len DeedA.cells 7 DeedA.len] at this; omega
  refine (callsIn_wide (n := 10)).1 (callsIn_of_wp_marks Try.func6 rfl trivial ?_ rfl)
  simp only [Try.ntmps6, List.size_toArray, List.length_cons, List.length_nil, Nat.reduceAdd, Nat.reduceSub, Array.replicate_succ, Array.replicate_zero, List.push_toArray, List.append_toArray, List.nil_append, List.cons_append]
  refine wpIn_wide.2 ?_
  go_wp2_with fail
  refine (awake_any _).mono ?_
  rintro e w1 ⟨rfl, hx1⟩
  have b8 := boxed_kc (Boxed.new w 4 (.bool false)) (Kc.ofEx hx1) id
  have hb1 : w.heap.size < w1.heap.size := by have := hx1.size; simp at this; omega
  have hx01 := Ex.trans0 (Ex.alloc _ _) hx1
  have hl1 := hl.ex0 hx01
  have HX1 := Lib.hid hx01
  have B8 := Lib.hid b8
  clear hx1 hx01 hl
  by_cases h90 : 60 < n
  · have c8 := b8.cell
    have f8 := b8.frozen
    have l8 := b8.lt
    clear b8
    go_wp2
    have q8 := (B8.out.set (.bool true)).cell
    refine ⟨.bool true, by simp [results, Try.results6, go_sem, q8], rfl, ?_⟩
    exact (HX1.out.below (Nat.le_refl _) (fun _ h => h.elim)).setCell (p := ⟨w.heap.size, 0, none⟩) (Nat.le_refl _) _
  have h90' : (n : Int) ≤ 60 := by omega
  clear b8
  go_wp2_with fail
  refine (new_any w1).mono ?_
  rintro e w2 ⟨rfl, hA2, hx2⟩
  have T0 : One w1 w1.heap.size (.slice none 0 0) [] w2 := ⟨hA2, fun b hb => by simp [Value.ownBlock] at hb, Nat.le_refl _, hx2.below (Nat.le_refl _) (fun _ h => h.elim)⟩
  have hpw : w1.heap.size ≤ w1.heap.size := Nat.le_refl _
  generalize hp : w1.heap.size = p at T0 ⊢
  have HP := Lib.hid hp
  have HB1 := Lib.hid hb1
  clear hx2 hA2 hp hb1 hpw
  go_wp2
  go_loopw [10] (fun i wr => ∃ k : Nat, k ≤ n ∧ i = .int .i64 k ∧ ∃ v, One w1 p v (play (l.take k)) wr) (fun i _ => n - (intOf i).toNat)
  case atStart => exact ⟨0, Nat.zero_le _, rfl, _, T0⟩
  case round =>
    clear T0
    obtain ⟨k, hk, rfl, v, hT⟩ := hrel
    have hok := playOk (l.take k)
    by_cases hlt : k < n
    · obtain ⟨g, off, hkl, rfl, hr⟩ := (hl1.below (by decide) hT.bel).row DeedA.len (by omega) hlt
      have hgl := hl1.lt (by omega) (by decide) g rfl
      have hsn := play_take l k hkl
      generalize play (l.take k) = s at hT hok hsn
      have hC := ActC.of hr
      have HS := Lib.hid hsn
      clear hr hsn
      generalize l[k] = d at hC HS
      obtain ⟨lift, h, num, mi⟩ := d
      obtain ⟨c0, c1, c2, c3, c4, c5, c6⟩ := id hC
      dsimp only at c0 c1 c2 c3 c4 c5 c6
      have hgsz : g < wr.heap.size := Nat.lt_of_lt_of_le hgl hT.bel.size
      have hi0' : (0 : Int) ≤ (k : Int) := Int.natCast_nonneg _
      have hi1 : (k : Int) < (n : Int) := by omega
      have HT := Lib.hid hT
      have HC := Lib.hid hC
      have HOK := Lib.hid hok
      have hgna : ¬ (g = p ∨ v.ownBlock = some g) := by
        rintro (e | e)
        · have := hT.ge; omega
        · have := hT.ha g e; omega
      have HGA := Lib.hid hgna
      clear hT hC hok hgna
      cases lift with
      | true =>
        go_wp2_with fail
        refine (lift_any p v s h.id _ HT.out.A).mono ?_
        rintro e w4 ⟨v', rfl, hv', hA', hx4⟩
        have hT4 := HT.out.add (.inl hv') hA' hx4
        have HT4 := Lib.hid hT4
        clear hv' hA' hx4 hT4
        go_wp2
        go_roundw
        case rel => exact ⟨k + 1, by omega, by go_num, v', by rw [HS.out]; exact HT4.out⟩
        case measure => simp [intOf]; omega
      | false =>
        go_wp2_with fail
        go_region_held3 (fun w' => w'.cell? ⟨g, off + k * 7, none⟩ = some (.bool false) ∧ w'.cell? ⟨g, off + k * 7 + 1, none⟩ = some (.int .u64 h.id) ∧ w'.cell? ⟨g, off + k * 7 + 2, none⟩ = some (.int .i64 h.fr) ∧ w'.cell? ⟨g, off + k * 7 + 3, none⟩ = some (.int .i64 h.to) ∧ w'.cell? ⟨g, off + k * 7 + 4, none⟩ = some (.int .i64 h.til) ∧ w'.cell? ⟨g, off + k * 7 + 5, none⟩ = some (.int .u64 num) ∧ w'.cell? ⟨g, off + k * 7 + 6, none⟩ = some (.int .i64 mi))
          (first | go_keep | exact ⟨hx'.out.cellS c0 HGA.out, hx'.out.cellS c1 HGA.out, hx'.out.cellS c2 HGA.out, hx'.out.cellS c3 HGA.out, hx'.out.cellS c4 HGA.out, hx'.out.cellS c5 HGA.out, hx'.out.cellS c6 HGA.out⟩)
          (first | (go_at_call 11; refine (add_any p v s h num mi _ (HT.out.A.ex0 (Ex.drew _)) (by have := HOK.out.len; omega)).mono ?_; rintro e w4 ⟨v', rfl, hva', hA', hx4⟩; have hx' := Lib.hid hx4; have HA' := Lib.hid hA'; have HVA := Lib.hid hva'; clear hx4 hA' hva'))
        have hT4 := (HT.out.ex0 (Ex.drew wr)).add HVA.out HA'.out hx'.out
        have HT4 := Lib.hid hT4
        clear hT4
        go_wp2
        go_roundw
        case rel => exact ⟨k + 1, by omega, by go_num, v', by rw [HS.out]; exact HT4.out⟩
        case measure => simp [intOf]; omega
    · have hkn : k = n := by omega
      subst hkn
      have htl : l.take k = l := List.take_of_length_le (by omega)
      rw [htl] at hT hok
      generalize play l = s at hT hok
      have hT3 := Lib.hid hT
      have HOK := Lib.hid hok
      have hs64 := hok.len
      clear hT hok htl hl1 hln hm h90 h90' hlt hk
      go_wp2_with fail
      refine (lall_any p v s _ hT3.out.A (by omega)).mono ?_
      rintro e w4 ⟨v4, rfl, ho4, hx4⟩
      obtain ⟨A4, cap4, rfl, hsl4, hbl4, _⟩ := own_sl' ho4
      have hT4 := Lib.hid (hT3.out.ex0 hx4)
      have hap : ∀ b, Bl A4 b → wr.heap.size ≤ b ∧ b < w4.heap.size := fun b hb => ho4.lt b (by rw [hbl4]; exact hb)
      have HAP := Lib.hid hap
      have HSL := Lib.hid hsl4
      clear hap hT3 ho4 hx4 hbl4
      obtain ⟨q, hq⟩ : ∃ q : Nat, many % 4 = (q : Int) := ⟨(many % 4).toNat, by omega⟩
      have hq3 : q ≤ 3 := by omega
      go_wp2_with fail
      rw [hq]
      clear hq
      obtain ⟨w5, hw5⟩ : ∃ w5, w5 = ((w4.alloc (.cells #[.slice A4 s.length cap4] 35)).alloc (.cells #[.int .i64 (q : Int)] 3)).alloc (.cells #[.int .i64 0] 3) := ⟨_, rfl⟩
      rw [← hw5]
      have hs5 : w5.heap.size = w4.heap.size + 1 + 1 + 1 := by rw [hw5]; simp
      have hx45 : Ex0 w4 w5 := by rw [hw5]; exact ((Ex.alloc _ _).alloc' _).alloc' _
      have b11 : Boxed w5 w4.heap.size 35 (.slice A4 s.length cap4) := by rw [hw5]; exact ((Boxed.new w4 _ _).alloc _).alloc _
      have b12 : Boxed w5 (w4.heap.size + 1) 3 (.int .i64 (q : Int)) := by
        have := (Boxed.new (w4.alloc (.cells #[.slice A4 s.length cap4] 35)) 3 (.int .i64 (q : Int))).alloc (.cells #[.int .i64 0] 3)
        rw [World.size_alloc] at this; rw [hw5]; exact this
      have b13 : Boxed w5 (w4.heap.size + 1 + 1) 3 (.int .i64 ((0 : Nat) : Int)) := by
        have := Boxed.new ((w4.alloc (.cells #[.slice A4 s.length cap4] 35)).alloc (.cells #[.int .i64 (q : Int)] 3)) 3 (.int .i64 0)
        rw [World.size_alloc, World.size_alloc] at this; rw [hw5]; exact this
      refine ((callsIn_wide (n := 9)).1 (all_any _ _)).mono ?_
      rintro e w' ⟨rfl, rfl⟩
      obtain ⟨w6, hw6⟩ : ∃ w6, w6 = w5.alloc (.cells #[.pointer (some ⟨p, 0, none⟩)] 25) := ⟨_, rfl⟩
      rw [← hw6, hs5]
      have hs6 : w6.heap.size = w4.heap.size + 1 + 1 + 1 + 1 := by rw [hw6, World.size_alloc, hs5]
      have bA : Boxed w6 (w4.heap.size + 1 + 1 + 1) 25 (.pointer (some ⟨p, 0, none⟩)) := by rw [hw6, ← hs5]; exact Boxed.new w5 _ _
      have hx56 : Ex0 w5 w6 := by rw [hw6]; exact Ex.alloc _ _
      have hT6 := (hT4.out.ex0 hx45).ex0 hx56
      have hb8 : Boxed w6 w.heap.size 4 (.bool false) := (hT6.bel.block _ HB1.out).trans B8.out
      have hF6 : WalkF w w1 p w4.heap.size v A4 cap4 s q 0 w6 := ⟨hb8, boxed_kc b11 (Kc.ofEx hx56) id, boxed_kc b12 (Kc.ofEx hx56) id, boxed_kc b13 (Kc.ofEx hx56) id, (HSL.out.ex0 hx45).ex0 hx56, hT6⟩
      have hpA := hT6.A.lt
      have hcp := hT6.A.cell
      obtain ⟨Av, capv, hvv, hslv, hblv⟩ := own_sl hT6.A.own
      have hAv : ∀ b, Bl Av b → b < w4.heap.size := fun b hb => by
        have := (hT4.out.A.own.lt b (by rw [hblv]; exact hb)).2; exact this
      have hpw4 := hT4.out.A.lt
      have hvw : ∀ c, v.ownBlock = some c → c < w4.heap.size := fun c hc => (hT4.out.A.own.lt c hc).2
      have hw14 : w1.heap.size ≤ w4.heap.size := hT4.out.bel.size
      rw [hvv] at hcp
      have HF6 := Lib.hid hF6
      have HVW := Lib.hid hvw
      have HAV := Lib.hid hAv
      clear hw5 hw6 hx45 hx56 b11 b12 b13 hT6 hb8 hF6 hvw hAv hblv hs5 HSL hvv
      clear w5
      go_wp2_with fail
      refine (wpIn_wide (n := 10)).1 ?_
      refine wpIn_named fun a0 ha => ?_
      refine wpIn_cut_block (fun a' W => ∃ D, w4.heap.size + 1 + 1 + 1 + 1 ≤ D ∧ a' = { a0 with defers := { target := .collected D, args := #[] } :: a0.defers } ∧ W.heap[D]? = some (.deferred (some [])) ∧ WalkF w w1 p w4.heap.size v A4 cap4 s q (min q s.length) W) ?first ?rest
      case first =>
        refine wpIn_rangeFunc_ownH rfl (by omega) (gf := 29) (lb := #[.pointer (some ⟨w4.heap.size + 1 + 1 + 1, 0, none⟩)]) (by rw [ha]; rfl) trivial (enters_of Try.func29 (by kernel_rfl) rfl)
          (all_seq (w4.heap.size + 1 + 1 + 1) w4.heap.size p Av capv s _ bA.cell hcp hslv HAV.out (by omega)) belowK_t (belowK_b (by omega)) (Below.refl _ _) (fun _ => rfl)
          (walkI w w1 p w4.heap.size v A4 cap4 s q) (walkX w w1 p w4.heap.size v A4 cap4 s q)
          (ownFrom_kc (n0 := w1.heap.size) (w0 := w1) (Nat.le_refl _) (by omega) (fun _ _ _ h hx hb => walkI_kc h hx hb) (fun _ _ h => h.1.one.bel)) (fun c => walkX_own (by omega) c)
          ⟨HF6.out, List.nil_prefix, Nat.zero_le _⟩
          (fun x a' W => ∃ b, w4.heap.size + 1 + 1 < b ∧ a' = { tmps := (a0.tmps.setIfInBounds 68 x.val).setIfInBounds 14 (.pointer (some ⟨b, 0, none⟩)), defers := [] } ∧ W.heap[b]? = some (.cells #[.int .u64 x.h.id, .int .i64 x.h.fr, .int .i64 x.h.to, .int .i64 x.h.til, .int .u64 x.num, .int .i64 x.min] 38 (0, 0)))
          (fun x a' s X Y row h hg hrow => by obtain ⟨b, hlt, e, hb⟩ := h; exact ⟨b, hlt, e, (Kc.ofGrown hg (fun r e => (hrow r e).2) (fun _ => False)).cells hb id⟩) ?assign ?body ?done ?stop
        case assign =>
          intro l' pre x W K hI hK
          rw [ha] at hK ⊢
          obtain ⟨⟨a1, a2, a3, a4⟩, a5, a6⟩ := x
          unfold Put.val at hK ⊢
          simp only [List.setIfInBounds_toArray, List.set_cons_zero, List.set_cons_succ] at hK
          have hWs := hI.1.b13.lt
          gi_wp2
          exact hK _ _ ((KeepsOthers.alloc W _).from _) ((Below.refl _ W).alloc (by omega) _) (walkI_kc hI (Kc.ofEx (Ex.alloc _ _)) (hI.1.one.bel.alloc hI.1.one.bel.size _)) ⟨_, hWs, rfl, heap_alloc_new _ _⟩
        case body =>
          rintro l' pre x a' W hl' hr ⟨hF, hpre, hpq⟩ ⟨b, hbl, hA, hb⟩ hlt
          rw [ha] at hA
          obtain ⟨⟨a1, a2, a3, a4⟩, a5, a6⟩ := x
          unfold Put.val at hA
          simp only [List.setIfInBounds_toArray, List.set_cons_zero, List.set_cons_succ] at hA
          subst hA
          dsimp only at hb
          have ck := hF.b13.cell
          have fk := hF.b13.frozen
          have lk := hF.b13.lt
          have cq := hF.b12.cell
          have cl := hF.b11.cell
          have c8 := hF.b8.cell
          have f8 := hF.b8.frozen
          have l8 := hF.b8.lt
          have HFF := Lib.hid hF
          have HPRE := Lib.hid hpre
          generalize hkk : pre.length = k at *
          have HKK := Lib.hid hkk
          clear hF hpre hkk hr ha
          by_cases hkq : k = q
          · have hqq : ((k : Int) == (q : Int)) = true := by rw [hkq]; simp
            have HQ := Lib.hid hkq
            have hX : walkX w w1 p w4.heap.size v A4 cap4 s q (.exit 2) (pre ++ [⟨⟨a1, a2, a3, a4⟩, a5, a6⟩]) W := .inl ⟨rfl, by have := HFF.out; rw [HQ.out] at this; exact this, by rw [List.length_append, List.length_singleton, HKK.out, HQ.out]⟩
            have HX := Lib.hid hX
            clear hkq hX hb
            gi_wp2
            exact ⟨KeepsFrom.refl _ _, HX.out⟩
          · have hqq : ((k : Int) == (q : Int)) = false := by rw [beq_eq_false_iff_ne]; omega
            obtain ⟨g, off, hl1, rfl, hr1⟩ := HFF.out.sl.row Put.len (by omega) hlt
            have hnx : ∀ y, pre ++ [y] <+: s ↔ y = s[k] := fun y => by
              have hpt := List.prefix_iff_eq_take.1 HPRE.out
              have hkl := HKK.out
              rw [hkl] at hpt
              rw [List.prefix_iff_eq_take, List.length_append, List.length_singleton, hkl, List.take_succ_eq_append_getElem hl1, ← hpt]
              simp
            have HNX := Lib.hid hnx
            have hk0 : (0 : Int) ≤ (k : Int) := Int.natCast_nonneg _
            have hk1 : (k : Int) < (s.length : Int) := by omega
            have hk2 : decide (s.length ≤ k) = false := by simpa using hlt
            clear hnx
            generalize s[k] = y at hr1 HNX
            obtain ⟨⟨d1, d2, d3, d4⟩, d5, d6⟩ := y
            obtain ⟨e1, e2, e3, e4, e5, e6⟩ := PutC.of hr1
            dsimp only at e1 e2 e3 e4 e5 e6
            have k0 : W.cell? ⟨b, 0, none⟩ = some (.int .u64 a1) := by rw [cell_of_row W b 0 _ _ _ hb]; rfl
            have k1 : W.cell? ⟨b, 1, none⟩ = some (.int .i64 a2) := by rw [cell_of_row W b 1 _ _ _ hb]; rfl
            have k2 : W.cell? ⟨b, 2, none⟩ = some (.int .i64 a3) := by rw [cell_of_row W b 2 _ _ _ hb]; rfl
            have k3 : W.cell? ⟨b, 3, none⟩ = some (.int .i64 a4) := by rw [cell_of_row W b 3 _ _ _ hb]; rfl
            have k4 : W.cell? ⟨b, 4, none⟩ = some (.int .u64 a5) := by rw [cell_of_row W b 4 _ _ _ hb]; rfl
            have k5 : W.cell? ⟨b, 5, none⟩ = some (.int .i64 a6) := by rw [cell_of_row W b 5 _ _ _ hb]; rfl
            have hrun := run_nePut ⟨⟨a1, a2, a3, a4⟩, a5, a6⟩ ⟨⟨d1, d2, d3, d4⟩, d5, d6⟩
            dsimp only [Put.val] at hrun
            have hS0 : (fun w' => w'.cell? ⟨w4.heap.size, 0, none⟩ = some (.slice (some ⟨g, off, none⟩) s.length cap4) ∧ w'.cell? ⟨w4.heap.size + 1 + 1, 0, none⟩ = some (.int .i64 (k : Int)) ∧ w'.cell? ⟨b, 0, none⟩ = some (.int .u64 a1) ∧ w'.cell? ⟨b, 1, none⟩ = some (.int .i64 a2) ∧ w'.cell? ⟨b, 2, none⟩ = some (.int .i64 a3) ∧ w'.cell? ⟨b, 3, none⟩ = some (.int .i64 a4) ∧ w'.cell? ⟨b, 4, none⟩ = some (.int .u64 a5) ∧ w'.cell? ⟨b, 5, none⟩ = some (.int .i64 a6) ∧ w'.cell? ⟨g, off + k * 6, none⟩ = some (.int .u64 d1) ∧ w'.cell? ⟨g, off + k * 6 + 1, none⟩ = some (.int .i64 d2) ∧ w'.cell? ⟨g, off + k * 6 + 2, none⟩ = some (.int .i64 d3) ∧ w'.cell? ⟨g, off + k * 6 + 3, none⟩ = some (.int .i64 d4) ∧ w'.cell? ⟨g, off + k * 6 + 4, none⟩ = some (.int .u64 d5) ∧ w'.cell? ⟨g, off + k * 6 + 5, none⟩ = some (.int .i64 d6)) W.drew := ⟨cl, ck, k0, k1, k2, k3, k4, k5, e1, e2, e3, e4, e5, e6⟩
            clear hr1 hb
            have hit := eqPut_iff (x := ⟨⟨a1, a2, a3, a4⟩, a5, a6⟩) (y := ⟨⟨d1, d2, d3, d4⟩, d5, d6⟩)
            have HIT := Lib.hid hit
            clear hit
            cases heq : eqPut ⟨⟨a1, a2, a3, a4⟩, a5, a6⟩ ⟨⟨d1, d2, d3, d4⟩, d5, d6⟩
            · have HN := Lib.hid (show ¬ pre ++ [⟨⟨a1, a2, a3, a4⟩, a5, a6⟩] <+: s from fun h => by
                have := HIT.out.2 ((HNX.out _).1 h); rw [this] at heq; cases heq)
              rw [heq] at hrun
              simp only [Bool.not_false] at hrun
              clear heq
              gi_wp2_with fail
              refine wpIn_region_round (fun w' => w'.cell? ⟨w4.heap.size, 0, none⟩ = some (.slice (some ⟨g, off, none⟩) s.length cap4) ∧ w'.cell? ⟨w4.heap.size + 1 + 1, 0, none⟩ = some (.int .i64 (k : Int)) ∧ w'.cell? ⟨b, 0, none⟩ = some (.int .u64 a1) ∧ w'.cell? ⟨b, 1, none⟩ = some (.int .i64 a2) ∧ w'.cell? ⟨b, 2, none⟩ = some (.int .i64 a3) ∧ w'.cell? ⟨b, 3, none⟩ = some (.int .i64 a4) ∧ w'.cell? ⟨b, 4, none⟩ = some (.int .u64 a5) ∧ w'.cell? ⟨b, 5, none⟩ = some (.int .i64 a6) ∧ w'.cell? ⟨g, off + k * 6, none⟩ = some (.int .u64 d1) ∧ w'.cell? ⟨g, off + k * 6 + 1, none⟩ = some (.int .i64 d2) ∧ w'.cell? ⟨g, off + k * 6 + 2, none⟩ = some (.int .i64 d3) ∧ w'.cell? ⟨g, off + k * 6 + 3, none⟩ = some (.int .i64 d4) ∧ w'.cell? ⟨g, off + k * 6 + 4, none⟩ = some (.int .u64 d5) ∧ w'.cell? ⟨g, off + k * 6 + 5, none⟩ = some (.int .i64 d6)) (by kernel_rfl) (by kernel_rfl) (by rintro ⟨_, _, h⟩; exact h) ?_
              simp only [List.length_cons, List.length_nil]
              refine' wpAnyH_do 0 rfl (by kernel_rfl) (fun _ _ _ _ h => h) (by rfl) (by assumption) ⟨_, fun w' hS => ?_, ?_⟩
              rotate_left
              · ((try dsimp only at hS); go_split_ands; go_simp; try (with_reducible rfl))
              simp only [Act.put, List.setIfInBounds_toArray, List.set_cons_zero, List.set_cons_succ]
              refine' wpAnyH_do 1 rfl (by kernel_rfl) (fun _ _ _ _ h => h) (by rfl) (by assumption) ⟨_, fun w' hS => ?_, ?_⟩
              rotate_left
              · ((try dsimp only at hS); go_split_ands; go_simp; try (with_reducible rfl))
              simp only [Act.put, List.setIfInBounds_toArray, List.set_cons_zero, List.set_cons_succ]
              refine' wpAnyH_do 2 rfl (by kernel_rfl) (fun _ _ _ _ h => h) (by rfl) (by assumption) ⟨_, fun w' hS => ?_, ?_⟩
              rotate_left
              · ((try dsimp only at hS); go_split_ands; go_simp; try (with_reducible rfl))
              simp only [Act.put, List.setIfInBounds_toArray, List.set_cons_zero, List.set_cons_succ]
              refine' wpAnyH_do 3 rfl (by kernel_rfl) (fun _ _ _ _ h => h) (by rfl) (by assumption) ⟨_, fun w' hS => ?_, ?_⟩
              rotate_left
              · ((try dsimp only at hS); go_split_ands; go_simp; try (with_reducible rfl))
              simp only [Act.put, List.setIfInBounds_toArray, List.set_cons_zero, List.set_cons_succ]
              refine' wpAnyH_do 4 rfl (by kernel_rfl) (fun _ _ _ _ h => h) (by rfl) (by assumption) ⟨_, fun w' hS => ?_, ?_⟩
              rotate_left
              · ((try dsimp only at hS); go_split_ands; go_simp; try (with_reducible rfl))
              simp only [Act.put, List.setIfInBounds_toArray, List.set_cons_zero, List.set_cons_succ]
              refine' wpAnyH_do 5 rfl (by kernel_rfl) (fun _ _ _ _ h => h) (by rfl) (by assumption) ⟨_, fun w' hS => ?_, ?_⟩
              rotate_left
              · ((try dsimp only at hS); go_split_ands; go_simp; try (with_reducible rfl))
              simp only [Act.put, List.setIfInBounds_toArray, List.set_cons_zero, List.set_cons_succ]
              refine' wpAnyH_do 6 rfl (by kernel_rfl) (fun _ _ _ _ h => h) (by rfl) (by assumption) ⟨_, fun w' hS => ?_, ?_⟩
              rotate_left
              · ((try dsimp only at hS); go_split_ands; go_simp; try (with_reducible rfl))
              simp only [Act.put, List.setIfInBounds_toArray, List.set_cons_zero, List.set_cons_succ]
              refine' wpAnyH_do 7 rfl (by kernel_rfl) (fun _ _ _ _ h => h) (by rfl) (by assumption) ⟨_, fun w' hS => ?_, ?_⟩
              rotate_left
              · ((try dsimp only at hS); go_split_ands; go_simp; try (with_reducible rfl))
              simp only [Act.put, List.setIfInBounds_toArray, List.set_cons_zero, List.set_cons_succ]
              refine' wpAnyH_do 8 rfl (by kernel_rfl) (fun _ _ _ _ h => h) (by rfl) (by assumption) ⟨_, fun w' hS => ?_, ?_⟩
              rotate_left
              · ((try dsimp only at hS); go_split_ands; go_simp; try (with_reducible rfl))
              simp only [Act.put, List.setIfInBounds_toArray, List.set_cons_zero, List.set_cons_succ]
              refine' wpAnyH_do 9 rfl (by kernel_rfl) (fun _ _ _ _ h => h) (by rfl) (by assumption) ⟨_, fun w' hS => ?_, ?_⟩
              rotate_left
              · ((try dsimp only at hS); go_split_ands; go_simp; try (with_reducible rfl))
              simp only [Act.put, List.setIfInBounds_toArray, List.set_cons_zero, List.set_cons_succ]
              refine' wpAnyH_do 10 rfl (by kernel_rfl) (fun _ _ _ _ h => h) (by rfl) (by assumption) ⟨_, fun w' hS => ?_, ?_⟩
              rotate_left
              · ((try dsimp only at hS); go_split_ands; go_simp; try (with_reducible rfl))
              simp only [Act.put, List.setIfInBounds_toArray, List.set_cons_zero, List.set_cons_succ]
              refine' wpAnyH_do 11 rfl (by kernel_rfl) (fun _ _ _ _ h => h) (by rfl) (by assumption) ⟨_, fun w' hS => ?_, ?_⟩
              rotate_left
              · ((try dsimp only at hS); go_split_ands; go_simp; try (with_reducible rfl))
              simp only [Act.put, List.setIfInBounds_toArray, List.set_cons_zero, List.set_cons_succ]
              refine wpAnyH_done (by kernel_rfl) ?_ _
              gi_wp2
              exact ⟨keepsFrom_ex ((Ex.setCell W ⟨w.heap.size, 0, none⟩ _).drew') (fun i e => by have := HB1.out; dsimp only at e; omega), .inr ⟨rfl, HN.out⟩⟩
            · have HQ := Lib.hid ((HNX.out _).2 (HIT.out.1 heq))
              rw [heq] at hrun
              simp only [Bool.not_true] at hrun
              clear heq
              gi_wp2_with fail
              refine wpIn_region_round (fun w' => w'.cell? ⟨w4.heap.size, 0, none⟩ = some (.slice (some ⟨g, off, none⟩) s.length cap4) ∧ w'.cell? ⟨w4.heap.size + 1 + 1, 0, none⟩ = some (.int .i64 (k : Int)) ∧ w'.cell? ⟨b, 0, none⟩ = some (.int .u64 a1) ∧ w'.cell? ⟨b, 1, none⟩ = some (.int .i64 a2) ∧ w'.cell? ⟨b, 2, none⟩ = some (.int .i64 a3) ∧ w'.cell? ⟨b, 3, none⟩ = some (.int .i64 a4) ∧ w'.cell? ⟨b, 4, none⟩ = some (.int .u64 a5) ∧ w'.cell? ⟨b, 5, none⟩ = some (.int .i64 a6) ∧ w'.cell? ⟨g, off + k * 6, none⟩ = some (.int .u64 d1) ∧ w'.cell? ⟨g, off + k * 6 + 1, none⟩ = some (.int .i64 d2) ∧ w'.cell? ⟨g, off + k * 6 + 2, none⟩ = some (.int .i64 d3) ∧ w'.cell? ⟨g, off + k * 6 + 3, none⟩ = some (.int .i64 d4) ∧ w'.cell? ⟨g, off + k * 6 + 4, none⟩ = some (.int .u64 d5) ∧ w'.cell? ⟨g, off + k * 6 + 5, none⟩ = some (.int .i64 d6)) (by kernel_rfl) (by kernel_rfl) (by rintro ⟨_, _, h⟩; exact h) ?_
              simp only [List.length_cons, List.length_nil]
              refine' wpAnyH_do 0 rfl (by kernel_rfl) (fun _ _ _ _ h => h) (by rfl) (by assumption) ⟨_, fun w' hS => ?_, ?_⟩
              rotate_left
              · ((try dsimp only at hS); go_split_ands; go_simp; try (with_reducible rfl))
              simp only [Act.put, List.setIfInBounds_toArray, List.set_cons_zero, List.set_cons_succ]
              refine' wpAnyH_do 1 rfl (by kernel_rfl) (fun _ _ _ _ h => h) (by rfl) (by assumption) ⟨_, fun w' hS => ?_, ?_⟩
              rotate_left
              · ((try dsimp only at hS); go_split_ands; go_simp; try (with_reducible rfl))
              simp only [Act.put, List.setIfInBounds_toArray, List.set_cons_zero, List.set_cons_succ]
              refine' wpAnyH_do 2 rfl (by kernel_rfl) (fun _ _ _ _ h => h) (by rfl) (by assumption) ⟨_, fun w' hS => ?_, ?_⟩
              rotate_left
              · ((try dsimp only at hS); go_split_ands; go_simp; try (with_reducible rfl))
              simp only [Act.put, List.setIfInBounds_toArray, List.set_cons_zero, List.set_cons_succ]
              refine' wpAnyH_do 3 rfl (by kernel_rfl) (fun _ _ _ _ h => h) (by rfl) (by assumption) ⟨_, fun w' hS => ?_, ?_⟩
              rotate_left
              · ((try dsimp only at hS); go_split_ands; go_simp; try (with_reducible rfl))
              simp only [Act.put, List.setIfInBounds_toArray, List.set_cons_zero, List.set_cons_succ]
              refine' wpAnyH_do 4 rfl (by kernel_rfl) (fun _ _ _ _ h => h) (by rfl) (by assumption) ⟨_, fun w' hS => ?_, ?_⟩
              rotate_left
              · ((try dsimp only at hS); go_split_ands; go_simp; try (with_reducible rfl))
              simp only [Act.put, List.setIfInBounds_toArray, List.set_cons_zero, List.set_cons_succ]
              refine' wpAnyH_do 5 rfl (by kernel_rfl) (fun _ _ _ _ h => h) (by rfl) (by assumption) ⟨_, fun w' hS => ?_, ?_⟩
              rotate_left
              · ((try dsimp only at hS); go_split_ands; go_simp; try (with_reducible rfl))
              simp only [Act.put, List.setIfInBounds_toArray, List.set_cons_zero, List.set_cons_succ]
              refine' wpAnyH_do 6 rfl (by kernel_rfl) (fun _ _ _ _ h => h) (by rfl) (by assumption) ⟨_, fun w' hS => ?_, ?_⟩
              rotate_left
              · ((try dsimp only at hS); go_split_ands; go_simp; try (with_reducible rfl))
              simp only [Act.put, List.setIfInBounds_toArray, List.set_cons_zero, List.set_cons_succ]
              refine' wpAnyH_do 7 rfl (by kernel_rfl) (fun _ _ _ _ h => h) (by rfl) (by assumption) ⟨_, fun w' hS => ?_, ?_⟩
              rotate_left
              · ((try dsimp only at hS); go_split_ands; go_simp; try (with_reducible rfl))
              simp only [Act.put, List.setIfInBounds_toArray, List.set_cons_zero, List.set_cons_succ]
              refine' wpAnyH_do 8 rfl (by kernel_rfl) (fun _ _ _ _ h => h) (by rfl) (by assumption) ⟨_, fun w' hS => ?_, ?_⟩
              rotate_left
              · ((try dsimp only at hS); go_split_ands; go_simp; try (with_reducible rfl))
              simp only [Act.put, List.setIfInBounds_toArray, List.set_cons_zero, List.set_cons_succ]
              refine' wpAnyH_do 9 rfl (by kernel_rfl) (fun _ _ _ _ h => h) (by rfl) (by assumption) ⟨_, fun w' hS => ?_, ?_⟩
              rotate_left
              · ((try dsimp only at hS); go_split_ands; go_simp; try (with_reducible rfl))
              simp only [Act.put, List.setIfInBounds_toArray, List.set_cons_zero, List.set_cons_succ]
              refine' wpAnyH_do 10 rfl (by kernel_rfl) (fun _ _ _ _ h => h) (by rfl) (by assumption) ⟨_, fun w' hS => ?_, ?_⟩
              rotate_left
              · ((try dsimp only at hS); go_split_ands; go_simp; try (with_reducible rfl))
              simp only [Act.put, List.setIfInBounds_toArray, List.set_cons_zero, List.set_cons_succ]
              refine' wpAnyH_do 11 rfl (by kernel_rfl) (fun _ _ _ _ h => h) (by rfl) (by assumption) ⟨_, fun w' hS => ?_, ?_⟩
              rotate_left
              · ((try dsimp only at hS); go_split_ands; go_simp; try (with_reducible rfl))
              simp only [Act.put, List.setIfInBounds_toArray, List.set_cons_zero, List.set_cons_succ]
              refine wpAnyH_done (by kernel_rfl) ?_ _
              clear hS0 k0 k1 k2 k3 k4 k5 e1 e2 e3 e4 e5 e6 hrun cl c8 f8 l8
              gi_wp2
              have hxs : Ex (· = w4.heap.size + 1 + 1) W ((W.setCell ⟨w4.heap.size + 1 + 1, 0, none⟩ (.int .i64 ((k : Int) + 1))).drew) := (Ex.setCell W ⟨w4.heap.size + 1 + 1, 0, none⟩ _).drew'
              have hF := HFF.out
              have hkx := Kc.ofEx hxs
              refine ⟨keepsFrom_ex hxs (fun i e => by omega), hxs.below (by have := hF.b13.lt; omega) (fun i e => by omega), ⟨?_, ?_, boxed_kc hF.b12 hkx (by omega), ?_, hF.sl.kc hkx (fun b hb => by have := (HAP.out b hb).2; omega), hF.one.box hxs (by omega) (by omega) (fun c hc => by have := HVW.out c hc; omega)⟩, HQ.out, ?_⟩
              · exact boxed_kc hF.b8 hkx (by have := HB1.out; omega)
              · exact boxed_kc hF.b11 hkx (by omega)
              · have := hF.b13.set (.int .i64 ((k : Int) + 1))
                rw [List.length_append, List.length_singleton, HKK.out]
                exact this
              · rw [List.length_append, List.length_singleton, HKK.out]; omega
        case done =>
          rintro D ys W hD rfl ⟨hF, hpre, hpq⟩ hK
          rw [Nat.min_eq_right hpq]
          exact ⟨D, by omega, rfl, hK, hF⟩
        case stop =>
          rintro D c pre W hD hp (⟨rfl, hF, hlen⟩ | ⟨rfl, hn⟩) hK
          · have : pre.length ≤ s.length := hp.length_le
            have hmn : min q s.length = q := Nat.min_eq_left (by omega)
            have HMN := Lib.hid hmn
            clear hmn
            gi_wp2
            exact ⟨D, by omega, rfl, hK, by rw [HMN.out]; exact hF⟩
          · exact absurd hp hn
      case rest =>
        rintro a' W ⟨D, hD, rfl, hK, hF⟩
        have hmn : ((min q s.length : Nat) : Int) = min2 (q : Int) (s.length : Int) := by unfold min2; split <;> omega
        obtain ⟨kk, hkk⟩ : ∃ kk : Nat, min q s.length = kk := ⟨_, rfl⟩
        rw [hkk] at hF hmn
        have hne : ((kk : Int) != min2 (q : Int) (s.length : Int)) = false := by rw [hmn]; simp
        have hss : ((s.length : Int) != (s.length : Int)) = false := by simp
        have hDW : D < W.heap.size := (Array.getElem?_eq_some_iff.1 hK).1
        have c11 := hF.b11.cell
        have c12 := hF.b12.cell
        have c13 := hF.b13.cell
        have HF := Lib.hid hF
        have HK := Lib.hid hK
        have hpt := HF6.out.one.A.lt
        subst ha
        clear hmn hkk hF hK bA hcp hslv HF6 HAV
        go_wp2
        go_region_held3 (fun w' => w'.cell? ⟨w4.heap.size, 0, none⟩ = some (.slice A4 s.length cap4) ∧ w'.cell? ⟨w4.heap.size + 1, 0, none⟩ = some (.int .i64 (q : Int)) ∧ w'.cell? ⟨w4.heap.size + 1 + 1, 0, none⟩ = some (.int .i64 (kk : Int)))
          (first | go_keep | exact ⟨hx'.out.cellS c11 id, hx'.out.cellS c12 id, hx'.out.cellS c13 id⟩)
          (first | (go_at_call 17; refine (min2_any (q : Int) (s.length : Int) _).mono ?_; rintro e _ ⟨rfl, rfl⟩) | (go_at_call 15; refine (lall_any p v s _ (HF.out.one.A.ex0 (Ex.drew _)) (by omega)).mono ?_; rintro e w7 ⟨v7, rfl, ho7, hx7⟩; obtain ⟨A7, cap7, rfl, _, _, _⟩ := own_sl' ho7; have hx' := Lib.hid hx7; clear hx7 ho7) | (go_at_call 13; refine (len_any p v s _ ((HF.out.one.A.ex0 (Ex.drew _)).ex0 hx'.out)).mono ?_; rintro e w8 ⟨rfl, rfl⟩))
        have hx08 : Ex0 W w8 := (Ex.drew W).trans0 hx'.out
        have HF8 := Lib.hid (HF.out.ex0 hx08)
        have HK8 := Lib.hid ((hx08.block D hDW id).trans HK.out)
        have hDW8 : D < w8.heap.size := Nat.lt_of_lt_of_le hDW hx08.size
        clear hx' hx08 c11 c12 c13 hne hss hDW HF HK
        go_wp2_with fail
        refine (over_any p v s mn now _ HF8.out.one.A (by omega)).mono ?_
        rintro e w9 ⟨v9, rfl, ho9, hx9⟩
        obtain ⟨A9, cap9, rfl, hsl9, _, _⟩ := own_sl' ho9
        have hov : (overL mn now s).length ≤ 64 := Nat.le_trans (List.length_filter_le _ _) hs64
        have hsub : ((overL mn now s).drop 0).Sublist (s.drop 0) := by rw [List.drop_zero, List.drop_zero]; exact List.filter_sublist
        have HF9 := Lib.hid (HF8.out.ex0 hx9)
        have HK9 := Lib.hid ((hx9.block D hDW8 id).trans HK8.out)
        have hDW9 : D < w9.heap.size := Nat.lt_of_lt_of_le hDW8 hx9.size
        have HSL9 := Lib.hid hsl9
        have HSUB := Lib.hid hsub
        clear ho9 hx9 hsl9 hsub HF8 HK8 hDW8
        generalize overL mn now s = ov at *
        go_wp2
        go_loopw [15, 17, 112] (fun at_ _ j wr => ∃ a j' : Nat, j' ≤ ov.length ∧ a ≤ s.length ∧ at_ = .int .i64 a ∧ j = .int .i64 j' ∧ (ov.drop j').Sublist (s.drop a) ∧ Ex0 w9 wr) (fun _ _ j _ => ov.length - (intOf j).toNat)
        case atStart => exact ⟨0, 0, Nat.zero_le _, Nat.zero_le _, rfl, rfl, HSUB.out, Ex.refl _ _⟩
        case round =>
          obtain ⟨a, j, hj, ha, rfl, rfl, hsb, hx⟩ := hrel
          have HSB := Lib.hid hsb
          clear hsb
          by_cases hlt : j < ov.length
          · obtain ⟨g, off, hl1, rfl, hr1⟩ := (HSL9.out.ex0 hx).row Put.len (by omega) hlt
            have hdr : ov.drop j = ov[j] :: ov.drop (j + 1) := List.drop_eq_getElem_cons hl1
            have HDR := Lib.hid hdr
            clear hdr
            generalize ov[j] = y at hr1 HDR
            obtain ⟨⟨a1, a2, a3, a4⟩, a5, a6⟩ := y
            unfold Put.cells at hr1
            have hj0 : (0 : Int) ≤ (j : Int) := Int.natCast_nonneg _
            have hj1 : (j : Int) < (ov.length : Int) := by omega
            go_wp2_with (first | (refine wpList_load_at rfl _ _ rfl _ rfl _ _ hr1 Try.underlying38 rfl (by kernel_rfl) ?_))
            obtain ⟨wo, hwo⟩ : ∃ wo, wo = wr.alloc (.cells #[.int .u64 a1, .int .i64 a2, .int .i64 a3, .int .i64 a4, .int .u64 a5, .int .i64 a6] 38) := ⟨_, rfl⟩
            rw [← hwo]
            have hb : wo.heap[wr.heap.size]? = some (.cells #[.int .u64 a1, .int .i64 a2, .int .i64 a3, .int .i64 a4, .int .u64 a5, .int .i64 a6] 38 (0, 0)) := by rw [hwo]; exact heap_alloc_new _ _
            have hxo : Ex0 w9 wo := by rw [hwo]; exact hx.alloc' _
            have k0 : wo.cell? ⟨wr.heap.size, 0, none⟩ = some (.int .u64 a1) := by rw [cell_of_row wo wr.heap.size 0 _ _ _ hb]; rfl
            have k1 : wo.cell? ⟨wr.heap.size, 1, none⟩ = some (.int .i64 a2) := by rw [cell_of_row wo wr.heap.size 1 _ _ _ hb]; rfl
            have k2 : wo.cell? ⟨wr.heap.size, 2, none⟩ = some (.int .i64 a3) := by rw [cell_of_row wo wr.heap.size 2 _ _ _ hb]; rfl
            have k3 : wo.cell? ⟨wr.heap.size, 3, none⟩ = some (.int .i64 a4) := by rw [cell_of_row wo wr.heap.size 3 _ _ _ hb]; rfl
            have k4 : wo.cell? ⟨wr.heap.size, 4, none⟩ = some (.int .u64 a5) := by rw [cell_of_row wo wr.heap.size 4 _ _ _ hb]; rfl
            have k5 : wo.cell? ⟨wr.heap.size, 5, none⟩ = some (.int .i64 a6) := by rw [cell_of_row wo wr.heap.size 5 _ _ _ hb]; rfl
            have hc11 := (HF9.out.ex0 hxo).b11.cell
            clear hr1 hx hwo hb
            generalize wr.heap.size = bb at *
            go_loopw [15] (fun at_ wr => ∃ a' : Nat, a' ≤ s.length ∧ at_ = .int .i64 a' ∧ (ov.drop j).Sublist (s.drop a') ∧ Ex0 wo wr) (fun at_ _ => s.length - (intOf at_).toNat)
            case atStart => exact ⟨a, ha, rfl, HSB.out, Ex.refl _ _⟩
            case round =>
              obtain ⟨c, hcl, rfl, hsb, hx⟩ := hrel
              have hlc : c < s.length := by
                rcases Nat.lt_or_ge c s.length with h | h
                · exact h
                · rw [List.drop_eq_nil_of_le h, HDR.out] at hsb
                  cases hsb
              rw [HDR.out] at hsb
              obtain ⟨g2, off2, hl2, hA4, hr2⟩ := ((HF9.out.ex0 hxo).ex0 hx).sl.row Put.len (by omega) hlc
              have hds : s.drop c = s[c] :: s.drop (c + 1) := List.drop_eq_getElem_cons hl2
              rw [hds] at hsb
              have HSB2 := Lib.hid hsb
              have c11 := hx.cellS hc11 id
              rw [hA4] at c11
              have j0 := hx.cellS k0 id
              have j1 := hx.cellS k1 id
              have j2 := hx.cellS k2 id
              have j3 := hx.cellS k3 id
              have j4 := hx.cellS k4 id
              have j5 := hx.cellS k5 id
              have HDS := Lib.hid hds
              clear hsb hds hA4
              generalize s[c] = z at hr2 HSB2 HDS
              obtain ⟨⟨d1, d2, d3, d4⟩, d5, d6⟩ := z
              obtain ⟨e1, e2, e3, e4, e5, e6⟩ := PutC.of hr2
              dsimp only at e1 e2 e3 e4 e5 e6
              have hrun := run_nePut ⟨⟨d1, d2, d3, d4⟩, d5, d6⟩ ⟨⟨a1, a2, a3, a4⟩, a5, a6⟩
              dsimp only [Put.val] at hrun
              have hit := eqPut_iff (x := ⟨⟨d1, d2, d3, d4⟩, d5, d6⟩) (y := ⟨⟨a1, a2, a3, a4⟩, a5, a6⟩)
              have HIT := Lib.hid hit
              have hc0 : (0 : Int) ≤ (c : Int) := Int.natCast_nonneg _
              have hc1 : (c : Int) < (s.length : Int) := by omega
              clear hr2 hit k0 k1 k2 k3 k4 k5 hc11
              cases heq : eqPut ⟨⟨d1, d2, d3, d4⟩, d5, d6⟩ ⟨⟨a1, a2, a3, a4⟩, a5, a6⟩
              · rw [heq] at hrun
                simp only [Bool.not_false] at hrun
                have HNE := Lib.hid (show ¬ ((⟨⟨a1, a2, a3, a4⟩, a5, a6⟩ : Put) = ⟨⟨d1, d2, d3, d4⟩, d5, d6⟩) from fun h => by rw [HIT.out.2 h.symm] at heq; cases heq)
                clear heq
                go_wp2
                go_quiet (fail)
                go_wp2
                go_roundw
                case rel => exact ⟨c + 1, by omega, by go_num, by
                  have := HSB2.out
                  rw [HDR.out]
                  cases this with
                  | cons _ h => exact h
                  | cons_cons _ h => exact absurd rfl HNE.out, hx.drewN' _⟩
                case measure => simp [intOf]; omega
              · rw [heq] at hrun
                simp only [Bool.not_true] at hrun
                clear heq
                have hnq : ((c : Int) == (s.length : Int)) = false := by rw [beq_eq_false_iff_ne]; omega
                go_wp2
                go_quiet (fail)
                go_wp2
                go_roundw
                case rel => exact ⟨c, j + 1, by omega, by omega, rfl, by go_num, by
                  have := HSB2.out
                  rw [HDS.out]
                  exact (List.sublist_cons_self _ _).trans this, (hxo.trans0 hx).drewN' _⟩
                case measure => simp [intOf]; omega
          · clear HSUB HSL9
            go_wp2
            go_loopw [18] (fun i wz => ∃ c : Nat, (c + 1 ≤ s.length ∨ c = 0) ∧ i = .int .i64 ((c : Int) + 1) ∧ Ex0 wr wz) (fun i _ => s.length + 1 - (intOf i).toNat)
            case atStart => exact ⟨0, .inr rfl, rfl, Ex.refl _ _⟩
            case round =>
              obtain ⟨c, hcl, rfl, hx2⟩ := hrel
              have hF := (HF9.out.ex0 hx).ex0 hx2
              have c11 := hF.b11.cell
              by_cases hlc : c + 1 < s.length
              · obtain ⟨g, off, hl1, hA4, hr1⟩ := hF.sl.row Put.len (by omega) (show c < s.length by omega)
                obtain ⟨g2, off2, hl2, hA42, hr2⟩ := hF.sl.row Put.len (by omega) hlc
                rw [hA4] at hA42
                cases hA42
                rw [hA4] at c11
                have hrise := List.pairwise_iff_getElem.1 HOK.out.rise c (c + 1) hl1 hl2 (by omega)
                obtain ⟨e1, e2, e3, e4, e5, e6⟩ := PutC.of hr1
                obtain ⟨d1, d2, d3, d4, d5, d6⟩ := PutC.of hr2
                have hn1 : ¬ s[c + 1].num ≤ s[c].num := by have := hrise.1; omega
                have hn2 : ¬ s[c + 1].min < s[c].min := by have := hrise.2.1; omega
                have hn1' : decide (s[c + 1].num ≤ s[c].num) = false := by simpa using hn1
                have hn2' : decide (s[c + 1].min < s[c].min) = false := by simpa using hn2
                clear hr1 hr2 hrise hA4 e1 e2 e3 e4 d1 d2 d3 d4 hF hn1 hn2
                generalize s[c].num = x1 at *
                generalize s[c].min = x2 at *
                generalize s[c + 1].num = y1 at *
                generalize s[c + 1].min = y2 at *
                have hc0 : (0 : Int) ≤ (c : Int) := Int.natCast_nonneg _
                have hc00 : (0 : Int) ≤ (c : Int) + 1 := by omega
                have hc1 : (c : Int) + 1 < (s.length : Int) := by omega
                have hc11 : (c : Int) < (s.length : Int) := by omega
                have hc3 : ((c : Int) + 1).toNat = c + 1 := by omega
                have hc2 : IntKind.i64.wrap ((c : Int) + 1 - 1) = (c : Int) := by rw [show (c : Int) + 1 - 1 = c by omega]; exact IntWalk.i64_in _ (by omega)
                go_wp2
                go_quiet (fail)
                go_wp2
                go_roundw
                case rel => exact ⟨c + 1, by omega, by go_num, hx2.drewN' _⟩
                case measure => simp [intOf]; omega
              · have hc0 : (0 : Int) ≤ (c : Int) := Int.natCast_nonneg _
                have hlc' : ¬ ((c : Int) + 1 < (s.length : Int)) := by omega
                have hb8 : Boxed wr w.heap.size 4 (.bool false) := hF.b8
                have hbel := HX1.out.trans (exOfBelow hF.one.bel) (U := fun b => w1.heap.size ≤ b) (fun _ _ h => h.elim) (fun _ _ h => h)
                have hbw : Below w.heap.size w wr := hbel.below (Nat.le_refl _) (fun i e => by have := HB1.out; omega)
                have hxD := hx.trans0 hx2
                have hKD : wr.heap[D]? = some (.deferred (some [])) := (hxD.block D hDW9 id).trans HK9.out
                have c8 := hb8.cell
                have f8 := hb8.frozen
                have l8 := hb8.lt
                have H8 := Lib.hid hb8
                have HBW := Lib.hid hbw
                have HKD := Lib.hid hKD
                have hDne : w.heap.size < D := by have := HB1.out; omega
                clear hF hb8 hbel hbw hxD hKD hx hx2
                go_wp2
                have hK2 : (wr.setCell ⟨w.heap.size, 0, none⟩ (.bool true)).heap[D]? = some (.deferred (some [])) := (Below.heap_setCell _ _ _ _ (by simp; omega)).trans HKD.out
                have q8 := ((H8.out.set (.bool true)).kept (grownBy_putObj' _ D (.deferred none)) (by simp; omega)).cell
                refine ⟨by simp, .inl ⟨_, _, rfl, run_takeDeferred hK2, ?_⟩⟩
                refine ⟨.bool true, by simp [results, Try.results6, go_sem, q8], rfl, ?_⟩
                exact (HBW.out.setCell (p := ⟨w.heap.size, 0, none⟩) (Nat.le_refl _) _).trans (belowK_b (w := w) (Nat.le_refl _) _ D _ _ (by omega) hK2 rfl rfl)
end Go.Proofs.Ytbolioeopcmfcaa
