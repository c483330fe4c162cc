/- Contracts of layer 29: the document's forest, what only reads. Contracts of layer 29: the document's forest: Free, Kids, Copy, Fork, Drop. -/
import Derived.Test.YtoglddndicmelaaGreatLstC
import Derived.Deep.CutRange
namespace Go.Proofs.YtoglddndicmelaaGreat.Tr
open Go.RowKit Go.Proofs.YtoglddndicmelaaGreatB Go.Proofs.YtoglddndicmelaaGreat
set_option maxRecDepth 100000

def Br.cells (b : Br) : List Value := [.int .i64 b.id, .int .i64 b.pa, .int .u64 b.ba, .int .u64 b.nu]
theorem Br.length (b : Br) : b.cells.length = 4 := rfl
/-- the document's forest in memory -/
structure RForAt (w : World) (p : Nat) (A : Option Addr) (cap : Nat) (bs : List Br) : Prop where
  blk : w.heap[p]? = some (.cells #[.slice A bs.length cap] 94 (0, 0))
  sl : Sl w 4 A bs.length (bs.flatMap Br.cells)
  ap : ∀ b, Bl A b → b ≠ p ∧ b < w.heap.size
  cap0 : A = none → cap = 0
  capn : bs.length ≤ cap
  len : bs.length ≤ 16
theorem RForAt.lt {w : World} {p : Nat} {A : Option Addr} {cap : Nat} {bs : List Br} (h : RForAt w p A cap bs) : p < w.heap.size := (Array.getElem?_eq_some_iff.1 h.blk).1
theorem RForAt.cell {w : World} {p : Nat} {A : Option Addr} {cap : Nat} {bs : List Br} (h : RForAt w p A cap bs) : w.cell? ⟨p, 0, none⟩ = some (.slice A bs.length cap) := by rw [cell_of_row _ _ _ _ _ _ h.blk]; rfl
theorem RForAt.frozen {w : World} {p : Nat} {A : Option Addr} {cap : Nat} {bs : List Br} (h : RForAt w p A cap bs) (j : Nat) : w.frozen? ⟨p, j, none⟩ = false := frozen_of_row _ _ _ _ _ h.blk
theorem RForAt.ex {S : Nat → Prop} {w w' : World} {p : Nat} {A : Option Addr} {cap : Nat} {bs : List Br} (h : RForAt w p A cap bs) (hx : Ex S w w') (h1 : ¬ S p) (h2 : ∀ b, Bl A b → ¬ S b) : RForAt w' p A cap bs :=
  ⟨(hx.block p h.lt h1).trans h.blk, h.sl.ex hx h2, fun b hb => ⟨(h.ap b hb).1, Nat.lt_of_lt_of_le (h.ap b hb).2 hx.size⟩, h.cap0, h.capn, h.len⟩
theorem RForAt.ex0 {w w' : World} {p : Nat} {A : Option Addr} {cap : Nat} {bs : List Br} (h : RForAt w p A cap bs) (hx : Ex0 w w') : RForAt w' p A cap bs := h.ex hx id (fun _ _ => id)
/-- a branch's place -/
def idxB (id : Int) (bs : List Br) : Int := match bs.findIdx? (·.id == id) with | some i => i | none => -1
theorem idxB_at {id : Int} {bs : List Br} {k : Nat} (hk : k < bs.length) (h : bs[k].id = id) (h0 : ∀ j (hj : j < bs.length), j < k → bs[j].id ≠ id) : idxB id bs = k := by
  have : bs.findIdx? (·.id == id) = some k := by
    rw [List.findIdx?_eq_some_iff_getElem]
    exact ⟨hk, by simpa using h, fun j hj => by simpa using h0 j (by omega) hj⟩
  unfold idxB; rw [this]
theorem idxB_none {id : Int} {bs : List Br} (h0 : ∀ j (hj : j < bs.length), bs[j].id ≠ id) : idxB id bs = -1 := by
  have : bs.findIdx? (·.id == id) = none := by
    rw [List.findIdx?_eq_none_iff]
    intro x hx
    obtain ⟨j, hj, rfl⟩ := List.getElem_of_mem hx
    simpa using h0 j hj
  unfold idxB; rw [this]
theorem idxB_cases (id : Int) (bs : List Br) : (∃ k : Nat, ∃ hk : k < bs.length, idxB id bs = k ∧ bs[k].id = id ∧ ralive bs id = true ∧ rnum bs id = bs[k].nu ∧ bs.find? (·.id == id) = some bs[k]) ∨ (idxB id bs = -1 ∧ ralive bs id = (id == 0) ∧ rnum bs id = 0 ∧ bs.find? (·.id == id) = none) := by
  cases h : bs.findIdx? (·.id == id) with
  | some k =>
    obtain ⟨hk, h1, h2⟩ := List.findIdx?_eq_some_iff_getElem.1 h
    have h1' : bs[k].id = id := by simpa using h1
    have hf : bs.find? (·.id == id) = some bs[k] := by
      rw [List.find?_eq_some_iff_getElem]
      exact ⟨h1, k, hk, rfl, fun j hj => by simpa using h2 j hj⟩
    refine .inl ⟨k, hk, by unfold idxB; rw [h], h1', ?_, by unfold rnum; rw [hf], hf⟩
    unfold ralive
    rw [Bool.or_eq_true, List.any_eq_true]
    exact .inr ⟨_, List.getElem_mem hk, h1⟩
  | none =>
    have h0 := List.findIdx?_eq_none_iff.1 h
    have hf : bs.find? (·.id == id) = none := by
      rw [List.find?_eq_none]; intro x hx; simpa using h0 x hx
    refine .inr ⟨by unfold idxB; rw [h], ?_, by unfold rnum; rw [hf], hf⟩
    unfold ralive
    have : bs.any (·.id == id) = false := by rw [List.any_eq_false]; intro x hx; simpa using h0 x hx
    rw [this, Bool.or_false]
theorem rffind_any (p : Nat) (A : Option Addr) (cap : Nat) (bs : List Br) (id : Int) (w : World) (h : RForAt w p A cap bs) :
    Calls Tryz.prog 99 #[.pointer (some ⟨p, 0, none⟩), .int .i64 id] w fun e w' => e = .returned (.int .i64 (idxB id bs)) ∧ w' = w := by
  have hc := h.cell
  have hlp := h.lt
  have hlen := h.len
  have HSL := Lib.hid h.sl
  clear h
  go_enter Tryz.func99, Tryz.ntmps99
  go_wp2
  go_loopw [5] (fun i wr => ∃ k : Nat, k ≤ bs.length ∧ i = .int .i64 k ∧ wr = w ∧ ∀ j (hj : j < bs.length), j < k → bs[j].id ≠ id) (fun i _ => bs.length - (intOf i).toNat)
  case atStart => exact ⟨0, Nat.zero_le _, rfl, rfl, fun j _ h => by omega⟩
  case round =>
    obtain ⟨k, hk, rfl, rfl, hn⟩ := hrel
    have HN := Lib.hid hn
    clear hn
    by_cases hlt : k < bs.length
    · obtain ⟨g, off, hl, rfl, hrow⟩ := HSL.out.row Br.length (by omega) hlt
      have hk0 : (0 : Int) ≤ (k : Int) := by omega
      have hk1 : (k : Int) < (bs.length : Int) := by omega
      have hc0 : wr.cell? ⟨g, off + k * 4, none⟩ = some (.int .i64 bs[k].id) := hrow 0 _ rfl
      have hb0 : g < wr.heap.size := World.block_lt_of_cell? _ _ hc0
      obtain ⟨x, hx⟩ : ∃ x, bs[k].id = x := ⟨_, rfl⟩
      rw [hx] at hc0
      have HX := Lib.hid hx
      clear hrow hx
      by_cases he : x = id
      · subst he
        have HE := Lib.hid (idxB_at hlt HX.out HN.out)
        go_wp2
        go_ret
        exact ⟨ret_int HE.out.symm, rfl⟩
      · have hne : (x == id) = false := by simpa using he
        go_wp2
        go_roundw
        case rel =>
          refine ⟨k + 1, by omega, by go_num, trivial, fun j hj hjk => ?_⟩
          by_cases e : j = k
          · subst e; rw [HX.out]; exact he
          · exact HN.out j hj (by omega)
        case measure => simp [intOf]; omega
    · have HE := Lib.hid (idxB_none (id := id) (bs := bs) (fun j hj => HN.out j hj (by omega)))
      go_wp2
      go_ret
      exact ⟨ret_int HE.out.symm, rfl⟩
theorem rfalive_any (p : Nat) (A : Option Addr) (cap : Nat) (bs : List Br) (id : Int) (w : World) (h : RForAt w p A cap bs) :
    Calls Tryz.prog 55 #[.pointer (some ⟨p, 0, none⟩), .int .i64 id] w fun e w' => e = .returned (.bool (ralive bs id)) ∧ w' = w := by
  by_cases h0 : id = 0
  · subst h0
    have HE : Hid (ralive bs 0 = true) := rfl
    go_enter Tryz.func55, Tryz.ntmps55
    go_wp2
    go_ret
    exact ⟨ret_bool HE.out.symm, rfl⟩
  have hz : (id == 0) = false := by simpa using h0
  have HF := Lib.hid (rffind_any p A cap bs id w h)
  rcases idxB_cases id bs with ⟨k, hk, h1, _, h3, _, _⟩ | ⟨h1, h3, _, _⟩
  · rw [h1] at HF
    have HE := Lib.hid h3
    have hk0 : (0 : Int) ≤ (k : Int) := by omega
    clear h1 h3
    go_enter Tryz.func55, Tryz.ntmps55
    go_wp2_with fail
    refine HF.out.mono ?_
    rintro e w1 ⟨rfl, rfl⟩
    go_wp2
    go_ret
    exact ⟨ret_bool HE.out.symm, rfl⟩
  · rw [h1] at HF
    have HE := Lib.hid (h3.trans hz)
    clear h1 h3
    go_enter Tryz.func55, Tryz.ntmps55
    go_wp2_with fail
    refine HF.out.mono ?_
    rintro e w1 ⟨rfl, rfl⟩
    go_wp2
    go_ret
    exact ⟨ret_bool HE.out.symm, rfl⟩
theorem rfnum_any (p : Nat) (A : Option Addr) (cap : Nat) (bs : List Br) (id : Int) (w : World) (h : RForAt w p A cap bs) :
    Calls Tryz.prog 56 #[.pointer (some ⟨p, 0, none⟩), .int .i64 id] w fun e w' => e = .returned (.int .u64 (rnum bs id)) ∧ w' = w := by
  have HF := Lib.hid (rffind_any p A cap bs id w h)
  have hc := h.cell
  have hlp := h.lt
  have hlen := h.len
  have HSL := Lib.hid h.sl
  clear h
  rcases idxB_cases id bs with ⟨k, hk, h1, _, _, h3, _⟩ | ⟨h1, _, h3, _⟩
  · rw [h1] at HF
    rw [h3]
    obtain ⟨g, off, hl, rfl, hrow⟩ := HSL.out.row Br.length (by omega) hk
    have hk0 : (0 : Int) ≤ (k : Int) := by omega
    have hk1 : (k : Int) < (bs.length : Int) := by omega
    have hc0 : w.cell? ⟨g, off + k * 4 + 3, none⟩ = some (.int .u64 bs[k].nu) := by
      have := hrow 3 _ rfl
      rwa [add_row] at this
    have hb0 : g < w.heap.size := World.block_lt_of_cell? _ _ hc0
    generalize bs[k].nu = x at hc0 ⊢
    clear hrow h1 h3
    go_enter Tryz.func56, Tryz.ntmps56
    go_wp2_with fail
    refine HF.out.mono ?_
    rintro e w1 ⟨rfl, rfl⟩
    go_wp2
    go_ret
    exact ⟨rfl, rfl⟩
  · rw [h1] at HF
    rw [h3]
    clear h1 h3
    go_enter Tryz.func56, Tryz.ntmps56
    go_wp2_with fail
    refine HF.out.mono ?_
    rintro e w1 ⟨rfl, rfl⟩
    go_wp2
    go_ret
    exact ⟨rfl, rfl⟩
end Go.Proofs.YtoglddndicmelaaGreat.Tr

namespace Go.Proofs.YtoglddndicmelaaGreat.Tr
open Go.RowKit Go.Proofs.YtoglddndicmelaaGreatB Go.Proofs.YtoglddndicmelaaGreat
set_option maxRecDepth 100000

theorem infoBr : (Tryz.prog.info? 96).map (fun i => (i.zero, i.size, i.bytes)) = some (some (.agg #[.int .i64 0, .int .i64 0, .int .u64 0, .int .u64 0]), 4, 32) := by kernel_rfl
theorem Sl.low {w : World} {sz : Nat} {A : Option Addr} {n : Nat} {cs : List Value} (h : Sl w sz A n cs) {k cap : Nat} (hk : k ≤ n) (hc : n ≤ cap) : Sl w sz (if cap = k then A else A.map (·.add (k * sz))) (n - k) (cs.drop (k * sz)) := by
  split
  · have e : n - k = 0 := by omega
    have hl := h.len
    refine ⟨by rw [List.length_drop, hl, ← Nat.sub_mul], by omega, fun h => by omega⟩
  · exact h.dropS hk
theorem bl_low {A : Option Addr} {k cap sz : Nat} {b : Nat} (h : Bl (if cap = k then A else A.map (·.add (k * sz))) b) : Bl A b := by
  split at h
  · exact h
  · cases A with
    | none => cases h
    | some a =>
      unfold Bl at h ⊢
      simp only [Option.map_some] at h ⊢
      rw [← h]
      congr 1
      unfold Addr.add; split <;> rfl
theorem cap_low {A : Option Addr} {k cap sz : Nat} (h : A = none → cap = 0) (h' : (if cap = k then A else A.map (·.add (k * sz))) = none) : cap - k = 0 := by
  split at h'
  · omega
  · have : A = none := by cases A <;> simp_all
    have := h this; omega
theorem countP_cut {α : Type} (p : α → Bool) (l : List α) (i : Nat) (hi : i ≤ l.length) (h1 : ∀ t (h : t < l.length), t < i → p l[t] = true) (h2 : ∀ t (h : t < l.length), i ≤ t → p l[t] = false) : l.countP p = i := by
  have e : l = l.take i ++ l.drop i := (List.take_append_drop i l).symm
  have a : (l.take i).countP p = i := by
    have : (l.take i).countP p = (l.take i).length := by
      rw [List.countP_eq_length]
      intro x hx
      obtain ⟨t, ht, rfl⟩ := List.getElem_of_mem hx
      rw [List.getElem_take]
      rw [List.length_take] at ht
      exact h1 t (by omega) (by omega)
    rw [this, List.length_take]; omega
  have b : (l.drop i).countP p = 0 := by
    rw [List.countP_eq_zero]
    intro x hx
    obtain ⟨t, ht, rfl⟩ := List.getElem_of_mem hx
    rw [List.getElem_drop]
    rw [List.length_drop] at ht
    rw [h2 (i + t) (by omega) (by omega)]; simp
  rw [e, List.countP_append, a, b, Nat.add_zero]
theorem lowN_at {bs : List Br} {id : Int} {k : Nat} (hk : k ≤ bs.length) (hs : bs.Pairwise (fun x y => x.id < y.id)) (h1 : ∀ j (hj : j < bs.length), j < k → bs[j].id < id) (h2 : ∀ hk : k < bs.length, ¬ bs[k].id < id) : lowN bs id = k := by
  unfold lowN
  refine countP_cut _ _ _ hk (fun t h ht => by simpa using h1 t h ht) (fun t h ht => ?_)
  have hkl : k < bs.length := by omega
  have h3 := h2 hkl
  rcases Nat.lt_or_ge k t with h | h
  · have := List.pairwise_iff_getElem.1 hs k t hkl (by omega) h
    simp; omega
  · have e : t = k := by omega
    subst e; simpa using h3
theorem lowN_idx {bs : List Br} (hs : bs.Pairwise (fun x y => x.id < y.id)) {k : Nat} (hk : k < bs.length) : lowN bs bs[k].id = k := by
  refine lowN_at (by omega) hs (fun j hj hjk => ?_) (fun _ => by omega)
  exact List.pairwise_iff_getElem.1 hs j k hj hk hjk
theorem br_one (bs : List Br) : ∀ u ∈ bs.flatMap Br.cells, u.oneCell' = true := by
  intro u hu
  obtain ⟨b, _, h⟩ := List.mem_flatMap.1 hu
  simp only [Br.cells, List.mem_cons, List.not_mem_nil, or_false] at h
  rcases h with rfl | rfl | rfl | rfl <;> rfl
def RForPost (p : Nat) (A : Option Addr) (bs' : List Br) (r : Int) (w : World) (e : Ending) (w' : World) : Prop :=
  ∃ A' cap', e = .returned (.int .i64 r) ∧ RForAt w' p A' cap' bs' ∧ (∀ b, Bl A' b → Bl A b ∨ w.heap.size ≤ b) ∧ Ex (· = p) w w'
theorem rforPost_same {p : Nat} {A : Option Addr} {cap : Nat} {bs : List Br} {r : Int} {w w' : World} (h : RForAt w p A cap bs) (hx : Ex0 w w') : RForPost p A bs r w (.returned (.int .i64 r)) w' :=
  ⟨A, cap, rfl, h.ex0 hx, fun _ h => .inl h, hx.to (fun _ _ h => h.elim)⟩
/-- another row -/
theorem RForAt.put {w wB wf : World} {p : Nat} {A : Option Addr} {cap : Nat} {bs bs' : List Br} {v : Value} {n : Nat} (h : RForAt w p A cap bs) (hx : Ex0 w wf) (hB : w.heap.size ≤ wB.heap.size) (ho : wf.ownsRow wB.heap.size 96 4 v n (bs'.flatMap Br.cells)) (hl : bs'.length ≤ 16) :
    ∃ A' cap', v = .slice A' n cap' ∧ RForAt (wf.setCell ⟨p, 0, none⟩ (.slice A' n cap')) p A' cap' bs' ∧ (∀ b, Bl A' b → Bl A b ∨ w.heap.size ≤ b) ∧ Ex (· = p) w (wf.setCell ⟨p, 0, none⟩ (.slice A' n cap')) := by
  obtain ⟨A', cap', rfl, hsl, hob, hc0⟩ := own_sl' ho
  have hn : bs'.length = n := by have := hsl.len; rw [flat_len Br.cells 4 Br.length] at this; omega
  subst hn
  have hcap : bs'.length ≤ cap' := by rcases ho.2 with ⟨h, h0⟩ | ⟨g, cp', cur, h, _, _, h4, _⟩ <;> first | omega | (cases h; exact h4)
  have hb := (hx.block _ h.lt id).trans h.blk
  have hxs := Ex.setCell wf ⟨p, 0, none⟩ (.slice A' bs'.length cap')
  have hnew : ∀ b, Bl A' b → w.heap.size ≤ b ∧ b < wf.heap.size := fun b hb => by
    have := ho.lt b (hob.trans hb); omega
  have hlt := h.lt
  refine ⟨A', cap', rfl, ⟨?_, hsl.ex hxs (fun b hb e => by have := (hnew b hb).1; have e' : b = p := e; omega), fun b hb => ⟨by have := (hnew b hb).1; omega, by rw [Mo.size_set]; exact (hnew b hb).2⟩, hc0, hcap, hl⟩, fun b hb => .inr (hnew b hb).1, (hx.to (fun _ _ h => h.elim)).trans hxs (fun _ _ h => h) (fun _ _ h => h)⟩
  rw [heap_setCell_same _ _ _ _ _ _ hb]
  rfl
theorem rffree_any (p : Nat) (A : Option Addr) (cap : Nat) (bs : List Br) (w : World) (h : RForAt w p A cap bs) (f : Nat) (hf : f ≤ 16) (h1 : ∀ j : Nat, j < f → ralive bs j = true) (h2 : f < 16 → ralive bs f = false) :
    Calls Tryz.prog 127 #[.pointer (some ⟨p, 0, none⟩)] w fun e w' => e = .returned (.int .i64 f) ∧ w' = w := by
  have HA := Lib.hid (fun id => rfalive_any p A cap bs id w h)
  have H1 := Lib.hid h1
  have H2 := Lib.hid h2
  clear h h1 h2
  go_enter Tryz.func127, Tryz.ntmps127
  go_wp2
  go_loopw [3] (fun i wr => ∃ k : Nat, k ≤ f ∧ i = .int .i64 k ∧ wr = w) (fun i _ => f - (intOf i).toNat)
  case atStart => exact ⟨0, Nat.zero_le _, rfl, rfl⟩
  case round =>
    obtain ⟨k, hk, rfl, rfl⟩ := hrel
    by_cases h16 : k < 16
    · have hi : (k : Int) < 16 := by omega
      go_wp2_with fail
      refine (HA.out k).mono ?_
      rintro e w1 ⟨rfl, rfl⟩
      by_cases hkf : k < f
      · rw [H1.out k hkf]
        go_wp2
        go_roundw
        case rel => exact ⟨k + 1, by omega, by go_num, trivial⟩
        case measure => simp [intOf]; omega
      · have e : k = f := by omega
        subst e
        rw [H2.out h16]
        go_wp2
        go_ret
        exact ⟨rfl, rfl⟩
    · have hi : ¬ (k : Int) < 16 := by omega
      have e : k = f := by omega
      have e2 : f = 16 := by omega
      have HE : Hid ((16 : Int) = (f : Int)) := by show _ = _; omega
      clear e e2
      go_wp2
      go_ret
      exact ⟨ret_int HE.out, rfl⟩
theorem rfkids_any (p : Nat) (A : Option Addr) (cap : Nat) (bs : List Br) (id : Int) (w : World) (h : RForAt w p A cap bs) :
    Calls Tryz.prog 159 #[.pointer (some ⟨p, 0, none⟩), .int .i64 id] w fun e w' => e = .returned (.int .i64 (rkids bs id)) ∧ w' = w := by
  have hc := h.cell
  have hlp := h.lt
  have hlen := h.len
  have HSL := Lib.hid h.sl
  clear h
  go_enter Tryz.func159, Tryz.ntmps159
  go_wp2
  go_loopw [5, 6] (fun c i wr => ∃ k : Nat, k ≤ bs.length ∧ i = .int .i64 k ∧ c = .int .i64 (rkids (bs.take k) id) ∧ wr = w) (fun _ i _ => bs.length - (intOf i).toNat)
  case atStart => exact ⟨0, Nat.zero_le _, rfl, rfl, rfl⟩
  case round =>
    obtain ⟨k, hk, rfl, rfl, rfl⟩ := hrel
    by_cases hlt : k < bs.length
    · obtain ⟨g, off, hl, rfl, hrow⟩ := HSL.out.row Br.length (by omega) hlt
      have hk0 : (0 : Int) ≤ (k : Int) := by omega
      have hk1 : (k : Int) < (bs.length : Int) := by omega
      have hc0 : wr.cell? ⟨g, off + k * 4 + 1, none⟩ = some (.int .i64 bs[k].pa) := by
        have := hrow 1 _ rfl
        rwa [add_row] at this
      have hb0 : g < wr.heap.size := World.block_lt_of_cell? _ _ hc0
      have hcl : rkids (bs.take k) id ≤ 16 := by
        unfold rkids
        have := List.countP_le_length (p := fun b : Br => b.pa == id) (l := bs.take k)
        rw [List.length_take] at this; omega
      have HSN : Hid (rkids (bs.take (k + 1)) id = rkids (bs.take k) id + (if bs[k].pa == id then 1 else 0)) := by
        show _ = _
        unfold rkids
        rw [List.take_succ_eq_append_getElem hlt, List.countP_append, List.countP_singleton]
      generalize bs[k].pa = x at hc0 HSN
      generalize rkids (bs.take k) id = c at hcl HSN ⊢
      clear hrow
      by_cases he : x = id
      · subst he
        have HSN' : Hid (rkids (bs.take (k + 1)) x = c + 1) := by show _ = _; rw [HSN.out]; simp
        clear HSN
        go_wp2
        go_roundw
        case rel => exact ⟨k + 1, by omega, by go_num, by rw [HSN'.out]; go_num, trivial⟩
        case measure => simp [intOf]; omega
      · have hne : (x == id) = false := by simpa using he
        have HSN' : Hid (rkids (bs.take (k + 1)) id = c) := by show _ = _; rw [HSN.out, hne]; simp
        clear HSN
        go_wp2
        go_roundw
        case rel => exact ⟨k + 1, by omega, by go_num, by rw [HSN'.out], trivial⟩
        case measure => simp [intOf]; omega
    · have hkn : k = bs.length := by omega
      subst hkn
      rw [List.take_length]
      go_wp2
      go_ret
      exact ⟨rfl, rfl⟩
theorem rfcopy_any (p : Nat) (A : Option Addr) (cap : Nat) (bs : List Br) (w : World) (h : RForAt w p A cap bs) :
    Calls Tryz.prog 129 #[.pointer (some ⟨p, 0, none⟩)] w fun e w' => ∃ p' A' cap', e = .returned (.pointer (some ⟨p', 0, none⟩)) ∧ w.heap.size ≤ p' ∧ RForAt w' p' A' cap' bs ∧ (∀ b, Bl A' b → w.heap.size ≤ b) ∧ Ex0 w w' := by
  obtain ⟨i0, hi0, hz0, hz1, hz2⟩ := info_parts infoBr
  have hlen := h.len
  have HL := Lib.hid h
  have hc := h.cell
  have hlp := h.lt
  clear h
  go_enter Tryz.func129, Tryz.ntmps129
  have HX0 : Hid (Ex0 w (w.alloc (.cells #[] 96))) := Ex.alloc _ _
  go_wp2_with (refine wpList_append_sl rfl (.tmp 3) (.tmp 7) 92 rfl w.heap.size 96 i0 _ 4 32 Tryz.underlying92 hi0 hz0 hz1 hz2 rfl (by decide) (.slice (some ⟨w.heap.size, 0, none⟩) 0 0) 0 [] rfl (own_empty (heap_alloc_new w _) _ (Nat.le_refl _)) A bs.length cap (bs.flatMap Br.cells) rfl (HL.out.sl.ex0 HX0.out) HL.out.cap0 (br_one bs) (by unfold maxLen; omega) (by omega) HX0.out.size ?_; intro v1 w1 ho1 hg1 _; rw [Nat.zero_add, List.nil_append] at ho1; obtain ⟨A1, c1, rfl, hsl1, hob1, hc01⟩ := own_sl' ho1; have hx1 : Ex0 w w1 := (ex_of_new HX0.out hg1 (fun b hb => by cases hb; exact Nat.le_refl _)); have HCAP : Hid (bs.length ≤ c1) := (by rcases ho1.2 with ⟨h, h0⟩ | ⟨g, cp', cur, h, _, _, h4, _⟩ <;> first | (show _ ≤ _; omega) | (cases h; exact h4)); have HLT : Hid (∀ b, Bl A1 b → w.heap.size ≤ b ∧ b < w1.heap.size) := (fun b hb => ho1.lt b (hob1.trans hb)); have HSL1 := Lib.hid hsl1; have HX1 := Lib.hid hx1; have HC1 := Lib.hid hc01; clear ho1 hg1 hob1 hsl1 hx1 hc01)
  go_ret
  have hxa := Ex.alloc w1 (.cells #[.slice A1 bs.length c1] 94)
  refine ⟨w1.heap.size, A1, c1, rfl, HX1.out.size, ⟨heap_alloc_new _ _, HSL1.out.ex0 hxa, fun b hb => ⟨by have := (HLT.out b hb).2; omega, by have := (HLT.out b hb).2; have := hxa.size; omega⟩, HC1.out, HCAP.out, hlen⟩, fun b hb => (HLT.out b hb).1, HX1.out.trans0 hxa⟩
end Go.Proofs.YtoglddndicmelaaGreat.Tr
