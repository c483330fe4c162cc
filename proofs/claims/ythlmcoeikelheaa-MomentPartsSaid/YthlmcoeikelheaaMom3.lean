/- Contracts of layer 28: a table's methods that only read. -/
import Derived.Test.YthlmcoeikelheaaMom2
namespace Go.Proofs.Ythlmcoeikelheaa
open Go.RowKit Go.Proofs.YthlmcoeikelheaaB Go.Shelf

/-- a table: its block holds a slice of its own -/
structure TabAt (w : World) (p : Nat) (v : Value) (l : List It) : Prop where
  blk : w.heap[p]? = some (.cells #[v] 66 (0, 0))
  own : w.ownsRow 0 71 3 v l.length (l.flatMap It.cells)
  ne : v.ownBlock ≠ some p
theorem TabAt.cell {w : World} {p : Nat} {v : Value} {l : List It} (h : TabAt w p v l) : w.cell? ⟨p, 0, none⟩ = some v := by
  rw [cell_of_row w p 0 _ _ _ h.blk]; rfl
theorem TabAt.lt {w : World} {p : Nat} {v : Value} {l : List It} (h : TabAt w p v l) : p < w.heap.size := (Array.getElem?_eq_some_iff.1 h.blk).1
theorem TabAt.ex {S : Nat → Prop} {w w' : World} {p : Nat} {v : Value} {l : List It} (h : TabAt w p v l) (hx : Ex S w w') (h1 : ¬ S p) (h2 : ∀ b, v.ownBlock = some b → ¬ S b) : TabAt w' p v l :=
  ⟨(hx.block p h.lt h1).trans h.blk, own_ex h.own hx h2, h.ne⟩
theorem TabAt.ex0 {w w' : World} {p : Nat} {v : Value} {l : List It} (h : TabAt w p v l) (hx : Ex0 w w') : TabAt w' p v l := h.ex hx id (fun _ _ => id)

/-- what a table is -/
structure TabOk (l : List It) : Prop where
  srt : Srt l
  rng : ∀ x ∈ l, 1 ≤ x.num ∧ x.num ≤ 65535 ∧ 0 ≤ x.min ∧ x.min ≤ 1073741824
  len : l.length ≤ 1000

def gt (l : List It) (i : Nat) : It := l.getD i ⟨0, 0, false⟩
theorem gt_get {l : List It} {i : Nat} (h : i < l.length) : gt l i = l[i] := by unfold gt; simp [List.getD, List.getElem?_eq_getElem h]
theorem gt_rng {l : List It} (hk : TabOk l) {i : Nat} (h : i < l.length) : 1 ≤ (gt l i).num ∧ (gt l i).num ≤ 65535 ∧ 0 ≤ (gt l i).min ∧ (gt l i).min ≤ 1073741824 := by
  rw [gt_get h]; exact hk.rng _ (List.getElem_mem h)

/-- an item's cells -/
structure ItC (g o : Nat) (x : It) (w : World) : Prop where
  c0 : w.cell? ⟨g, o, none⟩ = some (.int .u64 x.num)
  c1 : w.cell? ⟨g, o + 1, none⟩ = some (.int .i64 x.min)
  c2 : w.cell? ⟨g, o + 2, none⟩ = some (.bool x.out)
theorem ItC.of {g o : Nat} {x : It} {w : World} (h : RowAt w ⟨g, o, none⟩ x.cells) : ItC g o x w :=
  ⟨by simpa [Addr.add] using h 0 _ rfl, by simpa [Addr.add] using h 1 _ rfl, by simpa [Addr.add] using h 2 _ rfl⟩
theorem TabAt.item {w : World} {p : Nat} {v : Value} {l : List It} (h : TabAt w p v l) {i : Nat} (hi : i < l.length) : ∃ g off cap, v = .slice (some ⟨g, off, none⟩) l.length cap ∧ ItC g (off + i * 3) (gt l i) w := by
  obtain ⟨A, cap, rfl, hsl, _⟩ := own_sl h.own
  obtain ⟨g, off, hl, rfl, hr⟩ := hsl.row It.len (by decide) (by have := hsl.len; rw [flat_len It.cells 3 It.len] at this; omega)
  exact ⟨g, off, cap, rfl, by rw [gt_get hl]; exact ItC.of hr⟩

theorem find_any (p : Nat) (v : Value) (l : List It) (num : Int) (w : World) (hB : TabAt w p v l) (hk : TabOk l) :
    Calls Try.prog 40 #[.pointer (some ⟨p, 0, none⟩), .int .u64 num] w fun e w' => e = .returned (.tuple #[.int .i64 (lo num l), .bool (has num l)]) ∧ Ex0 w w' := by
  have hc := hB.cell
  have hn := hk.len
  obtain ⟨A, cap, rfl, hsl, _⟩ := own_sl hB.own
  go_enter Try.func40, Try.ntmps40
  go_wp2_with fail
  refine (bsearch_any A l.length cap l num _ hsl (by omega) hk.srt).mono ?_
  rintro e w' ⟨rfl, hx⟩
  go_wp2
  go_ret2
  exact ⟨rfl, hx⟩
theorem find_nil (num : Int) (w : World) :
    Calls Try.prog 40 #[.pointer none, .int .u64 num] w fun e w' => e = .returned (.tuple #[.int .i64 0, .bool false]) ∧ w' = w := by
  go_enter Try.func40, Try.ntmps40
  go_wp2
  go_ret2
  exact ⟨rfl, rfl⟩

theorem len_any (p : Nat) (v : Value) (l : List It) (w : World) (hB : TabAt w p v l) :
    Calls Try.prog 27 #[.pointer (some ⟨p, 0, none⟩)] w fun e w' => e = .returned (.int .i64 l.length) ∧ w' = w := by
  have hc := hB.cell
  obtain ⟨A, cap, rfl, hsl, _⟩ := own_sl hB.own
  go_enter Try.func27, Try.ntmps27
  go_wp2
  go_ret
  exact ⟨rfl, rfl⟩
theorem len_nil (w : World) :
    Calls Try.prog 27 #[.pointer none] w fun e w' => e = .returned (.int .i64 0) ∧ w' = w := by
  go_enter Try.func27, Try.ntmps27
  go_wp2
  go_ret
  exact ⟨rfl, rfl⟩

/-- a moment's minute -/
def minV (num : Int) (l : List It) : Int := if has num l then (gt l (lo num l)).min else 0
theorem min_any (p : Nat) (v : Value) (l : List It) (num : Int) (w : World) (hB : TabAt w p v l) (hk : TabOk l) :
    Calls Try.prog 25 #[.pointer (some ⟨p, 0, none⟩), .int .u64 num] w fun e w' => e = .returned (.tuple #[.int .i64 (minV num l), .bool (has num l)]) ∧ Ex0 w w' := by
  have hn := hk.len
  go_enter Try.func25, Try.ntmps25
  go_wp2_with fail
  refine (find_any p v l num _ hB hk).mono ?_
  rintro e w1 ⟨rfl, hx⟩
  have hB1 := hB.ex0 hx
  have hX := Lib.hid hx
  clear hx hB
  cases hh : has num l
  · have HH := Lib.hid hh
    clear hh
    go_wp2
    go_ret2
    refine ⟨?_, hX.out⟩
    unfold minV; rw [HH.out]; rfl
  · obtain ⟨hi, _⟩ := has_get hk.srt hh
    obtain ⟨g, off, cap, rfl, c0, c1, c2⟩ := hB1.item hi
    have hc := hB1.cell
    have HH := Lib.hid hh
    clear hh hB1
    have hi0 : (0 : Int) ≤ (lo num l : Int) := Int.natCast_nonneg _
    have hi1 : (lo num l : Int) < (l.length : Int) := by omega
    go_wp2
    go_ret2
    refine ⟨?_, hX.out⟩
    unfold minV; rw [HH.out]; rfl
theorem min_nil (num : Int) (w : World) :
    Calls Try.prog 25 #[.pointer none, .int .u64 num] w fun e w' => e = .returned (.tuple #[.int .i64 0, .bool false]) ∧ w' = w := by
  go_enter Try.func25, Try.ntmps25
  go_wp2_with fail
  refine (find_nil num _).mono ?_
  rintro e w1 ⟨rfl, rfl⟩
  go_wp2
  go_ret2
  exact ⟨rfl, rfl⟩

/-- is it out? -/
def outB (num : Int) (l : List It) : Bool := has num l && (gt l (lo num l)).out
theorem out_any (p : Nat) (v : Value) (l : List It) (num : Int) (w : World) (hB : TabAt w p v l) (hk : TabOk l) :
    Calls Try.prog 26 #[.pointer (some ⟨p, 0, none⟩), .int .u64 num] w fun e w' => e = .returned (.bool (outB num l)) ∧ Ex0 w w' := by
  have hn := hk.len
  go_enter Try.func26, Try.ntmps26
  go_wp2_with fail
  refine (find_any p v l num _ hB hk).mono ?_
  rintro e w1 ⟨rfl, hx⟩
  have hB1 := hB.ex0 hx
  have hX := Lib.hid hx
  clear hx hB
  cases hh : has num l
  · have HH := Lib.hid hh
    clear hh
    go_wp2
    go_ret
    refine ⟨?_, hX.out⟩
    unfold outB; rw [HH.out]; rfl
  · obtain ⟨hi, _⟩ := has_get hk.srt hh
    obtain ⟨g, off, cap, rfl, c0, c1, c2⟩ := hB1.item hi
    have hc := hB1.cell
    have HH := Lib.hid hh
    clear hh hB1
    have hi0 : (0 : Int) ≤ (lo num l : Int) := Int.natCast_nonneg _
    have hi1 : (lo num l : Int) < (l.length : Int) := by omega
    go_wp2
    go_ret
    refine ⟨?_, hX.out⟩
    unfold outB; rw [HH.out]; rfl
theorem out_nil (num : Int) (w : World) :
    Calls Try.prog 26 #[.pointer none, .int .u64 num] w fun e w' => e = .returned (.bool false) ∧ w' = w := by
  go_enter Try.func26, Try.ntmps26
  go_wp2_with fail
  refine (find_nil num _).mono ?_
  rintro e w1 ⟨rfl, rfl⟩
  go_wp2
  go_ret
  exact ⟨rfl, rfl⟩

/-- the last one -/
def lastN (l : List It) : Int := if l.length = 0 then 0 else (gt l (l.length - 1)).num
theorem last_any (p : Nat) (v : Value) (l : List It) (w : World) (hB : TabAt w p v l) (hk : TabOk l) :
    Calls Try.prog 24 #[.pointer (some ⟨p, 0, none⟩)] w fun e w' => e = .returned (.tuple #[.int .u64 (lastN l), .bool (decide (0 < l.length))]) ∧ Ex0 w w' := by
  have hn := hk.len
  go_enter Try.func24, Try.ntmps24
  go_wp2_with fail
  refine (len_any p v l _ hB).mono ?_
  rintro e w1 ⟨rfl, rfl⟩
  by_cases h0 : l.length = 0
  · have e0 : ((l.length : Int) == 0) = true := by rw [h0]; rfl
    have H0 := Lib.hid h0
    clear h0
    go_wp2
    go_ret2
    refine ⟨?_, Ex.refl _ _⟩
    unfold lastN; rw [H0.out]; rfl
  · have e0 : ((l.length : Int) == 0) = false := by rw [beq_eq_false_iff_ne]; omega
    obtain ⟨g, off, cap, rfl, c0, c1, c2⟩ := hB.item (i := l.length - 1) (by omega)
    have hc := hB.cell
    have hi0 : (0 : Int) ≤ (l.length : Int) - 1 := by omega
    have hi1 : (l.length : Int) - 1 < (l.length : Int) := by omega
    have ec : ((l.length : Int) - 1) = ((l.length - 1 : Nat) : Int) := by omega
    have en : ((l.length : Int) - 1).toNat = l.length - 1 := by omega
    have hd : decide (0 < l.length) = true := by simp; omega
    have H0 := Lib.hid h0
    have HD := Lib.hid hd
    clear h0 hd hB ec
    go_wp2
    go_quiet (fail)
    go_wp2
    go_ret2
    refine ⟨?_, (Ex.refl _ _).drewN' _⟩
    unfold lastN; rw [if_neg H0.out, HD.out]; rfl
theorem last_nil (w : World) :
    Calls Try.prog 24 #[.pointer none] w fun e w' => e = .returned (.tuple #[.int .u64 0, .bool false]) ∧ w' = w := by
  go_enter Try.func24, Try.ntmps24
  go_wp2_with fail
  refine (len_nil _).mono ?_
  rintro e w1 ⟨rfl, rfl⟩
  go_wp2
  go_ret2
  exact ⟨rfl, rfl⟩

/-- the next one -/
def nextI (num : Int) (l : List It) : Nat := lo num l + (if has num l then 1 else 0)
def nextB (num : Int) (l : List It) : Bool := decide (nextI num l < l.length)
def nextN (num : Int) (l : List It) : Int := if nextB num l then (gt l (nextI num l)).num else 0
theorem next_any (p : Nat) (v : Value) (l : List It) (num : Int) (w : World) (hB : TabAt w p v l) (hk : TabOk l) :
    Calls Try.prog 21 #[.pointer (some ⟨p, 0, none⟩), .int .u64 num] w fun e w' => e = .returned (.tuple #[.int .u64 (nextN num l), .bool (nextB num l)]) ∧ Ex0 w w' := by
  have hn := hk.len
  have hle := lo_le num l
  go_enter Try.func21, Try.ntmps21
  go_wp2_with fail
  refine (find_any p v l num _ hB hk).mono ?_
  rintro e w1 ⟨rfl, hx⟩
  have hB1 := hB.ex0 hx
  have hX := Lib.hid hx
  clear hx hB
  have hni : nextI num l = lo num l + (if has num l then 1 else 0) := rfl
  have hnb : nextB num l = decide (nextI num l < l.length) := rfl
  have hnn : nextN num l = if nextB num l then (gt l (nextI num l)).num else 0 := rfl
  have HNB := Lib.hid hnb
  have HNN := Lib.hid hnn
  clear hnb hnn
  cases hh : has num l
  all_goals
    rw [hh] at hni
    clear hh
    simp only [Bool.false_eq_true, if_false, if_true, Nat.add_zero] at hni
    by_cases hlt : nextI num l < l.length
    · have e1 : nextB num l = true := by rw [HNB.out]; simpa using hlt
      have E1 := Lib.hid e1
      obtain ⟨g, off, cap, rfl, c0, c1, c2⟩ := hB1.item hlt
      have hc := hB1.cell
      generalize hgx : gt l (nextI num l) = x at *
      rw [hni] at c0 c1 c2 hlt
      have hHB := Lib.hid hB1
      clear hB1 e1 hgx hni
      generalize lo num l = i at *
      go_wp2_with fail
      refine (len_any p _ l _ hHB.out).mono ?_
      rintro e w2 ⟨rfl, rfl⟩
      have hi0 : (0 : Int) ≤ (i : Int) := Int.natCast_nonneg _
      have hi0' : (0 : Int) ≤ (i : Int) + 1 := by omega
      have hi2 : ((i : Int) + 1).toNat = i + 1 := by omega
      go_wp2
      go_ret2
      refine ⟨?_, hX.out⟩
      rw [HNN.out, E1.out]; rfl
    · have e1 : nextB num l = false := by rw [HNB.out]; simpa using hlt
      have E1 := Lib.hid e1
      have hHB := Lib.hid hB1
      rw [hni] at hlt
      clear e1 hB1 hni
      generalize lo num l = i at *
      go_wp2_with fail
      refine (len_any p v l _ hHB.out).mono ?_
      rintro e w2 ⟨rfl, rfl⟩
      go_wp2
      go_ret2
      refine ⟨?_, hX.out⟩
      rw [HNN.out, E1.out]; rfl
theorem next_nil (num : Int) (w : World) :
    Calls Try.prog 21 #[.pointer none, .int .u64 num] w fun e w' => e = .returned (.tuple #[.int .u64 0, .bool false]) ∧ w' = w := by
  go_enter Try.func21, Try.ntmps21
  go_wp2_with fail
  refine (find_nil num _).mono ?_
  rintro e w1 ⟨rfl, rfl⟩
  go_wp2_with fail
  refine (len_nil _).mono ?_
  rintro e w1 ⟨rfl, rfl⟩
  go_wp2
  go_ret2
  exact ⟨rfl, rfl⟩
end Go.Proofs.Ythlmcoeikelheaa
