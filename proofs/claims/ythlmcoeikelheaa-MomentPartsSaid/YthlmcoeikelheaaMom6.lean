/- Contracts of layer 28: the document's table, what only reads. -/
import Derived.Test.YthlmcoeikelheaaMom5
namespace Go.Proofs.Ythlmcoeikelheaa
open Go.RowKit Go.Proofs.YthlmcoeikelheaaB Go.Shelf

/-- where the document's three lists lie -/
structure DocV where
  N : Option Addr
  M : Option Addr
  O : Option Addr
  cN : Nat
  cM : Nat
  cO : Nat
def DocV.cells (d : DocV) (n : Nat) : Array Value := #[.slice d.N n d.cN, .slice d.M n d.cM, .slice d.O n d.cO]
def Bld (d : DocV) (b : Nat) : Prop := Bl d.N b ∨ Bl d.M b ∨ Bl d.O b

structure DocAt (w : World) (p : Nat) (d : DocV) (l : List It) : Prop where
  blk : w.heap[p]? = some (.cells (d.cells l.length) 32 (0, 0))
  sN : Sl w 1 d.N l.length (l.map fun x => Value.int .u64 x.num)
  sM : Sl w 1 d.M l.length (l.map fun x => Value.int .i64 x.min)
  sO : Sl w 1 d.O l.length (l.map fun x => Value.bool x.out)
  cN : d.N = none → d.cN = 0
  cM : d.M = none → d.cM = 0
  cO : d.O = none → d.cO = 0
  ap : ∀ b, Bld d b → b ≠ p ∧ b < w.heap.size
  kN : l.length ≤ d.cN
  kM : l.length ≤ d.cM
  kO : l.length ≤ d.cO
theorem DocAt.lt {w : World} {p : Nat} {d : DocV} {l : List It} (h : DocAt w p d l) : p < w.heap.size := (Array.getElem?_eq_some_iff.1 h.blk).1
theorem DocAt.ex {S : Nat → Prop} {w w' : World} {p : Nat} {d : DocV} {l : List It} (h : DocAt w p d l) (hx : Ex S w w') (h1 : ¬ S p) (h2 : ∀ b, Bld d b → ¬ S b) : DocAt w' p d l :=
  ⟨(hx.block p h.lt h1).trans h.blk, h.sN.ex hx (fun b hb => h2 b (.inl hb)), h.sM.ex hx (fun b hb => h2 b (.inr (.inl hb))), h.sO.ex hx (fun b hb => h2 b (.inr (.inr hb))), h.cN, h.cM, h.cO, fun b hb => ⟨(h.ap b hb).1, Nat.lt_of_lt_of_le (h.ap b hb).2 hx.size⟩, h.kN, h.kM, h.kO⟩
theorem DocAt.ex0 {w w' : World} {p : Nat} {d : DocV} {l : List It} (h : DocAt w p d l) (hx : Ex0 w w') : DocAt w' p d l := h.ex hx id (fun _ _ => id)
theorem DocAt.cells {w : World} {p : Nat} {d : DocV} {l : List It} (h : DocAt w p d l) : w.cell? ⟨p, 0, none⟩ = some (.slice d.N l.length d.cN) ∧ w.cell? ⟨p, 1, none⟩ = some (.slice d.M l.length d.cM) ∧ w.cell? ⟨p, 2, none⟩ = some (.slice d.O l.length d.cO) := by
  refine ⟨?_, ?_, ?_⟩ <;> (rw [cell_of_row w p _ _ _ _ h.blk]; rfl)
/-- the document's place: -1: it isn't there -/
def idxI (num : Int) (l : List It) : Int := if has num l then (lo num l : Int) else -1

theorem rfind_any (p : Nat) (d : DocV) (l : List It) (num : Int) (w : World) (hD : DocAt w p d l) (hk : TabOk l) :
    Calls Try.prog 29 #[.pointer (some ⟨p, 0, none⟩), .int .u64 num] w fun e w' => e = .returned (.int .i64 (idxI num l)) ∧ Ex0 w w' := by
  obtain ⟨n0, n1, n2⟩ := hD.cells
  have hn := hk.len
  go_enter Try.func29, Try.ntmps29
  go_wp2
  go_loopw [5] (fun i wr => ∃ k : Nat, k ≤ l.length ∧ i = .int .i64 k ∧ wr = w ∧ ∀ t (h : t < l.length), t < k → l[t].num ≠ num) (fun i _ => l.length - (intOf i).toNat)
  case atStart => exact ⟨0, Nat.zero_le _, rfl, rfl, fun t h ht => by omega⟩
  case round =>
    obtain ⟨k, hle, rfl, rfl, h1⟩ := hrel
    have H1 := Lib.hid h1
    clear h1
    by_cases hlt : k < l.length
    · obtain ⟨g, off, hA, hg, hc⟩ := hD.sN.one hlt
      rw [hA] at n0
      have hi0' : (0 : Int) ≤ (k : Int) := Int.natCast_nonneg _
      have hi1 : (k : Int) < (l.length : Int) := by omega
      by_cases he : l[k].num = num
      · have heq : (l[k].num == num) = true := by simpa using he
        have HE := Lib.hid he
        have hlo : k = lo num l := by
          refine lo_bound (by omega) (fun t h ht => ?_) (fun t h ht => ?_)
          · have := (srt_get hk.srt h hlt ht).1; omega
          · rcases Nat.lt_or_ge k t with h3 | h3
            · have := (srt_get hk.srt hlt h h3).1; omega
            · have e : t = k := by omega
              subst e; omega
        have HLO := Lib.hid hlo
        have HAS := Lib.hid (has_of_get hlt he)
        clear he hlo
        generalize l[k].num = y at *
        go_wp2
        go_ret
        refine ⟨?_, Ex.refl _ _⟩
        unfold idxI; rw [HAS.out, ← HLO.out]; rfl
      · have heq : (l[k].num == num) = false := by rw [beq_eq_false_iff_ne]; exact he
        have HE := Lib.hid he
        clear he
        generalize hy : l[k].num = y at *
        go_wp2
        go_roundw
        case rel => exact ⟨k + 1, by omega, by go_num, trivial, fun t h ht => by
          by_cases e : t = k
          · subst e; rw [hy]; exact HE.out
          · exact H1.out t h (by omega)⟩
        case measure => simp [intOf]; omega
    · go_wp2
      go_ret
      refine ⟨?_, Ex.refl _ _⟩
      unfold idxI; rw [has_none (fun t h => H1.out t h (by omega))]; rfl

/-! ### plain facts -/
theorem lo_of_get {l : List It} (hs : Srt l) {i : Nat} (hi : i < l.length) : lo l[i].num l = i := by
  refine (lo_bound (by omega) (fun t h ht => (srt_get hs h hi ht).1) (fun t h ht => ?_)).symm
  rcases Nat.lt_or_ge i t with h3 | h3
  · have := (srt_get hs hi h h3).1; omega
  · have e : t = i := by omega
    subst e; omega
theorem next_split {l : List It} (hs : Srt l) (num : Int) : (∀ t (h : t < l.length), t < nextI num l → l[t].num ≤ num) ∧ (∀ t (h : t < l.length), nextI num l ≤ t → num < l[t].num) := by
  obtain ⟨h1, h2⟩ := lo_split hs num
  cases hh : has num l
  · have e : nextI num l = lo num l := by unfold nextI; rw [hh]; rfl
    rw [e]
    refine ⟨fun t h ht => by have := h1 t h ht; omega, fun t h ht => ?_⟩
    have := h2 t h ht
    rcases Int.lt_or_eq_of_le this with h3 | h3
    · exact h3
    · rw [has_of_get h h3.symm] at hh; cases hh
  · have e : nextI num l = lo num l + 1 := by unfold nextI; rw [hh]; rfl
    obtain ⟨hi, hg⟩ := has_get hs hh
    rw [e]
    refine ⟨fun t h ht => ?_, fun t h ht => ?_⟩
    · rcases Nat.lt_or_ge t (lo num l) with h3 | h3
      · have := h1 t h h3; omega
      · have e : t = lo num l := by omega
        subst e; omega
    · have := (srt_get hs hi h (by omega)).1; omega
theorem nextM_get {l : List It} (hk : TabOk l) {num : Int} (hh : has num l = true) (hb : nextB num l = true) : ∃ h : lo num l + 1 < l.length, nextM num l = (gt l (lo num l + 1)).min := by
  have e : nextI num l = lo num l + 1 := by unfold nextI; rw [hh]; rfl
  have hlt : nextI num l < l.length := by unfold nextB at hb; simpa using hb
  rw [e] at hlt
  refine ⟨hlt, ?_⟩
  have en : nextN num l = (gt l (lo num l + 1)).num := by unfold nextN; rw [hb, e]; rfl
  unfold nextM
  rw [hb, en, gt_get hlt]
  unfold minV
  rw [has_of_get hlt rfl, lo_of_get hk.srt hlt, gt_get hlt]; rfl
theorem minV_get {l : List It} {num : Int} (hh : has num l = true) : minV num l = (gt l (lo num l)).min := by unfold minV; rw [hh]; rfl

/-- the document's last -/
theorem rlast_any (p : Nat) (d : DocV) (l : List It) (w : World) (hD : DocAt w p d l) (hk : TabOk l) :
    Calls Try.prog 32 #[.pointer (some ⟨p, 0, none⟩)] w fun e w' => e = .returned (.int .u64 (lastN l)) ∧ Ex0 w w' := by
  obtain ⟨n0, n1, n2⟩ := hD.cells
  have hn := hk.len
  go_enter Try.func32, Try.ntmps32
  go_wp2
  go_loopw [3, 4] (fun x i wr => ∃ k : Nat, k ≤ l.length ∧ i = .int .i64 k ∧ wr = w ∧ x = .int .u64 (if k = 0 then 0 else (gt l (k - 1)).num)) (fun _ i _ => l.length - (intOf i).toNat)
  case atStart => exact ⟨0, Nat.zero_le _, rfl, rfl, rfl⟩
  case round =>
    obtain ⟨k, hle, rfl, rfl, rfl⟩ := hrel
    by_cases hlt : k < l.length
    · obtain ⟨g, off, hA, hg, hc⟩ := hD.sN.one hlt
      rw [hA] at n0
      have hi0' : (0 : Int) ≤ (k : Int) := Int.natCast_nonneg _
      have hi1 : (k : Int) < (l.length : Int) := by omega
      have hgt := Lib.hid (gt_get hlt)
      generalize (if k = 0 then (0 : Int) else (gt l (k - 1)).num) = y0
      generalize hy : l[k].num = y at *
      have HY := Lib.hid hy
      clear hy
      go_wp2
      go_roundw
      case rel => exact ⟨k + 1, by omega, by go_num, trivial, by rw [if_neg (by omega), show k + 1 - 1 = k by omega, hgt.out, HY.out]⟩
      case measure => simp [intOf]; omega
    · have e : k = l.length := by omega
      subst e
      have hl : (if l.length = 0 then (0 : Int) else (gt l (l.length - 1)).num) = lastN l := rfl
      rw [hl]
      go_wp2
      go_ret
      exact ⟨rfl, Ex.refl _ _⟩

/-- the last one at a minute -/
def atN (min : Int) (l : List It) : Int := l.foldl (fun a x => if x.min ≤ min then x.num else a) 0
theorem atN_take (min : Int) (l : List It) (k : Nat) (hk : k < l.length) : atN min (l.take (k + 1)) = if l[k].min ≤ min then l[k].num else atN min (l.take k) := by
  unfold atN
  rw [List.take_succ_eq_append_getElem hk, List.foldl_append]; rfl
theorem rat_any (p : Nat) (d : DocV) (l : List It) (min : Int) (w : World) (hD : DocAt w p d l) (hk : TabOk l) :
    Calls Try.prog 33 #[.pointer (some ⟨p, 0, none⟩), .int .i64 min] w fun e w' => e = .returned (.int .u64 (atN min l)) ∧ Ex0 w w' := by
  obtain ⟨n0, n1, n2⟩ := hD.cells
  have hn := hk.len
  go_enter Try.func33, Try.ntmps33
  go_wp2
  go_loopw [5, 6] (fun x i wr => ∃ k : Nat, k ≤ l.length ∧ i = .int .i64 k ∧ wr = w ∧ x = .int .u64 (atN min (l.take k))) (fun _ i _ => l.length - (intOf i).toNat)
  case atStart => exact ⟨0, Nat.zero_le _, rfl, rfl, rfl⟩
  case round =>
    obtain ⟨k, hle, rfl, rfl, rfl⟩ := hrel
    by_cases hlt : k < l.length
    · obtain ⟨g, off, hA, hg, hc⟩ := hD.sN.one hlt
      obtain ⟨g2, off2, hA2, hg2, hc2⟩ := hD.sM.one hlt
      rw [hA] at n0
      rw [hA2] at n1
      have hi0' : (0 : Int) ≤ (k : Int) := Int.natCast_nonneg _
      have hi1 : (k : Int) < (l.length : Int) := by omega
      have htk := Lib.hid (atN_take min l k hlt)
      generalize atN min (l.take k) = y0 at *
      generalize l[k].num = y at *
      generalize l[k].min = z at *
      by_cases hz : z ≤ min
      · go_wp2
        go_roundw
        case rel => exact ⟨k + 1, by omega, by go_num, trivial, by rw [htk.out, if_pos hz]⟩
        case measure => simp [intOf]; omega
      · go_wp2
        go_roundw
        case rel => exact ⟨k + 1, by omega, by go_num, trivial, by rw [htk.out, if_neg hz]⟩
        case measure => simp [intOf]; omega
    · have e : k = l.length := by omega
      subst e
      rw [List.take_length]
      go_wp2
      go_ret
      exact ⟨rfl, Ex.refl _ _⟩

/-- the document's next -/
theorem rnext_any (p : Nat) (d : DocV) (l : List It) (num : Int) (w : World) (hD : DocAt w p d l) (hk : TabOk l) :
    Calls Try.prog 34 #[.pointer (some ⟨p, 0, none⟩), .int .u64 num] w fun e w' => e = .returned (.int .u64 (nextN num l)) ∧ Ex0 w w' := by
  obtain ⟨n0, n1, n2⟩ := hD.cells
  have hn := hk.len
  have hsp := Lib.hid (next_split hk.srt num)
  go_enter Try.func34, Try.ntmps34
  go_wp2
  go_loopw [5] (fun i wr => ∃ k : Nat, k ≤ l.length ∧ i = .int .i64 k ∧ wr = w ∧ k ≤ nextI num l) (fun i _ => l.length - (intOf i).toNat)
  case atStart => exact ⟨0, Nat.zero_le _, rfl, rfl, Nat.zero_le _⟩
  case round =>
    obtain ⟨k, hle, rfl, rfl, hkn⟩ := hrel
    have HKN := Lib.hid hkn
    clear hkn
    by_cases hlt : k < l.length
    · obtain ⟨g, off, hA, hg, hc⟩ := hD.sN.one hlt
      rw [hA] at n0
      have hi0' : (0 : Int) ≤ (k : Int) := Int.natCast_nonneg _
      have hi1 : (k : Int) < (l.length : Int) := by omega
      by_cases hz : l[k].num > num
      · have he : k = nextI num l := by
          rcases Nat.lt_or_ge k (nextI num l) with h | h
          · have := hsp.out.1 k hlt h; omega
          · have := HKN.out; omega
        have hr : nextN num l = l[k].num := by
          unfold nextN nextB; rw [← he, decide_eq_true hlt, gt_get hlt]; rfl
        have HR := Lib.hid hr
        clear he hr
        generalize l[k].num = y at *
        go_wp2
        go_ret
        exact ⟨by rw [HR.out]; rfl, Ex.refl _ _⟩
      · have he : k + 1 ≤ nextI num l := by
          rcases Nat.lt_or_ge k (nextI num l) with h | h
          · exact h
          · have := hsp.out.2 k hlt h; omega
        have HE := Lib.hid he
        clear he
        generalize l[k].num = y at *
        go_wp2
        go_roundw
        case rel => exact ⟨k + 1, by omega, by go_num, trivial, HE.out⟩
        case measure => simp [intOf]; omega
    · have hr : nextN num l = 0 := by
        have h1 := HKN.out
        unfold nextN nextB; rw [decide_eq_false (by omega)]; rfl
      have HR := Lib.hid hr
      clear hr
      go_wp2
      go_ret
      exact ⟨by rw [HR.out]; rfl, Ex.refl _ _⟩
end Go.Proofs.Ythlmcoeikelheaa
