/- Contracts of layers 34 and 36: which rules are right; what a compiled calendar is. Contracts of layer 36: a calendar is compiled. Contracts of layer 36: the minutes till which a moment is kept: rows of integers sorted and without twins; their last one. Contracts of layer 36: what a keeper tells; the minutes till which rules keep a moment. Contracts of layer 36: till when rules keep a moment; whether it stays. -/
import Derived.Test.YtoglddndicmelaaGreatProg
import Derived.Test.YtoglddndicmelaaGreatB10
import Derived.Test.YtoglddndicmelaaGreatTru0
import Derived.Laws.EntriesVeiled
import Derived.Test.YtoglddndicmelaaGreatShelf
import Derived.Sort.OwnSortedInts
namespace Go.Proofs.YtoglddndicmelaaGreat.Tr
open Go.RowKit Go.Proofs.YtoglddndicmelaaGreatB Go.Proofs.YtoglddndicmelaaGreat
set_option maxRecDepth 100000

theorem span_any (n : Int) (w : World) : Calls Tryz.prog 122 #[.int .i64 n] w fun e w' => e = .returned (.bool (spanB n)) ∧ Ex0 w w' := by
  unfold spanB
  by_cases h1 : 1 ≤ n
  · rw [decide_eq_true h1]
    by_cases h2 : n ≤ 1073741824
    · rw [decide_eq_true h2]
      go_enter Tryz.func122, Tryz.ntmps122
      go_wp2
      go_ret
      exact ⟨rfl, Ex.refl _ _⟩
    · rw [decide_eq_false h2]
      have h2' : decide (n ≤ 1073741824) = false := decide_eq_false h2
      go_enter Tryz.func122, Tryz.ntmps122
      go_wp2
      go_ret
      exact ⟨rfl, Ex.refl _ _⟩
  · rw [decide_eq_false h1]
    have h1' : decide (1 ≤ n) = false := decide_eq_false h1
    go_enter Tryz.func122, Tryz.ntmps122
    go_wp2
    go_ret
    exact ⟨rfl, Ex.refl _ _⟩

set_option maxHeartbeats 2000000 in
theorem right_any (r : Rul) (w : World) : Calls Tryz.prog 77 #[r.val] w fun e w' => e = .returned (.bool (rightB r)) ∧ Ex0 w w' := by
  obtain ⟨kind, len, till⟩ := r
  unfold Rul.val rightB
  have HL := fun w => Lib.hid (span_any len w)
  have HT := fun w => Lib.hid (span_any till w)
  dsimp only
  generalize hl : spanB len = sl at HL
  generalize ht : spanB till = st at HT
  clear hl ht
  have hx : Ex0 w (w.alloc (.cells #[.int .i64 kind, .int .i64 len, .int .i64 till] 112)) := Ex.alloc _ _
  have HX := Lib.hid hx
  clear hx
  by_cases h1 : kind = 1
  · subst h1
    rw [if_pos (.inl rfl)]
    by_cases h0 : len = 0
    · subst h0
      go_enter Tryz.func77, Tryz.ntmps77
      go_wp2_with fail
      refine (HT _).out.mono ?_
      rintro e w1 ⟨rfl, hx⟩
      go_wp2
      go_ret
      exact ⟨rfl, HX.out.trans0 hx⟩
    · have h0' : (len == 0) = false := by simpa using h0
      rw [h0']
      go_enter Tryz.func77, Tryz.ntmps77
      go_wp2
      go_ret
      exact ⟨rfl, HX.out⟩
  have h1' : (kind == 1) = false := by simpa using h1
  by_cases h4 : kind = 4
  · subst h4
    rw [if_pos (.inr rfl)]
    by_cases h0 : len = 0
    · subst h0
      go_enter Tryz.func77, Tryz.ntmps77
      go_wp2_with fail
      refine (HT _).out.mono ?_
      rintro e w1 ⟨rfl, hx⟩
      go_wp2
      go_ret
      exact ⟨rfl, HX.out.trans0 hx⟩
    · have h0' : (len == 0) = false := by simpa using h0
      rw [h0']
      go_enter Tryz.func77, Tryz.ntmps77
      go_wp2
      go_ret
      exact ⟨rfl, HX.out⟩
  have h4' : (kind == 4) = false := by simpa using h4
  rw [if_neg (by omega)]
  by_cases h23 : kind = 2 ∨ kind = 3
  · rw [if_pos h23]
    rcases h23 with rfl | rfl
    all_goals
      cases sl with
      | false =>
        go_enter Tryz.func77, Tryz.ntmps77
        go_wp2_with fail
        refine (HL _).out.mono ?_
        rintro e w1 ⟨rfl, hx⟩
        go_wp2
        go_ret
        exact ⟨rfl, HX.out.trans0 hx⟩
      | true =>
        have hc : (w.alloc (.cells #[.int .i64 2, .int .i64 len, .int .i64 till] 112)).cell? ⟨w.heap.size, 2, none⟩ = some (.int .i64 till) := by rw [cell_of_row _ _ _ _ _ _ (heap_alloc_new _ _)]; rfl
        have hc3 : (w.alloc (.cells #[.int .i64 3, .int .i64 len, .int .i64 till] 112)).cell? ⟨w.heap.size, 2, none⟩ = some (.int .i64 till) := by rw [cell_of_row _ _ _ _ _ _ (heap_alloc_new _ _)]; rfl
        have HC := Lib.hid (And.intro hc hc3)
        clear hc hc3
        go_enter Tryz.func77, Tryz.ntmps77
        go_wp2_with fail
        refine (HL _).out.mono ?_
        rintro e w1 ⟨rfl, hx⟩
        have hcc : w1.cell? ⟨w.heap.size, 2, none⟩ = some (.int .i64 till) := by first | exact hx.cellS HC.out.1 not_false | exact hx.cellS HC.out.2 not_false
        have HX2 := Lib.hid (HX.out.trans0 hx)
        clear hx
        go_wp2_with fail
        refine (HT _).out.mono ?_
        rintro e w2 ⟨rfl, hx⟩
        go_wp2
        go_ret
        exact ⟨rfl, HX2.out.trans0 hx⟩
  · rw [if_neg h23]
    have h2' : (kind == 2) = false := by simp; omega
    have h3' : (kind == 3) = false := by simp; omega
    go_enter Tryz.func77, Tryz.ntmps77
    go_wp2
    go_ret
    exact ⟨rfl, HX.out⟩
end Go.Proofs.YtoglddndicmelaaGreat.Tr

namespace Go.Proofs.YtoglddndicmelaaGreat.Tr
open Go.RowKit Go.Proofs.YtoglddndicmelaaGreatB Go.Proofs.YtoglddndicmelaaGreat
set_option maxRecDepth 100000

/-- a keeper: its rule, and what tells whether it keeps a moment -/
structure Kpr where
  r : Rul
  f : Value
def Kpr.cells (k : Kpr) : List Value := [k.f, .int .i64 k.r.till]
theorem Kpr.length (k : Kpr) : k.cells.length = 2 := rfl
/-- a rule in a block of its own -/
def RulAt (w : World) (b : Nat) (r : Rul) : Prop := w.heap[b]? = some (.cells #[.int .i64 r.kind, .int .i64 r.len, .int .i64 r.till] 112 (0, 0))
/-- what a keeper's function is -/
def KeepAt (w : World) (n0 n1 : Nat) (k : Kpr) : Prop :=
  (k.r.kind = 1 ∧ k.f = .func (.func 78) #[] #[]) ∨
  (k.r.kind = 2 ∧ ∃ b, k.f = .func (.func 79) #[] #[.pointer (some ⟨b, 0, none⟩)] ∧ n0 ≤ b ∧ b < n1 ∧ RulAt w b k.r) ∨
  (k.r.kind = 3 ∧ ∃ b, k.f = .func (.func 81) #[] #[.pointer (some ⟨b, 0, none⟩)] ∧ n0 ≤ b ∧ b < n1 ∧ RulAt w b k.r)
theorem KeepAt.ex {S : Nat → Prop} {w w' : World} {n0 n1 : Nat} {k : Kpr} (h : KeepAt w n0 n1 k) (hx : Ex S w w') (hS : ∀ b, n0 ≤ b → b < n1 → ¬ S b) : KeepAt w' n0 n1 k := by
  have hb : ∀ b, n0 ≤ b → b < n1 → RulAt w b k.r → RulAt w' b k.r := fun b h1 h2 h3 => (hx.block b (Array.getElem?_eq_some_iff.1 h3).1 (hS b h1 h2)).trans h3
  rcases h with h | ⟨h1, b, h2, h3, h4, h5⟩ | ⟨h1, b, h2, h3, h4, h5⟩
  · exact .inl h
  · exact .inr (.inl ⟨h1, b, h2, h3, h4, hb b h3 h4 h5⟩)
  · exact .inr (.inr ⟨h1, b, h2, h3, h4, hb b h3 h4 h5⟩)
theorem KeepAt.mono {w : World} {n0 n1 n2 : Nat} {k : Kpr} (h : KeepAt w n0 n1 k) (hn : n1 ≤ n2) : KeepAt w n0 n2 k := by
  rcases h with h | ⟨h1, b, h2, h3, h4, h5⟩ | ⟨h1, b, h2, h3, h4, h5⟩
  · exact .inl h
  · exact .inr (.inl ⟨h1, b, h2, h3, by omega, h5⟩)
  · exact .inr (.inr ⟨h1, b, h2, h3, by omega, h5⟩)
theorem KeepAt.one {w : World} {n0 n1 : Nat} {k : Kpr} (h : KeepAt w n0 n1 k) : k.f.oneCell' = true := by
  rcases h with ⟨_, h⟩ | ⟨_, b, h, _⟩ | ⟨_, b, h, _⟩ <;> rw [h] <;> rfl
/-- the keepers of some rules -/
def keepL (rs : List Rul) : List Rul := rs.filter fun r => !(r.kind == 4)
theorem keepL_snoc (rs : List Rul) (r : Rul) : keepL (rs ++ [r]) = keepL rs ++ (if r.kind = 4 then [] else [r]) := by
  unfold keepL
  rw [List.filter_append]
  by_cases h : r.kind = 4 <;> simp [h]
theorem neverO_snoc (rs : List Rul) (r : Rul) : neverO (rs ++ [r]) = if r.kind = 4 then some (match neverO rs with | none => r.till | some n => min n r.till) else neverO rs := by
  induction rs with
  | nil => simp [neverO]
  | cons a l ih =>
    rw [List.cons_append]
    unfold neverO
    rw [ih]
    by_cases ha : a.kind = 4
    · rw [if_pos ha, if_pos ha]
      by_cases h : r.kind = 4
      · rw [if_pos h, if_pos h]
        cases neverO l with
        | none => rfl
        | some n => dsimp only; rw [← Int.min_assoc]
      · rw [if_neg h, if_neg h]
    · rw [if_neg ha, if_neg ha]
/-- a compiled calendar's cells: the row of keepers, and the least time of those that say never -/
structure AutC (w : World) (n0 n1 : Nat) (rs : List Rul) (v : Value) (nev : Int) (nevs : Bool) : Prop where
  keep : ∃ ks : List Kpr, ks.map Kpr.r = keepL rs ∧ w.ownsRow n0 168 2 v ks.length (ks.flatMap Kpr.cells) ∧ ∀ k ∈ ks, KeepAt w n0 n1 k
  row : ∀ b, v.ownBlock = some b → b < n1
  nev : (match neverO rs with | none => nevs = false ∧ nev = 0 | some m => nevs = true ∧ nev = m)
theorem AutC.ex {S : Nat → Prop} {w w' : World} {n0 n1 : Nat} {rs : List Rul} {v : Value} {nev : Int} {nevs : Bool} (h : AutC w n0 n1 rs v nev nevs) (hx : Ex S w w') (hS : ∀ b, n0 ≤ b → b < n1 → ¬ S b) : AutC w' n0 n1 rs v nev nevs := by
  obtain ⟨ks, h1, h2, h3⟩ := h.keep
  exact ⟨⟨ks, h1, own_ex h2 hx (fun b hb => hS b (h2.lt b hb).1 (h.row b hb)), fun k hk => (h3 k hk).ex hx hS⟩, h.row, h.nev⟩
theorem infoKeeper : (Tryz.prog.info? 168).map (fun i => (i.zero, i.size, i.bytes)) = some (some (.agg #[.nilFunc, .int .i64 0]), 2, 16) := by kernel_rfl
def aut (v : Value) (nev : Int) (nevs : Bool) : Value := .agg #[v, .int .i64 nev, .bool nevs]

theorem compile_full (A : Option Addr) (n cap : Nat) (w : World) (hn : 16 < n) (hm : n ≤ 9223372036854775807) :
    Calls Tryz.prog 42 #[.slice A n cap] w fun e w' => e = .returned (.tuple #[aut (.slice none 0 0) 0 false, .int .i64 6]) ∧ Ex0 w w' := by
  have hni : (16 : Int) < (n : Int) := by omega
  go_enter Tryz.func42, Tryz.ntmps42
  go_wp2
  refine bodyPost_ret (results_row_tmp rfl _ _ w.heap.size _ _ _ _ rfl (heap_alloc_new w _) Tryz.underlying115 rfl (by kernel_rfl) (.int .i64 6) rfl) rfl ?_
  exact ⟨rfl, Ex.alloc _ _⟩
/-- the prefixes are right -/
def rightsB (rs : List Rul) : Bool := rs.all rightB

/-- what stands in the calendar that is being compiled -/
structure CmpI (w : World) (rs : List Rul) (W : World) : Prop where
  res : W.heap[w.heap.size]? = some (.cells #[.slice none 0 0, .int .i64 0, .bool false] 115 (0, 0))
  aut : ∃ v nev nevs, W.heap[w.heap.size + 1]? = some (.cells #[v, .int .i64 nev, .bool nevs] 115 (0, 0)) ∧ AutC W (w.heap.size + 2) W.heap.size rs v nev nevs
  ex : Ex0 w W
theorem CmpI.put {w wr w4 : World} {pre : List Rul} {r : Rul} {F v v2 : Value} {nev : Int} {nevs : Bool} {ks : List Kpr} (hI : CmpI w pre wr) (hr4 : r.kind ≠ 4)
    (hb4 : wr.heap[w.heap.size + 1]? = some (.cells #[v, .int .i64 nev, .bool nevs] 115 (0, 0))) (hks : ks.map Kpr.r = keepL pre) (hown : wr.ownsRow (w.heap.size + 2) 168 2 v ks.length (ks.flatMap Kpr.cells)) (hke : ∀ k ∈ ks, KeepAt wr (w.heap.size + 2) wr.heap.size k) (hnev : (match neverO pre with | none => nevs = false ∧ nev = 0 | some m => nevs = true ∧ nev = m))
    (hx : Ex (fun b => v.ownBlock = some b) wr w4) (hown4 : w4.ownsRow (w.heap.size + 2) 168 2 v2 (ks.length + 1) (ks.flatMap Kpr.cells ++ [F, .int .i64 r.till])) (hkeep : KeepAt w4 (w.heap.size + 2) w4.heap.size ⟨r, F⟩) :
    CmpI w (pre ++ [r]) (w4.setCell ⟨w.heap.size + 1, 0, none⟩ v2) := by
  have hrs := hI.ex.size
  have hlv : ∀ b, v.ownBlock = some b → w.heap.size + 2 ≤ b := fun b hb => (hown.lt b hb).1
  have hrb : ∀ b x, RulAt wr b x → v.ownBlock ≠ some b := fun b x h e => by
    rcases hown.2 with ⟨rfl, _⟩ | ⟨g, cap, cur, rfl, _, hgg, _⟩
    · cases e
    · injection e with e
      have e' : g = b := e
      subst e'
      unfold RulAt at h
      rw [hgg] at h
      injection h with h
      injection h with _ h2 _
      exact absurd h2 (by decide)
  have hx5 := hx.trans (Ex.setCell w4 ⟨w.heap.size + 1, 0, none⟩ v2) (U := fun b => v.ownBlock = some b ∨ b = w.heap.size + 1) (fun _ _ h => .inl h) (fun _ _ h => .inr h)
  have h4s : w4.heap.size = (w4.setCell ⟨w.heap.size + 1, 0, none⟩ v2).heap.size := by simp [World.setCell]
  have hb4' : w4.heap[w.heap.size + 1]? = some (.cells #[v, .int .i64 nev, .bool nevs] 115 (0, 0)) := (hx.block _ (Array.getElem?_eq_some_iff.1 hb4).1 (fun e => by have := hlv _ e; omega)).trans hb4
  refine ⟨(hx5.block _ (Array.getElem?_eq_some_iff.1 hI.res).1 (fun h => h.elim (fun e => by have := hlv _ e; omega) (fun e => by omega))).trans hI.res, ⟨v2, nev, nevs, by rw [heap_setCell_same _ _ _ _ _ _ hb4']; rfl, ⟨⟨ks ++ [⟨r, F⟩], ?_, ?_, ?_⟩, ?_, ?_⟩⟩, ?_⟩
  · rw [List.map_append, hks, keepL_snoc, if_neg hr4]; rfl
  · rw [List.length_append, List.flatMap_append]
    refine own_ex hown4 (Ex.setCell _ _ _) (fun b hb e => ?_)
    have := (hown4.lt b hb).1
    have e' : b = w.heap.size + 1 := e
    omega
  · intro k hk
    have hset : ∀ {n1 : Nat} {k : Kpr}, KeepAt w4 (w.heap.size + 2) n1 k → KeepAt (w4.setCell ⟨w.heap.size + 1, 0, none⟩ v2) (w.heap.size + 2) n1 k := fun h => h.ex (Ex.setCell _ _ _) (fun b h1 _ e => by have e' : b = w.heap.size + 1 := e; omega)
    rw [← h4s]
    rcases List.mem_append.1 hk with hk | hk
    · refine hset (KeepAt.mono (n1 := wr.heap.size) ?_ hx.size)
      have hq := hke k hk
      rcases hq with h | ⟨h1, b, h2, h3, h4, h5⟩ | ⟨h1, b, h2, h3, h4, h5⟩
      · exact .inl h
      · exact .inr (.inl ⟨h1, b, h2, h3, h4, (hx.block b h4 (hrb b _ h5)).trans h5⟩)
      · exact .inr (.inr ⟨h1, b, h2, h3, h4, (hx.block b h4 (hrb b _ h5)).trans h5⟩)
    · rw [List.mem_singleton.1 hk]; exact hset hkeep
  · intro b hb; rw [← h4s]; exact (hown4.lt b hb).2
  · rw [neverO_snoc, if_neg hr4]; exact hnev
  · exact hI.ex.trans hx5 (fun _ _ h => h) (fun i hi h => h.elim (fun e => by have := hlv _ e; omega) (fun e => by omega))
/-- one that says never -/
theorem CmpI.never {w wr w4 : World} {pre : List Rul} {r : Rul} {v : Value} {nev nev' : Int} {nevs nevs' : Bool} (hI : CmpI w pre wr) (hr4 : r.kind = 4) (haut : AutC wr (w.heap.size + 2) wr.heap.size pre v nev nevs)
    (hx : Ex (· = w.heap.size + 1) wr w4) (hb : w4.heap[w.heap.size + 1]? = some (.cells #[v, .int .i64 nev', .bool nevs'] 115 (0, 0)))
    (hnev : nevs' = true ∧ nev' = if nevs then min nev r.till else r.till) : CmpI w (pre ++ [r]) w4 := by
  have hrs := hI.ex.size
  have haut' := haut.ex hx (fun b h1 h2 e => by have e' : b = w.heap.size + 1 := e; omega)
  obtain ⟨ks, h1, h2, h3⟩ := haut'.keep
  refine ⟨(hx.block _ (Array.getElem?_eq_some_iff.1 hI.res).1 (fun e => by have e' : w.heap.size = w.heap.size + 1 := e; omega)).trans hI.res, ⟨v, nev', nevs', hb, ⟨⟨ks, ?_, h2, fun k hk => (h3 k hk).mono hx.size⟩, fun b hb => Nat.lt_of_lt_of_le (haut'.row b hb) hx.size, ?_⟩⟩, hI.ex.trans hx (fun _ _ h => h) (fun i hi e => by have e' : i = w.heap.size + 1 := e; omega)⟩
  · rw [h1, keepL_snoc, if_pos hr4, List.append_nil]
  · rw [neverO_snoc, if_pos hr4]
    have := haut.nev
    cases hq : neverO pre with
    | none =>
      rw [hq] at this
      dsimp only at this ⊢
      rw [this.1] at hnev
      exact ⟨hnev.1, by simpa using hnev.2⟩
    | some m =>
      rw [hq] at this
      dsimp only at this ⊢
      rw [this.1, this.2] at hnev
      exact ⟨hnev.1, by simpa using hnev.2⟩
set_option maxHeartbeats 8000000 in
theorem compile_any (A : Option Addr) (n cap : Nat) (rs : List Rul) (w : World) (hs : Sl w 3 A n (rs.flatMap Rul.cells)) (hn : n ≤ 16) :
    Calls Tryz.prog 42 #[.slice A n cap] w fun e w' => (rightsB rs = false → e = .returned (.tuple #[aut (.slice none 0 0) 0 false, .int .i64 3]) ∧ Ex0 w w') ∧
      (rightsB rs = true → ∃ v nev nevs, e = .returned (.tuple #[aut v nev nevs, .int .i64 0]) ∧ AutC w' (w.heap.size + 2) w'.heap.size rs v nev nevs ∧ Ex0 w w') := by
  have hln : rs.length = n := by have := hs.len; rw [flat_len Rul.cells 3 Rul.length] at this; omega
  have hni : ¬ (16 : Int) < (n : Int) := by omega
  obtain ⟨i0, hi0, hz0, hz1, hz2⟩ := info_parts infoKeeper
  have HSL := Lib.hid hs
  clear hs
  go_enter Tryz.func42, Tryz.ntmps42
  go_wp2
  have hI0 : CmpI w [] ((w.alloc (.cells #[.slice none 0 0, .int .i64 0, .bool false] 115)).alloc (.cells #[.slice none 0 0, .int .i64 0, .bool false] 115)) := by
    refine ⟨heap_alloc2_old w _ _, ⟨.slice none 0 0, 0, false, heap_alloc2_new w _ _, ⟨⟨[], rfl, World.ownsRow_nil _ _ _ _, fun k hk => by cases hk⟩, fun b hb => by simp [Value.ownBlock] at hb, ⟨rfl, rfl⟩⟩⟩, (Ex.alloc _ _).alloc' _⟩
  go_loopw [14] (fun i wr => ∃ k : Nat, k ≤ n ∧ i = .int .i64 k ∧ rightsB (rs.take k) = true ∧ CmpI w (rs.take k) wr) (fun i _ => n - (intOf i).toNat)
  case atStart => exact ⟨0, by omega, rfl, rfl, hI0⟩
  case round =>
    clear hI0
    obtain ⟨k, hk, rfl, hrt, hI⟩ := hrel
    have HI := Lib.hid hI
    obtain ⟨v, nev, nevs, hb4, haut⟩ := hI.aut
    have HB4 := Lib.hid hb4
    have HAUT := Lib.hid haut
    by_cases hlt : k < n
    · obtain ⟨g, off, hkl, rfl, hrow⟩ := (HSL.out.ex0 hI.ex).row Rul.length (by decide) hlt
      have hsn : rs.take (k + 1) = rs.take k ++ [rs[k]] := List.take_succ_eq_append_getElem hkl
      have HSN := Lib.hid hsn
      have hrs : rightsB rs = (rightB rs[k] && rightsB rs) := by
        unfold rightsB
        cases h : rs.all rightB with
        | false => simp
        | true => rw [List.all_eq_true.1 h _ (List.getElem_mem hkl)]; rfl
      have HRS := Lib.hid hrs
      have HRT := Lib.hid hrt
      have hlenk : (rs.take k).length ≤ 16 := by rw [List.length_take]; omega
      clear hsn hrs hrt hI hb4 haut
      generalize rs[k] = r at hrow HSN HRS
      generalize rs.take k = pre at HSN HRT HI HAUT hlenk
      obtain ⟨kind, len, till⟩ := r
      unfold Rul.cells at hrow
      have hk0 : (0 : Int) ≤ (k : Int) := by omega
      have hk1 : (k : Int) < (n : Int) := by omega
      go_wp2_with (refine wpList_load_at rfl 112 (.tmp 16) rfl _ rfl _ _ hrow Tryz.underlying112 rfl (by kernel_rfl) ?_)
      refine (right_any ⟨kind, len, till⟩ _).mono ?_
      rintro e w2 ⟨rfl, hx2⟩
      have HX2 : Hid (Ex0 wr w2) := (Ex.alloc _ _).trans0 hx2
      have HB6 : Hid (RulAt w2 wr.heap.size ⟨kind, len, till⟩) := (hx2.block _ (by simp) not_false).trans (heap_alloc_new _ _)
      have HB42 := Lib.hid ((HX2.out.block _ (Array.getElem?_eq_some_iff.1 HB4.out).1 not_false).trans HB4.out)
      have HB22 := Lib.hid ((HX2.out.block _ (Array.getElem?_eq_some_iff.1 HI.out.res).1 not_false).trans HI.out.res)
      have hwl : w.heap.size + 1 < wr.heap.size := (Array.getElem?_eq_some_iff.1 HB4.out).1
      clear hx2 hrow
      cases hrb : rightB ⟨kind, len, till⟩ with
      | false =>
        have HRF : Hid (rightsB rs = false) := by show _ = _; rw [HRS.out, hrb]; rfl
        clear hrb
        go_wp2_with (refine wpList_store_all rfl 115 (.tmp 2) (.tmp 21) rfl w.heap.size rfl #[.slice none 0 0, .int .i64 0, .bool false] _ rfl 115 HB22.out rfl (by simp [Value.oneCell']) (by kernel_rfl) ?_)
        refine bodyPost_ret (results_row_tmp rfl _ _ w.heap.size _ _ _ _ rfl (setRow_heap _ _ _ _ _ _ HB22.out) Tryz.underlying115 rfl (by kernel_rfl) (.int .i64 3) rfl) rfl ?_
        refine ⟨fun _ => ⟨rfl, (HI.out.ex.trans0 HX2.out).trans (ex_setRow _ _ _) (fun _ _ h => h) (fun i hi e => by have e' : i = w.heap.size := e; omega)⟩, fun h => ?_⟩
        rw [HRF.out] at h; cases h
      | true =>
        have HRT2 : Hid (rightsB (pre ++ [⟨kind, len, till⟩]) = true) := by
          show _ = _
          have h1 := HRT.out
          unfold rightsB at h1 ⊢
          rw [List.all_append, h1]; simp [hrb]
        obtain ⟨ks, hks, how, hke⟩ := HAUT.out.keep
        have HKS := Lib.hid hks
        have HOW := Lib.hid how
        have HKE := Lib.hid hke
        have HNV : Hid (match neverO pre with | none => nevs = false ∧ nev = 0 | some m => nevs = true ∧ nev = m) := HAUT.out.nev
        have HLV : Hid (∀ b, v.ownBlock = some b → w.heap.size + 2 ≤ b) := fun b hb => (HOW.out.lt b hb).1
        have hksl : ks.length ≤ 16 := by
          have h1 : ks.length = (keepL pre).length := by rw [← HKS.out, List.length_map]
          have h2 : (keepL pre).length ≤ pre.length := List.length_filter_le _ _
          omega
        clear hks how hke
        by_cases q1 : kind = 1
        · subst q1
          clear hrb
          have hc6 : w2.cell? ⟨wr.heap.size, 2, none⟩ = some (.int .i64 till) := by rw [cell_of_row _ _ _ _ _ _ HB6.out]; rfl
          have hc60 : w2.cell? ⟨wr.heap.size, 0, none⟩ = some (.int .i64 1) := by rw [cell_of_row _ _ _ _ _ _ HB6.out]; rfl
          have hl6 : wr.heap.size < w2.heap.size := (Array.getElem?_eq_some_iff.1 HB6.out).1
          have h4c : w2.cell? ⟨w.heap.size + 1, 0, none⟩ = some v := by rw [cell_of_row _ _ _ _ _ _ HB42.out]; rfl
          have h4f : w2.frozen? ⟨w.heap.size + 1, 0, none⟩ = false := frozen_of_row _ _ _ _ _ HB42.out
          have h4l : w.heap.size + 1 < w2.heap.size := (Array.getElem?_eq_some_iff.1 HB42.out).1
          go_wp2_with (refine wpList_append_sl rfl (.tmp 53) (.tmp 55) 113 rfl (w.heap.size + 2) 168 i0 _ 2 16 Tryz.underlying113 hi0 hz0 hz1 hz2 rfl (by decide) v ks.length (ks.flatMap Kpr.cells) rfl (own_ex HOW.out (((HX2.out.alloc' _).alloc' _)) (fun _ _ => id)) (some ⟨w2.heap.size + 1, 0, none⟩) 1 1 [.func (.func 78) #[] #[], .int .i64 till] rfl (sl_block (heap_alloc2_new w2 _ _) rfl (by decide)) (fun h => by cases h) (by simp [Value.oneCell']) (by unfold maxLen; omega) (by omega) (by simp; omega) ?_; intro v2 w4 ho4 hg4 _; obtain ⟨A4, c4, rfl⟩ := ownsRow_succ ho4; have HO4 := Lib.hid ho4; have hx4 : Ex (fun b => v.ownBlock = some b) wr w4 := (((HX2.out.alloc' _).alloc' _).trans (Ex.ofGrown hg4) (fun _ _ h => h.elim) (fun _ _ h => h)); have HX4 := Lib.hid hx4; have hb44 := (hx4.block _ (Array.getElem?_eq_some_iff.1 HB4.out).1 (fun e => (by have := HLV.out _ e; omega))).trans HB4.out; have HB44 := Lib.hid hb44; have k4c : w4.cell? ⟨w.heap.size + 1, 0, none⟩ = some v := (by rw [cell_of_row _ _ _ _ _ _ hb44]; rfl); have k4f : w4.frozen? ⟨w.heap.size + 1, 0, none⟩ = false := frozen_of_row _ _ _ _ _ hb44; have HB64 := Lib.hid (((Ex.ofGrown hg4).block _ (by simp; omega) (fun e => (by have := (HOW.out.lt _ e).2; omega))).trans ((((Ex.alloc w2 _).alloc' _).block _ (Array.getElem?_eq_some_iff.1 HB6.out).1 not_false).trans HB6.out)); clear ho4 hg4 hx4 hb44 h4c h4f h4l hc6 hc60 hl6)

          go_roundw
          case rel => exact ⟨k + 1, by omega, by go_num, by rw [HSN.out]; exact HRT2.out, by rw [HSN.out]; exact CmpI.put (F := .func (.func 78) #[] #[]) HI.out (by simp) HB4.out HKS.out HOW.out HKE.out HNV.out HX4.out HO4.out (.inl ⟨rfl, rfl⟩)⟩
          case measure => simp [intOf]; omega
        by_cases q2 : kind = 2
        · subst q2
          clear hrb q1
          have hc6 : w2.cell? ⟨wr.heap.size, 2, none⟩ = some (.int .i64 till) := by rw [cell_of_row _ _ _ _ _ _ HB6.out]; rfl
          have hc60 : w2.cell? ⟨wr.heap.size, 0, none⟩ = some (.int .i64 2) := by rw [cell_of_row _ _ _ _ _ _ HB6.out]; rfl
          have hl6 : wr.heap.size < w2.heap.size := (Array.getElem?_eq_some_iff.1 HB6.out).1
          have h4c : w2.cell? ⟨w.heap.size + 1, 0, none⟩ = some v := by rw [cell_of_row _ _ _ _ _ _ HB42.out]; rfl
          have h4f : w2.frozen? ⟨w.heap.size + 1, 0, none⟩ = false := frozen_of_row _ _ _ _ _ HB42.out
          have h4l : w.heap.size + 1 < w2.heap.size := (Array.getElem?_eq_some_iff.1 HB42.out).1
          go_wp2_with (refine wpList_append_sl rfl (.tmp 53) (.tmp 55) 113 rfl (w.heap.size + 2) 168 i0 _ 2 16 Tryz.underlying113 hi0 hz0 hz1 hz2 rfl (by decide) v ks.length (ks.flatMap Kpr.cells) rfl (own_ex HOW.out (((HX2.out.alloc' _).alloc' _)) (fun _ _ => id)) (some ⟨w2.heap.size + 1, 0, none⟩) 1 1 [.func (.func 79) #[] #[.pointer (some ⟨wr.heap.size, 0, none⟩)], .int .i64 till] rfl (sl_block (heap_alloc2_new w2 _ _) rfl (by decide)) (fun h => by cases h) (by simp [Value.oneCell']) (by unfold maxLen; omega) (by omega) (by simp; omega) ?_; intro v2 w4 ho4 hg4 _; obtain ⟨A4, c4, rfl⟩ := ownsRow_succ ho4; have HO4 := Lib.hid ho4; have hx4 : Ex (fun b => v.ownBlock = some b) wr w4 := (((HX2.out.alloc' _).alloc' _).trans (Ex.ofGrown hg4) (fun _ _ h => h.elim) (fun _ _ h => h)); have HX4 := Lib.hid hx4; have hb44 := (hx4.block _ (Array.getElem?_eq_some_iff.1 HB4.out).1 (fun e => (by have := HLV.out _ e; omega))).trans HB4.out; have HB44 := Lib.hid hb44; have k4c : w4.cell? ⟨w.heap.size + 1, 0, none⟩ = some v := (by rw [cell_of_row _ _ _ _ _ _ hb44]; rfl); have k4f : w4.frozen? ⟨w.heap.size + 1, 0, none⟩ = false := frozen_of_row _ _ _ _ _ hb44; have HB64 := Lib.hid (((Ex.ofGrown hg4).block _ (by simp; omega) (fun e => (by have := (HOW.out.lt _ e).2; omega))).trans ((((Ex.alloc w2 _).alloc' _).block _ (Array.getElem?_eq_some_iff.1 HB6.out).1 not_false).trans HB6.out)); clear ho4 hg4 hx4 hb44 h4c h4f h4l hc6 hc60 hl6)

          go_roundw
          case rel => exact ⟨k + 1, by omega, by go_num, by rw [HSN.out]; exact HRT2.out, by rw [HSN.out]; exact CmpI.put (F := .func (.func 79) #[] #[.pointer (some ⟨wr.heap.size, 0, none⟩)]) HI.out (by simp) HB4.out HKS.out HOW.out HKE.out HNV.out HX4.out HO4.out (.inr (.inl ⟨rfl, wr.heap.size, rfl, by have := HI.out.ex.size; have := (Array.getElem?_eq_some_iff.1 HB4.out).1; omega, (Array.getElem?_eq_some_iff.1 HB64.out).1, HB64.out⟩))⟩
          case measure => simp [intOf]; omega
        by_cases q3 : kind = 3
        · subst q3
          clear hrb q1 q2
          have hc6 : w2.cell? ⟨wr.heap.size, 2, none⟩ = some (.int .i64 till) := by rw [cell_of_row _ _ _ _ _ _ HB6.out]; rfl
          have hc60 : w2.cell? ⟨wr.heap.size, 0, none⟩ = some (.int .i64 3) := by rw [cell_of_row _ _ _ _ _ _ HB6.out]; rfl
          have hl6 : wr.heap.size < w2.heap.size := (Array.getElem?_eq_some_iff.1 HB6.out).1
          have h4c : w2.cell? ⟨w.heap.size + 1, 0, none⟩ = some v := by rw [cell_of_row _ _ _ _ _ _ HB42.out]; rfl
          have h4f : w2.frozen? ⟨w.heap.size + 1, 0, none⟩ = false := frozen_of_row _ _ _ _ _ HB42.out
          have h4l : w.heap.size + 1 < w2.heap.size := (Array.getElem?_eq_some_iff.1 HB42.out).1
          go_wp2_with (refine wpList_append_sl rfl (.tmp 53) (.tmp 55) 113 rfl (w.heap.size + 2) 168 i0 _ 2 16 Tryz.underlying113 hi0 hz0 hz1 hz2 rfl (by decide) v ks.length (ks.flatMap Kpr.cells) rfl (own_ex HOW.out (((HX2.out.alloc' _).alloc' _)) (fun _ _ => id)) (some ⟨w2.heap.size + 1, 0, none⟩) 1 1 [.func (.func 81) #[] #[.pointer (some ⟨wr.heap.size, 0, none⟩)], .int .i64 till] rfl (sl_block (heap_alloc2_new w2 _ _) rfl (by decide)) (fun h => by cases h) (by simp [Value.oneCell']) (by unfold maxLen; omega) (by omega) (by simp; omega) ?_; intro v2 w4 ho4 hg4 _; obtain ⟨A4, c4, rfl⟩ := ownsRow_succ ho4; have HO4 := Lib.hid ho4; have hx4 : Ex (fun b => v.ownBlock = some b) wr w4 := (((HX2.out.alloc' _).alloc' _).trans (Ex.ofGrown hg4) (fun _ _ h => h.elim) (fun _ _ h => h)); have HX4 := Lib.hid hx4; have hb44 := (hx4.block _ (Array.getElem?_eq_some_iff.1 HB4.out).1 (fun e => (by have := HLV.out _ e; omega))).trans HB4.out; have HB44 := Lib.hid hb44; have k4c : w4.cell? ⟨w.heap.size + 1, 0, none⟩ = some v := (by rw [cell_of_row _ _ _ _ _ _ hb44]; rfl); have k4f : w4.frozen? ⟨w.heap.size + 1, 0, none⟩ = false := frozen_of_row _ _ _ _ _ hb44; have HB64 := Lib.hid (((Ex.ofGrown hg4).block _ (by simp; omega) (fun e => (by have := (HOW.out.lt _ e).2; omega))).trans ((((Ex.alloc w2 _).alloc' _).block _ (Array.getElem?_eq_some_iff.1 HB6.out).1 not_false).trans HB6.out)); clear ho4 hg4 hx4 hb44 h4c h4f h4l hc6 hc60 hl6)

          go_roundw
          case rel => exact ⟨k + 1, by omega, by go_num, by rw [HSN.out]; exact HRT2.out, by rw [HSN.out]; exact CmpI.put (F := .func (.func 81) #[] #[.pointer (some ⟨wr.heap.size, 0, none⟩)]) HI.out (by simp) HB4.out HKS.out HOW.out HKE.out HNV.out HX4.out HO4.out (.inr (.inr ⟨rfl, wr.heap.size, rfl, by have := HI.out.ex.size; have := (Array.getElem?_eq_some_iff.1 HB4.out).1; omega, (Array.getElem?_eq_some_iff.1 HB64.out).1, HB64.out⟩))⟩
          case measure => simp [intOf]; omega
        have q4 : kind = 4 := by
          unfold rightB at hrb
          dsimp only at hrb
          by_cases h4 : kind = 4
          · exact h4
          · rw [if_neg (by omega), if_neg (by omega)] at hrb; cases hrb
        subst q4
        clear hrb q1 q2 q3
        have hc6 : w2.cell? ⟨wr.heap.size, 2, none⟩ = some (.int .i64 till) := by rw [cell_of_row _ _ _ _ _ _ HB6.out]; rfl
        have hc60 : w2.cell? ⟨wr.heap.size, 0, none⟩ = some (.int .i64 4) := by rw [cell_of_row _ _ _ _ _ _ HB6.out]; rfl
        have hl6 : wr.heap.size < w2.heap.size := (Array.getElem?_eq_some_iff.1 HB6.out).1
        have h4c1 : w2.cell? ⟨w.heap.size + 1, 1, none⟩ = some (.int .i64 nev) := by rw [cell_of_row _ _ _ _ _ _ HB42.out]; rfl
        have h4c2 : w2.cell? ⟨w.heap.size + 1, 2, none⟩ = some (.bool nevs) := by rw [cell_of_row _ _ _ _ _ _ HB42.out]; rfl
        have h4f1 : w2.frozen? ⟨w.heap.size + 1, 1, none⟩ = false := frozen_of_row _ _ _ _ _ HB42.out
        have h4f2 : w2.frozen? ⟨w.heap.size + 1, 2, none⟩ = false := frozen_of_row _ _ _ _ _ HB42.out
        have h4l : w.heap.size + 1 < w2.heap.size := (Array.getElem?_eq_some_iff.1 HB42.out).1
        have HNONE : Hid (∀ o : Obj, (nevs = true ∧ nev = if nevs then min nev till else till) → CmpI w (pre ++ [⟨4, len, till⟩]) (w2.alloc o)) := fun o hq =>
          CmpI.never (v := v) (nev := nev) (nevs := nevs) HI.out rfl HAUT.out ((HX2.out.alloc' _).to (fun _ _ h => h.elim)) (((Ex.alloc w2 o).block _ (Array.getElem?_eq_some_iff.1 HB42.out).1 not_false).trans HB42.out) hq
        have HSOME : Hid (∀ o : Obj, (till = if nevs then min nev till else till) → CmpI w (pre ++ [⟨4, len, till⟩]) (((w2.setCell ⟨w.heap.size + 1, 1, none⟩ (.int .i64 till)).setCell ⟨w.heap.size + 1, 2, none⟩ (.bool true)).alloc o)) := fun o hq => by
          have hb1 : (w2.setCell ⟨w.heap.size + 1, 1, none⟩ (.int .i64 till)).heap[w.heap.size + 1]? = some (.cells #[v, .int .i64 till, .bool nevs] 115 (0, 0)) := by rw [heap_setCell_same _ _ _ _ _ _ HB42.out]; rfl
          have hb2 : ((w2.setCell ⟨w.heap.size + 1, 1, none⟩ (.int .i64 till)).setCell ⟨w.heap.size + 1, 2, none⟩ (.bool true)).heap[w.heap.size + 1]? = some (.cells #[v, .int .i64 till, .bool true] 115 (0, 0)) := by rw [heap_setCell_same _ _ _ _ _ _ hb1]; rfl
          exact CmpI.never (v := v) (nev := nev) (nevs := nevs) HI.out rfl HAUT.out ((((HX2.out.to (fun _ _ h => h.elim)).trans (Ex.setCell w2 ⟨w.heap.size + 1, 1, none⟩ (.int .i64 till)) (fun _ _ h => h) (fun _ _ h => h)).trans (Ex.setCell _ ⟨w.heap.size + 1, 2, none⟩ (.bool true)) (fun _ _ h => h) (fun _ _ h => h)).alloc' o) (((Ex.alloc _ o).block _ (Array.getElem?_eq_some_iff.1 hb2).1 not_false).trans hb2) ⟨rfl, hq⟩
        clear hksl
        cases nevs with
        | false =>
          go_wp2
          go_roundw
          case rel => exact ⟨k + 1, by omega, by go_num, by rw [HSN.out]; exact HRT2.out, by rw [HSN.out]; exact HSOME.out _ (by simp)⟩
          case measure => simp [intOf]; omega
        | true =>
          by_cases hlt2 : till < nev
          · go_wp2
            go_roundw
            case rel => exact ⟨k + 1, by omega, by go_num, by rw [HSN.out]; exact HRT2.out, by rw [HSN.out]; exact HSOME.out _ (by simp only [if_true]; omega)⟩
            case measure => simp [intOf]; omega
          · have hlt3 : decide (till < nev) = false := decide_eq_false hlt2
            go_wp2
            go_roundw
            case rel => exact ⟨k + 1, by omega, by go_num, by rw [HSN.out]; exact HRT2.out, by rw [HSN.out]; exact HNONE.out _ ⟨by simp, by simp only [if_true]; omega⟩⟩
            case measure => simp [intOf]; omega
    · have HR2 : Hid (wr.heap[w.heap.size]? = some (.cells #[.slice none 0 0, .int .i64 0, .bool false] 115 (0, 0))) := HI.out.res
      have hkn : k = n := by omega
      have e16 : rs.take k = rs := List.take_of_length_le (by omega)
      rw [e16] at HI HAUT hrt
      have HRT := Lib.hid hrt
      obtain ⟨A9, c9, hv, hsl9, _⟩ := own_sl (HAUT.out.keep).choose_spec.2.1
      have hvone : v.oneCell' = true := by rw [hv]; rfl
      have HONE : Hid (∀ u ∈ #[v, .int .i64 nev, .bool nevs], u.oneCell' = true) := by
        show ∀ u ∈ _, _
        intro u hu
        have h : u = v ∨ u = .int .i64 nev ∨ u = .bool nevs := by simpa using hu
        rcases h with rfl | rfl | rfl
        · exact hvone
        · rfl
        · rfl
      have hrs2 := HI.out.ex.size
      clear hI hb4 haut e16 hrt hv hsl9 hvone
      go_wp2_with (first | refine wpList_load_row rfl 115 (.tmp 4) rfl (w.heap.size + 1) rfl 115 #[v, .int .i64 nev, .bool nevs] (0, 0) _ HB4.out Tryz.underlying115 rfl (by kernel_rfl) ?_ | refine wpList_store_all rfl 115 (.tmp 2) (.tmp 59) rfl w.heap.size rfl #[v, .int .i64 nev, .bool nevs] _ rfl 115 HR2.out rfl HONE.out (by kernel_rfl) ?_)
      refine bodyPost_ret (results_row_tmp rfl _ _ w.heap.size _ _ _ _ rfl (setRow_heap _ _ _ _ _ _ HR2.out) Tryz.underlying115 rfl (by kernel_rfl) (.int .i64 0) rfl) rfl ?_
      refine ⟨fun h => (by rw [HRT.out] at h; cases h), fun _ => ⟨v, nev, nevs, rfl, ?_, HI.out.ex.trans (ex_setRow _ _ _) (fun _ _ h => h) (fun i hi e => by have e' : i = w.heap.size := e; omega)⟩⟩
      have h2 := HAUT.out.ex (ex_setRow wr w.heap.size #[v, .int .i64 nev, .bool nevs]) (fun b h1 _ e => by have e' : b = w.heap.size := e; omega)
      have hsz : (wr.setRow w.heap.size #[v, .int .i64 nev, .bool nevs]).heap.size = wr.heap.size := by simp [World.setRow]
      rw [hsz]; exact h2
end Go.Proofs.YtoglddndicmelaaGreat.Tr

namespace Go.Proofs.YtoglddndicmelaaGreat.Tr
open Go.RowKit Go.Proofs.YtoglddndicmelaaGreatB Go.Proofs.YtoglddndicmelaaGreat
set_option maxRecDepth 100000

/-- sorted, without twins -/
def srtI (ys : List Int) : List Int := ys.mergeSort fun x y => decide (x ≤ y)
def cmpI (ys : List Int) : List Int := Go.Lib.compact ys
theorem srtI_len (ys : List Int) : (srtI ys).length = ys.length := by simp [srtI]
theorem srtI_mem (ys : List Int) (x : Int) : x ∈ srtI ys ↔ x ∈ ys := by simp [srtI]
theorem srtI_srt (ys : List Int) : (srtI ys).Pairwise (· ≤ ·) := by
  have h := List.pairwise_mergeSort (le := fun x y : Int => decide (x ≤ y)) (fun a b c h1 h2 => by simp at *; omega) (fun a b => by simp; omega) ys
  unfold srtI
  simpa using h
theorem upTo_last (d : Array Int) (m : Nat) : (Go.Lib.compactUpTo d (m + 1)).getLast? = some d[m]! := by
  induction m with
  | zero => rw [Go.Lib.compactUpTo_succ]; simp [Go.Lib.keeps]
  | succ m ih =>
    rw [Go.Lib.compactUpTo_succ]
    by_cases h : Go.Lib.keeps d (m + 1) = true
    · rw [if_pos h]; simp
    · rw [if_neg h, List.append_nil, ih]
      have h' : d[m + 1]! = d[m]! := by
        unfold Go.Lib.keeps at h
        simpa using h
      rw [h']
theorem cmpI_last (ys : List Int) : (cmpI ys).getLast? = ys.getLast? := by
  unfold cmpI Go.Lib.compact
  cases h : ys.length with
  | zero => rw [List.length_eq_zero_iff.1 h]; rfl
  | succ m =>
    rw [upTo_last, List.getLast?_eq_getElem?, h]
    simp [show m < ys.length by omega]
theorem foldl_max_last (ys : List Int) (a : Int) (h : ys.Pairwise (· ≤ ·)) (ha : ∀ y ∈ ys, a ≤ y) : ys.foldl max a = ys.getLast?.getD a := by
  induction ys generalizing a with
  | nil => rfl
  | cons y l ih =>
    have hy := ha y (by simp)
    rw [List.foldl_cons, show max a y = y by omega, ih y (List.pairwise_cons.1 h).2 (List.pairwise_cons.1 h).1]
    cases l with
    | nil => rfl
    | cons z l' => rw [List.getLast?_cons_cons]; simp [List.getLast?_cons]
theorem foldl_max_perm {xs ys : List Int} (h : xs.Perm ys) (a : Int) : xs.foldl max a = ys.foldl max a := by
  induction h generalizing a with
  | nil => rfl
  | cons x _ ih => simp only [List.foldl_cons]; exact ih _
  | swap x y l => simp only [List.foldl_cons]; rw [show max (max a y) x = max (max a x) y by omega]
  | trans _ _ h1 h2 => rw [h1, h2]
/-- the last one of those sorted is the greatest -/
theorem last_srt (ys : List Int) (h : ∀ y ∈ ys, 0 ≤ y) : (cmpI (srtI ys)).getLast?.getD 0 = ys.foldl max 0 := by
  rw [cmpI_last, ← foldl_max_last _ _ (srtI_srt ys) (fun y hy => h y ((srtI_mem ys y).1 hy))]
  exact foldl_max_perm (List.mergeSort_perm _ _) 0

theorem sortI_own (B n : Nat) (v : Value) (ys : List Int) (w : World) (h : w.ownsRow B 3 1 v n (ys.map (Value.int .i64))) (hm : n ≤ 1000) :
    Calls Tryz.prog 175 #[v] w fun e w' => e = .returned (.tuple #[]) ∧ w'.ownsRow B 3 1 v n ((srtI ys).map (Value.int .i64)) ∧ w.grownBy w' v.ownBlock := by
  obtain ⟨hl, h0⟩ := h
  rcases h0 with ⟨hv, hn⟩ | ⟨g, cap, cur, rfl, hB, hg, hn, hc, hs, ht⟩
  · subst hn
    have hy : ys = [] := by simpa using hl
    subst hy
    rw [hv]
    refine (Tryz.slices_Sort_int_none none 0 w).mono ?_
    rintro e w' ⟨rfl, rfl⟩
    exact ⟨rfl, ⟨by simp [srtI], .inl ⟨rfl, rfl⟩⟩, World.grownBy.refl _ _⟩
  · have hyn : ys.length = n := by simpa using hl
    subst hyn
    rw [Nat.mul_one] at ht
    refine (Tryz.slices_Sort_int g 0 cap ys w (holds_of_blockI hg ht) (Array.getElem?_eq_some_iff.1 hg).1 (by omega)).mono ?_
    rintro e w' ⟨rfl, N, os, rfl⟩
    exact ⟨rfl, ownsRow_sortedI (srtI_len ys) hB hg hn hc hs, grownBy_sortedI _⟩
theorem compactI_own (B n : Nat) (v : Value) (ys : List Int) (w : World) (h : w.ownsRow B 3 1 v n (ys.map (Value.int .i64))) (hm : n ≤ 1000) :
    Calls Tryz.prog 176 #[v] w fun e w' => ∃ A cap, e = .returned (.slice A (cmpI ys).length cap) ∧ Sl w' 1 A (cmpI ys).length ((cmpI ys).map (Value.int .i64)) ∧ (∀ b, Bl A b → B ≤ b ∧ b < w'.heap.size) ∧ w.grownBy w' v.ownBlock := by
  obtain ⟨hl, h0⟩ := h
  rcases h0 with ⟨hv, hn⟩ | ⟨g, cap, cur, rfl, hB, hg, hn, hc, hs, ht⟩
  · subst hn
    have hy : ys = [] := by simpa using hl
    subst hy
    rw [hv]
    refine (Tryz.slices_Compact_int_empty none 0 w).mono ?_
    rintro e w' ⟨rfl, rfl⟩
    refine ⟨none, 0, by rfl, ⟨rfl, Nat.zero_le _, fun h => absurd h (Nat.lt_irrefl 0)⟩, fun b h => by simp [Bl] at h, World.grownBy.refl _ _⟩
  · have hyn : ys.length = n := by simpa using hl
    subst hyn
    rw [Nat.mul_one] at ht
    refine (Tryz.slices_Compact_int g 0 cap ys w (holds_of_blockI hg ht) (by unfold maxLen at hc; omega) hn).mono ?_
    rintro e w' ⟨rfl, N, rfl⟩
    have hle : (Go.Lib.compact ys).length ≤ ys.length := by
      unfold Go.Lib.compact Go.Lib.compactUpTo
      rw [List.length_map]; exact Nat.le_trans (List.length_filter_le _ _) (by simp)
    have ho := ownsRow_sortedI (n := N) (os := #[]) (ts := Go.Lib.compact ys ++ List.replicate (ys.length - (Go.Lib.compact ys).length) 0) (ss := ys) (by simp; omega) hB hg hn hc hs
    have hgr := grownBy_sortedI (w := w) (g := g) (n := N) (os := #[]) (Go.Lib.compact ys ++ List.replicate (ys.length - (Go.Lib.compact ys).length) 0).toArray
    rw [Go.Sort.grow_empty] at ho hgr
    obtain ⟨A, c, e, hsl, _⟩ := own_sl ho
    cases e
    refine ⟨_, cap, rfl, ⟨by simp [cmpI], by unfold maxLen at hc; unfold cmpI; omega, fun h => ?_⟩, fun b hb => ?_, hgr⟩
    · obtain ⟨g', off', e, hr⟩ := hsl.at_ (by unfold cmpI at h; omega)
      refine ⟨g', off', e, fun j u hj => hr j u ?_⟩
      unfold cmpI at hj
      rw [List.map_append, List.getElem?_append_left (List.getElem?_eq_some_iff.1 hj).1]; exact hj
    · cases hb
      exact ⟨hB, (own_in ho) g rfl⟩
end Go.Proofs.YtoglddndicmelaaGreat.Tr

namespace Go.Proofs.YtoglddndicmelaaGreat.Tr
open Go.RowKit Go.Proofs.YtoglddndicmelaaGreatB Go.Proofs.YtoglddndicmelaaGreat
set_option maxRecDepth 100000

theorem keep1_any (p : Nat) (num : Int) (w : World) :
    Calls Tryz.prog 78 #[.pointer (some ⟨p, 0, none⟩), .int .u64 num] w fun e w' => e = .returned (.bool true) ∧ Ex0 w w' := by
  go_enter Tryz.func78, Tryz.ntmps78
  go_wp2
  go_ret
  exact ⟨rfl, Ex.refl _ _⟩
theorem keep2_any (p : Nat) (v : Value) (l : List Mo.It) (num : Int) (b : Nat) (r : Rul) (w : World) (hB : Mo.TabAt w p v l) (hk : Mo.TabOk l) (hr : RulAt w b r) (hl : r.len ≤ 9223372036854775807) :
    Calls Tryz.prog 79 #[.pointer (some ⟨p, 0, none⟩), .int .u64 num, .pointer (some ⟨b, 0, none⟩)] w fun e w' => e = .returned (.bool (Mo.closesB num r.len l)) ∧ Ex0 w w' := by
  have hc : w.cell? ⟨b, 1, none⟩ = some (.int .i64 r.len) := by rw [cell_of_row _ _ _ _ _ _ hr]; rfl
  go_enter Tryz.func79, Tryz.ntmps79
  go_wp2_with fail
  refine (Mo.closes_any p v l num r.len _ hB hk hl).mono ?_
  rintro e w1 ⟨rfl, hx⟩
  go_wp2
  go_ret
  exact ⟨rfl, hx⟩
theorem keep3_any (p : Nat) (v : Value) (l : List Mo.It) (num : Int) (b : Nat) (r : Rul) (w : World) (hB : Mo.TabAt w p v l) (hk : Mo.TabOk l) (hr : RulAt w b r) :
    Calls Tryz.prog 81 #[.pointer (some ⟨p, 0, none⟩), .int .u64 num, .pointer (some ⟨b, 0, none⟩)] w fun e w' => e = .returned (.bool (Mo.quietB num r.len l)) ∧ Ex0 w w' := by
  have hc : w.cell? ⟨b, 1, none⟩ = some (.int .i64 r.len) := by rw [cell_of_row _ _ _ _ _ _ hr]; rfl
  go_enter Tryz.func81, Tryz.ntmps81
  go_wp2_with fail
  refine (Mo.quiet_any p v l num r.len _ hB hk).mono ?_
  rintro e w1 ⟨rfl, hx⟩
  go_wp2
  go_ret
  exact ⟨rfl, hx⟩

/-- the ends of some rules, of those that keep -/
def endsOf (rs : List Rul) (num : Int) (l : List Mo.It) (ks : List Rul) : List Int := (ks.filter fun r => keepB r num l).map fun r => Mo.minV num l + spanI rs r
theorem endsOf_snoc (rs : List Rul) (num : Int) (l : List Mo.It) (ks : List Rul) (r : Rul) : endsOf rs num l (ks ++ [r]) = endsOf rs num l ks ++ (if keepB r num l then [Mo.minV num l + spanI rs r] else []) := by
  unfold endsOf
  rw [List.filter_append, List.map_append]
  cases h : keepB r num l <;> simp [h]
theorem endsOf_keep (rs : List Rul) (num : Int) (l : List Mo.It) : endsOf rs num l (keepL rs) = endsL rs num l := by
  unfold endsOf endsL keepL
  rw [List.filter_filter]
  congr 1
  apply List.filter_congr
  intro r _
  exact Bool.and_comm _ _
theorem endsOf_len (rs : List Rul) (num : Int) (l : List Mo.It) (ks : List Rul) : (endsOf rs num l ks).length ≤ ks.length := by
  unfold endsOf; rw [List.length_map]; exact List.length_filter_le _ _
theorem right_rng {r : Rul} (h : rightB r = true) : 1 ≤ r.till ∧ r.till ≤ 1073741824 ∧ r.len ≤ 1073741824 := by
  unfold rightB spanB at h
  split at h
  · simp at h; omega
  · split at h
    · simp at h; omega
    · cases h
theorem neverO_rng {rs : List Rul} (h : ∀ r ∈ rs, rightB r = true) {n : Int} (hn : neverO rs = some n) : 1 ≤ n ∧ n ≤ 1073741824 := by
  induction rs generalizing n with
  | nil => cases hn
  | cons r l ih =>
    have hr := right_rng (h r (by simp))
    have ih' := fun m => ih (n := m) (fun x hx => h x (by simp [hx]))
    unfold neverO at hn
    split at hn
    · cases hq : neverO l with
      | none => rw [hq] at hn; injection hn with hn; dsimp only at hn; omega
      | some m =>
        have := ih' m hq
        rw [hq] at hn; injection hn with hn
        dsimp only at hn
        omega
    · exact ih' n hn
theorem spanI_rng {rs : List Rul} (h : ∀ r ∈ rs, rightB r = true) {r : Rul} (hr : r ∈ rs) : 1 ≤ spanI rs r ∧ spanI rs r ≤ 1073741824 := by
  have h1 := right_rng (h r hr)
  unfold spanI
  cases hq : neverO rs with
  | none => exact ⟨h1.1, h1.2.1⟩
  | some m => have := neverO_rng h hq; dsimp only; omega
theorem run_callFunc {P : Program} {f : FuncId} {fn : Func} (hf : P.funcs[f]? = some fn) (hn : (fn.name == "runtime.NumGoroutine") = false) (hb : fn.body.isNone = false) (args : Array Value) (w : World) : (callFunc f args).run P w = .ok (.enter f args) w := by
  have h1 : fn.name ≠ "runtime.NumGoroutine" := by simpa using hn
  have h2 : ¬ fn.body = none := fun e => by rw [e] at hb; cases hb
  simp [callFunc, hf, h1, h2]
/-- a keeper's function tells whether it keeps -/
theorem KeepAt.call {w : World} {n0 n1 : Nat} {k : Kpr} (h : KeepAt w n0 n1 k) (hr : rightB k.r = true) (p : Nat) (v : Value) (l : List Mo.It) (num : Int) (hB : Mo.TabAt w p v l) (hk : Mo.TabOk l) :
    ∃ f caps, k.f = .func (.func f) #[] caps ∧ (∀ args w', (callFunc f args).run Tryz.prog w' = .ok (.enter f args) w') ∧ ∀ w', Ex0 w w' → Calls Tryz.prog f (#[.pointer (some ⟨p, 0, none⟩), .int .u64 num] ++ caps) w' fun e w'' => e = .returned (.bool (keepB k.r num l)) ∧ Ex0 w' w'' := by
  unfold keepB
  rcases h with ⟨h1, hf⟩ | ⟨h1, b, hf, _, _, hb⟩ | ⟨h1, b, hf, _, _, hb⟩
  · refine ⟨_, _, hf, run_callFunc Tryz.func78 (by kernel_rfl) (by kernel_rfl), fun w' hx => ?_⟩
    rw [if_pos h1]
    exact keep1_any p num w'
  · refine ⟨_, _, hf, run_callFunc Tryz.func79 (by kernel_rfl) (by kernel_rfl), fun w' hx => ?_⟩
    rw [if_neg (by omega), if_pos h1]
    exact keep2_any p v l num b k.r w' (hB.ex0 hx) hk ((hx.block b (Array.getElem?_eq_some_iff.1 hb).1 not_false).trans hb) (by have := right_rng hr; omega)
  · refine ⟨_, _, hf, run_callFunc Tryz.func81 (by kernel_rfl) (by kernel_rfl), fun w' hx => ?_⟩
    rw [if_neg (by omega), if_neg (by omega)]
    exact keep3_any p v l num b k.r w' (hB.ex0 hx) hk ((hx.block b (Array.getElem?_eq_some_iff.1 hb).1 not_false).trans hb)
set_option maxHeartbeats 4000000 in
theorem minutes_any (p : Nat) (tv : Value) (l : List Mo.It) (num : Int) (n0 n1 : Nat) (rs : List Rul) (v : Value) (nev : Int) (nevs : Bool) (w : World) (hB : Mo.TabAt w p tv l) (hk : Mo.TabOk l) (hA : AutC w n0 n1 rs v nev nevs)
    (hrs : rs.length ≤ 16 ∧ ∀ r ∈ rs, rightB r = true) (hh : Mo.has num l = true) :
    Calls Tryz.prog 163 #[aut v nev nevs, .pointer (some ⟨p, 0, none⟩), .int .u64 num] w fun e w' => ∃ A cap, e = .returned (.slice A (cmpI (srtI (endsL rs num l))).length cap) ∧ Sl w' 1 A (cmpI (srtI (endsL rs num l))).length ((cmpI (srtI (endsL rs num l))).map (Value.int .i64)) ∧ Ex0 w w' := by
  obtain ⟨ii, hii, hzi0, hzi1, hzi2⟩ := info_parts Mo.infoI
  obtain ⟨ks, hks, how, hke⟩ := hA.keep
  have hnv := hA.nev
  obtain ⟨A9, c9, rfl, hsl, _⟩ := own_sl how
  have hmr := Mo.minV_rng hk num
  have hkl : ks.length ≤ 16 := by
    have h1 : ks.length = (keepL rs).length := by rw [← hks, List.length_map]
    have h2 : (keepL rs).length ≤ rs.length := List.length_filter_le _ _
    omega
  have hkr : ∀ k ∈ ks, k.r ∈ rs := fun k hk => by
    have : k.r ∈ keepL rs := by rw [← hks]; exact List.mem_map.2 ⟨k, hk, rfl⟩
    exact (List.mem_filter.1 this).1
  have HKS := Lib.hid hks
  have HOW := Lib.hid hsl
  have HKE := Lib.hid hke
  have HB := Lib.hid hB
  have HKR := Lib.hid hkr
  have HNV := Lib.hid hnv
  have HRS := Lib.hid hrs
  clear hks how hke hB hsl hA hkr hnv hrs
  go_enter Tryz.func163, Tryz.ntmps163
  unfold aut
  go_wp2_with fail
  refine (Mo.min_any p tv l num _ (HB.out.ex0 (Ex.alloc _ _)) hk).mono ?_
  rintro e w1 ⟨rfl, hx1⟩
  rw [hh]
  have HX1 : Hid (Ex0 w w1) := (Ex.alloc _ _).trans0 hx1
  have hb1 := (hx1.block w.heap.size (by simp) not_false).trans (heap_alloc_new w _)
  have HB1 := Lib.hid hb1
  have hc0 : w1.cell? ⟨w.heap.size, 0, none⟩ = some (.slice A9 ks.length c9) := by rw [cell_of_row _ _ _ _ _ _ hb1]; rfl
  have hl0 : w.heap.size < w1.heap.size := (Array.getElem?_eq_some_iff.1 hb1).1
  clear hx1 hb1
  go_wp2
  go_loopw [9, 24] (fun o i wr => ∃ k : Nat, k ≤ ks.length ∧ i = .int .i64 k ∧ wr.ownsRow w1.heap.size 3 1 o (endsOf rs num l ((ks.take k).map Kpr.r)).length ((endsOf rs num l ((ks.take k).map Kpr.r)).map (Value.int .i64)) ∧ Ex0 w1 wr) (fun _ i _ => ks.length - (intOf i).toNat)
  case atStart => exact ⟨0, by omega, rfl, World.ownsRow_nil _ _ _ _, Ex.refl _ _⟩
  case round =>
    clear hc0 hl0
    obtain ⟨k, hkk, rfl, ho, hx⟩ := hrel
    have HO := Lib.hid ho
    have HX := Lib.hid hx
    by_cases hlt : k < ks.length
    · obtain ⟨g, off, hkl2, rfl, hrow⟩ := (HOW.out.ex0 (HX1.out.trans0 hx)).row Kpr.length (by decide) hlt
      have hsn : ks.take (k + 1) = ks.take k ++ [ks[k]] := List.take_succ_eq_append_getElem hkl2
      have HSN := Lib.hid hsn
      have HKK := Lib.hid (HKE.out _ (List.getElem_mem hkl2))
      have HRK := Lib.hid (HKR.out _ (List.getElem_mem hkl2))
      have hol : (endsOf rs num l ((ks.take k).map Kpr.r)).length ≤ 16 := by
        have h1 := endsOf_len rs num l ((ks.take k).map Kpr.r)
        have h2 : ((ks.take k).map Kpr.r).length ≤ ks.length := by rw [List.length_map]; exact List.length_take_le' _ _
        omega
      clear hsn ho hx
      generalize ks[k] = kp at hrow HSN HKK HRK
      generalize ks.take k = pre at HSN HO hol
      obtain ⟨f, caps, hf, hrun, hcall⟩ := HKK.out.call (HRS.out.2 _ HRK.out) p tv l num HB.out hk
      have hsr := spanI_rng HRS.out.2 HRK.out
      have hsp : spanI rs kp.r = match neverO rs with | none => kp.r.till | some n => min kp.r.till n := rfl
      have HSP := Lib.hid hsp
      clear hsp
      have HES := Lib.hid (endsOf_snoc rs num l (pre.map Kpr.r) kp.r)
      obtain ⟨⟨kind, len, till⟩, fv⟩ := kp
      dsimp only at hf
      subst hf
      unfold Kpr.cells at hrow
      dsimp only at hrow hcall HES HSN HSP hsr
      have HCALL := Lib.hid hcall
      clear hcall HKK HRK
      generalize spanI rs ⟨kind, len, till⟩ = sp at HSP HES hsr
      generalize keepB ⟨kind, len, till⟩ num l = kb at HCALL HES
      have hk0 : (0 : Int) ≤ (k : Int) := by omega
      have hk1 : (k : Int) < (ks.length : Int) := by omega
      go_wp2_with (refine wpList_load_at rfl 168 (.tmp 26) rfl _ rfl _ _ hrow Tryz.underlying168 rfl (by kernel_rfl) ?_)
      refine (HCALL.out _ ((HX1.out.trans0 HX.out).alloc' _)).mono ?_
      rintro e w3 ⟨rfl, hx3⟩
      have HX3 : Hid (Ex0 wr w3) := (Ex.alloc _ _).trans0 hx3
      have hb3 := (hx3.block wr.heap.size (by simp) not_false).trans (heap_alloc_new wr _)
      have hbb := ((HX.out.trans0 HX3.out).block w.heap.size (Array.getElem?_eq_some_iff.1 HB1.out).1 not_false).trans HB1.out
      have hs3 := HX3.out.size
      have hs1 := HX.out.size
      clear hx3 hrun
      cases kb with
      | false =>
        clear hb3 hbb
        go_wp2
        go_roundw
        case rel => exact ⟨k + 1, by omega, by go_num, by rw [HSN.out, List.map_append]; exact (by simp only [List.map_cons, List.map_nil]; rw [HES.out]; simpa using own_ex HO.out HX3.out (fun _ _ => id)), HX.out.trans0 HX3.out⟩
        case measure => simp [intOf]; omega
      | true =>
        have hc1 : w3.cell? ⟨wr.heap.size, 1, none⟩ = some (.int .i64 till) := by rw [cell_of_row _ _ _ _ _ _ hb3]; rfl
        have hl1 : wr.heap.size < w3.heap.size := (Array.getElem?_eq_some_iff.1 hb3).1
        have hc2 : w3.cell? ⟨w.heap.size, 2, none⟩ = some (.bool nevs) := by rw [cell_of_row _ _ _ _ _ _ hbb]; rfl
        have hc3 : w3.cell? ⟨w.heap.size, 1, none⟩ = some (.int .i64 nev) := by rw [cell_of_row _ _ _ _ _ _ hbb]; rfl
        have hl2 : w.heap.size < w3.heap.size := (Array.getElem?_eq_some_iff.1 hbb).1
        have HO3 := Lib.hid (own_ex HO.out HX3.out (fun _ _ => id))
        clear hb3 hbb
        cases hq : neverO rs with
        | none =>
          have hnv := HNV.out
          have hsp := HSP.out
          rw [hq] at hnv hsp
          obtain ⟨rfl, rfl⟩ := hnv
          dsimp only at hsp
          subst hsp
          clear hq
          go_wp2_with (at_builtin; refine wpList_append_sl rfl (.tmp 42) (.tmp 46) 76 rfl w1.heap.size 3 ii _ 1 8 Tryz.underlying76 hii hzi0 hzi1 hzi2 rfl (by decide) _ _ _ rfl (HO3.out.alloc _) (some ⟨w3.heap.size, 0, none⟩) 1 1 [.int .i64 (Mo.minV num l + sp)] rfl (sl_block (cs := #[.int .i64 (Mo.minV num l + sp)]) (e := 3) (fr := (0, 0)) (heap_alloc_new _ _) rfl (by omega)) (fun h => by cases h) (by simp [Value.oneCell']) (by unfold maxLen; omega) (by omega) (by simp; omega) ?_; intro v2 w4 ho4 hg4 _; have HO4 := Lib.hid ho4; have HX4 := Lib.hid (((HX.out.trans0 HX3.out).alloc' _).trans (Ex.ofGrown hg4) (fun _ _ h => h) (fun i hi h => (by have := (HO.out.lt _ h).1; omega))); clear ho4 hg4)
          go_roundw
          case rel => exact ⟨k + 1, by omega, by go_num, by rw [HSN.out, List.map_append]; exact (by simp only [List.map_cons, List.map_nil]; rw [HES.out]; simpa using HO4.out), HX4.out⟩
          case measure => simp [intOf]; omega
        | some m =>
          have hnv := HNV.out
          have hsp := HSP.out
          rw [hq] at hnv hsp
          obtain ⟨rfl, rfl⟩ := hnv
          dsimp only at hsp
          have hsp2 := hsp.symm
          clear hq hsp
          go_wp2_with (at_builtin; refine wpList_append_sl rfl (.tmp 42) (.tmp 46) 76 rfl w1.heap.size 3 ii _ 1 8 Tryz.underlying76 hii hzi0 hzi1 hzi2 rfl (by decide) _ _ _ rfl (HO3.out.alloc _) (some ⟨w3.heap.size, 0, none⟩) 1 1 [.int .i64 (Mo.minV num l + sp)] rfl (sl_block (cs := #[.int .i64 (Mo.minV num l + sp)]) (e := 3) (fr := (0, 0)) (heap_alloc_new _ _) rfl (by omega)) (fun h => by cases h) (by simp [Value.oneCell']) (by unfold maxLen; omega) (by omega) (by simp; omega) ?_; intro v2 w4 ho4 hg4 _; have HO4 := Lib.hid ho4; have HX4 := Lib.hid (((HX.out.trans0 HX3.out).alloc' _).trans (Ex.ofGrown hg4) (fun _ _ h => h) (fun i hi h => (by have := (HO.out.lt _ h).1; omega))); clear ho4 hg4)
          go_roundw
          case rel => exact ⟨k + 1, by omega, by go_num, by rw [HSN.out, List.map_append]; exact (by simp only [List.map_cons, List.map_nil]; rw [HES.out]; simpa using HO4.out), HX4.out⟩
          case measure => simp [intOf]; omega
    · have hkn : k = ks.length := by omega
      subst hkn
      rw [List.take_length, HKS.out, endsOf_keep] at HO
      have hol : (endsL rs num l).length ≤ 16 := by
        rw [← endsOf_keep]
        have h1 := endsOf_len rs num l (keepL rs)
        rw [← HKS.out, List.length_map] at h1
        rw [← HKS.out]; omega
      clear ho hx
      go_wp2_with fail
      refine (sortI_own _ _ _ _ _ HO.out (by omega)).mono ?_
      rintro e w4 ⟨rfl, ho4, hg4⟩
      have HX4 : Hid (Ex0 w1 w4) := HX.out.trans (Ex.ofGrown hg4) (fun _ _ h => h) (fun i hi h => (by have := (HO.out.lt _ h).1; omega))
      go_wp2_with fail
      refine (compactI_own _ _ _ _ _ ho4 (by omega)).mono ?_
      rintro e w5 ⟨A, cap, rfl, hsl5, _, hg5⟩
      have HX5 : Hid (Ex0 w1 w5) := HX4.out.trans (Ex.ofGrown hg5) (fun _ _ h => h) (fun i hi h => (by have := (HO.out.lt _ h).1; omega))
      have HS5 := Lib.hid hsl5
      clear hsl5 ho4 hg4 hg5
      go_wp2
      go_ret
      exact ⟨A, cap, rfl, HS5.out, HX1.out.trans0 HX5.out⟩
end Go.Proofs.YtoglddndicmelaaGreat.Tr

namespace Go.Proofs.YtoglddndicmelaaGreat.Tr
open Go.RowKit Go.Proofs.YtoglddndicmelaaGreatB Go.Proofs.YtoglddndicmelaaGreat
set_option maxRecDepth 100000

theorem add_row (g off m : Nat) : (⟨g, off, none⟩ : Addr).add m = ⟨g, off + m, none⟩ := by
  unfold Addr.add
  split <;> simp_all
theorem endsL_rng {rs : List Rul} (hrs : ∀ r ∈ rs, rightB r = true) {l : List Mo.It} (hk : Mo.TabOk l) (num : Int) : ∀ y ∈ endsL rs num l, 0 ≤ y ∧ y ≤ 2147483648 := by
  intro y hy
  obtain ⟨r, hr, rfl⟩ := List.mem_map.1 hy
  have h1 := spanI_rng hrs (List.mem_filter.1 hr).1
  have h2 := Mo.minV_rng hk num
  omega
theorem tillI_last {rs : List Rul} (hrs : ∀ r ∈ rs, rightB r = true) {l : List Mo.It} (hk : Mo.TabOk l) (num : Int) : (cmpI (srtI (endsL rs num l))).getLast?.getD 0 = tillI rs num l :=
  last_srt _ fun y hy => (endsL_rng hrs hk num y hy).1
theorem till_any (p : Nat) (tv : Value) (l : List Mo.It) (num : Int) (n0 n1 : Nat) (rs : List Rul) (v : Value) (nev : Int) (nevs : Bool) (w : World) (hB : Mo.TabAt w p tv l) (hk : Mo.TabOk l) (hA : AutC w n0 n1 rs v nev nevs)
    (hrs : rs.length ≤ 16 ∧ ∀ r ∈ rs, rightB r = true) (hh : Mo.has num l = true) :
    Calls Tryz.prog 137 #[aut v nev nevs, .pointer (some ⟨p, 0, none⟩), .int .u64 num] w fun e w' => e = .returned (.int .i64 (tillI rs num l)) ∧ Ex0 w w' := by
  rw [← tillI_last hrs.2 hk num]
  obtain ⟨A9, c9, hv, hsl, _⟩ := own_sl hA.keep.choose_spec.2.1
  generalize hA.keep.choose.length = n9 at hv hsl
  subst hv
  have HM := fun w' hx => Lib.hid (minutes_any p tv l num n0 n1 rs _ nev nevs w' (hB.ex0 (w := w) hx) hk (hA.ex hx (fun _ _ _ => id)) hrs hh)
  have hb0 := heap_alloc_new w (.cells #[.slice A9 n9 c9, .int .i64 nev, .bool nevs] 115)
  generalize cmpI (srtI (endsL rs num l)) = ms at HM
  clear hB hsl hA hrs hk
  go_enter Tryz.func137, Tryz.ntmps137
  unfold aut
  go_wp2_with (first | refine wpList_load_row rfl 115 (.tmp 3) rfl w.heap.size rfl 115 #[.slice A9 n9 c9, .int .i64 nev, .bool nevs] (0, 0) _ hb0 Tryz.underlying115 rfl (by kernel_rfl) ?_ | fail)
  refine (HM _ (Ex.alloc _ _)).out.mono ?_
  rintro e w1 ⟨A, cap, rfl, hsl, hx⟩
  have HX : Hid (Ex0 w w1) := (Ex.alloc _ _).trans0 hx
  clear hx HM hb0
  cases hm : ms with
  | nil =>
    subst hm
    go_wp2
    go_ret
    exact ⟨rfl, HX.out⟩
  | cons y l' =>
    rw [← hm]
    have hpos : 0 < ms.length := by rw [hm]; simp
    have hsm := hsl.small
    obtain ⟨g, off, rfl, hrow⟩ := hsl.at_ hpos
    obtain ⟨m, hm1⟩ : ∃ m, ms.length = m + 1 := ⟨ms.length - 1, by omega⟩
    have hc := hrow m (.int .i64 (ms.getLast?.getD 0)) (by rw [List.getElem?_map, List.getLast?_eq_getElem?, show ms.length - 1 = m by omega, List.getElem?_eq_getElem (by omega)]; rfl)
    have hne : (((m + 1 : Nat) : Int) == 0) = false := by simp; omega
    have hi : ((m + 1 : Nat) : Int) - 1 = (m : Int) := by omega
    rw [hm1] at hsm
    rw [hm1]
    have hc2 : w1.cell? ⟨g, off + m, none⟩ = some (.int .i64 (ms.getLast?.getD 0)) := by rw [← hc, add_row]
    clear hc
    have hm2 : (m : Int) < ((m + 1 : Nat) : Int) := by omega
    have hm0 : (0 : Int) ≤ (m : Int) := by omega
    clear hrow hsl hm hm1 hpos
    generalize hM : m + 1 = M at *
    go_wp2
    go_ret
    exact ⟨rfl, HX.out⟩
theorem stays_any (p : Nat) (tv : Value) (l : List Mo.It) (num now : Int) (n0 n1 : Nat) (rs : List Rul) (v : Value) (nev : Int) (nevs : Bool) (w : World) (hB : Mo.TabAt w p tv l) (hk : Mo.TabOk l) (hA : AutC w n0 n1 rs v nev nevs)
    (hrs : rs.length ≤ 16 ∧ ∀ r ∈ rs, rightB r = true) (hh : Mo.has num l = true) :
    Calls Tryz.prog 95 #[aut v nev nevs, .pointer (some ⟨p, 0, none⟩), .int .u64 num, .int .i64 now] w fun e w' => e = .returned (.bool (decide (now < tillI rs num l))) ∧ Ex0 w w' := by
  obtain ⟨A9, c9, hv, hsl, _⟩ := own_sl hA.keep.choose_spec.2.1
  generalize hA.keep.choose.length = n9 at hv hsl
  subst hv
  have HT := fun w' hx => Lib.hid (till_any p tv l num n0 n1 rs _ nev nevs w' (hB.ex0 (w := w) hx) hk (hA.ex hx (fun _ _ _ => id)) hrs hh)
  have HM := fun w' hx => Lib.hid (Mo.min_any p tv l num w' (hB.ex0 (w := w) hx) hk)
  have hb0 := heap_alloc_new w (.cells #[.slice A9 n9 c9, .int .i64 nev, .bool nevs] 115)
  generalize tillI rs num l = t at HT
  clear hB hsl hA hrs hk
  go_enter Tryz.func95, Tryz.ntmps95
  unfold aut
  go_wp2_with fail
  refine (HM _ (Ex.alloc _ _)).out.mono ?_
  rintro e w1 ⟨rfl, hx⟩
  rw [hh]
  have HX : Hid (Ex0 w w1) := (Ex.alloc _ _).trans0 hx
  have hb1 := (hx.block _ (Array.getElem?_eq_some_iff.1 hb0).1 not_false).trans hb0
  clear hx HM hb0
  go_wp2_with (first | refine wpList_load_row_g rfl 115 (.tmp 4) rfl w.heap.size rfl 115 #[.slice A9 n9 c9, .int .i64 nev, .bool nevs] (0, 0) _ hb1 Tryz.underlying115 rfl (by kernel_rfl) ?_ | fail)
  refine (HT _ HX.out).out.mono ?_
  rintro e w2 ⟨rfl, hx2⟩
  go_wp2
  go_ret
  exact ⟨rfl, HX.out.trans0 hx2⟩
end Go.Proofs.YtoglddndicmelaaGreat.Tr
