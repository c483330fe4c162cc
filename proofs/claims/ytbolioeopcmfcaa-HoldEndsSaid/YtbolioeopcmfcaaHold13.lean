/- Layer 37: acts; the law HoldMinutes, plain. -/
import Derived.Test.YtbolioeopcmfcaaHold12
import Derived.Test.YtbolioeopcmfcaaB4
namespace Go.Proofs.Ytbolioeopcmfcaa
open Go.RowKit Go.Proofs.YtbolioeopcmfcaaB Go.Shelf

structure DeedA where
  lift : Bool
  h : Held
  num : Int
  min : Int
  deriving DecidableEq
def DeedA.cells (x : DeedA) : List Value := [.bool x.lift, .int .u64 x.h.id, .int .i64 x.h.fr, .int .i64 x.h.to, .int .i64 x.h.til, .int .u64 x.num, .int .i64 x.min]
theorem DeedA.len (x : DeedA) : x.cells.length = 7 := rfl

theorem addE_cases {h : Held} {num min : Int} {l : List Put} (h0 : addE h num min l = 0) : mayB h = true ∧ minuteB min = true ∧ min < h.til ∧ l.any (fun x => x.h.id == h.id) = false ∧ l.any (pastB num min) = false ∧ l.length < 64 := by
  unfold addE at h0
  split at h0
  · rename_i hm
    split at h0
    · simp at h0
    · split at h0
      · simp at h0
      · split at h0
        · simp at h0
        · split at h0
          · simp at h0
          · rename_i h1 h2 h3 h4
            simp only [Bool.and_eq_true] at hm
            exact ⟨hm.1, hm.2, by omega, by simpa using h2, by simpa using h3, by omega⟩
  · simp at h0

theorem addE_sub {h : Held} {num min : Int} {l k : List Put} (hs : k.Sublist l) (h0 : addE h num min l = 0) : addE h num min k = 0 := by
  obtain ⟨h1, h2, h3, h4, h5, h6⟩ := addE_cases h0
  refine addE_0 h1 h2 h3 ?_ ?_ (by have := hs.length_le; omega)
  · rw [List.any_eq_false] at h4 ⊢
    exact fun x hx => h4 x (hs.subset hx)
  · rw [List.any_eq_false] at h5 ⊢
    exact fun x hx => h5 x (hs.subset hx)

/-- the books of HoldMinutes: a, b, the ids of b -/
structure MinSt where
  a : List Put
  b : List Put
def minStep (only : List Bool) (s : MinSt) (i : Nat) (d : DeedA) : MinSt :=
  if d.lift then s else if addE d.h d.num d.min s.a ≠ 0 then s else
    ⟨s.a ++ [⟨d.h, d.num, d.min⟩], if only.getD i false then s.b ++ [⟨d.h, d.num, d.min⟩] else s.b⟩
def minRun (only : List Bool) : Nat → List DeedA → MinSt → MinSt
  | _, [], s => s
  | i, d :: l, s => minRun only (i + 1) l (minStep only s i d)

structure MinOk (s : MinSt) : Prop where
  sub : s.b.Sublist s.a
  ids : (s.a.map (·.h.id)).Nodup
  len : s.a.length ≤ 64

theorem minOk_step {only : List Bool} {s : MinSt} {i : Nat} {d : DeedA} (h : MinOk s) : MinOk (minStep only s i d) := by
  unfold minStep
  split
  · exact h
  · split
    · exact h
    · rename_i h0
      have h0' : addE d.h d.num d.min s.a = 0 := by simpa using h0
      obtain ⟨_, _, _, h4, _, h6⟩ := addE_cases h0'
      refine ⟨?_, ?_, by simp; omega⟩
      · dsimp only
        split
        · exact h.sub.append (List.Sublist.refl _)
        · exact h.sub.trans (List.sublist_append_left _ _)
      · simp only [List.map_append, List.map_cons, List.map_nil]
        rw [List.nodup_append]
        refine ⟨h.ids, by simp, ?_⟩
        intro a ha b hb hab
        simp at hb
        subst hb; subst hab
        obtain ⟨x, hx, hxe⟩ := List.mem_map.1 ha
        rw [List.any_eq_false] at h4
        exact h4 x hx (by simp [hxe])

/-- the map of the law -/
def idsM (l : List Put) : List (Int × Value) := l.map fun x => (x.h.id, .bool true)
theorem idsM_put {l : List Put} {x : Put} (h : l.any (fun y => y.h.id == x.h.id) = false) : putM (idsM l) x.h.id (.bool true) = idsM (l ++ [x]) := by
  unfold putM
  have : (idsM l).any (fun p => p.1 == x.h.id) = false := by
    unfold idsM; rw [List.any_map]; exact h
  rw [this]
  simp [idsM]
theorem idsM_keys (l : List Put) : (idsM l).map (·.1) = l.map (·.h.id) := by simp [idsM]
theorem getM_ids (l : List Put) (i : Int) : (getM (idsM l) i).getD (.bool false) = .bool (l.any fun x => x.h.id == i) := by
  unfold getM idsM
  induction l with
  | nil => rfl
  | cons x l ih =>
    by_cases hx : x.h.id = i
    · simp [hx]
    · have : (x.h.id == i) = false := by rw [beq_eq_false_iff_ne]; exact hx
      simp only [List.map_cons, List.find?_cons, this, List.any_cons, Bool.false_or]
      exact ih

/-- the law's heart: what is over a minute of a sublist -/
theorem min_want {a b : List Put} (hs : b.Sublist a) (hn : (a.map (·.h.id)).Nodup) (min now : Int) : (overL min now a).filter (fun x => b.any fun y => y.h.id == x.h.id) = overL min now b := by
  unfold overL
  induction hs with
  | slnil => rfl
  | @cons b a x hs ih =>
    simp only [List.map_cons, List.nodup_cons] at hn
    have hx : (b.any fun y => y.h.id == x.h.id) = false := by
      rw [List.any_eq_false]; intro y hy hh
      exact hn.1 (List.mem_map.2 ⟨y, hs.subset hy, by simpa using hh⟩)
    rw [← ih hn.2]
    simp only [List.filter_cons]
    split
    · simp [hx]
    · rfl
  | @cons_cons b a x hs ih =>
    simp only [List.map_cons, List.nodup_cons] at hn
    have e : ∀ l : List Put, l.Sublist a → l.filter (fun z => (x :: b).any fun y => y.h.id == z.h.id) = l.filter (fun z => b.any fun y => y.h.id == z.h.id) := by
      intro l hl
      apply List.filter_congr
      intro z hz
      have hne : (x.h.id == z.h.id) = false := by
        rw [beq_eq_false_iff_ne]; intro hh
        exact hn.1 (List.mem_map.2 ⟨z, hl.subset hz, hh.symm⟩)
      simp [hne]
    simp only [List.filter_cons]
    split
    · rw [List.filter_cons]
      simp only [List.any_cons, beq_self_eq_true, Bool.true_or, if_true]
      have := e (a.filter (isOver min now)) List.filter_sublist
      simp only [List.any_cons] at this
      rw [this, ih hn.2]
    · have := e (a.filter (isOver min now)) List.filter_sublist
      rw [this, ih hn.2]
end Go.Proofs.Ytbolioeopcmfcaa
