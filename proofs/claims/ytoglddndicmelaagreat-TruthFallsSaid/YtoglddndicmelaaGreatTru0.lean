/- Layer 54: a list of all writes, plainly. -/
import Derived.Test.YtoglddndicmelaaGreatTruF
import Derived.Test.YtoglddndicmelaaGreatMoC
import Derived.Test.YtoglddndicmelaaGreatHoA
import Derived.Test.YtoglddndicmelaaGreatHoB
namespace Go.Proofs.YtoglddndicmelaaGreat.Tr
open Go.RowKit Go.Proofs.YtoglddndicmelaaGreatB Go.Proofs.YtoglddndicmelaaGreat

/-- a rule -/
structure Rul where
  kind : Int
  len : Int
  till : Int
def Rul.cells (r : Rul) : List Value := [.int .i64 r.kind, .int .i64 r.len, .int .i64 r.till]
def Rul.val (r : Rul) : Value := .agg #[.int .i64 r.kind, .int .i64 r.len, .int .i64 r.till]
theorem Rul.length (r : Rul) : r.cells.length = 3 := rfl
def spanB (n : Int) : Bool := decide (1 ≤ n) && decide (n ≤ 1073741824)
def rightB (r : Rul) : Bool :=
  if r.kind = 1 ∨ r.kind = 4 then r.len == 0 && spanB r.till else if r.kind = 2 ∨ r.kind = 3 then spanB r.len && spanB r.till else false
/-- does a rule keep a moment -/
def keepB (r : Rul) (num : Int) (l : List Mo.It) : Bool := if r.kind = 1 then true else if r.kind = 2 then Mo.closesB num r.len l else Mo.quietB num r.len l
/-- the least time of the rules that say never; none: there is none -/
def neverO : List Rul → Option Int
  | [] => none
  | r :: rs => if r.kind = 4 then some (match neverO rs with | none => r.till | some n => min r.till n) else neverO rs
def spanI (rs : List Rul) (r : Rul) : Int := match neverO rs with | none => r.till | some n => min r.till n
/-- the minutes till which rules keep a moment -/
def endsL (rs : List Rul) (num : Int) (l : List Mo.It) : List Int := (rs.filter fun r => !(r.kind == 4) && keepB r num l).map fun r => Mo.minV num l + spanI rs r
def tillI (rs : List Rul) (num : Int) (l : List Mo.It) : Int := (endsL rs num l).foldl max 0

/-- a write -/
structure Wr where
  num : Int
  br : Int
  vol : Int
  blk : Int
  data : List Nat
def Wr.cells (x : Wr) : List Value := .int .u64 x.num :: .int .i64 x.br :: .int .i64 x.vol :: .int .i64 x.blk :: (encN32 x.data)
where encN32 (d : List Nat) : List Value := ((d ++ List.replicate 32 0).take 32).map fun (y : Nat) => .int .u8 y
theorem Wr.length (x : Wr) : x.cells.length = 36 := by simp [Wr.cells, Wr.cells.encN32]

/-- a list of all writes, and what is promised of it -/
structure TS where
  vols : Int
  blocks : Int
  now : Int
  top : Int
  ws : List Wr
  tab : List Mo.It
  holds : List Ho.Put
  fs : List Tw
  rules : List Rul

/-- is a moment promised -/
def hasP (rs : List Rul) (tab : List Mo.It) (holds : List Ho.Put) (fs : List Tw) (num now : Int) : Bool :=
  Mo.has num tab && (!Mo.outB num tab && (Mo.lastN tab == num || (decide (now < tillI rs num tab) || (holds.any (fun p => Ho.isOver (Mo.minV num tab) now p && decide (num < p.num)) || (brs fs).any (fun b => b.ba == num)))))
def TS.has (s : TS) (num : Int) : Bool := hasP s.rules s.tab s.holds s.fs num s.now
/-- all that are promised -/
def TS.all (s : TS) : List Int := (s.tab.filter fun x => s.has x.num).map (·.num)
def TS.next (s : TS) : Int := if 65535 ≤ s.top then 0 else s.top + 1
def TS.there (s : TS) (vol blk : Int) : Bool := decide (0 ≤ vol) && (decide (0 ≤ blk) && (decide (vol < s.vols) && decide (blk < s.blocks)))

def TS.writeE (s : TS) (br vol blk : Int) : Int :=
  if br < 0 ∨ 16 ≤ br ∨ s.there vol blk = false then 2 else if alive s.fs br = false then 4 else if s.next = 0 then 14 else 0
def TS.write (s : TS) (br vol blk : Int) (d : List Nat) : TS :=
  if s.writeE br vol blk = 0 then { s with top := s.top + 1, ws := s.ws ++ [⟨s.top + 1, br, vol, blk, d⟩], tab := s.tab ++ [⟨s.top + 1, s.now, false⟩] } else s
def TS.writeN (s : TS) (br vol blk : Int) : Int := if s.writeE br vol blk = 0 then s.top + 1 else 0
def TS.tickE (s : TS) (min : Int) : Int := if 1073741824 < min then 2 else if min < s.now then 15 else 0
def TS.tick (s : TS) (min : Int) : TS := if s.tickE min = 0 then { s with now := min, holds := s.holds.filter fun p => decide (min < p.h.til) } else s
def TS.mark (s : TS) : TS := if s.next = 0 then s else { s with top := s.top + 1 }
def TS.forkE (s : TS) (pa m : Int) : Int :=
  if alive s.fs pa = false ∨ s.has m = false then 4 else if m < numF s.fs pa then 15 else if freeF s.fs = 16 then 6 else if s.next = 0 then 14 else 0
def TS.forkI (s : TS) (pa m : Int) : Int := if s.forkE pa m = 0 then freeF s.fs else 0
def TS.fork (s : TS) (pa m : Int) : TS := if s.forkE pa m = 0 then { s with top := s.top + 1, fs := s.fs.set (freeF s.fs) ⟨true, pa, m, s.top + 1⟩ } else s
def TS.dropE (s : TS) (id : Int) : Int := if Tr.dropE s.fs id = 0 then (if s.next = 0 then 14 else 0) else Tr.dropE s.fs id
def TS.drop (s : TS) (id : Int) : TS := if s.dropE id = 0 then { s with top := s.top + 1, fs := s.fs.set id.toNat tw0 } else s
/-- what is not promised is out -/
def TS.rel (s : TS) : TS := { s with tab := s.tab.map fun x => ⟨x.num, x.min, x.out || !s.has x.num⟩ }
def TS.holdE (s : TS) (a b c : Int) : Int := if Ho.addE ⟨s.top + 1, a, b, c⟩ (s.top + 1) s.now s.holds = 0 then (if s.next = 0 then 14 else 0) else Ho.addE ⟨s.top + 1, a, b, c⟩ (s.top + 1) s.now s.holds
def TS.hold (s : TS) (a b c : Int) : TS :=
  if s.holdE a b c = 0 then { s.rel with top := s.top + 1, holds := s.holds ++ [⟨⟨s.top + 1, a, b, c⟩, s.top + 1, s.now⟩] } else s.rel
def TS.holdN (s : TS) (a b c : Int) : Int := if s.holdE a b c = 0 then s.top + 1 else 0
def TS.liftE (s : TS) (id : Int) : Int := if Ho.liftE id s.holds = 0 then (if s.next = 0 then 14 else 0) else Ho.liftE id s.holds
def TS.lift (s : TS) (id : Int) : TS := if s.liftE id = 0 then { s with top := s.top + 1, holds := Ho.liftL id s.holds } else s
def TS.skip (s : TS) (t : Int) : TS := if s.top < t ∧ t ≤ 65535 then { s with top := t } else s

/-- is a write shown by a step of a line, at a place -/
def onB (vol blk : Int) (s : Stp) (x : Wr) : Bool := x.br == s.br && (x.vol == vol && (x.blk == blk && (decide (s.lo < x.num) && decide (x.num ≤ s.hi))))
/-- the write that a line shows -/
def shownL (ws : List Wr) (vol blk : Int) : List Stp → Option Wr
  | [] => none
  | s :: l => match (ws.filter (onB vol blk s)).getLast? with | some x => some x | none => shownL ws vol blk l
def z32 : List Nat := List.replicate 32 0
def TS.shown (s : TS) (id m vol blk : Int) : Option Wr := shownL s.ws vol blk (lineF s.fs id.toNat m)
def TS.readE (s : TS) (id m vol blk : Int) : Int :=
  if s.there vol blk = false then 2 else if alive s.fs id = false ∨ m < numF s.fs id then 4 else if s.has m = false then 10 else 0
def TS.readD (s : TS) (id m vol blk : Int) : List Nat := if s.readE id m vol blk = 0 then (match s.shown id m vol blk with | some x => x.data | none => z32) else z32

/-- what holds of each -/
structure Inv (s : TS) : Prop where
  now : 0 ≤ s.now ∧ s.now ≤ 1073741824
  top : 0 ≤ s.top ∧ s.top ≤ 65535
  tab : Mo.TabOk s.tab
  tabT : ∀ x ∈ s.tab, x.num ≤ s.top ∧ x.min ≤ s.now
  last : Mo.LastIn s.tab
  fs : FOk s.fs
  fsT : ∀ i, (tg s.fs i).nu ≤ s.top
  hlen : s.holds.length ≤ 64
  holds : ∀ p ∈ s.holds, p.num ≤ s.top ∧ p.min ≤ s.now ∧ p.h.id = p.num ∧ 0 ≤ p.num ∧ 0 ≤ p.min
  hsrt : s.holds.Pairwise (fun p q => p.num < q.num)
  ws : s.ws.map (fun x => x.num) = s.tab.map (fun x => x.num)
  wsd : ∀ x ∈ s.ws, x.data.length = 32 ∧ ∀ y ∈ x.data, y < 256
  rules : s.rules.length ≤ 16 ∧ ∀ r ∈ s.rules, rightB r = true
  dims : 1 ≤ s.vols ∧ s.vols ≤ 8 ∧ 1 ≤ s.blocks ∧ s.blocks ≤ 256
end Go.Proofs.YtoglddndicmelaaGreat.Tr
