/- Contracts of layer 37: the small functions. Contracts of layer 37: a book's methods. Contracts of layer 37: slices.Delete, slices.Clone, append, at slices of holds. Contracts of layer 37: New, Len, Clone, Lift. Contracts of layer 37: Add. -/
import Derived.Test.YtoglddndicmelaaGreatProg
import Derived.WalkKit
import Derived.ProofKit
import Derived.Lib.Hide
import Derived.Outline
import Derived.Laws.Rows
import Derived.BigQuiet
import Derived.Deep.QuietTactic
import Derived.Deep.RegionHeld3
import Derived.Deep.AppendLies
import Derived.Test.YtoglddndicmelaaGreatB0
import Derived.Shelf.Abstract
import Derived.Test.YtoglddndicmelaaGreatB1
import Derived.WalkSpells
import Derived.Maps.AppendAt
import Derived.Test.YtoglddndicmelaaGreatB2
namespace Go.Proofs.YtoglddndicmelaaGreat.Ho
open Go.RowKit Go.Proofs.YtoglddndicmelaaGreatB
open Go.RowKit Go.Proofs.YtoglddndicmelaaGreatB Go.Shelf
set_option maxRecDepth 100000

structure Held where
  id : Int
  fr : Int
  to : Int
  til : Int
  deriving DecidableEq
structure Put where
  h : Held
  num : Int
  min : Int
  deriving DecidableEq
def Held.cells (h : Held) : List Value := [.int .u64 h.id, .int .i64 h.fr, .int .i64 h.to, .int .i64 h.til]
def Held.val (h : Held) : Value := .agg #[.int .u64 h.id, .int .i64 h.fr, .int .i64 h.to, .int .i64 h.til]
def Put.cells (p : Put) : List Value := [.int .u64 p.h.id, .int .i64 p.h.fr, .int .i64 p.h.to, .int .i64 p.h.til, .int .u64 p.num, .int .i64 p.min]
def Put.val (p : Put) : Value := .agg #[.int .u64 p.h.id, .int .i64 p.h.fr, .int .i64 p.h.to, .int .i64 p.h.til, .int .u64 p.num, .int .i64 p.min]
theorem Put.len (x : Put) : x.cells.length = 6 := rfl
theorem ret_int {k : IntKind} {a b : Int} (h : a = b) : Ending.returned (.int k a) = .returned (.int k b) := by rw [h]
theorem ret_bool {a b : Bool} (h : a = b) : Ending.returned (.bool a) = .returned (.bool b) := by rw [h]
/-- is it a minute? -/
def minuteB (n : Int) : Bool := decide (0 ≤ n) && decide (n ≤ 1073741824)
theorem minute_any (n : Int) (w : World) :
    Calls Tryz.prog 108 #[.int .i64 n] w fun e w' => e = .returned (.bool (minuteB n)) ∧ w' = w := by
  go_enter Tryz.func108, Tryz.ntmps108
  go_wp2
  all_goals
    go_ret
    simp_all [minuteB] <;> omega
def mayB (h : Held) : Bool := !(h.id == 0) && minuteB h.fr && minuteB h.to && minuteB h.til && decide (h.fr ≤ h.to)
set_option maxHeartbeats 1000000 in
theorem may_any (h : Held) (w : World) :
    Calls Tryz.prog 107 #[h.val] w fun e w' => e = .returned (.bool (mayB h)) ∧ Ex0 w w' := by
  obtain ⟨id, fr, to, til⟩ := h
  unfold Held.val
  dsimp only
  go_enter Tryz.func107, Tryz.ntmps107
  go_wp2_with fail
  go_region_held3 (fun w' => w'.cell? ⟨w.heap.size, 0, none⟩ = some (.int .u64 id) ∧ w'.cell? ⟨w.heap.size, 1, none⟩ = some (.int .i64 fr) ∧ w'.cell? ⟨w.heap.size, 2, none⟩ = some (.int .i64 to) ∧ w'.cell? ⟨w.heap.size, 3, none⟩ = some (.int .i64 til))
    (first | go_keep)
    (first | (go_at_call 108; refine (minute_any _ _).mono ?_; rintro e w' ⟨rfl, rfl⟩))
  all_goals
    go_wp2
    all_goals
      go_ret
      refine ⟨ret_bool ?_, by repeat (first | exact Ex.refl _ _ | apply Ex.alloc' | apply Ex.drew')⟩
      simp_all [mayB]
theorem isId_any (p : Put) (id : Int) (b : Nat) (w : World) (hb : w.cell? ⟨b, 0, none⟩ = some (.int .u64 id)) :
    Calls Tryz.prog 148 #[p.val, .pointer (some ⟨b, 0, none⟩)] w fun e w' => e = .returned (.bool (p.h.id == id)) ∧ Ex0 w w' := by
  have hl := World.block_lt_of_cell? _ _ hb
  unfold Put.val
  go_enter Tryz.func148, Tryz.ntmps148
  go_wp2
  go_ret
  exact ⟨rfl, Ex.alloc _ _⟩
def pastB (num min : Int) (p : Put) : Bool := decide (num ≤ p.num) || decide (min < p.min)
theorem isPast_any (p : Put) (num min : Int) (b c : Nat) (w : World) (hb : w.cell? ⟨b, 0, none⟩ = some (.int .u64 num)) (hc : w.cell? ⟨c, 0, none⟩ = some (.int .i64 min)) :
    Calls Tryz.prog 111 #[p.val, .pointer (some ⟨b, 0, none⟩), .pointer (some ⟨c, 0, none⟩)] w fun e w' => e = .returned (.bool (pastB num min p)) ∧ Ex0 w w' := by
  have hl := World.block_lt_of_cell? _ _ hb
  have hl2 := World.block_lt_of_cell? _ _ hc
  unfold Put.val
  go_enter Tryz.func111, Tryz.ntmps111
  go_wp2
  all_goals
    go_ret
    refine ⟨ret_bool ?_, Ex.alloc _ _⟩
    simp_all [pastB] <;> omega
/-- the first place; -1: there is none -/
def idxOf (q : Put → Bool) (l : List Put) : Int := match l.findIdx? q with | some i => i | none => -1
theorem idxOf_none {q : Put → Bool} {l : List Put} (h : ∀ j (h : j < l.length), q l[j] = false) : (-1 : Int) = idxOf q l := by
  unfold idxOf
  have : l.findIdx? q = none := by
    rw [List.findIdx?_eq_none_iff]
    intro x hx
    obtain ⟨j, hj, rfl⟩ := List.getElem_of_mem hx
    exact h j hj
  rw [this]
theorem idxOf_some {q : Put → Bool} {l : List Put} {k : Nat} (hk : k < l.length) (h : ∀ j (h : j < l.length), j < k → q l[j] = false) (hq : q l[k] = true) : (k : Int) = idxOf q l := by
  unfold idxOf
  have : l.findIdx? q = some k := by
    rw [List.findIdx?_eq_some_iff_getElem]
    exact ⟨hk, hq, fun j hj => by rw [h j (by omega) hj]; simp⟩
  rw [this]
theorem idxOf_any (q : Put → Bool) (l : List Put) : decide (0 ≤ idxOf q l) = l.any q := by
  unfold idxOf
  cases h : l.findIdx? q with
  | none =>
    rw [List.findIdx?_eq_none_iff] at h
    have : l.any q = false := by rw [List.any_eq_false]; intro x hx; rw [h x hx]; simp
    rw [this]; simp
  | some i =>
    rw [List.findIdx?_eq_some_iff_getElem] at h
    obtain ⟨hi, hq, _⟩ := h
    have : l.any q = true := by rw [List.any_eq_true]; exact ⟨_, List.getElem_mem hi, hq⟩
    rw [this]; simp
theorem indexFunc_any (A : Option Addr) (len cap : Nat) (l : List Put) (f : Nat) (cp : Array Value) (q : Put → Bool) (w : World)
    (hs : Sl w 6 A len (l.flatMap Put.cells)) (he : ∀ args w, (callFunc f args).run Tryz.prog w = .ok (.enter f args) w)
    (hf : ∀ x ∈ l, ∀ w', Ex0 w w' → Calls Tryz.prog f (#[x.val] ++ cp) w' fun e w'' => e = .returned (.bool (q x)) ∧ Ex0 w' w'') :
    Calls Tryz.prog 147 #[.slice A len cap, .func (.func f) #[] cp] w fun e w' => e = .returned (.int .i64 (idxOf q l)) ∧ Ex0 w w' := by
  have hm := hs.small
  have hll : l.length = len := by have := hs.len; rw [flat_len Put.cells 6 Put.len] at this; omega
  go_enter Tryz.func147, Tryz.ntmps147
  go_wp2
  go_loopw [4, 5, 8] (fun r _ i wr => ∃ k : Nat, k ≤ len ∧ i = .int .i64 k ∧ Ex0 w wr ∧ ∀ j (h : j < l.length), j < k → q l[j] = false) (fun _ _ i _ => len - (intOf i).toNat)
  case atStart => exact ⟨0, Nat.zero_le _, rfl, Ex.refl _ _, fun j h hj => by omega⟩
  case round =>
    obtain ⟨k, hk, rfl, hb, hq⟩ := hrel
    by_cases hlt : k < len
    · obtain ⟨g, off, hl, rfl, hr⟩ := (hs.ex0 hb).row Put.len (by omega) hlt
      have hx : l[k]'(by omega) ∈ l := List.getElem_mem _
      have H := Lib.hid (hf _ hx _ hb)
      cases hqk : q l[k]
      all_goals
        have HQ := Lib.hid hqk
        clear hqk
        go_wp2_with (first | (refine wpList_load_at rfl _ _ rfl _ rfl _ _ hr Tryz.underlying203 rfl (by kernel_rfl) ?_))
        refine H.out.mono ?_
        rintro e w' ⟨rfl, hb2⟩
        rw [HQ.out]
        go_wp2
      · go_roundw
        case rel =>
          exact ⟨k + 1, by omega, by go_num, hb.trans0 hb2, fun j hj h => by
            by_cases e : j = k
            · subst e; exact HQ.out
            · exact hq j hj (by omega)⟩
        case measure => simp [intOf]; omega
      · go_ret
        exact ⟨ret_int (idxOf_some hl hq HQ.out), hb.trans0 hb2⟩
    · go_wp2
      go_ret
      exact ⟨ret_int (idxOf_none (fun j hj => hq j hj (by omega))), hb⟩
theorem containsFunc_any (A : Option Addr) (len cap : Nat) (l : List Put) (f : Nat) (cp : Array Value) (q : Put → Bool) (w : World)
    (hs : Sl w 6 A len (l.flatMap Put.cells)) (he : ∀ args w, (callFunc f args).run Tryz.prog w = .ok (.enter f args) w)
    (hf : ∀ x ∈ l, ∀ w', Ex0 w w' → Calls Tryz.prog f (#[x.val] ++ cp) w' fun e w'' => e = .returned (.bool (q x)) ∧ Ex0 w' w'') :
    Calls Tryz.prog 110 #[.slice A len cap, .func (.func f) #[] cp] w fun e w' => e = .returned (.bool (l.any q)) ∧ Ex0 w w' := by
  go_enter Tryz.func110, Tryz.ntmps110
  have HE := Lib.hid he
  have HF := Lib.hid hf
  clear he hf
  go_wp2_with fail
  refine (indexFunc_any A len cap l f cp q _ hs HE.out HF.out).mono ?_
  rintro e w' ⟨rfl, hb⟩
  go_wp2
  go_ret
  exact ⟨ret_bool (idxOf_any q l), hb⟩

/-- a book: its block holds a slice of its own -/
structure BookAt (w : World) (p : Nat) (v : Value) (l : List Put) : Prop where
  blk : w.heap[p]? = some (.cells #[v] 174 (0, 0))
  own : w.ownsRow 0 203 6 v l.length (l.flatMap Put.cells)
  ne : v.ownBlock ≠ some p
theorem BookAt.cell {w : World} {p : Nat} {v : Value} {l : List Put} (h : BookAt w p v l) : w.cell? ⟨p, 0, none⟩ = some v := by
  rw [cell_of_row w p 0 _ _ _ h.blk]; rfl
theorem BookAt.lt {w : World} {p : Nat} {v : Value} {l : List Put} (h : BookAt w p v l) : p < w.heap.size := (Array.getElem?_eq_some_iff.1 h.blk).1
theorem BookAt.ex {S : Nat → Prop} {w w' : World} {p : Nat} {v : Value} {l : List Put} (h : BookAt w p v l) (hx : Ex S w w') (h1 : ¬ S p) (h2 : ∀ b, v.ownBlock = some b → ¬ S b) : BookAt w' p v l :=
  ⟨(hx.block p h.lt h1).trans h.blk, own_ex h.own hx h2, h.ne⟩
theorem BookAt.ex0 {w w' : World} {p : Nat} {v : Value} {l : List Put} (h : BookAt w p v l) (hx : Ex0 w w') : BookAt w' p v l := h.ex hx id (fun _ _ => id)
theorem find_any (p : Nat) (v : Value) (l : List Put) (id : Int) (w : World) (hB : BookAt w p v l) :
    Calls Tryz.prog 109 #[.pointer (some ⟨p, 0, none⟩), .int .u64 id] w fun e w' => e = .returned (.int .i64 (idxOf (fun x => x.h.id == id) l)) ∧ Ex0 w w' := by
  have hc := hB.cell
  have hl := hB.lt
  obtain ⟨A, cap, rfl, hsl, hbl⟩ := own_sl hB.own
  have HB := Lib.hid hbl
  clear hbl
  go_enter Tryz.func109, Tryz.ntmps109
  go_wp2_with fail
  refine (indexFunc_any A l.length cap l 148 _ (fun x => x.h.id == id) _ (hsl.ex0 (Ex.alloc _ _)) (enters_of Tryz.func148 (by kernel_rfl) rfl) ?_).mono ?_
  · intro x _ w' hw'
    exact isId_any x id _ w' (hw'.cellS (by simp) not_false)
  · rintro e w' ⟨rfl, hx⟩
    go_wp2
    go_ret
    exact ⟨rfl, (Ex.alloc _ _).trans0 hx⟩

theorem infoPut : (Tryz.prog.info? 203).map (fun i => (i.zero, i.size, i.bytes)) = some (some (.agg #[.int .u64 0, .int .i64 0, .int .i64 0, .int .i64 0, .int .u64 0, .int .i64 0]), 6, 48) := by kernel_rfl
theorem zeroPut (w : World) : (zeroValue 203).run Tryz.prog w = .ok (.agg #[.int .u64 0, .int .i64 0, .int .i64 0, .int .i64 0, .int .u64 0, .int .i64 0]) w := by kernel_rfl
set_option maxRecDepth 100000 in
set_option maxHeartbeats 1000000 in
/-- slices.Delete of a part of a row of its own -/
theorem delete_any (v : Value) (n i j : Nat) (cs : List Value) (w : World) (ho : w.ownsRow 0 203 6 v n cs) (hc1 : ∀ u ∈ cs, u.oneCell' = true) (hij : i < j) (hj : j ≤ n) :
    Calls Tryz.prog 112 #[v, .int .i64 i, .int .i64 j] w fun e w' => ∃ v', e = .returned v' ∧ v'.ownBlock = v.ownBlock ∧
      w'.ownsRow 0 203 6 v' (n - (j - i)) (cs.take (i * 6) ++ cs.drop (j * 6)) ∧ Ex (fun b => v.ownBlock = some b) w w' := by
  obtain ⟨hlen, ⟨_, h0⟩ | ⟨g, cap, cur, rfl, hb, hg, hn, hcap, hsz, htake⟩⟩ := ho
  · omega
  unfold maxLen at hcap
  obtain ⟨i0, hi0, hz0, hz1, hz2⟩ := info_parts infoPut
  -- the cells that move
  obtain ⟨news, hnews⟩ : ∃ news, news = cs.drop (j * 6) := ⟨_, rfl⟩
  have hnl : news.length = (n - j) * 6 := by rw [hnews, List.length_drop, hlen, Nat.sub_mul]
  obtain ⟨A, hA, hsrc⟩ : ∃ A : Addr, (if cap = j then some (⟨g, 0, none⟩ : Addr) else some ⟨g, j * 6, none⟩) = some A ∧ Hid (RowAt w.drew A news) := by
    by_cases h : cap = j
    · refine ⟨⟨g, 0, none⟩, by simp [h], fun t u hu => ?_⟩
      have h0 : news.length = 0 := by rw [hnl]; omega
      rw [List.length_eq_zero_iff.1 h0] at hu
      simp at hu
    · refine ⟨⟨g, j * 6, none⟩, by simp [h], fun t u hu => ?_⟩
      rw [Addr.add_lit, cell_of_row w.drew g _ cur _ _ hg, ← Array.getElem?_toList]
      rw [hnews, List.getElem?_drop, ← htake, List.getElem?_take] at hu
      split at hu
      · exact hu
      · cases hu
  have s2 : Hid (∀ u ∈ news, u.oneCell' = true) := fun u hu => hc1 u (List.mem_of_mem_drop (by rw [← hnews]; exact hu))
  have s1 := Lib.hid hnl
  have hfit : i * 6 + news.length ≤ cur.size := by rw [hnl, hsz, ← Nat.add_mul]; exact Nat.mul_le_mul_right _ (by omega)
  obtain ⟨cur2, hcur2⟩ : ∃ cur2 : Array Value, cur2 = (cur.toList.take (i * 6) ++ news ++ cur.toList.drop (i * 6 + news.length)).toArray := ⟨_, rfl⟩
  have hsz2 : cur2.size = cap * 6 := by rw [hcur2]; simp; omega
  have X := Lib.hid hcur2
  have HH := Lib.hid htake
  have HN := Lib.hid hnews
  have HG := Lib.hid hg
  have hlt := (Array.getElem?_eq_some_iff.1 hg).1
  clear hcur2 htake hnews hg hc1 hnl
  have hg2 : ((w.drew).setRow g cur2).heap[g]? = some (.cells cur2 203 (0, 0)) := setRow_heap _ _ cur _ _ _ HG.out
  have HG2 := Lib.hid hg2
  clear hg2
  have hic : i ≤ cap := by omega
  have hjc : j ≤ cap := by omega
  go_enter Tryz.func112, Tryz.ntmps112
  go_wp2_with fail
  go_region_law (refine step_append_row rfl (.tmp 22) (.tmp 25) 172 rfl 203 i0 6 Tryz.underlying172 hi0 hz1 g i cap cur HG.out (by simp [Act.eval, Act.put]) A (n - j) (cap - j) news (by simp [Act.eval, Act.put]) s1.out hsrc.out s2.out (by omega) hfit ?_; rw [← X.out])
  go_wp2_with (refine wpList_clear_row rfl _ _ rfl 203 _ Tryz.underlying172 zeroPut (by simp [Value.cells, Value.oneCell']) (by simp [Value.cells]) g ((i + (n - j)) * 6) (n - (i + (n - j))) (cap - (i + (n - j))) rfl cur2 HG2.out (by omega) ?_ ?_)
  · show (i + (n - j)) * 6 + (n - (i + (n - j))) * 6 ≤ cur2.size
    rw [hsz2, ← Nat.add_mul]
    exact Nat.mul_le_mul_right _ (by omega)
  · go_ret
    refine ⟨.slice (some ⟨g, 0, none⟩) (i + (n - j)) cap, rfl, rfl, ⟨?_, .inr ⟨g, cap, _, by rw [show n - (j - i) = i + (n - j) by omega], Nat.zero_le _, setRow_heap _ g _ _ _ _ HG2.out, by omega, by unfold maxLen; omega, ?_, ?_⟩⟩, ?_⟩
    · rw [List.length_append, List.length_take, List.length_drop, hlen, Nat.min_eq_left (Nat.mul_le_mul_right _ (by omega)), ← Nat.sub_mul, ← Nat.add_mul]
      congr 1; omega
    · have e1 : (i + (n - j)) * 6 ≤ cap * 6 := Nat.mul_le_mul_right _ (by omega)
      have e2 : (i + (n - j)) * 6 + (n - (i + (n - j))) * 6 ≤ cap * 6 := by rw [← Nat.add_mul]; exact Nat.mul_le_mul_right _ (by omega)
      have e3 := zeroCells_list (.agg #[.int .u64 0, .int .i64 0, .int .i64 0, .int .i64 0, .int .u64 0, .int .i64 0]) (n - (i + (n - j)))
      simp only [Value.cells, List.size_toArray, List.length_cons, List.length_nil] at e3
      simp only [List.size_toArray, List.length_append, List.length_take, List.length_drop, Array.length_toList, hsz2] at e3 ⊢
      omega
    · have e1 : (i + (n - j)) * 6 ≤ cap * 6 := Nat.mul_le_mul_right _ (by omega)
      have e2 : i * 6 ≤ n * 6 := Nat.mul_le_mul_right _ (by omega)
      have e3 : n * 6 ≤ cap * 6 := Nat.mul_le_mul_right _ (by omega)
      have e4 : (n - (j - i)) * 6 = (i + (n - j)) * 6 := by congr 1; omega
      have e5 : (i + (n - j)) * 6 = i * 6 + (n - j) * 6 := Nat.add_mul _ _ _
      have l1 : (List.take ((i + (n - j)) * 6) cur2.toList).length = (i + (n - j)) * 6 := by rw [List.length_take, Array.length_toList, hsz2]; omega
      have l2 : (List.take (i * 6) cur.toList).length = i * 6 := by rw [List.length_take, Array.length_toList, hsz]; omega
      have l3 : (List.take (i * 6) cur.toList ++ news).length = (i + (n - j)) * 6 := by rw [List.length_append, l2, s1.out, e5]
      have l4 : List.take ((i + (n - j)) * 6) cur2.toList = List.take (i * 6) cs ++ List.drop (j * 6) cs := by
        rw [X.out, List.toList_toArray, List.take_left' l3, ← HH.out, List.take_take, Nat.min_eq_left e2, HH.out, HN.out]
      show List.take _ (_ ++ _) = _
      rw [e4, List.take_left' l1, l4]
    · refine ((Ex.drew w).trans ((ex_setRow _ g _).trans (ex_setRow _ g _) (T := (· = g)) (U := (· = g)) (fun _ _ h => h) (fun _ _ h => h)) (fun _ _ h => h.elim) (fun k _ h => ?_))
      rw [h]; rfl

theorem put_one (l : List Put) : ∀ u ∈ l.flatMap Put.cells, u.oneCell' = true := by
  intro u hu
  obtain ⟨x, _, hx⟩ := List.mem_flatMap.1 hu
  simp only [Put.cells, List.mem_cons, List.not_mem_nil, or_false] at hx
  rcases hx with rfl | rfl | rfl | rfl | rfl | rfl <;> rfl
theorem new_any (w : World) :
    Calls Tryz.prog 44 #[] w fun e w' => e = .returned (.pointer (some ⟨w.heap.size, 0, none⟩)) ∧ BookAt w' w.heap.size (.slice none 0 0) [] ∧ Ex0 w w' := by
  go_enter Tryz.func44, Tryz.ntmps44
  go_wp2
  go_ret
  exact ⟨rfl, ⟨heap_alloc_new _ _, World.ownsRow_nil _ _ _ _, by simp [Value.ownBlock]⟩, Ex.alloc _ _⟩
set_option maxHeartbeats 1000000 in
theorem sclone_any (v : Value) (n : Nat) (cs : List Value) (w : World) (ho : w.ownsRow 0 203 6 v n cs) (h1 : ∀ u ∈ cs, u.oneCell' = true) (hn : n ≤ 1000000) :
    Calls Tryz.prog 106 #[v] w fun e w' => ∃ v', e = .returned v' ∧ w'.ownsRow w.heap.size 203 6 v' n cs ∧ Ex0 w w' := by
  have he : ∀ (a : Option Addr) (n c : Nat) (w : World), (binOp .eql 172 (.slice a n c) (.slice none 0 0)).run Tryz.prog w = .ok (.bool a.isNone) w := fun a n c w => Lib.run_eql_slice_nil w _ _ a n c 0 0 Tryz.underlying172
  obtain ⟨hlen, ⟨rfl, h0⟩ | ⟨g, cap, cur, rfl, hb, hg, hnc, hcap, hsz, htake⟩⟩ := ho
  · go_enter Tryz.func106, Tryz.ntmps106
    go_wp2
    go_ret
    subst h0
    exact ⟨_, rfl, ⟨hlen, .inl ⟨rfl, rfl⟩⟩, Ex.refl _ _⟩
  · obtain ⟨i0, hi0, hz0, hz1, hz2⟩ := info_parts infoPut
    have hrow : RowAt w ⟨g, 0, none⟩ cs := by
      have := World.ownsRow.cells (w := w) (base := 0) (e := 203) (size := 6) (v := .slice (some ⟨g, 0, none⟩) n cap) (n := n) (xs := cs) ⟨hlen, .inr ⟨g, cap, cur, rfl, hb, hg, hnc, hcap, hsz, htake⟩⟩ (g := g) rfl
      exact this
    have hlt := (Array.getElem?_eq_some_iff.1 hg).1
    have HL := Lib.hid hlen
    have HR := Lib.hid (hrow.ex (Ex.alloc w (.cells #[] 203)) not_false)
    clear hlen htake hg hsz hrow
    have hown := World.ownsRow_made (base := w.heap.size) (e := 203) (size := 6) w #[] 0 (Nat.le_refl _) (by decide) rfl
    have HO := Lib.hid hown
    clear hown
    go_enter Tryz.func106, Tryz.ntmps106
    go_wp2_with (refine wpList_append_own_at _ rfl (.tmp 5) (.tmp 6) 172 rfl w.heap.size 203 i0 _ 6 48 Tryz.underlying172 hi0 hz0 hz1 hz2 rfl (by decide) _ 0 [] rfl HO.out ⟨g, 0, none⟩ n cap cs rfl HL.out HR.out h1 (by unfold maxLen; omega) (by omega) (by simp) ?_)
    intro v' w1 hown1 hgrow _ hat
    go_wp2
    go_ret
    refine ⟨v', rfl, by simpa using hown1, (Ex.alloc w _).trans (Ex.ofGrown hgrow) (fun _ _ h => h) ?_⟩
    intro k hk h
    simp [Value.ownBlock] at h
    omega
theorem clone_any (p : Nat) (v : Value) (l : List Put) (w : World) (hB : BookAt w p v l) (hn : l.length ≤ 1000000) :
    Calls Tryz.prog 66 #[.pointer (some ⟨p, 0, none⟩)] w fun e w' => ∃ p' v', e = .returned (.pointer (some ⟨p', 0, none⟩)) ∧ w.heap.size ≤ p' ∧ (∀ b, v'.ownBlock = some b → w.heap.size ≤ b) ∧ BookAt w' p' v' l ∧ Ex0 w w' := by
  have hc := hB.cell
  have hl := hB.lt
  go_enter Tryz.func66, Tryz.ntmps66
  go_wp2_with fail
  refine (sclone_any v l.length _ _ hB.own (put_one l) hn).mono ?_
  rintro e w1 ⟨v', rfl, ho, hx⟩
  have hlt : ∀ b, v'.ownBlock = some b → w.heap.size ≤ b ∧ b < w1.heap.size := fun b hb => ho.lt b hb
  have HT := Lib.hid hlt
  clear hlt
  obtain ⟨A, cap, rfl, _, hbl⟩ := own_sl ho
  have HB := Lib.hid hbl
  clear hbl
  go_wp2
  go_ret
  refine ⟨w1.heap.size, _, rfl, hx.size, fun b hb => (HT.out b hb).1, ⟨heap_alloc_new _ _, own_ex (own_base ho (fun _ _ => Nat.zero_le _)) (Ex.alloc _ _) (fun _ _ => id), fun h => ?_⟩, hx.alloc' _⟩
  have := (HT.out _ h).2
  omega
theorem clone_nil (w : World) :
    Calls Tryz.prog 66 #[.pointer none] w fun e w' => e = .returned (.pointer none) ∧ w' = w := by
  go_enter Tryz.func66, Tryz.ntmps66
  go_wp2
  go_ret
  exact ⟨rfl, rfl⟩
/-- a hold is lifted -/
def liftL (id : Int) (l : List Put) : List Put := match l.findIdx? (fun x => x.h.id == id) with | some i => l.eraseIdx i | none => l
def liftE (id : Int) (l : List Put) : Int := match l.findIdx? (fun x => x.h.id == id) with | some _ => 0 | none => 4
theorem flat_take {α : Type} (enc : α → List Value) (sz : Nat) (hsz : ∀ x, (enc x).length = sz) (l : List α) : ∀ i, (l.flatMap enc).take (i * sz) = (l.take i).flatMap enc := by
  induction l with
  | nil => intro i; simp
  | cons x l ih =>
    intro i
    cases i with
    | zero => simp
    | succ i => simp only [List.flatMap_cons, List.take_succ_cons]; rw [List.take_append, hsz, List.take_of_length_le (by rw [hsz, Nat.succ_mul]; omega), Nat.succ_mul, Nat.add_sub_cancel, ih]
theorem flat_drop {α : Type} (enc : α → List Value) (sz : Nat) (hsz : ∀ x, (enc x).length = sz) (l : List α) : ∀ i, (l.flatMap enc).drop (i * sz) = (l.drop i).flatMap enc := by
  induction l with
  | nil => intro i; simp
  | cons x l ih =>
    intro i
    cases i with
    | zero => simp
    | succ i => simp only [List.flatMap_cons, List.drop_succ_cons]; rw [List.drop_append, hsz, List.drop_eq_nil_of_le (by rw [hsz, Nat.succ_mul]; omega), Nat.succ_mul, Nat.add_sub_cancel, ih, List.nil_append]
set_option maxHeartbeats 1000000 in
theorem lift_any (p : Nat) (v : Value) (l : List Put) (id : Int) (w : World) (hB : BookAt w p v l) :
    Calls Tryz.prog 68 #[.pointer (some ⟨p, 0, none⟩), .int .u64 id] w fun e w' => ∃ v', e = .returned (.int .i64 (liftE id l)) ∧ v'.ownBlock = v.ownBlock ∧ BookAt w' p v' (liftL id l) ∧ Ex (fun b => b = p ∨ v.ownBlock = some b) w w' := by
  have hc := hB.cell
  have hl := hB.lt
  cases hf : l.findIdx? (fun x => x.h.id == id) with
  | none =>
    have hi : idxOf (fun x => x.h.id == id) l = -1 := by unfold idxOf; rw [hf]
    have hE : liftE id l = 4 := by unfold liftE; rw [hf]
    have hL : liftL id l = l := by unfold liftL; rw [hf]
    rw [hE, hL]
    clear hf hE hL
    go_enter Tryz.func68, Tryz.ntmps68
    go_wp2_with fail
    refine (find_any p v l id _ hB).mono ?_
    rintro e w1 ⟨rfl, hx⟩
    rw [hi]
    go_wp2
    go_ret
    exact ⟨v, rfl, rfl, hB.ex0 hx, hx.to (fun _ _ h => h.elim)⟩
  | some i =>
    have hi : idxOf (fun x => x.h.id == id) l = (i : Int) := by unfold idxOf; rw [hf]
    have hE : liftE id l = 0 := by unfold liftE; rw [hf]
    have hL : liftL id l = l.eraseIdx i := by unfold liftL; rw [hf]
    have hil : i < l.length := by
      rw [List.findIdx?_eq_some_iff_getElem] at hf
      exact hf.1
    rw [hE, hL]
    have ho := hB.own
    have hll : l.length ≤ 9223372036854775807 := by obtain ⟨_, _, _, hs, _⟩ := own_sl ho; exact hs.small
    have HI := Lib.hid hi
    clear hf hE hL hi
    go_enter Tryz.func68, Tryz.ntmps68
    go_wp2_with fail
    refine (find_any p v l id _ hB).mono ?_
    rintro e w1 ⟨rfl, hx⟩
    rw [HI.out]
    have hB1 := hB.ex0 hx
    have hc1 := hB1.cell
    have hl1 := hB1.lt
    go_wp2_with fail
    rw [show ((i : Int) + 1) = ((i + 1 : Nat) : Int) from by simp]
    refine (delete_any v l.length i (i + 1) _ w1 hB1.own (put_one l) (by omega) (by omega)).mono ?_
    rintro e w2 ⟨v', rfl, hob, hown, hx2⟩
    have hlen : (l.eraseIdx i).length = l.length - 1 := by rw [List.length_eraseIdx, if_pos hil]
    have hcs : (l.flatMap Put.cells).take (i * 6) ++ (l.flatMap Put.cells).drop ((i + 1) * 6) = (l.eraseIdx i).flatMap Put.cells := by
      rw [flat_take Put.cells 6 Put.len, flat_drop Put.cells 6 Put.len, ← List.flatMap_append, List.eraseIdx_eq_take_drop_succ]
    rw [hcs, show l.length - (i + 1 - i) = (l.eraseIdx i).length by rw [hlen]; omega] at hown
    have HO := Lib.hid hown
    obtain ⟨A, cap, rfl, _, hbl⟩ := own_sl hown
    have hb2 : w2.heap[p]? = some (.cells #[v] 174 (0, 0)) := (hx2.block p hl1 hB1.ne).trans hB1.blk
    have hc2 : w2.cell? ⟨p, 0, none⟩ = some v := by rw [cell_of_row w2 p 0 _ _ _ hb2]; rfl
    have hf2 : w2.frozen? ⟨p, 0, none⟩ = false := frozen_of_row w2 p 0 _ _ hb2
    have HOB := Lib.hid hob
    have HBL := Lib.hid hbl
    have HLN := Lib.hid hlen
    have HB2 := Lib.hid hb2
    clear hob hbl hlen hcs hown hb2
    go_wp2
    go_ret
    refine ⟨_, rfl, HOB.out, ⟨heap_setCell_same w2 p 0 #[v] _ _ HB2.out, own_ex HO.out (Ex.setCell w2 _ _) (fun b hb h => hB.ne ?_), fun h => hB.ne (by rw [← HOB.out]; exact h)⟩, ?_⟩
    · rw [← HOB.out, hb, h]
    · exact (hx.trans hx2 (T := fun b => v.ownBlock = some b) (U := fun b => b = p ∨ v.ownBlock = some b) (fun _ _ h => h.elim) (fun _ _ h => .inr h)).trans (Ex.setCell w2 _ _) (fun _ _ h => h) (fun _ _ h => .inl h)
theorem lift_nil (id : Int) (w : World) :
    Calls Tryz.prog 68 #[.pointer none, .int .u64 id] w fun e w' => e = .returned (.int .i64 1) ∧ w' = w := by
  go_enter Tryz.func68, Tryz.ntmps68
  go_wp2
  go_ret
  exact ⟨rfl, rfl⟩

def addE (h : Held) (num min : Int) (l : List Put) : Int :=
  if mayB h && minuteB min then
    if h.til ≤ min then 7 else if l.any (fun x => x.h.id == h.id) then 5 else if l.any (pastB num min) then 15 else if 64 ≤ l.length then 6 else 0
  else 2
def addL (h : Held) (num min : Int) (l : List Put) : List Put := if addE h num min l = 0 then l ++ [⟨h, num, min⟩] else l
/-- what Add reads -/
structure AddC (p bh bn bm : Nat) (v : Value) (h : Held) (num min : Int) (w : World) : Prop where
  cp : w.cell? ⟨p, 0, none⟩ = some v
  c0 : w.cell? ⟨bh, 0, none⟩ = some (.int .u64 h.id)
  c1 : w.cell? ⟨bh, 1, none⟩ = some (.int .i64 h.fr)
  c2 : w.cell? ⟨bh, 2, none⟩ = some (.int .i64 h.to)
  c3 : w.cell? ⟨bh, 3, none⟩ = some (.int .i64 h.til)
  c4 : w.cell? ⟨bn, 0, none⟩ = some (.int .u64 num)
  c5 : w.cell? ⟨bm, 0, none⟩ = some (.int .i64 min)
  l0 : bh < w.heap.size
  l4 : bn < w.heap.size
  l5 : bm < w.heap.size
  lp : p < w.heap.size
theorem AddC.ex0 {p bh bn bm : Nat} {v : Value} {h : Held} {num min : Int} {w w' : World} (a : AddC p bh bn bm v h num min w) (hx : Ex0 w w') : AddC p bh bn bm v h num min w' :=
  ⟨hx.cellS a.cp not_false, hx.cellS a.c0 not_false, hx.cellS a.c1 not_false, hx.cellS a.c2 not_false, hx.cellS a.c3 not_false, hx.cellS a.c4 not_false, hx.cellS a.c5 not_false,
    Nat.lt_of_lt_of_le a.l0 hx.size, Nat.lt_of_lt_of_le a.l4 hx.size, Nat.lt_of_lt_of_le a.l5 hx.size, Nat.lt_of_lt_of_le a.lp hx.size⟩
def addW (w : World) (h : Held) (num min : Int) : World :=
  ((w.alloc (.cells #[.int .u64 h.id, .int .i64 h.fr, .int .i64 h.to, .int .i64 h.til] 151)).alloc (.cells #[.int .u64 num] 31)).alloc (.cells #[.int .i64 min] 3)
theorem addW_ex (w : World) (h : Held) (num min : Int) : Ex0 w (addW w h num min) := ((Ex.alloc _ _).alloc' _).alloc' _
theorem addW_c {p : Nat} {v : Value} (w : World) (h : Held) (num min : Int) (hc : w.cell? ⟨p, 0, none⟩ = some v) : AddC p w.heap.size (w.heap.size + 1) (w.heap.size + 1 + 1) v h num min (addW w h num min) := by
  have hl : p < w.heap.size := World.block_lt_of_cell? _ _ hc
  unfold addW
  refine ⟨(Ex.alloc' (Ex.alloc' (Ex.alloc _ _) _) _).cellS hc not_false, ?_, ?_, ?_, ?_, ?_, ?_, ?_, ?_, ?_, ?_⟩ <;> first | (go_simp; done) | (simp; omega)
section
variable {h : Held} {num min : Int} {l : List Put}
theorem addE_m (hm : mayB h = false) : addE h num min l = 2 := by simp [addE, hm]
theorem addE_n (hm : minuteB min = false) : addE h num min l = 2 := by simp [addE, hm]
theorem addE_7 (h1 : mayB h = true) (h2 : minuteB min = true) (h3 : h.til ≤ min) : addE h num min l = 7 := by simp [addE, h1, h2, h3]
theorem addE_5 (h1 : mayB h = true) (h2 : minuteB min = true) (h3 : min < h.til) (h4 : l.any (fun x => x.h.id == h.id) = true) : addE h num min l = 5 := by rw [addE, h1, h2, h4, if_neg (by omega : ¬ h.til ≤ min)]; rfl
theorem addE_15 (h1 : mayB h = true) (h2 : minuteB min = true) (h3 : min < h.til) (h4 : l.any (fun x => x.h.id == h.id) = false) (h5 : l.any (pastB num min) = true) : addE h num min l = 15 := by rw [addE, h1, h2, h4, h5, if_neg (by omega : ¬ h.til ≤ min)]; rfl
theorem addE_6 (h1 : mayB h = true) (h2 : minuteB min = true) (h3 : min < h.til) (h4 : l.any (fun x => x.h.id == h.id) = false) (h5 : l.any (pastB num min) = false) (h6 : 64 ≤ l.length) : addE h num min l = 6 := by rw [addE, h1, h2, h4, h5, if_neg (by omega : ¬ h.til ≤ min), if_pos h6]; rfl
theorem addE_0 (h1 : mayB h = true) (h2 : minuteB min = true) (h3 : min < h.til) (h4 : l.any (fun x => x.h.id == h.id) = false) (h5 : l.any (pastB num min) = false) (h6 : ¬ 64 ≤ l.length) : addE h num min l = 0 := by rw [addE, h1, h2, h4, h5, if_neg (by omega : ¬ h.til ≤ min), if_neg h6]; rfl
end
def AddPost (p : Nat) (v : Value) (l : List Put) (h : Held) (num min : Int) (w : World) (e : Ending) (w' : World) : Prop :=
  ∃ v', e = .returned (.int .i64 (addE h num min l)) ∧ (v'.ownBlock = v.ownBlock ∨ ∃ b, v'.ownBlock = some b ∧ w.heap.size ≤ b) ∧
      BookAt w' p v' (addL h num min l) ∧ Ex (fun b => b = p ∨ v.ownBlock = some b) w w'
theorem addPost_same {p : Nat} {v : Value} {l : List Put} {h : Held} {num min : Int} {w w' : World} {k : Int} (hB : BookAt w p v l) (hx : Ex0 w w') (hk : addE h num min l = k) (h0 : k ≠ 0) : AddPost p v l h num min w (.returned (.int .i64 k)) w' :=
  ⟨v, by rw [hk], .inl rfl, by unfold addL; rw [hk, if_neg h0]; exact hB.ex0 hx, hx.to (fun _ _ hh => hh.elim)⟩
theorem addS {S : Nat → Prop} {p bh bn bm : Nat} {v v0 v1 v2 v3 v4 v5 : Value} {w w' : World} (hx : Ex S w w')
    (h : w.drew.cell? ⟨p, 0, none⟩ = some v ∧ w.drew.cell? ⟨bh, 0, none⟩ = some v0 ∧ w.drew.cell? ⟨bh, 1, none⟩ = some v1 ∧ w.drew.cell? ⟨bh, 2, none⟩ = some v2 ∧ w.drew.cell? ⟨bh, 3, none⟩ = some v3 ∧ w.drew.cell? ⟨bn, 0, none⟩ = some v4 ∧ w.drew.cell? ⟨bm, 0, none⟩ = some v5)
    (hp : ¬ S p) (hh : ¬ S bh) (hn : ¬ S bn) (hm : ¬ S bm) :
    w'.cell? ⟨p, 0, none⟩ = some v ∧ w'.cell? ⟨bh, 0, none⟩ = some v0 ∧ w'.cell? ⟨bh, 1, none⟩ = some v1 ∧ w'.cell? ⟨bh, 2, none⟩ = some v2 ∧ w'.cell? ⟨bh, 3, none⟩ = some v3 ∧ w'.cell? ⟨bn, 0, none⟩ = some v4 ∧ w'.cell? ⟨bm, 0, none⟩ = some v5 :=
  ⟨hx.cellS h.1 hp, hx.cellS h.2.1 hh, hx.cellS h.2.2.1 hh, hx.cellS h.2.2.2.1 hh, hx.cellS h.2.2.2.2.1 hh, hx.cellS h.2.2.2.2.2.1 hn, hx.cellS h.2.2.2.2.2.2 hm⟩
theorem addPost_put {p : Nat} {v : Value} {l : List Put} {h : Held} {num min : Int} {w w3 w4 : World} {A : Option Addr} {cap gg cap1 : Nat} (hB : BookAt w p v l) (hv : v = .slice A l.length cap) (hX3 : Ex0 w w3)
    (hx4 : Ex (fun b => (Value.slice A l.length cap).ownBlock = some b) w3 w4) (hob : ∀ b, (Value.slice A l.length cap).ownBlock = some b → b ≠ p ∧ b < w.heap.size)
    (ho : w4.ownsRow 0 203 6 (.slice (some ⟨gg, 0, none⟩) (l.length + 1) cap1) (l.length + 1) (l.flatMap Put.cells ++ [.int .u64 h.id, .int .i64 h.fr, .int .i64 h.to, .int .i64 h.til, .int .u64 num, .int .i64 min]))
    (hb4 : w4.heap[p]? = some (.cells #[v] 174 (0, 0))) (hat : (Value.slice A l.length cap).ownBlock = some gg ∨ gg = w3.heap.size + 1) (e0 : addE h num min l = 0) :
    AddPost p v l h num min w (.returned (.int .i64 0)) (w4.setCell ⟨p, 0, none⟩ (.slice (some ⟨gg, 0, none⟩) (l.length + 1) cap1)) := by
  subst hv
  have hgp : gg ≠ p := by
    rcases hat with h | h
    · exact (hob _ h).1
    · have := hX3.size; have := hB.lt; omega
  have hL : addL h num min l = l ++ [⟨h, num, min⟩] := by unfold addL; rw [if_pos e0]
  refine ⟨.slice (some ⟨gg, 0, none⟩) (l.length + 1) cap1, by rw [e0], ?_, ?_, ?_⟩
  · rcases hat with h | h
    · exact .inl h.symm
    · exact .inr ⟨gg, rfl, by have := hX3.size; omega⟩
  · rw [hL]
    refine ⟨heap_setCell_same w4 p 0 #[_] _ _ hb4, ?_, by simpa [Value.ownBlock] using hgp⟩
    have := own_ex ho (Ex.setCell w4 ⟨p, 0, none⟩ (.slice (some ⟨gg, 0, none⟩) (l.length + 1) cap1)) (fun b hb he => hgp (by simp [Value.ownBlock] at hb; rw [hb]; exact he))
    simpa [Put.cells] using this
  · exact ((hX3.trans hx4 (fun _ _ h => h.elim) (fun _ _ h => h)).trans (Ex.setCell w4 _ _) (U := fun b => b = p ∨ (Value.slice A l.length cap).ownBlock = some b) (fun _ _ h => .inr h) (fun _ _ h => .inl h))
set_option maxHeartbeats 4000000 in
theorem add_any (p : Nat) (v : Value) (l : List Put) (h : Held) (num min : Int) (w : World) (hB : BookAt w p v l) (hw : l.length ≤ 1000) :
    Calls Tryz.prog 67 #[.pointer (some ⟨p, 0, none⟩), h.val, .int .u64 num, .int .i64 min] w (AddPost p v l h num min w) := by
  have hC := addW_c w h num min hB.cell
  have hX := addW_ex w h num min
  have hlp := hB.lt
  have HW : Hid (addW w h num min = ((w.alloc (.cells #[.int .u64 h.id, .int .i64 h.fr, .int .i64 h.to, .int .i64 h.til] 151)).alloc (.cells #[.int .u64 num] 31)).alloc (.cells #[.int .i64 min] 3)) := rfl
  generalize addW w h num min = wa at *
  obtain ⟨cp, c0, c1, c2, c3, c4, c5, l0, l4, l5, lp⟩ := id hC
  go_enter Tryz.func67, Tryz.ntmps67
  unfold Held.val
  go_wp2_with fail
  rw [← HW.out]
  refine (may_any h _).mono ?_
  rintro e w1 ⟨rfl, hx⟩
  have hC1 := hC.ex0 hx
  have hX1 := hX.trans0 hx
  clear hC hx hX HW c0 c1 c2 c3 c4 c5 l0 l4 l5 cp lp
  obtain ⟨cp, c0, c1, c2, c3, c4, c5, l0, l4, l5, lp⟩ := id hC1
  cases hm : mayB h
  · have HM := Lib.hid hm
    clear hm
    go_wp2
    go_ret
    exact addPost_same hB hX1 (addE_m HM.out) (by decide)
  have HM := Lib.hid hm
  clear hm
  go_wp2_with fail
  refine (minute_any min _).mono ?_
  rintro e w1' ⟨rfl, rfl⟩
  cases hm : minuteB min
  · have HN := Lib.hid hm
    clear hm
    go_wp2
    go_ret
    exact addPost_same hB hX1 (addE_n HN.out) (by decide)
  have HN := Lib.hid hm
  clear hm
  by_cases ht : h.til ≤ min
  · have HT := Lib.hid ht
    go_wp2
    go_ret
    exact addPost_same hB hX1 (addE_7 HM.out HN.out HT.out) (by decide)
  have HT := Lib.hid ht
  go_wp2_with fail
  refine (find_any p v l h.id _ (hB.ex0 hX1)).mono ?_
  rintro e w2 ⟨rfl, hx⟩
  have hC2 := hC1.ex0 hx
  have hX2 := hX1.trans0 hx
  clear hC1 hx hX1 c0 c1 c2 c3 c4 c5 l0 l4 l5 cp lp
  obtain ⟨cp, c0, c1, c2, c3, c4, c5, l0, l4, l5, lp⟩ := id hC2
  have hid := idxOf_any (fun x => x.h.id == h.id) l
  generalize hii : idxOf (fun x => x.h.id == h.id) l = ii at hid ⊢
  cases ha : l.any (fun x => x.h.id == h.id)
  case true =>
    rw [ha] at hid
    have h0i : 0 ≤ ii := by simpa using hid
    have HA := Lib.hid ha
    clear ha hid hii
    go_wp2
    go_ret
    exact addPost_same hB hX2 (addE_5 HM.out HN.out HT.out HA.out) (by decide)
  rw [ha] at hid
  have h0i : ¬ 0 ≤ ii := by simpa using hid
  have HA := Lib.hid ha
  clear ha hid hii
  go_wp2_with fail
  obtain ⟨A, cap, hv, hsl, hbl⟩ := own_sl (hB.ex0 hX2).own
  have HV := Lib.hid hv
  have HBL := Lib.hid hbl
  clear hv hbl
  rw [HV.out]
  refine (containsFunc_any A l.length cap l 111 _ (pastB num min) _ hsl (enters_of Tryz.func111 (by kernel_rfl) rfl) ?_).mono ?_
  · intro x _ w' hw'
    exact isPast_any x num min _ _ w' (hw'.cellS c4 not_false) (hw'.cellS c5 not_false)
  rintro e w3 ⟨rfl, hx⟩
  have hC3 := hC2.ex0 hx
  have hX3 := hX2.trans0 hx
  have hsl3 := hsl.ex0 hx
  clear hC2 hx hX2 hsl c0 c1 c2 c3 c4 c5 l0 l4 l5 cp lp
  obtain ⟨cp, c0, c1, c2, c3, c4, c5, l0, l4, l5, lp⟩ := id hC3
  cases hm : l.any (pastB num min)
  case true =>
    have HP := Lib.hid hm
    clear hm
    go_wp2
    go_ret
    exact addPost_same hB hX3 (addE_15 HM.out HN.out HT.out HA.out HP.out) (by decide)
  have HP := Lib.hid hm
  clear hm
  rw [HV.out] at cp
  by_cases h64 : 64 ≤ l.length
  · go_wp2
    go_ret
    exact addPost_same hB hX3 (addE_6 HM.out HN.out HT.out HA.out HP.out h64) (by decide)
  have hsm := hsl3.small
  go_wp2_with fail
  have ho3 := (hB.ex0 hX3).own
  rw [HV.out] at ho3
  have HO := Lib.hid ho3
  have HB3 := Lib.hid (hB.ex0 hX3).blk
  clear ho3
  have Hne := Lib.hid hB.ne
  obtain ⟨i0, hi0, hz0, hz1, hz2⟩ := info_parts infoPut
  have hf : w3.frozen? ⟨p, 0, none⟩ = false := frozen_of_row w3 p 0 _ _ HB3.out
  have hS0 : w3.drew.cell? ⟨p, 0, none⟩ = some (.slice A l.length cap) ∧ w3.drew.cell? ⟨w.heap.size, 0, none⟩ = some (.int .u64 h.id) ∧ w3.drew.cell? ⟨w.heap.size, 1, none⟩ = some (.int .i64 h.fr) ∧ w3.drew.cell? ⟨w.heap.size, 2, none⟩ = some (.int .i64 h.to) ∧ w3.drew.cell? ⟨w.heap.size, 3, none⟩ = some (.int .i64 h.til) ∧ w3.drew.cell? ⟨w.heap.size + 1, 0, none⟩ = some (.int .u64 num) ∧ w3.drew.cell? ⟨w.heap.size + 1 + 1, 0, none⟩ = some (.int .i64 min) := ⟨cp, c0, c1, c2, c3, c4, c5⟩
  refine wp_region_head (fun w' => w'.cell? ⟨p, 0, none⟩ = some (.slice A l.length cap) ∧ w'.cell? ⟨w.heap.size, 0, none⟩ = some (.int .u64 h.id) ∧ w'.cell? ⟨w.heap.size, 1, none⟩ = some (.int .i64 h.fr) ∧ w'.cell? ⟨w.heap.size, 2, none⟩ = some (.int .i64 h.to) ∧ w'.cell? ⟨w.heap.size, 3, none⟩ = some (.int .i64 h.til) ∧ w'.cell? ⟨w.heap.size + 1, 0, none⟩ = some (.int .u64 num) ∧ w'.cell? ⟨w.heap.size + 1 + 1, 0, none⟩ = some (.int .i64 min)) 11 (by kernel_rfl) (by decide) ?_
  simp only [List.length_cons, List.length_nil, List.drop_succ_cons, List.drop_zero]
  refine' wpHead_do 0 rfl (by kernel_rfl) (fun _ _ _ _ h => h) (by rfl) (by assumption) ⟨_, fun w' hS => ?_, ?_⟩
  rotate_left
  · ((try dsimp only at hS); go_split_ands; go_simp; try (with_reducible rfl))
  simp only [Act.put, List.setIfInBounds_toArray, List.set_cons_zero, List.set_cons_succ]
  refine' wpHead_do 1 rfl (by kernel_rfl) (fun _ _ _ _ h => h) (by rfl) (by assumption) ⟨_, fun w' hS => ?_, ?_⟩
  rotate_left
  · ((try dsimp only at hS); go_split_ands; go_simp; try (with_reducible rfl))
  simp only [Act.put, List.setIfInBounds_toArray, List.set_cons_zero, List.set_cons_succ]
  refine' wpHead_do 2 rfl (by kernel_rfl) (fun _ _ _ _ h => h) (by rfl) (by assumption) ⟨_, fun w' hS => ?_, ?_⟩
  rotate_left
  · ((try dsimp only at hS); go_split_ands; go_simp; try (with_reducible rfl))
  simp only [Act.put, List.setIfInBounds_toArray, List.set_cons_zero, List.set_cons_succ]
  refine' wpHead_do 3 rfl (by kernel_rfl) (fun _ _ _ _ h => h) (by rfl) (by assumption) ⟨_, fun w' hS => ?_, ?_⟩
  rotate_left
  · ((try dsimp only at hS); go_split_ands; go_simp; try (with_reducible rfl))
  simp only [Act.put, List.setIfInBounds_toArray, List.set_cons_zero, List.set_cons_succ]
  refine' wpHead_do 4 rfl (by kernel_rfl) (fun _ _ _ _ h => h) (by rfl) (by assumption) ⟨_, fun w' hS => ?_, ?_⟩
  rotate_left
  · ((try dsimp only at hS); go_split_ands; go_simp; try (with_reducible rfl))
  simp only [Act.put, List.setIfInBounds_toArray, List.set_cons_zero, List.set_cons_succ]
  refine' wpHead_do 5 rfl (by kernel_rfl) (fun _ _ _ _ h => h) (by rfl) (by assumption) ⟨_, fun w' hS => ?_, ?_⟩
  rotate_left
  · ((try dsimp only at hS); go_split_ands; go_simp; try (with_reducible rfl))
  simp only [Act.put, List.setIfInBounds_toArray, List.set_cons_zero, List.set_cons_succ]
  refine' wpHead_do 6 rfl (by kernel_rfl) (fun _ _ _ _ h => h) (by rfl) (by assumption) ⟨_, fun w' hS => ?_, ?_⟩
  rotate_left
  · ((try dsimp only at hS); go_split_ands; go_simp; try (with_reducible rfl))
  simp only [Act.put, List.setIfInBounds_toArray, List.set_cons_zero, List.set_cons_succ]
  refine' wpHead_do 7 rfl (by kernel_rfl) (fun _ _ _ _ h => h) (by rfl) (by assumption) ⟨_, fun w' hS => ?_, ?_⟩
  rotate_left
  · ((try dsimp only at hS); go_split_ands; go_simp; try (with_reducible rfl))
  simp only [Act.put, List.setIfInBounds_toArray, List.set_cons_zero, List.set_cons_succ]
  refine' wpHead_do 8 rfl (by kernel_rfl) (fun _ _ _ _ h => h) (by rfl) (by assumption) ⟨_, fun w' hS => ?_, ?_⟩
  rotate_left
  · ((try dsimp only at hS); go_split_ands; go_simp; try (with_reducible rfl))
  simp only [Act.put, List.setIfInBounds_toArray, List.set_cons_zero, List.set_cons_succ]
  refine wpHead_eff 9 rfl (by kernel_rfl) (by rfl) (fun K hK => ?_)
  go_simp
  refine hK _ _ (addS ((Ex.alloc w3 _).drew') hS0 not_false not_false not_false not_false) ?_
  clear hK K
  refine wpHead_eff 10 rfl (by kernel_rfl) (by rfl) (fun K hK => ?_)
  refine wp_append_lies _ _ _ _ rfl 0 203 i0 _ 6 48 Tryz.underlying172 hi0 hz0 hz1 hz2 rfl (by omega) (.slice A l.length cap) l.length (l.flatMap Put.cells) rfl (own_ex HO.out ((Ex.alloc w3 _).drew') (fun _ _ => id)) ⟨w3.heap.size, 0, none⟩ 1 1 [.int .u64 h.id, .int .i64 h.fr, .int .i64 h.to, .int .i64 h.til, .int .u64 num, .int .i64 min] rfl rfl (World.news_of_block (cs := #[.int .u64 h.id, .int .i64 h.fr, .int .i64 h.to, .int .i64 h.til, .int .u64 num, .int .i64 min]) (t := 203) (fr := (0, 0)) (heap_alloc_new w3 _)) (by simp [Value.oneCell']) (by omega) (by unfold maxLen; omega) (by omega) (by simp) (w3.heap.size + 1) (by simp) ?_
  intro gg cap1 w4 hown1 hgrow hat hlt
  have hx4 : Ex (fun b => (Value.slice A l.length cap).ownBlock = some b) w3 w4 := ((Ex.alloc w3 _).drew').trans (Ex.ofGrown hgrow) (fun _ _ h => h.elim) (fun _ _ h => h)
  have hob : ∀ b, (Value.slice A l.length cap).ownBlock = some b → b ≠ p ∧ b < w.heap.size := fun b hb => ⟨fun e => Hne.out (by rw [HV.out, hb, e]), (hB.own.lt b (by rw [HV.out]; exact hb)).2⟩
  refine hK _ _ (addS hx4 hS0 (fun hb => (hob _ hb).1 rfl) (fun hb => Nat.lt_irrefl _ (hob _ hb).2) (fun hb => by have := (hob _ hb).2; omega) (fun hb => by have := (hob _ hb).2; omega)) ?_
  clear hK K
  have hc4 : w4.cell? ⟨p, 0, none⟩ = some (.slice A l.length cap) := hx4.cellS cp (fun hb => (hob _ hb).1 rfl)
  have hf4 : w4.frozen? ⟨p, 0, none⟩ = false := (hx4.frozen lp (fun hb => (hob _ hb).1 rfl)).trans hf
  have hb4 : w4.heap[p]? = some (.cells #[v] 174 (0, 0)) := (hx4.block p lp (fun hb => (hob _ hb).1 rfl)).trans HB3.out
  have HB4 := Lib.hid hb4
  have HX4 := Lib.hid hx4
  have HOB := Lib.hid hob
  have HO1 := Lib.hid hown1
  have HAT := Lib.hid hat
  clear hx4 hob hown1 hat hgrow hb4
  refine wpHead_tail (by kernel_rfl) ?_
  go_wp2
  go_ret
  exact addPost_put hB HV.out hX3 HX4.out HOB.out HO1.out HB4.out HAT.out (addE_0 HM.out HN.out HT.out HA.out HP.out h64)
theorem add_nil (h : Held) (num min : Int) (w : World) :
    Calls Tryz.prog 67 #[.pointer none, h.val, .int .u64 num, .int .i64 min] w fun e w' => e = .returned (.int .i64 1) ∧ Ex0 w w' := by
  unfold Held.val
  go_enter Tryz.func67, Tryz.ntmps67
  go_wp2
  go_ret
  exact ⟨rfl, ((Ex.alloc _ _).alloc' _).alloc' _⟩
end Go.Proofs.YtoglddndicmelaaGreat.Ho
