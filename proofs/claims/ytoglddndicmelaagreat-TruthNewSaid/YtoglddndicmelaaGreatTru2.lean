/- Layer 54: what is released, one by one; holds that are over, one by one. -/
import Derived.Test.YtoglddndicmelaaGreatTru1
namespace Go.Proofs.YtoglddndicmelaaGreat.Tr
open Go.RowKit Go.Proofs.YtoglddndicmelaaGreatB Go.Proofs.YtoglddndicmelaaGreat

/-- some are out -/
def outs (ns : List Int) (l : List Mo.It) : List Mo.It := l.map fun x => ⟨x.num, x.min, x.out || ns.contains x.num⟩
theorem outs_ok {l : List Mo.It} (hk : Mo.TabOk l) (ns : List Int) : Mo.TabOk (outs ns l) := by
  refine ⟨?_, fun x hx => ?_, by unfold outs; rw [List.length_map]; exact hk.len⟩
  · unfold outs Mo.Srt; rw [List.pairwise_map]; exact hk.srt
  · obtain ⟨y, hy, rfl⟩ := List.mem_map.1 hx; exact hk.rng y hy
theorem outs_outs (a b : List Int) (l : List Mo.It) : outs b (outs a l) = outs (a ++ b) l := by
  unfold outs
  rw [List.map_map]
  apply List.map_congr_left
  intro x _
  simp [Function.comp, Bool.or_assoc]
theorem outs_nil (l : List Mo.It) : outs [] l = l := by
  unfold outs
  conv => rhs; rw [← List.map_id l]
  apply List.map_congr_left
  intro x _
  simp
/-- one is released that is not the last one -/
theorem relL_outs {l : List Mo.It} (hk : Mo.TabOk l) {n : Int} (hh : ∃ x ∈ l, x.num = n) (hl : ∀ x, l.getLast? = some x → x.num ≠ n) : Mo.relL n l = outs [n] l := by
  have hhas : Mo.has n l = true := has_mem.2 hh
  obtain ⟨hi, hn⟩ := Mo.has_get hk.srt hhas
  have hg : Mo.gt l (Mo.lo n l) = l[Mo.lo n l] := Mo.gt_get hi
  have hne : Mo.lo n l + 1 ≠ l.length := by
    intro e
    refine hl l[Mo.lo n l] ?_ hn
    rw [List.getLast?_eq_getElem?, List.getElem?_eq_some_iff]
    exact ⟨by omega, by congr 1; omega⟩
  have hat : ∀ j (hj : j < l.length), l[j].num = n → j = Mo.lo n l := fun j hj e => by
    have := Mo.lo_of_get hk.srt hj
    rw [e] at this; exact this.symm
  unfold Mo.relL Mo.relE
  rw [if_pos hhas, if_neg hne, hg]
  cases ho : l[Mo.lo n l].out with
  | true =>
    rw [if_pos rfl, if_neg (by decide)]
    unfold outs
    apply List.ext_getElem (by simp)
    intro j h1 h2
    rw [List.getElem_map]
    by_cases e : l[j].num = n
    · have := hat j h1 e
      subst this
      cases hx : l[Mo.lo n l] with
      | mk a b c =>
        rw [hx] at ho
        dsimp only at ho ⊢
        rw [ho]; simp
    · have e' : ¬ n = l[j].num := fun h => e h.symm
      cases hx : l[j] with
      | mk a b c =>
        rw [hx] at e e'
        dsimp only at e e'
        simp [e]
  | false =>
    rw [if_pos (by simp)]
    unfold outs
    apply List.ext_getElem (by simp)
    intro j h1 h2
    have hj : j < l.length := by simpa using h1
    rw [List.getElem_map, List.getElem_set]
    by_cases e : l[j].num = n
    · have := hat j hj e
      subst this
      rw [if_pos rfl]; simp [hn]
    · rw [if_neg (fun h => e (by rw [← hn]; congr 1; exact getElem_congr_idx h.symm))]
      cases hx : l[j] with
      | mk a b c =>
        rw [hx] at e
        dsimp only at e
        simp [e]
theorem outs_last {ns : List Int} {l : List Mo.It} {n : Int} (hl : ∀ x, l.getLast? = some x → x.num ≠ n) : ∀ x, (outs ns l).getLast? = some x → x.num ≠ n := by
  intro x hx
  unfold outs at hx
  rw [List.getLast?_map] at hx
  cases hq : l.getLast? with
  | none => rw [hq] at hx; cases hx
  | some y => rw [hq] at hx; injection hx with hx; subst hx; exact hl y hq
theorem outs_has {ns : List Int} {l : List Mo.It} {n : Int} (hh : ∃ x ∈ l, x.num = n) : ∃ x ∈ outs ns l, x.num = n := by
  obtain ⟨x, hx, e⟩ := hh
  exact ⟨_, List.mem_map.2 ⟨x, hx, rfl⟩, e⟩
/-- what is released of a table: all but what is promised, whether it is out or not -/
theorem rel_outs {s : TS} {ns : List Int} (h : ∀ x ∈ s.tab, (x.out || ns.contains x.num) = (x.out || !s.has x.num)) : outs ns s.tab = s.rel.tab := by
  unfold outs TS.rel
  dsimp only
  apply List.map_congr_left
  intro x hx
  rw [h x hx]
theorem tab_uniq {l : List Mo.It} (hk : Mo.TabOk l) {x y : Mo.It} (hx : x ∈ l) (hy : y ∈ l) (e : x.num = y.num) : x = y := by
  obtain ⟨i, hi, rfl⟩ := List.getElem_of_mem hx
  obtain ⟨j, hj, rfl⟩ := List.getElem_of_mem hy
  have h1 := Mo.lo_of_get hk.srt hi
  have h2 := Mo.lo_of_get hk.srt hj
  rw [e, h2] at h1
  subst h1; rfl
/-- those that the program releases -/
def relNs (s : TS) : List Int := (s.tab.filter fun x => !x.out && !s.has x.num).map (·.num)
theorem relNs_ok {s : TS} (h : Inv s) : ∀ x ∈ s.tab, (x.out || (relNs s).contains x.num) = (x.out || !s.has x.num) := by
  intro x hx
  have e : (relNs s).contains x.num = (!x.out && !s.has x.num) := by
    rw [Bool.eq_iff_iff, List.contains_iff_mem]
    unfold relNs
    simp only [List.mem_map, List.mem_filter]
    constructor
    · rintro ⟨y, ⟨hy, hc⟩, e⟩
      rw [← tab_uniq h.tab hy hx e]; exact hc
    · intro hc; exact ⟨x, ⟨hx, hc⟩, rfl⟩
  rw [e]; cases x.out <;> simp
theorem relNs_mem {s : TS} (h : Inv s) {n : Int} (hn : n ∈ relNs s) : (∃ x ∈ s.tab, x.num = n) ∧ ∀ x, s.tab.getLast? = some x → x.num ≠ n := by
  unfold relNs at hn
  simp only [List.mem_map, List.mem_filter] at hn
  obtain ⟨y, ⟨hy, hc⟩, rfl⟩ := hn
  refine ⟨⟨y, hy, rfl⟩, fun x hx e => ?_⟩
  have := last_has h hx
  rw [e] at this
  rw [this] at hc; simp at hc
/-- those that the document releases -/
def relAs (s : TS) : List Int := (s.tab.filter fun x => !s.has x.num).map (·.num)
theorem relAs_ok {s : TS} (h : Inv s) : ∀ x ∈ s.tab, (x.out || (relAs s).contains x.num) = (x.out || !s.has x.num) := by
  intro x hx
  have e : (relAs s).contains x.num = (!s.has x.num) := by
    rw [Bool.eq_iff_iff, List.contains_iff_mem]
    unfold relAs
    simp only [List.mem_map, List.mem_filter]
    constructor
    · rintro ⟨y, ⟨hy, hc⟩, e⟩
      rw [← tab_uniq h.tab hy hx e]; exact hc
    · intro hc; exact ⟨x, ⟨hx, hc⟩, rfl⟩
  rw [e]
theorem relAs_mem {s : TS} (h : Inv s) {n : Int} (hn : n ∈ relAs s) : (∃ x ∈ s.tab, x.num = n) ∧ ∀ x, s.tab.getLast? = some x → x.num ≠ n := by
  unfold relAs at hn
  simp only [List.mem_map, List.mem_filter] at hn
  obtain ⟨y, ⟨hy, hc⟩, rfl⟩ := hn
  refine ⟨⟨y, hy, rfl⟩, fun x hx e => ?_⟩
  have := last_has h hx
  rw [e] at this
  rw [this] at hc; simp at hc

/-- holds by their ids -/
theorem hold_ids {s : TS} (h : Inv s) : (s.holds.map fun p => p.h.id).Nodup := by
  have h1 : s.holds.Pairwise (fun p q => p.h.id ≠ q.h.id) := by
    refine List.Pairwise.imp_of_mem ?_ h.hsrt
    intro p q hp hq hlt
    have := (h.holds p hp).2.2.1
    have := (h.holds q hq).2.2.1
    omega
  exact List.pairwise_map.2 h1
theorem lift_erase : ∀ (l : List Ho.Put) (id : Int), (l.map fun p => p.h.id).Nodup → Ho.liftL id l = l.filter (fun p => !(p.h.id == id)) := by
  intro l
  induction l with
  | nil => intro id _; rfl
  | cons a l ih =>
    intro id hn
    rw [List.map_cons, List.nodup_cons] at hn
    have hi := ih id hn.2
    unfold Ho.liftL at hi ⊢
    rw [List.findIdx?_cons]
    by_cases e : a.h.id == id
    · rw [if_pos e]
      rw [List.filter_cons, if_neg (by simp [e])]
      show l = _
      symm
      rw [List.filter_eq_self]
      intro p hp
      have hne : ¬ p.h.id = id := fun e2 => hn.1 (List.mem_map.2 ⟨p, hp, by rw [e2]; exact (by simpa using e : a.h.id = id).symm⟩)
      simpa using hne
    · rw [if_neg e, List.filter_cons, if_pos (by simp [e])]
      rw [← hi]
      cases l.findIdx? (fun x => x.h.id == id) <;> rfl
theorem lift_fold : ∀ (ids : List Int) (l : List Ho.Put), (l.map fun p => p.h.id).Nodup → ids.foldl (fun t i => Ho.liftL i t) l = l.filter (fun p => !ids.contains p.h.id) := by
  intro ids
  induction ids with
  | nil => intro l _; exact (List.filter_eq_self.2 (by simp)).symm
  | cons i ids ih =>
    intro l hn
    rw [List.foldl_cons, lift_erase l i hn, ih _ (hn.sublist (List.Sublist.map _ List.filter_sublist)), List.filter_filter]
    apply List.filter_congr
    intro p _
    simp only [List.contains_cons, Bool.not_or]
    rw [Bool.and_comm]
def overNs (s : TS) (m : Int) : List Int := (s.holds.filter fun p => decide (p.h.til ≤ m)).map fun p => p.h.id
theorem overNs_fold {s : TS} (h : Inv s) (m : Int) : (overNs s m).foldl (fun t i => Ho.liftL i t) s.holds = s.holds.filter fun p => decide (m < p.h.til) := by
  rw [lift_fold _ _ (hold_ids h)]
  apply List.filter_congr
  intro p hp
  have e : (overNs s m).contains p.h.id = decide (p.h.til ≤ m) := by
    rw [Bool.eq_iff_iff, List.contains_iff_mem, decide_eq_true_eq]
    unfold overNs
    simp only [List.mem_map, List.mem_filter, decide_eq_true_eq]
    constructor
    · rintro ⟨q, ⟨hq, hc⟩, e⟩
      have : q = p := by
        obtain ⟨i, hi, rfl⟩ := List.getElem_of_mem hq
        obtain ⟨j, hj, rfl⟩ := List.getElem_of_mem hp
        have h1 := (h.holds _ (List.getElem_mem hi)).2.2.1
        have h2 := (h.holds _ (List.getElem_mem hj)).2.2.1
        have : i = j := by
          rcases Nat.lt_trichotomy i j with h3 | h3 | h3
          · have := List.pairwise_iff_getElem.1 h.hsrt i j hi hj h3; omega
          · exact h3
          · have := List.pairwise_iff_getElem.1 h.hsrt j i hj hi h3; omega
        subst this; rfl
      rw [← this]; exact hc
    · intro hc; exact ⟨p, ⟨hp, hc⟩, rfl⟩
  rw [e]
  by_cases hc : p.h.til ≤ m
  · rw [decide_eq_true hc, decide_eq_false (by omega)]; rfl
  · rw [decide_eq_false hc, decide_eq_true (by omega)]; rfl
end Go.Proofs.YtoglddndicmelaaGreat.Tr
