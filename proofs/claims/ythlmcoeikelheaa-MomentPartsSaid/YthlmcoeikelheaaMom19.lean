/- Layer 28: a table's moments as pairs of a number and a minute; what dropping changes. -/
import Derived.Test.YthlmcoeikelheaaMom17
namespace Go.Proofs.Ythlmcoeikelheaa
open Go.RowKit Go.Proofs.YthlmcoeikelheaaB

def Pm (l : List It) (n m : Int) : Prop := ∃ x ∈ l, x.num = n ∧ x.min = m

theorem has_pm {l : List It} {num : Int} : has num l = true ↔ ∃ m, Pm l num m := by
  unfold has Pm
  simp only [List.any_eq_true, beq_iff_eq]
  exact ⟨fun ⟨x, h1, h2⟩ => ⟨x.min, x, h1, h2, rfl⟩, fun ⟨m, x, h1, h2, _⟩ => ⟨x, h1, h2⟩⟩
theorem minV_pm {l : List It} (hk : TabOk l) {n m : Int} (h : Pm l n m) : minV n l = m := by
  obtain ⟨x, hx, h1, h2⟩ := h
  obtain ⟨i, hi, rfl⟩ := List.getElem_of_mem hx
  have hh : has n l = true := has_of_get hi h1
  have hlo : lo n l = i := by rw [← h1]; exact lo_of_get hk.srt hi
  rw [minV_get hh, hlo, gt_get hi, h2]
theorem minV_no {l : List It} {n : Int} (h : has n l = false) : minV n l = 0 := by unfold minV; rw [h]; rfl
theorem pm_gt {l : List It} {i : Nat} (hi : i < l.length) : Pm l l[i].num l[i].min := ⟨_, List.getElem_mem hi, rfl, rfl⟩
theorem nextB_pm {l : List It} (hk : TabOk l) {num : Int} : nextB num l = true ↔ ∃ n m, Pm l n m ∧ num < n := by
  obtain ⟨h1, h2⟩ := next_split hk.srt num
  unfold nextB
  rw [decide_eq_true_eq]
  constructor
  · intro h; exact ⟨_, _, pm_gt h, h2 _ h (Nat.le_refl _)⟩
  · rintro ⟨n, m, ⟨x, hx, rfl, rfl⟩, hlt⟩
    obtain ⟨i, hi, rfl⟩ := List.getElem_of_mem hx
    rcases Nat.lt_or_ge (nextI num l) l.length with h | h
    · exact h
    · have := h1 i hi (by omega); omega
theorem nextN_pm {l : List It} (hk : TabOk l) {num : Int} (h : nextB num l = true) : ∃ m, Pm l (nextN num l) m ∧ num < nextN num l ∧ ∀ n' m', Pm l n' m' → num < n' → nextN num l ≤ n' := by
  obtain ⟨h1, h2⟩ := next_split hk.srt num
  have hb : nextI num l < l.length := by unfold nextB at h; simpa using h
  have e : nextN num l = l[nextI num l].num := by unfold nextN; rw [h, if_pos rfl, gt_get hb]
  rw [e]
  refine ⟨_, pm_gt hb, h2 _ hb (Nat.le_refl _), ?_⟩
  rintro n' m' ⟨x, hx, rfl, rfl⟩ hlt
  obtain ⟨i, hi, rfl⟩ := List.getElem_of_mem hx
  rcases Nat.lt_trichotomy i (nextI num l) with h3 | h3 | h3
  · have := h1 i hi h3; omega
  · subst h3; omega
  · have := (srt_get hk.srt hb hi h3).1; omega
theorem nextN_eq {l : List It} (hk : TabOk l) {num n m : Int} (h : Pm l n m) (hlt : num < n) (hle : ∀ n' m', Pm l n' m' → num < n' → n ≤ n') : nextB num l = true ∧ nextN num l = n := by
  have hb := (nextB_pm hk).2 ⟨n, m, h, hlt⟩
  obtain ⟨m', h1, h2, h3⟩ := nextN_pm hk hb
  have := hle _ _ h1 h2
  have := h3 _ _ h hlt
  exact ⟨hb, by omega⟩

theorem pm_rel {l : List It} (hk : TabOk l) (gone n m : Int) : Pm (relL gone l) n m ↔ Pm l n m := by
  unfold relL
  split
  · rename_i h0
    have hh : has gone l = true := by
      cases hh : has gone l
      · unfold relE at h0; rw [hh] at h0; simp at h0
      · rfl
    obtain ⟨hi, _⟩ := has_get hk.srt hh
    rw [gt_get hi]
    unfold Pm
    constructor
    · rintro ⟨x, hx, rfl, rfl⟩
      obtain ⟨i, h2, rfl⟩ := List.getElem_of_mem hx
      rw [List.length_set] at h2
      rw [List.getElem_set]
      split
      · rename_i e; exact ⟨_, List.getElem_mem hi, rfl, rfl⟩
      · exact ⟨_, List.getElem_mem h2, rfl, rfl⟩
    · rintro ⟨x, hx, rfl, rfl⟩
      obtain ⟨i, h2, rfl⟩ := List.getElem_of_mem hx
      refine ⟨(l.set (lo gone l) ⟨l[lo gone l].num, l[lo gone l].min, true⟩)[i]'(by rw [List.length_set]; exact h2), List.getElem_mem _, ?_, ?_⟩
      · rw [List.getElem_set]; split
        · rename_i e; subst e; rfl
        · rfl
      · rw [List.getElem_set]; split
        · rename_i e; subst e; rfl
        · rfl
  · rfl
theorem pm_drop {l : List It} (hk : TabOk l) {gone : Int} (h0 : dropE gone l = 0) (n m : Int) : Pm (dropL gone l) n m ↔ Pm l n m ∧ n ≠ gone := by
  unfold dropL
  rw [if_pos h0]
  have hh : has gone l = true := by
    cases hh : has gone l
    · unfold dropE at h0; rw [hh] at h0; simp at h0
    · rfl
  obtain ⟨hi, hg⟩ := has_get hk.srt hh
  unfold Pm
  constructor
  · rintro ⟨x, hx, rfl, rfl⟩
    rw [List.mem_eraseIdx_iff_getElem] at hx
    obtain ⟨i, h2, h3, rfl⟩ := hx
    refine ⟨⟨_, List.getElem_mem _, rfl, rfl⟩, fun e => ?_⟩
    rcases Nat.lt_trichotomy i (lo gone l) with h4 | h4 | h4
    · have := (srt_get hk.srt h2 hi h4).1; omega
    · exact h3 h4
    · have := (srt_get hk.srt hi h2 h4).1; omega
  · rintro ⟨⟨x, hx, rfl, rfl⟩, hne⟩
    obtain ⟨i, h2, rfl⟩ := List.getElem_of_mem hx
    refine ⟨l[i], ?_, rfl, rfl⟩
    rw [List.mem_eraseIdx_iff_getElem]
    exact ⟨i, h2, fun e => hne (by subst e; exact hg), rfl⟩

/-- what two tables that have a moment, and its next one, alike tell of it -/
theorem tells_eq {l l2 : List It} {num : Int} (h1 : has num l2 = has num l) (h2 : minV num l2 = minV num l) (h3 : nextB num l2 = nextB num l) (h4 : nextM num l2 = nextM num l) (win gap : Int) : closesB num win l2 = closesB num win l ∧ quietB num gap l2 = quietB num gap l := by
  unfold closesB quietB; rw [h1, h2, h3, h4]; exact ⟨rfl, rfl⟩
theorem bool_iff {a b : Bool} (h : a = true ↔ b = true) : a = b := by cases a <;> cases b <;> simp_all

theorem gone_tells {l l2 : List It} (hk : TabOk l) (hk2 : TabOk l2) {num gone : Int} (hp : ∀ n m, Pm l2 n m ↔ Pm l n m ∧ n ≠ gone) (hne : gone ≠ num) (hnx : ¬ (nextB num l = true ∧ gone = nextN num l)) (win gap : Int) : closesB num win l2 = closesB num win l ∧ quietB num gap l2 = quietB num gap l := by
  have e1 : has num l2 = has num l := bool_iff (by rw [has_pm, has_pm]; exact ⟨fun ⟨m, h⟩ => ⟨m, ((hp _ _).1 h).1⟩, fun ⟨m, h⟩ => ⟨m, (hp _ _).2 ⟨h, fun e => hne e.symm⟩⟩⟩)
  have em : ∀ n, n ≠ gone → minV n l2 = minV n l := fun n hn => by
    cases hh : has n l
    · have : has n l2 = false := by
        cases h2 : has n l2
        · rfl
        · obtain ⟨m, h⟩ := has_pm.1 h2
          rw [has_pm.2 ⟨m, ((hp _ _).1 h).1⟩] at hh; cases hh
      rw [minV_no hh, minV_no this]
    · obtain ⟨m, h⟩ := has_pm.1 hh
      rw [minV_pm hk h, minV_pm hk2 ((hp _ _).2 ⟨h, hn⟩)]
  have e3 : nextB num l2 = nextB num l ∧ (nextB num l = true → nextN num l2 = nextN num l) := by
    cases hb : nextB num l
    · refine ⟨?_, fun h => by cases h⟩
      cases hb2 : nextB num l2
      · rfl
      · obtain ⟨n, m, h, hlt⟩ := (nextB_pm hk2).1 hb2
        rw [(nextB_pm hk).2 ⟨n, m, ((hp _ _).1 h).1, hlt⟩] at hb; cases hb
    · obtain ⟨m, h, hlt, hle⟩ := nextN_pm hk hb
      have hng : nextN num l ≠ gone := fun e => hnx ⟨hb, e.symm⟩
      obtain ⟨h1, h2⟩ := nextN_eq hk2 ((hp _ _).2 ⟨h, hng⟩) hlt (fun n' m' h' hl' => hle n' m' ((hp _ _).1 h').1 hl')
      exact ⟨h1, fun _ => h2⟩
  have e4 : nextM num l2 = nextM num l := by
    unfold nextM
    rw [e3.1]
    cases hb : nextB num l
    · rfl
    · rw [e3.2 hb]
      exact em _ (fun e => hnx ⟨hb, e.symm⟩)
  exact tells_eq e1 (em num (fun e => hne e.symm)) e3.1 e4 win gap

theorem witness_tells {l : List It} (hk : TabOk l) {num gone : Int} (hne : gone ≠ num) (hnx : ¬ (nextB num l = true ∧ gone = nextN num l)) (h0 : dropE gone (relL gone l) = 0) (win gap : Int) :
    closesB num win (dropL gone (relL gone l)) = closesB num win l ∧ quietB num gap (dropL gone (relL gone l)) = quietB num gap l :=
  gone_tells hk (ok_drop (ok_rel hk)) (fun n m => by rw [pm_drop (ok_rel hk) h0, pm_rel hk]) hne hnx win gap
end Go.Proofs.Ythlmcoeikelheaa
