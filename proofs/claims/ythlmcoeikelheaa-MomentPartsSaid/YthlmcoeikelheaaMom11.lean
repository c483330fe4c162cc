/- Layer 28: both tables, side by side; a deed on both. -/
import Derived.Test.YthlmcoeikelheaaMom10
namespace Go.Proofs.Ythlmcoeikelheaa
open Go.RowKit Go.Proofs.YthlmcoeikelheaaB Go.Shelf

/-- the table and the document's, apart, new since a world -/
structure Both (w0 : World) (p px : Nat) (v : Value) (d : DocV) (l : List It) (w : World) : Prop where
  T : TabAt w p v l
  D : DocAt w px d l
  ok : TabOk l
  sp : ∀ b, (b = px ∨ Bld d b) → ¬ (b = p ∨ v.ownBlock = some b)
  ge : w0.heap.size ≤ p ∧ w0.heap.size ≤ px ∧ ∀ b, v.ownBlock = some b → w0.heap.size ≤ b
  bel : Below w0.heap.size w0 w
theorem Both.ex0 {w0 : World} {p px : Nat} {v : Value} {d : DocV} {l : List It} {w w' : World} (h : Both w0 p px v d l w) (hx : Ex0 w w') : Both w0 p px v d l w' :=
  ⟨h.T.ex0 hx, h.D.ex0 hx, h.ok, h.sp, h.ge, h.bel.trans (hx.below h.bel.size (fun _ h => h.elim))⟩

theorem Both.mid {w0 : World} {p px : Nat} {v : Value} {d : DocV} {l : List It} {w wa w1 : World} (h : Both w0 p px v d l w) (hx : Ex0 w wa) (hx1 : Ex (fun b => b = p ∨ v.ownBlock = some b) wa w1) : DocAt w1 px d l :=
  (h.D.ex0 hx).ex hx1 (h.sp px (.inl rfl)) (fun b hb => h.sp b (.inr hb))

theorem Both.step {w0 : World} {p px : Nat} {v v' : Value} {d d' : DocV} {l l' : List It} {w wa w1 wb w2 : World} (h : Both w0 p px v d l w) (hx : Ex0 w wa)
    (hv : v'.ownBlock = v.ownBlock ∨ ∃ b, v'.ownBlock = some b ∧ wa.heap.size ≤ b) (hT : TabAt w1 p v' l') (hx1 : Ex (fun b => b = p ∨ v.ownBlock = some b) wa w1) (hxb : Ex0 w1 wb)
    (hD : DocAt w2 px d' l') (hb : ∀ b, Bld d' b → Bld d b ∨ wb.heap.size ≤ b) (hx2 : Ex (· = px) wb w2) (hok : TabOk l') : Both w0 p px v' d' l' w2 := by
  have s0 := hx.size
  have s1 := hx1.size
  have sb := hxb.size
  have s2 := hx2.size
  have hpx := h.D.lt
  have hp1 := hT.lt
  have hnp : p ≠ px := fun e => h.sp px (.inl rfl) (.inl e.symm)
  have hvx : ∀ b, (b = px ∨ (Bld d b)) → v'.ownBlock ≠ some b := fun b hb' e => by
    rcases hv with h1 | ⟨c, h1, h2⟩
    · exact h.sp b hb' (.inr (by rw [← h1]; exact e))
    · rw [h1] at e; cases e
      rcases hb' with rfl | hb'
      · omega
      · have := (h.D.ap _ hb').2; omega
  refine ⟨(hT.ex0 hxb).ex hx2 hnp (fun b hb' e => hvx b (.inl e) hb'), hD, hok, ?_, ⟨h.ge.1, h.ge.2.1, ?_⟩, ?_⟩
  · rintro b (rfl | hb') (e | e)
    · exact hnp e.symm
    · exact hvx _ (.inl rfl) e
    · rcases hb b hb' with h1 | h1
      · exact h.sp b (.inr h1) (.inl e)
      · omega
    · rcases hb b hb' with h1 | h1
      · exact hvx b (.inr h1) e
      · have := (hT.own.lt b e).2; omega
  · intro b hb'
    rcases hv with h1 | ⟨c, h1, h2⟩
    · exact h.ge.2.2 b (by rw [← h1]; exact hb')
    · rw [h1] at hb'; cases hb'
      have := h.bel.size; omega
  · have b0 := h.bel
    have b1 := b0.trans (hx.below b0.size (fun _ h => h.elim))
    have b2 := b1.trans (hx1.below b1.size (fun i e => by
      rcases e with e | e
      · rw [e]; exact h.ge.1
      · exact h.ge.2.2 i e))
    have b3 := b2.trans (hxb.below b2.size (fun _ h => h.elim))
    exact b3.trans (hx2.below b3.size (fun i e => by rw [e]; exact h.ge.2.1))

/-! ### deeds -/
structure DeedM where
  kind : Int
  num : Int
  min : Int
def DeedM.cells (x : DeedM) : List Value := [.int .i64 x.kind, .int .u64 x.num, .int .i64 x.min]
def DeedM.val (x : DeedM) : Value := .agg #[.int .i64 x.kind, .int .u64 x.num, .int .i64 x.min]
theorem DeedM.len (x : DeedM) : x.cells.length = 3 := rfl

def momStep (l : List It) (d : DeedM) : List It := if d.kind = 0 then addL d.num d.min l else if d.kind = 1 then relL d.num l else if d.kind = 2 then dropL d.num l else l
def moms (l : List DeedM) : List It := l.foldl momStep []
theorem moms_take (l : List DeedM) (k : Nat) (hk : k < l.length) : moms (l.take (k + 1)) = momStep (moms (l.take k)) l[k] := by
  unfold moms
  rw [List.take_succ_eq_append_getElem hk, List.foldl_append]; rfl

theorem addE_ok {num min : Int} {l : List It} (h : addE num min l = 0) : rngB num min = true ∧ l.any (pastI num min) = false := by
  unfold addE at h
  cases hr : rngB num min
  · rw [hr] at h; simp at h
  · rw [hr] at h
    cases ha : l.any (pastI num min)
    · exact ⟨rfl, rfl⟩
    · rw [ha] at h; simp at h

theorem ok_add {num min : Int} {l : List It} (hk : TabOk l) (hl : l.length ≤ 900) : TabOk (addL num min l) := by
  unfold addL
  split
  · rename_i h0
    obtain ⟨h1, h2⟩ := addE_ok h0
    unfold rngB at h1
    simp only [Bool.and_eq_true, decide_eq_true_eq] at h1
    rw [List.any_eq_false] at h2
    refine ⟨List.pairwise_append.2 ⟨hk.srt, List.pairwise_singleton _ _, fun x hx y hy => ?_⟩, fun x hx => ?_, by simp; omega⟩
    · simp only [List.mem_singleton] at hy; subst hy
      have := h2 x hx
      unfold pastI at this
      simp at this
      exact ⟨by simp; omega, by simp; omega⟩
    · rcases List.mem_append.1 hx with hx | hx
      · exact hk.rng x hx
      · simp only [List.mem_singleton] at hx; subst hx
        exact ⟨h1.1.1.1, h1.1.1.2, h1.1.2, h1.2⟩
  · exact hk
theorem ok_sub {l k : List It} (hk : TabOk l) (hs : k.Sublist l) : TabOk k :=
  ⟨hk.srt.sublist hs, fun x hx => hk.rng x (hs.subset hx), Nat.le_trans hs.length_le hk.len⟩
theorem ok_drop {num : Int} {l : List It} (hk : TabOk l) : TabOk (dropL num l) := by
  unfold dropL
  split
  · exact ok_sub hk (List.eraseIdx_sublist _ _)
  · exact hk
theorem ok_set {l : List It} (hk : TabOk l) (i : Nat) (x' : It) (h : i < l.length) (h1 : x'.num = l[i].num) (h2 : x'.min = l[i].min) : TabOk (l.set i x') := by
  have hg : ∀ t (ht : t < (l.set i x').length), (l.set i x')[t].num = (l[t]'(by simpa using ht)).num ∧ (l.set i x')[t].min = (l[t]'(by simpa using ht)).min := fun t ht => by
    rw [List.getElem_set]
    split
    · rename_i e; subst e; exact ⟨h1, h2⟩
    · exact ⟨rfl, rfl⟩
  refine ⟨List.pairwise_iff_getElem.2 fun a b ha hb hab => ?_, fun x hx => ?_, by rw [List.length_set]; exact hk.len⟩
  · rw [(hg a ha).1, (hg b hb).1, (hg a ha).2, (hg b hb).2]
    exact srt_get hk.srt _ _ hab
  · obtain ⟨t, ht, rfl⟩ := List.getElem_of_mem hx
    rw [(hg t ht).1, (hg t ht).2]
    exact hk.rng _ (List.getElem_mem _)
theorem ok_rel {num : Int} {l : List It} (hk : TabOk l) : TabOk (relL num l) := by
  unfold relL
  split
  · rename_i h0
    cases hh : has num l
    · unfold relE at h0; rw [hh] at h0; simp at h0
    · obtain ⟨hi, _⟩ := has_get hk.srt hh
      exact ok_set hk _ _ hi (by rw [gt_get hi]) (by rw [gt_get hi])
  · exact hk
theorem ok_step {l : List It} (d : DeedM) (hk : TabOk l) (hl : l.length ≤ 900) : TabOk (momStep l d) := by
  unfold momStep
  split
  · exact ok_add hk hl
  · split
    · exact ok_rel hk
    · split
      · exact ok_drop hk
      · exact hk
theorem step_len (l : List It) (d : DeedM) : (momStep l d).length ≤ l.length + 1 := by
  unfold momStep addL relL dropL
  split
  · split <;> simp
  · split
    · split <;> simp
    · split
      · split
        · have := (List.eraseIdx_sublist l (lo d.num l)).length_le; omega
        · omega
      · omega
end Go.Proofs.Ythlmcoeikelheaa
