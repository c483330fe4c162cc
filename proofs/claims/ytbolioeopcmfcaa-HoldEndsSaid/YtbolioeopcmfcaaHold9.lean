/- Contracts of layer 37: the document's functions. -/
import Derived.Test.YtbolioeopcmfcaaHold8
namespace Go.Proofs.Ytbolioeopcmfcaa
open Go.RowKit Go.Proofs.YtbolioeopcmfcaaB Go.Shelf

theorem infoRef : (Try.prog.info? 68).map (fun i => (i.zero, i.size, i.bytes)) = some (some (.agg #[.int .u64 0, .int .i64 0, .int .i64 0, .int .i64 0, .int .u64 0, .int .i64 0]), 6, 48) := by kernel_rfl

theorem rminute_any (n : Int) (w : World) :
    Calls Try.prog 33 #[.int .i64 n] w fun e w' => e = .returned (.bool (minuteB n)) ∧ w' = w := by
  go_enter Try.func33, Try.ntmps33
  go_wp2
  all_goals
    go_ret
    simp_all [minuteB] <;> omega

theorem ris_any (x : Put) (min now : Int) (w : World) :
    Calls Try.prog 32 #[x.val, .int .i64 min, .int .i64 now] w fun e w' => e = .returned (.bool (isOver min now x)) ∧ Ex0 w w' := by
  obtain ⟨⟨a1, a2, a3, a4⟩, a5, a6⟩ := x
  unfold Put.val
  go_enter Try.func32, Try.ntmps32
  go_wp2
  all_goals
    go_ret
    refine ⟨ret_bool ?_, Ex.alloc _ _⟩
    simp_all [isOver] <;> omega

theorem overL_snoc (min now : Int) (l : List Put) (k : Nat) (hk : k < l.length) : overL min now (l.take (k + 1)) = if isOver min now l[k] then overL min now (l.take k) ++ [l[k]] else overL min now (l.take k) := by
  unfold overL
  rw [List.take_succ_eq_append_getElem hk, List.filter_append]
  by_cases h : isOver min now l[k] = true <;> simp [h]

set_option maxHeartbeats 1000000 in
theorem rover_any (A : Option Addr) (cap : Nat) (l : List Put) (min now : Int) (w : World) (hs : Sl w 6 A l.length (l.flatMap Put.cells)) (hn : l.length ≤ 1000) :
    Calls Try.prog 21 #[.slice A l.length cap, .int .i64 min, .int .i64 now] w fun e w' => ∃ v', e = .returned v' ∧ w'.ownsRow w.heap.size 68 6 v' (overL min now l).length ((overL min now l).flatMap Put.cells) ∧ Ex0 w w' := by
  obtain ⟨i0, hi0, hz0, hz1, hz2⟩ := info_parts infoRef
  have hm := hs.small
  go_enter Try.func21, Try.ntmps21
  go_wp2
  go_loopw [7, 8] (fun v i wr => ∃ k : Nat, k ≤ l.length ∧ i = .int .i64 k ∧ wr.ownsRow w.heap.size 68 6 v (overL min now (l.take k)).length ((overL min now (l.take k)).flatMap Put.cells) ∧ Ex0 w wr) (fun _ i _ => l.length - (intOf i).toNat)
  case atStart => exact ⟨0, Nat.zero_le _, rfl, World.ownsRow_nil _ _ _ _, Ex.refl _ _⟩
  case round =>
    rename_i u7 _
    obtain ⟨k, hk, rfl, hown, hx⟩ := hrel
    by_cases hlt : k < l.length
    · obtain ⟨g, off, hl, rfl, hr⟩ := (hs.ex0 hx).row Put.len (by omega) hlt
      have hsn := overL_snoc min now l k hl
      have hlen : (overL min now (l.take k)).length ≤ 1000 := by
        have := List.length_filter_le (isOver min now) (l.take k)
        rw [List.length_take] at this
        unfold overL; omega
      have HO := Lib.hid hown
      have HS := Lib.hid hsn
      clear hown hsn
      generalize l[k] = x at hr HS
      obtain ⟨⟨a1, a2, a3, a4⟩, a5, a6⟩ := x
      unfold Put.cells at hr
      go_wp2_with (first | (refine wpList_load_at rfl _ _ rfl _ rfl _ _ hr Try.underlying68 rfl (by kernel_rfl) ?_))
      refine (ris_any ⟨⟨a1, a2, a3, a4⟩, a5, a6⟩ min now wr).mono ?_
      rintro e w1 ⟨rfl, hx1⟩
      have hr1 := hr.ex hx1 not_false
      have HO1 := Lib.hid (own_ex HO.out hx1 (fun _ _ => id))
      have hx2 := hx.trans0 hx1
      clear hx1 hr hx HO
      cases hio : isOver min now ⟨⟨a1, a2, a3, a4⟩, a5, a6⟩
      · have HI := Lib.hid hio
        clear hio
        go_wp2
        go_roundw
        case rel => exact ⟨k + 1, by omega, by go_num, by rw [HS.out, HI.out]; exact HO1.out, hx2⟩
        case measure => simp [intOf]; omega
      · have HI := Lib.hid hio
        clear hio
        go_wp2_with (first
          | (refine wpList_load_at rfl _ _ rfl _ rfl _ _ hr1 Try.underlying68 rfl (by kernel_rfl) ?_)
          | (at_builtin; refine wpList_append_own_at _ rfl (.tmp 22) (.tmp 27) 50 rfl w.heap.size 68 i0 _ 6 48 Try.underlying50 hi0 hz0 hz1 hz2 rfl (by decide) _ _ _ rfl (HO1.out.alloc _) ⟨w1.heap.size, 0, none⟩ 1 1 [.int .u64 a1, .int .i64 a2, .int .i64 a3, .int .i64 a4, .int .u64 a5, .int .i64 a6] rfl rfl (World.news_of_block (cs := #[.int .u64 a1, .int .i64 a2, .int .i64 a3, .int .i64 a4, .int .u64 a5, .int .i64 a6]) (t := 68) (fr := (0, 0)) (heap_alloc_new w1 _)) (by simp [Value.oneCell']) (by unfold maxLen; omega) (by omega) (by have := hx2.size; simp; omega) ?_))
        intro v2 w2 hown2 hgrow _ _
        have HO2 := Lib.hid hown2
        have hx3 := Lib.hid ((hx2.alloc' _).trans (Ex.ofGrown hgrow) (U := fun _ => False) (fun _ _ h => h) (fun i hi h => by have := (HO1.out.lt i h).1; omega))
        clear hown2 hgrow
        go_wp2
        go_roundw
        case rel => exact ⟨k + 1, by omega, by go_num, by rw [HS.out, HI.out, if_pos rfl, List.length_append, List.flatMap_append]; exact HO2.out, hx3.out⟩
        case measure => simp [intOf]; omega
    · go_wp2
      go_ret
      have : k = l.length := by omega
      subst this
      rw [List.take_length] at hown
      exact ⟨_, rfl, hown, hx⟩

theorem lift_filter (id : Int) (l : List Put) : l.filter (fun x => !(x.h.id == id)) = l ↔ l.findIdx? (fun x => x.h.id == id) = none := by
  rw [List.findIdx?_eq_none_iff, List.filter_eq_self]
  constructor
  · intro h x hx; have := h x hx; simpa using this
  · intro h x hx; have := h x hx; simpa using this

/-- the document's Lift, by its loop -/
def rliftL (id : Int) (l : List Put) : List Put := l.filter (fun x => !(x.h.id == id))

def RLiftPost (A : Option Addr) (l : List Put) (id : Int) (w : World) (e : Ending) (w' : World) : Prop :=
  ∃ A' cap', e = .returned (.tuple #[.slice A' (rliftL id l).length cap', .int .i64 (liftE id l)]) ∧ Sl w' 6 A' (rliftL id l).length ((rliftL id l).flatMap Put.cells) ∧ (∀ b, Bl A' b → Bl A b ∨ (w.heap.size ≤ b ∧ b < w'.heap.size)) ∧ (A' = none → cap' = 0) ∧ Ex0 w w'

theorem rliftL_snoc (id : Int) (l : List Put) (k : Nat) (hk : k < l.length) : rliftL id (l.take (k + 1)) = if l[k].h.id == id then rliftL id (l.take k) else rliftL id (l.take k) ++ [l[k]] := by
  unfold rliftL
  rw [List.take_succ_eq_append_getElem hk, List.filter_append]
  by_cases h : (l[k].h.id == id) = true <;> simp [h]

theorem filter_len_eq {p : Put → Bool} {l : List Put} (h : (l.filter p).length = l.length) : l.filter p = l := by
  rw [List.filter_eq_self]
  exact fun x hx => (List.length_filter_eq_length_iff.1 h) x hx

set_option maxHeartbeats 1000000 in
theorem rlift_any (A : Option Addr) (cap : Nat) (l : List Put) (id : Int) (w : World) (hs : Sl w 6 A l.length (l.flatMap Put.cells)) (hn : l.length ≤ 1000) (hA : ∀ b, Bl A b → b < w.heap.size) (hcap : A = none → cap = 0) :
    Calls Try.prog 31 #[.slice A l.length cap, .int .u64 id] w (RLiftPost A l id w) := by
  obtain ⟨i0, hi0, hz0, hz1, hz2⟩ := info_parts infoRef
  have hm := hs.small
  go_enter Try.func31, Try.ntmps31
  go_wp2
  go_loopw [6, 7] (fun v i wr => ∃ k : Nat, k ≤ l.length ∧ i = .int .i64 k ∧ wr.ownsRow w.heap.size 68 6 v (rliftL id (l.take k)).length ((rliftL id (l.take k)).flatMap Put.cells) ∧ Ex0 w wr) (fun _ i _ => l.length - (intOf i).toNat)
  case atStart => exact ⟨0, Nat.zero_le _, rfl, World.ownsRow_nil _ _ _ _, Ex.refl _ _⟩
  case round =>
    rename_i u7 _
    obtain ⟨k, hk, rfl, hown, hx⟩ := hrel
    by_cases hlt : k < l.length
    · obtain ⟨g, off, hl, rfl, hr⟩ := (hs.ex0 hx).row Put.len (by omega) hlt
      have hsn := rliftL_snoc id l k hl
      have hlen : (rliftL id (l.take k)).length ≤ 1000 := by
        have := List.length_filter_le (fun x => !(x.h.id == id)) (l.take k)
        rw [List.length_take] at this
        unfold rliftL; omega
      have hlg := hA g rfl
      have hsz := hx.size
      have HO := Lib.hid hown
      have HS := Lib.hid hsn
      clear hown hsn
      generalize l[k] = x at hr HS
      obtain ⟨⟨a1, a2, a3, a4⟩, a5, a6⟩ := x
      unfold Put.cells at hr
      have c0 : wr.cell? ⟨g, off + k * 6, none⟩ = some (.int .u64 a1) := by simpa [Addr.add] using hr 0 _ rfl
      cases hio : (a1 == id)
      · have HI := Lib.hid hio
        have hne : (a1 != id) = true := by rw [bne, hio]; rfl
        clear hio
        go_wp2_with (first
          | (refine wpList_load_at rfl _ _ rfl _ rfl _ _ hr Try.underlying68 rfl (by kernel_rfl) ?_)
          | (at_builtin; refine wpList_append_own_at _ rfl (.tmp 22) (.tmp 27) 50 rfl w.heap.size 68 i0 _ 6 48 Try.underlying50 hi0 hz0 hz1 hz2 rfl (by decide) _ _ _ rfl (HO.out.alloc _) ⟨wr.heap.size, 0, none⟩ 1 1 [.int .u64 a1, .int .i64 a2, .int .i64 a3, .int .i64 a4, .int .u64 a5, .int .i64 a6] rfl rfl (World.news_of_block (cs := #[.int .u64 a1, .int .i64 a2, .int .i64 a3, .int .i64 a4, .int .u64 a5, .int .i64 a6]) (t := 68) (fr := (0, 0)) (heap_alloc_new wr _)) (by simp [Value.oneCell']) (by unfold maxLen; omega) (by omega) (by simp; omega) ?_))
        intro v2 w2 hown2 hgrow _ _
        have HO2 := Lib.hid hown2
        have hx3 := Lib.hid ((hx.alloc' _).trans (Ex.ofGrown hgrow) (U := fun _ => False) (fun _ _ h => h) (fun i hi h => by have := (HO.out.lt i h).1; omega))
        clear hown2 hgrow
        go_wp2
        go_roundw
        case rel => exact ⟨k + 1, by omega, by go_num, by rw [HS.out, HI.out]; simp only [Bool.false_eq_true, if_false]; rw [List.length_append, List.flatMap_append]; exact HO2.out, hx3.out⟩
        case measure => simp [intOf]; omega
      · have HI := Lib.hid hio
        have hne : (a1 != id) = false := by rw [bne, hio]; rfl
        clear hio
        go_wp2
        go_roundw
        case rel => exact ⟨k + 1, by omega, by go_num, by rw [HS.out, HI.out]; exact HO.out, hx⟩
        case measure => simp [intOf]; omega
    · have hkl : k = l.length := by omega
      subst hkl
      rw [List.take_length] at hown
      obtain ⟨A', cap', rfl, hsl', hbl', hcp'⟩ := own_sl' hown
      have HO := Lib.hid hown
      have HB := Lib.hid hbl'
      have HCP := Lib.hid hcp'
      clear hown hbl' hcp'
      by_cases he : (rliftL id l).length = l.length
      · have heq : rliftL id l = l := filter_len_eq he
        have hf := (lift_filter id l).1 heq
        have HF := Lib.hid hf
        have HE := Lib.hid heq
        have hee : ((((rliftL id l).length : Nat) : Int) == (l.length : Int)) = true := by rw [he]; simp
        clear hf heq he
        go_wp2
        go_ret2
        refine ⟨A, cap, ?_, ?_, fun b hb => .inl hb, hcap, hx⟩
        · rw [HE.out]; unfold liftE; rw [HF.out]; rfl
        · rw [HE.out]; exact hs.ex0 hx
      · have hf : liftE id l = 0 := by
          unfold liftE
          cases hff : l.findIdx? (fun x => x.h.id == id) with
          | none => exact absurd (congrArg List.length ((lift_filter id l).2 hff)) he
          | some i => rfl
        have HF := Lib.hid hf
        have hee : ((((rliftL id l).length : Nat) : Int) == (l.length : Int)) = false := by rw [beq_eq_false_iff_ne]; omega
        clear hf he
        go_wp2
        go_ret2
        refine ⟨A', cap', by rw [HF.out]; rfl, hsl', fun b hb => .inr ?_, HCP.out, hx⟩
        exact HO.out.lt b (by rw [HB.out]; exact hb)
end Go.Proofs.Ytbolioeopcmfcaa
