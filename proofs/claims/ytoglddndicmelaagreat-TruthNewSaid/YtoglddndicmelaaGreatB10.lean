/- Slice literals, of none and of structs. -/
import Derived.Great.BuildSlice
import Derived.Test.YtoglddndicmelaaGreatB9
namespace Go.Proofs.YtoglddndicmelaaGreatB
open Go Go.RowKit

theorem run_buildSlice_none {P : Program} (w : World) (t e : TypeId) (ie : TypeInfo) (z : Value)
    (hu : P.underlying t = some (.slice e)) (hie : P.info? e = some ie) (hz : ie.zero = some z) :
    (Instr.buildSlice t 0 #[]).run P w = .ok (.slice (some ⟨w.heap.size, 0, none⟩) 0 0) (w.alloc (.cells #[] e)) := by
  simp [Instr.buildSlice, run_underlying hu, sizeOf, typeInfo, hie, newRow, Instr.fill]
  rw [show Array.range 0 = #[] from rfl, Array.map_empty]
section
variable {P : Program} {o : Oper} {a : Act} {w : World} {K : Act → World → Prop} {Q : Exit → Act → World → Prop}
theorem wp_buildSlice_none (t e : TypeId) (ho : o.op = .buildSlice t 0 #[]) (ie : TypeInfo) (z : Value)
    (hu : P.underlying t = some (.slice e)) (hie : P.info? e = some ie) (hz : ie.zero = some z)
    (h : K (a.put o.dst (.slice (some ⟨w.heap.size, 0, none⟩) 0 0)) (w.alloc (.cells #[] e))) : o.wp P a w K Q := by
  unfold Oper.wp execOp
  have := run_buildSlice_none w t e ie z hu hie hz
  simp only [ho, Sem.run_bind, List.map_toArray, List.map_nil, this, Result.andThen_ok]
  exact h
theorem wpList_buildSlice_none {ops : Array Oper} {rest : List Oper} (hg : o.guard = none) (t e : TypeId) (ho : o.op = .buildSlice t 0 #[]) (ie : TypeInfo) (z : Value)
    (hu : P.underlying t = some (.slice e)) (hie : P.info? e = some ie) (hz : ie.zero = some z)
    (h : wpList P ops Q rest (a.put o.dst (.slice (some ⟨w.heap.size, 0, none⟩) 0 0)) (w.alloc (.cells #[] e))) : wpList P ops Q (o :: rest) a w :=
  wpList_plain hg fun _ hK => wp_buildSlice_none t e ho ie z hu hie hz (hK _ _ h)

theorem fill_all {s : Nat} (hs : 0 < s) (vs : List Value) (cells : Array Value) (hv : ∀ v ∈ vs, v.cells.size = s) (hl : vs.length * s = cells.size) :
    Instr.fill (fun i => some (i * s, s)) cells ((vs.zipIdx 0).map fun x => (x.2, x.1)) = some (vs.flatMap fun v => v.cells.toList).toArray := by
  obtain ⟨r, h1, h2, h3⟩ := Go.Great.fill_dense hs vs 0 cells hv (by rw [Nat.zero_add]; omega)
  rw [h1]
  congr 1
  have hlen : ∀ (vs : List Value), (∀ v ∈ vs, v.cells.size = s) → (vs.flatMap fun v => v.cells.toList).length = vs.length * s := by
    intro vs
    induction vs with
    | nil => simp
    | cons v vs ih =>
      intro h
      have h0 := h v List.mem_cons_self
      rw [List.flatMap_cons, List.length_append, ih (fun u hu => h u (List.mem_cons_of_mem _ hu)), List.length_cons, Nat.add_mul, Nat.one_mul]
      simp [h0]; omega
  have hget : ∀ (vs : List Value) (k : Nat), (∀ v ∈ vs, v.cells.size = s) → k < vs.length * s → (vs.flatMap fun v => v.cells.toList)[k]? = (vs[k / s]?).bind (fun v => v.cells[k % s]?) := by
    intro vs
    induction vs with
    | nil => intro k _ hk; simp at hk
    | cons v vs ih =>
      intro k h hk
      have h0 := h v List.mem_cons_self
      rw [List.flatMap_cons]
      by_cases hks : k < s
      · rw [List.getElem?_append_left (by simp [h0, hks]), Nat.div_eq_of_lt hks, Nat.mod_eq_of_lt hks]
        simp
      · have hk2 : k - s < vs.length * s := by rw [List.length_cons, Nat.add_mul, Nat.one_mul] at hk; omega
        rw [List.getElem?_append_right (by simp [h0]; omega)]
        have h1 : k - v.cells.toList.length = k - s := by simp [h0]
        rw [h1, ih (k - s) (fun u hu => h u (List.mem_cons_of_mem _ hu)) hk2]
        obtain ⟨m, rfl⟩ : ∃ m, k = m + s := ⟨k - s, by omega⟩
        rw [Nat.add_sub_cancel, Nat.add_div_right _ hs, Nat.add_mod_right, List.getElem?_cons_succ]
  apply Array.ext'
  apply List.ext_getElem?
  intro k
  rw [Array.getElem?_toList, h3 k]
  by_cases hk : k < vs.length * s
  · rw [if_pos ⟨by omega, by rw [Nat.zero_add]; exact hk⟩, hget vs k hv hk]
    simp
  · rw [if_neg (by rw [Nat.zero_add]; omega), Array.getElem?_eq_none (by omega), List.getElem?_eq_none (by rw [hlen vs hv]; omega)]

theorem wp_buildSlice_all (t e : TypeId) (len : Nat) (parts : List (Nat × Operand)) (ho : o.op = .buildSlice t len parts.toArray) (vs : List Value)
    (ie : TypeInfo) (z : Value) (s : Nat) (hu : P.underlying t = some (.slice e)) (hie : P.info? e = some ie) (hz : ie.zero = some z) (hsz : ie.size = s) (hsmall : len * s ≤ 2 ^ 24) (hs : 0 < s) (hlen : len = vs.length) (hl0 : 0 < len)
    (hp : (parts.map fun (i, x) => (i, a.eval x)) = (vs.zipIdx 0).map fun x => (x.2, x.1)) (hv : ∀ v ∈ vs, v.cells.size = s)
    (h : K (a.put o.dst (.slice (some ⟨w.heap.size, 0, none⟩) len len)) (w.alloc (.cells (vs.flatMap fun v => v.cells.toList).toArray e))) : o.wp P a w K Q := by
  subst hsz
  have hne : ¬ len * ie.size = 0 := by
    intro e0
    rcases Nat.mul_eq_zero.1 e0 with h | h <;> omega
  refine wp_buildSlice t e len parts.toArray ho _ ie z hu hie hz (by omega) hne ?_ h
  simp only [List.map_toArray]
  rw [hp]
  refine fill_all hs vs _ hv ?_
  simp [hlen]
theorem wpList_buildSlice_all {ops : Array Oper} {rest : List Oper} (hg : o.guard = none) (t e : TypeId) (len : Nat) (parts : List (Nat × Operand)) (ho : o.op = .buildSlice t len parts.toArray) (vs : List Value)
    (ie : TypeInfo) (z : Value) (s : Nat) (hu : P.underlying t = some (.slice e)) (hie : P.info? e = some ie) (hz : ie.zero = some z) (hsz : ie.size = s) (hsmall : len * s ≤ 2 ^ 24) (hs : 0 < s) (hlen : len = vs.length) (hl0 : 0 < len)
    (hp : (parts.map fun (i, x) => (i, a.eval x)) = (vs.zipIdx 0).map fun x => (x.2, x.1)) (hv : ∀ v ∈ vs, v.cells.size = s)
    (h : wpList P ops Q rest (a.put o.dst (.slice (some ⟨w.heap.size, 0, none⟩) len len)) (w.alloc (.cells (vs.flatMap fun v => v.cells.toList).toArray e))) : wpList P ops Q (o :: rest) a w :=
  wpList_plain hg fun _ hK => wp_buildSlice_all t e len parts ho vs ie z s hu hie hz hsz hsmall hs hlen hl0 hp hv (hK _ _ h)
end
theorem wpList_load_at_gd {P : Program} {ops : Array Oper} {rest : List Oper} {o : Oper} {a : Act} {w : World} {Q : Exit → Act → World → Prop} (hw : Region.wanted o (yielded ops a.tmps) = true) (ty : TypeId) (x : Operand) (ho : o.op = .load ty x)
    (ad : Addr) (hx : a.eval x = .pointer (some ad)) (cs : List Value) (d : TypeDesc) (hg : RowAt w ad cs)
    (hu : P.underlying ty = some d) (hd : (match d with | .struct _ | .array _ _ => true | _ => false) = true) (hi : (P.info? ty).map (·.size) = some cs.length)
    (h : wpList P ops Q rest (a.put o.dst (.agg cs.toArray)) w) : wpList P ops Q (o :: rest) a w :=
  wpList_step fun K hK => by rw [if_pos hw]; exact wp_load_at ty x ho ad hx cs d hg hu hd hi (hK _ _ h)
theorem own_ne {v v' : Value} {b c n : Nat} (h : v'.ownBlock = v.ownBlock ∨ v'.ownBlock = some n) (hv : v.ownBlock = some c) (hc : c ≠ b) (hb : b < n) : v'.ownBlock ≠ some b := by
  intro h'
  rcases h with h | h
  · rw [h, hv] at h'; injection h' with h'; exact hc h'
  · rw [h] at h'; injection h' with h'; omega
end Go.Proofs.YtoglddndicmelaaGreatB
