/- Contracts of layer 61: sha.Compress. -/
import Derived.Test.YthbdmfbjkkmplaaAud1
namespace Go.Proofs.Ythbdmfbjkkmplaa
open Go.RowKit Go.Proofs.YthbdmfbjkkmplaaB Go.Proofs.Ythbdmfbjkkmplaa.Sha

/-- a block of words -/
def W32 (w : World) (b : Nat) (t : TypeId) (l : List Nat) : Prop := w.heap[b]? = some (.cells (u32s l).toArray t (0, 0))
/-- a block of bytes -/
def W8 (w : World) (b : Nat) (t : TypeId) (l : List Nat) : Prop := w.heap[b]? = some (.cells (u8s l).toArray t (0, 0))
section
variable {w w' : World} {b : Nat} {t : TypeId} {l : List Nat}
theorem W32.lt (h : W32 w b t l) : b < w.heap.size := (Array.getElem?_eq_some_iff.1 h).1
theorem W8.lt (h : W8 w b t l) : b < w.heap.size := (Array.getElem?_eq_some_iff.1 h).1
theorem W32.ex {S : Nat → Prop} (h : W32 w b t l) (hx : Ex S w w') (hS : ¬ S b) : W32 w' b t l := (hx.block b h.lt hS).trans h
theorem W8.ex {S : Nat → Prop} (h : W8 w b t l) (hx : Ex S w w') (hS : ¬ S b) : W8 w' b t l := (hx.block b h.lt hS).trans h
theorem W32.cell (h : W32 w b t l) {j : Nat} (hj : j < l.length) : w.cell? ⟨b, j, none⟩ = some (.int .u32 (l.getD j 0 : Nat)) := by
  rw [cell_of_row w b j _ _ _ h]; simpa using u32s_get hj
theorem W8.cell (h : W8 w b t l) {j : Nat} (hj : j < l.length) : w.cell? ⟨b, j, none⟩ = some (.int .u8 (l.getD j 0 : Nat)) := by
  rw [cell_of_row w b j _ _ _ h]; simpa using u8s_get hj
theorem W32.frozen (h : W32 w b t l) (j : Nat) : w.frozen? ⟨b, j, none⟩ = false := frozen_of_row w b j _ _ h
theorem W8.frozen (h : W8 w b t l) (j : Nat) : w.frozen? ⟨b, j, none⟩ = false := frozen_of_row w b j _ _ h
theorem W32.set (h : W32 w b t l) (j x : Nat) : W32 (w.setCell ⟨b, j, none⟩ (.int .u32 x)) b t (l.set j x) := by
  unfold W32
  rw [heap_setCell_same w b j _ t _ h]
  congr 2
  apply Array.ext'
  simp [u32s, List.map_set]
theorem W8.set (h : W8 w b t l) (j x : Nat) : W8 (w.setCell ⟨b, j, none⟩ (.int .u8 x)) b t (l.set j x) := by
  unfold W8
  rw [heap_setCell_same w b j _ t _ h]
  congr 2
  apply Array.ext'
  simp [u8s, List.map_set]
theorem W8.row (h : W8 w b t l) (o : Nat) : RowAt w ⟨b, o, none⟩ (u8s (l.drop o)) := by
  intro j u hu
  rw [Addr.add_lit, cell_of_row w b _ _ _ _ h]
  simpa [u8s, List.getElem?_drop] using hu
theorem W32.row (h : W32 w b t l) (o : Nat) : RowAt w ⟨b, o, none⟩ (u32s (l.drop o)) := by
  intro j u hu
  rw [Addr.add_lit, cell_of_row w b _ _ _ _ h]
  simpa [u32s, List.getElem?_drop] using hu
theorem W8.part (h : W8 w b t l) (o n : Nat) : RowAt w ⟨b, o, none⟩ (u8s ((l.drop o).take n)) := by
  intro j u hu
  refine h.row o j u ?_
  simp only [u8s, List.map_take] at hu
  rw [List.getElem?_take] at hu
  split at hu
  · exact hu
  · cases hu
theorem W32.alloc (h : W32 w b t l) (o : Obj) : W32 (w.alloc o) b t l := h.ex (Ex.alloc w o) not_false
theorem W8.alloc (h : W8 w b t l) (o : Obj) : W8 (w.alloc o) b t l := h.ex (Ex.alloc w o) not_false
theorem W32.new (w : World) (t : TypeId) (l : List Nat) : W32 (w.alloc (.cells (u32s l).toArray t)) w.heap.size t l := heap_alloc_new _ _
theorem W8.new (w : World) (t : TypeId) (l : List Nat) : W8 (w.alloc (.cells (u8s l).toArray t)) w.heap.size t l := heap_alloc_new _ _
end

theorem getD_lt {l : List Nat} {B : Nat} (h : ∀ x ∈ l, x < B) (hB : 0 < B) (i : Nat) : l.getD i 0 < B := by
  rw [List.getD_eq_getElem?_getD]
  rcases Nat.lt_or_ge i l.length with h1 | h1
  · rw [List.getElem?_eq_getElem h1]; exact h _ (List.getElem_mem h1)
  · rw [List.getElem?_eq_none h1]; exact hB

/-- the words so far, and noughts -/
def wrow (blk : List Nat) (k : Nat) : List Nat := sched blk k ++ List.replicate (64 - k) 0
theorem wrow_len (blk : List Nat) {k : Nat} (hk : k ≤ 64) : (wrow blk k).length = 64 := by simp [wrow, sched_len]; omega
theorem wrow_get (blk : List Nat) {k i : Nat} (hi : i < k) : (wrow blk k).getD i 0 = (sched blk k).getD i 0 := by
  unfold wrow
  rw [List.getD_eq_getElem?_getD, List.getElem?_append_left (by rw [sched_len]; exact hi), ← List.getD_eq_getElem?_getD]
theorem wrow_set (blk : List Nat) {k : Nat} (hk : k < 64) : (wrow blk k).set k (if k < 16 then word4 blk k else nextW (sched blk k)) = wrow blk (k + 1) := by
  unfold wrow
  rw [List.set_append_right _ _ (by rw [sched_len]; exact Nat.le_refl _), sched_len, Nat.sub_self, show 64 - k = (64 - (k + 1)) + 1 by omega, List.replicate_succ, List.set_cons_zero]
  simp [sched]
theorem word4_drop (blk : List Nat) (k : Nat) : word4 (blk.drop (4 * k)) 0 = word4 blk k := by
  simp [word4, List.getElem?_drop]

theorem alloc4 (w : World) (A B C D : Obj) : ((((w.alloc A).alloc B).alloc C).alloc D).heap[w.heap.size]? = some A ∧ ((((w.alloc A).alloc B).alloc C).alloc D).heap[w.heap.size + 1]? = some B ∧
    ((((w.alloc A).alloc B).alloc C).alloc D).heap[w.heap.size + 1 + 1]? = some C ∧ ((((w.alloc A).alloc B).alloc C).alloc D).heap[w.heap.size + 1 + 1 + 1]? = some D ∧ ((((w.alloc A).alloc B).alloc C).alloc D).heap.size = w.heap.size + 4 := by
  have e1 : (w.alloc A).heap.size = w.heap.size + 1 := by simp
  have e2 : ((w.alloc A).alloc B).heap.size = w.heap.size + 1 + 1 := by simp
  have e3 : (((w.alloc A).alloc B).alloc C).heap.size = w.heap.size + 1 + 1 + 1 := by simp
  refine ⟨?_, ?_, ?_, ?_, by simp⟩
  · rw [Below.heap_alloc _ _ _ (by omega), Below.heap_alloc _ _ _ (by omega), Below.heap_alloc _ _ _ (by omega), heap_alloc_new]
  · rw [Below.heap_alloc _ _ _ (by omega), Below.heap_alloc _ _ _ (by omega), ← e1, heap_alloc_new]
  · rw [Below.heap_alloc _ _ _ (by omega), ← e2, heap_alloc_new]
  · rw [← e3, heap_alloc_new]

theorem next_int {x15 x2 : Nat} (x16 x7 : Nat) (h1 : x15 < 4294967296) (h2 : x2 < 4294967296) :
    (((x16 : Int) + x7 + bits .xor .u32 (bits .xor .u32 (rotr x15 7 : Nat) (rotr x15 18 : Nat)) ((x15 : Int) / 8) + bits .xor .u32 (bits .xor .u32 (rotr x2 17 : Nat) (rotr x2 19 : Nat)) ((x2 : Int) / 1024)) % 4294967296) =
      (((x16 + x7 + sg0 x15 + sg1 x2) % 4294967296 : Nat) : Int) := by
  rw [show (x15 : Int) / 8 = ((x15 / 8 : Nat) : Int) by simp, show (x2 : Int) / 1024 = ((x2 / 1024 : Nat) : Int) by simp, xor32 (rotr_lt _ _) (rotr_lt _ _), xor32 (rotr_lt _ _) (rotr_lt _ _),
    xor32 (xor_lt (rotr_lt _ _) (rotr_lt _ _)) (div_lt h1), xor32 (xor_lt (rotr_lt _ _) (rotr_lt _ _)) (div_lt h2)]
  unfold sg0 sg1
  simp

def t1N (x4 x5 x6 x7 kk ww : Nat) : Nat := (x7 + ep1 x4 + chf x4 x5 x6 + kk + ww) % 4294967296
theorem t1_int {x4 x5 x6 : Nat} (x7 kk ww : Nat) (h4 : x4 < 4294967296) (h5 : x5 < 4294967296) (h6 : x6 < 4294967296) :
    (((x7 : Int) + bits .xor .u32 (bits .xor .u32 (rotr x4 6 : Nat) (rotr x4 11 : Nat)) (rotr x4 25 : Nat) +
      bits .xor .u32 (bits .and .u32 x4 x5) (bits .and .u32 (bits .xor .u32 (if IntKind.u32.signed = true then -1 else IntKind.u32.max) x4) x6) + kk) % 4294967296 + ww) % 4294967296 = ((t1N x4 x5 x6 x7 kk ww : Nat) : Int) := by
  rw [show (if IntKind.u32.signed = true then -1 else IntKind.u32.max) = (4294967295 : Int) from rfl, not32 h4, and32 h4 h5, and32 (by omega) h6, xor32 (and_lt h4) (and_lt (by omega)), xor32 (rotr_lt _ _) (rotr_lt _ _), xor32 (xor_lt (rotr_lt _ _) (rotr_lt _ _)) (rotr_lt _ _)]
  unfold t1N ep1 chf
  simp
def t2N (x0 x1 x2 : Nat) : Nat := ep0 x0 + maj x0 x1 x2
theorem t2_int {x0 x1 x2 : Nat} (h0 : x0 < 4294967296) (h1 : x1 < 4294967296) (h2 : x2 < 4294967296) :
    (bits .xor .u32 (bits .xor .u32 (rotr x0 2 : Nat) (rotr x0 13 : Nat)) (rotr x0 22 : Nat) + bits .xor .u32 (bits .xor .u32 (bits .and .u32 x0 x1) (bits .and .u32 x0 x2)) (bits .and .u32 x1 x2)) = ((t2N x0 x1 x2 : Nat) : Int) := by
  rw [and32 h0 h1, and32 h0 h2, and32 h1 h2, xor32 (and_lt h0) (and_lt h0), xor32 (xor_lt (and_lt h0) (and_lt h0)) (and_lt h1), xor32 (rotr_lt _ _) (rotr_lt _ _), xor32 (xor_lt (rotr_lt _ _) (rotr_lt _ _)) (rotr_lt _ _)]
  unfold t2N ep0 maj
  simp

/-- the first k are added -/
def addN (h v : List Nat) (k : Nat) : List Nat := (addW v h).take k ++ v.drop k
theorem addN_len {h v : List Nat} (hh : h.length = 8) (hv : v.length = 8) {k : Nat} (hk : k ≤ 8) : (addN h v k).length = 8 := by
  simp [addN, addW, hh, hv]; omega
theorem addN_get {h v : List Nat} (hh : h.length = 8) (hv : v.length = 8) {k : Nat} (hk : k < 8) : (addN h v k).getD k 0 = v.getD k 0 := by
  unfold addN
  have hl : ((addW v h).take k).length = k := by simp [addW, hh, hv]; omega
  rw [List.getD_eq_getElem?_getD, List.getElem?_append_right (by omega), hl, Nat.sub_self, List.getElem?_drop, Nat.add_zero, ← List.getD_eq_getElem?_getD]
theorem addN_set {h v : List Nat} (hh : h.length = 8) (hv : v.length = 8) {k : Nat} (hk : k < 8) : (addN h v k).set k ((v.getD k 0 + h.getD k 0) % 4294967296) = addN h v (k + 1) := by
  have hl : ((addW v h).take k).length = k := by simp [addW, hh, hv]; omega
  unfold addN
  rw [List.set_append_right _ _ (by omega), hl, Nat.sub_self]
  rw [List.take_succ_eq_append_getElem (by simp [addW, hh, hv]; omega), List.drop_eq_getElem_cons (by omega : k < v.length), List.set_cons_zero]
  simp [addW, List.getD_eq_getElem?_getD, List.getElem?_eq_getElem (by omega : k < v.length), List.getElem?_eq_getElem (by omega : k < h.length)]
theorem addN_all {h v : List Nat} (hh : h.length = 8) (hv : v.length = 8) : addN h v 8 = addW v h := by
  unfold addN
  rw [List.take_of_length_le (by simp [addW, hh, hv]), List.drop_of_length_le (by omega), List.append_nil]

set_option maxRecDepth 100000 in
set_option maxHeartbeats 4000000 in
theorem compress_any (h blk : List Nat) (hh : h.length = 8) (hl : ∀ x ∈ h, x < 4294967296) (hb : blk.length = 64) (hbl : ∀ x ∈ blk, x < 256) (w : World) :
    Calls Try.prog 52 #[.agg (u32s h).toArray, .agg (u8s blk).toArray] w fun e w' => e = .returned (.agg (u32s (compress h blk)).toArray) ∧ Ex0 w w' := by
  obtain ⟨HA, hHA⟩ : ∃ HA, HA = (u32s h).toArray := ⟨_, rfl⟩
  obtain ⟨BA, hBA⟩ : ∃ BA, BA = (u8s blk).toArray := ⟨_, rfl⟩
  rw [← hHA, ← hBA]
  have HHA := Lib.hid hHA
  have HBA := Lib.hid hBA
  have HL := Lib.hid hl
  have HBL := Lib.hid hbl
  clear hHA hBA hl hbl
  go_enter Try.func52, Try.ntmps52
  iterate 22 go_step
  generalize hW : World.alloc (World.alloc (World.alloc (World.alloc w _) _) _) _ = W
  have h0 : W32 W w.heap.size 85 h := by rw [← hW]; subst HHA; exact (alloc4 w _ _ _ _).1
  have h1 : W8 W (w.heap.size + 1) 89 blk := by rw [← hW]; subst HBA; exact (alloc4 w _ _ _ _).2.1
  have h2 : W32 W (w.heap.size + 1 + 1) 85 [0, 0, 0, 0, 0, 0, 0, 0] := by rw [← hW]; exact (alloc4 w _ _ _ _).2.2.1
  have h3 : W32 W (w.heap.size + 1 + 1 + 1) 93 (wrow blk 0) := by rw [← hW]; exact (alloc4 w _ _ _ _).2.2.2.1
  have hx : Ex0 w W := by rw [← hW]; exact (((Ex.alloc _ _).alloc' _).alloc' _).alloc' _
  have hsz : W.heap.size = w.heap.size + 4 := by rw [← hW]; exact (alloc4 w _ _ _ _).2.2.2.2
  obtain ⟨b0, e0⟩ : ∃ b, b = w.heap.size := ⟨_, rfl⟩
  obtain ⟨b1, e1⟩ : ∃ b, b = w.heap.size + 1 := ⟨_, rfl⟩
  obtain ⟨b2, e2⟩ : ∃ b, b = w.heap.size + 1 + 1 := ⟨_, rfl⟩
  obtain ⟨b3, e3⟩ : ∃ b, b = w.heap.size + 1 + 1 + 1 := ⟨_, rfl⟩
  rw [← e3] at h3
  rw [← e2] at h2
  rw [← e1] at h1
  rw [← e0] at h0
  rw [← e3, ← e2, ← e1, ← e0]
  have E0 := Lib.hid e0
  have E1 := Lib.hid e1
  have E2 := Lib.hid e2
  have E3 := Lib.hid e3
  have H0 := Lib.hid h0
  have H1 := Lib.hid h1
  have H2 := Lib.hid h2
  have H3 := Lib.hid h3
  have HX := Lib.hid hx
  have HS := Lib.hid hsz
  clear e0 e1 e2 e3 h0 h1 h2 h3 hx hsz hW
  go_wp2_with fail
  go_loopw [6, 7, 8, 22] (fun _ _ _ i wr => ∃ k : Nat, k ≤ 64 ∧ i = .int .i64 k ∧ W32 wr b3 93 (wrow blk k) ∧ Ex (· = b3) W wr) (fun _ _ _ i _ => 64 - (intOf i).toNat)
  case atStart => exact ⟨0, by omega, rfl, H3.out, Ex.refl _ _⟩
  case round =>
    obtain ⟨k, hk, rfl, hw, hxr⟩ := hrel
    have HW := Lib.hid hw
    have HXR := Lib.hid hxr
    clear hw hxr
    by_cases hlt : k < 64
    · by_cases h16 : k < 16
      · obtain ⟨m, hm⟩ : ∃ m, m = 4 * k := ⟨_, rfl⟩
        have e4 : (4 : Int) * (k : Int) = (m : Int) := by omega
        have hm1 : m ≤ 60 := by omega
        have HM := Lib.hid hm
        clear hm
        have hsl : ∀ w, (Instr.sliceAt 89 (.pointer (some ⟨b1, 0, none⟩)) (some (.int .i64 m)) none none).run Try.prog w = .ok (.slice (some ⟨b1, m, none⟩) (64 - m) (64 - m)) w := fun w => by
          have := run_sliceAt_from (P := Try.prog) Try.underlying89 (by kernel_rfl) b1 0 m (by omega) w
          simpa using this
        have H1r := Lib.hid (H1.out.ex HXR.out (by rw [E1.out, E3.out]; omega))
        go_wp2_with fail
        refine (word_any b1 m (64 - m) (64 - m) (blk.drop m) (fun x hx => HBL.out x (List.mem_of_mem_drop hx)) (by omega) (by rw [List.length_drop, hb]; omega) _ (H1r.out.row m)).mono ?_
        rintro e w1 ⟨rfl, hx1⟩
        have hw1 := HW.out.ex hx1 not_false
        have hc := hw1.cell (j := k) (by rw [wrow_len blk hk]; exact hlt)
        have hf := hw1.frozen k
        have HX1 := Lib.hid hx1
        have HW1 := Lib.hid hw1
        rw [show word4 (blk.drop m) 0 = word4 blk k by rw [HM.out]; exact word4_drop blk k]
        clear hx1 hw1 hsl
        go_wp2_with fail
        go_roundw
        case rel =>
          refine ⟨k + 1, by omega, by go_num, ?_, ?_⟩
          · have := HW1.out.set k (word4 blk k)
            rw [← wrow_set blk hlt, if_pos h16]; exact this
          · exact (HXR.out.trans0 HX1.out).trans (Ex.setCell _ _ _) (fun _ _ h => h) (fun _ _ h => h)
        case measure => simp [intOf]; omega
      · have hk15 : (k : Int) - 15 = ((k - 15 : Nat) : Int) := by omega
        have hk2 : (k : Int) - 2 = ((k - 2 : Nat) : Int) := by omega
        have hk16 : (k : Int) - 16 = ((k - 16 : Nat) : Int) := by omega
        have hk7 : (k : Int) - 7 = ((k - 7 : Nat) : Int) := by omega
        obtain ⟨a15, ha15⟩ : ∃ a, a = k - 15 := ⟨_, rfl⟩
        obtain ⟨a2, ha2⟩ : ∃ a, a = k - 2 := ⟨_, rfl⟩
        obtain ⟨a16, ha16⟩ : ∃ a, a = k - 16 := ⟨_, rfl⟩
        obtain ⟨a7, ha7⟩ : ∃ a, a = k - 7 := ⟨_, rfl⟩
        rw [← ha15] at hk15
        rw [← ha2] at hk2
        rw [← ha16] at hk16
        rw [← ha7] at hk7
        have l15 : a15 < 64 := by omega
        have l2 : a2 < 64 := by omega
        have l16 : a16 < 64 := by omega
        have l7 : a7 < 64 := by omega
        have hwl := wrow_len blk hk
        have c15 := HW.out.cell (j := a15) (by omega)
        have c2 := HW.out.cell (j := a2) (by omega)
        have c16 := HW.out.cell (j := a16) (by omega)
        have c7 := HW.out.cell (j := a7) (by omega)
        have hwlt := sched_lt HBL.out k
        have hg : ∀ i, i < k → ∃ x : Nat, (wrow blk k).getD i 0 = x ∧ x < 4294967296 ∧ (sched blk k).getD i 0 = x := fun i hi => ⟨_, wrow_get blk hi, getD_lt hwlt (by decide) i, rfl⟩
        obtain ⟨x15, g15, t15, s15⟩ := hg a15 (by omega)
        obtain ⟨x2, g2, t2, s2⟩ := hg a2 (by omega)
        obtain ⟨x16, g16, t16, s16⟩ := hg a16 (by omega)
        obtain ⟨x7, g7, t7, s7⟩ := hg a7 (by omega)
        rw [g15] at c15
        rw [g2] at c2
        rw [g16] at c16
        rw [g7] at c7
        have HN : Hid (nextW (sched blk k) = (x16 + x7 + sg0 x15 + sg1 x2) % 4294967296) := by
          show _ = _
          unfold nextW
          rw [sched_len, ← ha16, ← ha7, ← ha15, ← ha2, s16, s7, s15, s2]
        have hck := HW.out.cell (j := k) (by omega)
        have hfk := HW.out.frozen k
        have TT := Lib.hid (And.intro t15 (And.intro t2 (And.intro t16 t7)))
        clear hg hwlt g15 g2 g16 g7 s15 s2 s16 s7 t15 t2 t16 t7 ha15 ha2 ha16 ha7 hwl
        go_wp2_with fail
        go_quiet (fail)
        go_wp2_with fail
        have v16 : IntKind.i64.wrap (a16 : Int) = (a16 : Int) := by rw [IntKind.wrap_i64]; omega
        have v7 : IntKind.i64.wrap (a7 : Int) = (a7 : Int) := by rw [IntKind.wrap_i64]; omega
        have vk : IntKind.i64.wrap (k : Int) = (k : Int) := by rw [IntKind.wrap_i64]; omega
        have i16 : (a16 : Int) < 64 := by omega
        have i7 : (a7 : Int) < 64 := by omega
        have ik : (k : Int) < 64 := by omega
        have hdq : Ex0 wr (wr.drewN nq) := (Ex.refl _ _).drewN' _
        have d16 := hdq.cellS c16 not_false
        have d7 := hdq.cellS c7 not_false
        generalize hwq : wr.drewN nq = wq at *
        have HDQ := Lib.hid hdq
        clear hwq hdq c16 c7 c15 c2
        go_still_tail 29, (by kernel_rfl)
        still_call (turn_any x15 7 TT.out.1 (by decide) _)
        repeat still_step
        still_call (turn_any x15 18 TT.out.1 (by decide) _)
        repeat still_step
        still_call (turn_any x2 17 TT.out.2.1 (by decide) _)
        repeat still_step
        still_call (turn_any x2 19 TT.out.2.1 (by decide) _)
        repeat still_step
        refine wpStill_nil ?_
        change wpList _ _ _ _ _ wq.drew
        have hdd : Ex0 wr wq.drew := HDQ.out.drew'
        have hckd := hdd.cellS hck not_false
        have hfkd := (HW.out.ex hdd not_false).frozen k
        have HDD := Lib.hid hdd
        generalize wq.drew = wd at *
        clear hdd hck hfk d16 d7
        go_wp2
        go_roundw
        case rel =>
          refine ⟨k + 1, by omega, by go_num, ?_, ?_⟩
          · have := (HW.out.ex HDD.out not_false).set k (nextW (sched blk k))
            rw [← wrow_set blk hlt, if_neg h16, HN.out]
            rw [HN.out] at this
            rw [next_int _ _ TT.out.1 TT.out.2.1]; exact this
          · exact (HXR.out.trans0 HDD.out).trans (Ex.setCell _ _ _) (fun _ _ h => h) (fun _ _ h => h)
        case measure => simp [intOf]; omega
    · obtain rfl : k = 64 := by omega
      have HB0 := Lib.hid (H0.out.ex HXR.out (by rw [E0.out, E3.out]; omega))
      have HB2 := Lib.hid (H2.out.ex HXR.out (by rw [E2.out, E3.out]; omega))
      have hHA : HA.size = 8 := by rw [HHA.out]; simpa [u32s_len] using hh
      have hb0 : wr.heap[b0]? = some (.cells HA 85 (0, 0)) := by rw [HHA.out]; exact HB0.out
      have H1A : Hid (∀ v ∈ HA, v.oneCell' = true) := by show ∀ v ∈ HA, _; rw [HHA.out]; simpa using u32s_one h
      obtain ⟨b9, e9⟩ : ∃ b, b = wr.heap.size := ⟨_, rfl⟩
      go_wp2_with (first | refine wpList_load_row rfl 85 (.tmp 2) rfl b0 rfl 85 HA (0, 0) _ hb0 Try.underlying85 rfl (by rw [hHA]; kernel_rfl) ?_ | refine wpList_store_all rfl 85 (.tmp 9) (.tmp 71) rfl wr.heap.size rfl HA _ rfl 85 (heap_alloc_new _ _) (by rw [hHA]; rfl) H1A.out (by rw [hHA]; kernel_rfl) ?_)
      have g9 := setRow_heap (wr.alloc (.cells (u32s [0, 0, 0, 0, 0, 0, 0, 0]).toArray 85)) wr.heap.size _ HA _ _ (heap_alloc_new _ _)
      have x9 : Ex0 wr ((wr.alloc (.cells (u32s [0, 0, 0, 0, 0, 0, 0, 0]).toArray 85)).setRow wr.heap.size HA) := (Ex.alloc _ _).trans (ex_setRow _ _ _) (fun _ _ h => h) (fun i hi h => by omega)
      change Calls _ _ _ ((wr.alloc (.cells (u32s [0, 0, 0, 0, 0, 0, 0, 0]).toArray 85)).setRow wr.heap.size HA) _
      generalize (wr.alloc (.cells (u32s [0, 0, 0, 0, 0, 0, 0, 0]).toArray 85)).setRow wr.heap.size HA = W9 at g9 x9 ⊢
      rw [← e9] at g9 ⊢
      refine (rounds_any _).mono ?_
      rintro e w2 ⟨rfl, hx2⟩
      have X2 := Lib.hid (x9.trans0 hx2)
      have B9 : W32 w2 b9 85 h := by unfold W32; rw [← HHA.out]; exact (hx2.block _ (Array.getElem?_eq_some_iff.1 g9).1 not_false).trans g9
      have B9 := Lib.hid B9
      have E9 := Lib.hid e9
      have hKs : (u32s ks).toArray.size = 64 := rfl
      have hKg : Hid (∀ i, i < 64 → (u32s ks).toArray[i]? = some (.int .u32 (ks.getD i 0 : Nat))) := fun i hi => by simpa using u32s_get (l := ks) hi
      generalize (u32s ks).toArray = KA at *
      clear g9 x9 hx2 e9
      have BW := Lib.hid (HW.out.ex X2.out not_false)
      clear hb0
      go_wp2_with fail
      go_loopw [10, 11, 12, 13, 14, 15, 16, 17, 18, 19, 20, 73] (fun _ _ _ _ _ _ _ _ _ _ _ i wr => ∃ k : Nat, k ≤ 64 ∧ i = .int .i64 k ∧ W32 wr b9 85 (rnds h (sched blk 64) k) ∧ Ex (· = b9) w2 wr) (fun _ _ _ _ _ _ _ _ _ _ _ i _ => 64 - (intOf i).toNat)
      case atStart => exact ⟨0, by omega, rfl, B9.out, Ex.refl _ _⟩
      case round =>
        obtain ⟨k, hk, rfl, hv, hxr⟩ := hrel
        have HV := Lib.hid hv
        have HXS := Lib.hid hxr
        clear hv hxr
        by_cases hlt : k < 64
        · have hVl : (rnds h (sched blk 64) k).length = 8 := rnds_len h _ hh k
          have hVb := rnds_lt (ws := sched blk 64) HL.out k
          have hg : ∀ i, i < 8 → ∃ x : Nat, (rnds h (sched blk 64) k).getD i 0 = x ∧ x < 4294967296 ∧ wr.cell? ⟨b9, i, none⟩ = some (.int .u32 x) := fun i hi => ⟨_, rfl, getD_lt hVb (by decide) i, HV.out.cell (by omega)⟩
          obtain ⟨x0, g0, t0, c0⟩ := hg 0 (by omega)
          obtain ⟨x1, g1, t1, c1⟩ := hg 1 (by omega)
          obtain ⟨x2, g2, t2, c2⟩ := hg 2 (by omega)
          obtain ⟨x3, g3, t3, c3⟩ := hg 3 (by omega)
          obtain ⟨x4, g4, t4, c4⟩ := hg 4 (by omega)
          obtain ⟨x5, g5, t5, c5⟩ := hg 5 (by omega)
          obtain ⟨x6, g6, t6, c6⟩ := hg 6 (by omega)
          obtain ⟨x7, g7, t7, c7⟩ := hg 7 (by omega)
          obtain ⟨kk, gk, tk⟩ : ∃ x : Nat, ks.getD k 0 = x ∧ x < 4294967296 := ⟨_, rfl, getD_lt (by decide : ∀ x ∈ ks, x < 4294967296) (by decide) k⟩
          obtain ⟨ww, gw, tw⟩ : ∃ x : Nat, (sched blk 64).getD k 0 = x ∧ x < 4294967296 := ⟨_, rfl, getD_lt (sched_lt HBL.out 64) (by decide) k⟩
          have hcw := (BW.out.ex HXS.out (by rw [E9.out]; have := HW.out.lt; omega)).cell (j := k) (by rw [wrow_len blk (by omega)]; exact hlt)
          rw [wrow_get blk hlt, gw] at hcw
          have hidx : ∀ w, (Instr.index 93 (.agg KA) (.int .i64 k)).run Try.prog w = .ok (.int .u32 kk) w := fun w => by
            refine run_index_arr (P := Try.prog) Try.underlying93 (by kernel_rfl) (fun w => by kernel_rfl) KA k hlt _ ?_ w
            rw [hKg.out k hlt, gk]
          have HR : Hid (rnds h (sched blk 64) (k + 1) = rnd [x0, x1, x2, x3, x4, x5, x6, x7] kk ww) := by
            show _ = _
            simp only [rnds, gk, gw, rnd, g0, g1, g2, g3, g4, g5, g6, g7]
            rfl
          have ik : (k : Int) < 64 := by omega
          have TT := Lib.hid (And.intro t0 (And.intro t1 (And.intro t2 (And.intro t3 (And.intro t4 (And.intro t5 (And.intro t6 (And.intro t7 (And.intro tk tw)))))))))
          clear hg hVb g0 g1 g2 g3 g4 g5 g6 g7 gk gw t0 t1 t2 t3 t4 t5 t6 t7 tk tw
          go_wp2_with fail
          go_quiet (fail)
          go_wp2_with fail
          have hdq : Ex0 wr (wr.drewN nq) := (Ex.refl _ _).drewN' _
          have d7 := hdq.cellS c7 not_false
          have dw := hdq.cellS hcw not_false
          have HDQ := Lib.hid hdq
          generalize wr.drewN nq = wq at *
          clear hdq c0 c1 c2 c3 c4 c5 c6 c7 hcw hidx
          go_quiet ((go_at_call 58; (first | exact Calls.quiet_of_same (turn_any x4 6 TT.out.2.2.2.2.1 (by decide) _) | exact Calls.quiet_of_same (turn_any x4 11 TT.out.2.2.2.2.1 (by decide) _) | exact Calls.quiet_of_same (turn_any x4 25 TT.out.2.2.2.2.1 (by decide) _))))
          rw [t1_int x7 kk ww TT.out.2.2.2.2.1 TT.out.2.2.2.2.2.1 TT.out.2.2.2.2.2.2.1]
          generalize hT1 : t1N x4 x5 x6 x7 kk ww = T1
          have HT1 := Lib.hid hT1
          clear hT1
          have hx3 : Ex0 wr (wq.drewN nq) := HDQ.out.drewN' _
          have HV3 := Lib.hid (HV.out.ex hx3 not_false)
          have HX3 := Lib.hid hx3
          generalize wq.drewN nq = wd at *
          clear hx3 d7 dw
          go_wp2_with (first | (refine (turn_any x0 2 TT.out.1 (by decide) _).mono ?_; rintro e w' ⟨rfl, rfl⟩) | (refine (turn_any x0 13 TT.out.1 (by decide) _).mono ?_; rintro e w' ⟨rfl, rfl⟩) | (refine (turn_any x0 22 TT.out.1 (by decide) _).mono ?_; rintro e w' ⟨rfl, rfl⟩) | refine wpList_store_all rfl 85 (.tmp 9) (.tmp 149) rfl b9 rfl _ (u32s (rnds h (sched blk 64) k)).toArray rfl 85 HV3.out (by simp [u32s_len, hVl]) (by simp [Value.oneCell']) (by kernel_rfl) ?_)
          go_roundw
          case rel =>
            refine ⟨k + 1, by omega, by go_num, ?_, ?_⟩
            · rw [t2_int TT.out.1 TT.out.2.1 TT.out.2.2.1]
              unfold W32
              rw [setRow_heap _ _ _ _ _ _ HV3.out, HR.out]
              have hr : rnd [x0, x1, x2, x3, x4, x5, x6, x7] kk ww = [(T1 + t2N x0 x1 x2) % 4294967296, x0, x1, x2, (x3 + T1) % 4294967296, x4, x5, x6] := by
                rw [← HT1.out]; simp [rnd, t1N, t2N]
              rw [hr]
              simp [u32s]
            · exact (HXS.out.trans0 HX3.out).trans (ex_setRow _ _ _) (fun _ _ h => h) (fun _ _ h => h)
          case measure => simp [intOf]; omega
        · have H5 : W32 wr b9 85 (addN h (rnds h (sched blk 64) 64) 0) := by
            have := HV.out
            rw [show k = 64 by omega] at this; exact this
          have H5 := Lib.hid H5
          have HB0' := Lib.hid (((HB0.out.ex X2.out not_false).ex HXS.out (by rw [E9.out]; have := HB0.out.lt; omega)))
          have HB2' := Lib.hid (((HB2.out.ex X2.out not_false).ex HXS.out (by rw [E9.out]; have := HB2.out.lt; omega)))
          have hne : b0 ≠ b9 := by rw [E9.out]; have := HB0.out.lt; omega
          have hne2 : b2 ≠ b9 := by rw [E9.out]; have := HB2.out.lt; omega
          go_wp2_with fail
          go_loopw [21, 151] (fun _ i w5 => ∃ k : Nat, k ≤ 8 ∧ i = .int .i64 k ∧ W32 w5 b9 85 (addN h (rnds h (sched blk 64) 64) k) ∧ Ex (· = b9) wr w5) (fun _ i _ => 8 - (intOf i).toNat)
          case atStart => exact ⟨0, by omega, rfl, H5.out, Ex.refl _ _⟩
          case round =>
            obtain ⟨k, hk, rfl, hv, hxr⟩ := hrel
            have HV5 := Lib.hid hv
            have HX5 := Lib.hid hxr
            clear hv hxr
            by_cases hlt : k < 8
            · have hvl := rnds_len h (sched blk 64) hh 64
              have ce := HV5.out.cell (j := k) (by rw [addN_len hh hvl (by omega)]; exact hlt)
              rw [addN_get hh hvl hlt] at ce
              have fe := HV5.out.frozen k
              have ch := (HB0'.out.ex HX5.out hne).cell (j := k) (by omega)
              have HS5 := Lib.hid (addN_set hh hvl hlt)
              obtain ⟨xe, hxe⟩ : ∃ x, x = (rnds h (sched blk 64) 64).getD k 0 := ⟨_, rfl⟩
              obtain ⟨xh, hxh⟩ : ∃ x, x = h.getD k 0 := ⟨_, rfl⟩
              rw [← hxe, ← hxh] at HS5
              rw [← hxe] at ce
              rw [← hxh] at ch
              have vk : IntKind.i64.wrap (k : Int) = (k : Int) := by rw [IntKind.wrap_i64]; omega
              have ik : (k : Int) < 8 := by omega
              clear hxe hxh
              go_wp2_with fail
              go_still_tail 8, (by kernel_rfl)
              change wpList _ _ _ _ _ wr.drew
              have hdd : Ex0 wr wr.drew := (Ex.refl _ _).drew'
              have ced := hdd.cellS ce not_false
              have HVd := Lib.hid (HV5.out.ex hdd not_false)
              have fed := HVd.out.frozen k
              have HDD := Lib.hid hdd
              generalize wr.drew = wd at *
              clear hdd ce fe ch
              go_wp2
              go_roundw
              case rel =>
                refine ⟨k + 1, by omega, by go_num, ?_, ?_⟩
                · rw [← HS5.out]
                  have := HVd.out.set k ((xe + xh) % 4294967296)
                  simpa using this
                · exact (HX5.out.trans0 HDD.out).trans (Ex.setCell _ _ _) (fun _ _ h => h) (fun _ _ h => h)
              case measure => simp [intOf]; omega
            · obtain rfl : k = 8 := by omega
              have hvl := rnds_len h (sched blk 64) hh 64
              have H9 : Hid (W32 wr b9 85 (compress h blk)) := by
                have := HV5.out
                rw [addN_all hh hvl] at this
                exact this
              have HL9 := Lib.hid (compress_len h blk hh)
              have HH2 := Lib.hid (HB2'.out.ex HX5.out hne2)
              obtain ⟨CA, hCA⟩ : ∃ A, A = (u32s (compress h blk)).toArray := ⟨_, rfl⟩
              have h9 : wr.heap[b9]? = some (.cells CA 85 (0, 0)) := by rw [hCA]; exact H9.out
              have hsz : CA.size = 8 := by rw [hCA]; simpa [u32s_len] using HL9.out
              have H1C : Hid (∀ v ∈ CA, v.oneCell' = true) := by show ∀ v ∈ CA, _; rw [hCA]; simpa using u32s_one (compress h blk)
              have HCA := Lib.hid hCA
              clear hCA
              go_wp2_with (first | refine wpList_load_row rfl 85 (.tmp 9) rfl b9 rfl 85 CA (0, 0) _ h9 Try.underlying85 rfl (by rw [hsz]; kernel_rfl) ?_ | refine wpList_store_all rfl 85 (.tmp 4) (.tmp 163) rfl b2 rfl CA _ rfl 85 HH2.out (by rw [hsz]; rfl) H1C.out (by rw [hsz]; kernel_rfl) ?_)
              refine bodyPost_ret (results_cell_row rfl _ _ b2 _ _ _ _ rfl (setRow_heap _ _ _ _ _ _ HH2.out) Try.underlying85 rfl (by rw [hsz]; kernel_rfl)) rfl ?_
              refine ⟨by rw [HCA.out], ?_⟩
              have q1 := HX.out
              have q2 : Ex0 w _ := q1.trans HXR.out (fun _ _ h => h) (fun i hi h => by rw [E3.out] at h; omega)
              have q3 := q2.trans0 X2.out
              have q4 : Ex0 w _ := q3.trans HXS.out (fun _ _ h => h) (fun i hi h => by rw [E9.out] at h; have := q2.size; omega)
              have q5 : Ex0 w _ := q4.trans HX5.out (fun _ _ h => h) (fun i hi h => by rw [E9.out] at h; have := q2.size; omega)
              exact q5.trans (ex_setRow _ _ _) (fun _ _ h => h) (fun i hi h => by rw [E2.out] at h; omega)
end Go.Proofs.Ythbdmfbjkkmplaa
