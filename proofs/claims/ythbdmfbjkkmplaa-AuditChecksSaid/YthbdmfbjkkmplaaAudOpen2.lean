/- Layer 61: how a proof that is an argument reads. -/
import Derived.Test.YthbdmfbjkkmplaaAudOpen
import Derived.Test.YthbdmfbjkkmplaaAud31
namespace Go.Proofs.Ythbdmfbjkkmplaa
open Go.ChangeShapes Go.WideShapes Go.ChangeAt Go.RowKit Go.Deep Go.Proofs.YthbdmfbjkkmplaaB
open Go.Joins

structure ProofV (w : World) where
  (v n a b : Int)
  B : List Nat
  A : Option Addr
  cap : Nat
  ls : List (List Nat)
  hB : B.length = 32 ∧ ∀ y ∈ B, y < 256
  hok : AllB 16 ls
  hcap : ls.length ≤ cap
  hs : Sl w 16 A ls.length (rowN 16 ls)

section
variable {H : Type} {enc : TypeId × Value → H} {w : World} {base : Nat} {spare : Nat → Bool} {held : Bool}
theorem open_cap {t e : TypeId} (ht : Try.prog.underlying t = some (.slice e)) {fuel : Nat} {A : Option Addr} {n cap : Nat} {x : DataW H × List MemPlace} (h : DataW.trod enc Try.prog w base spare held fuel t [.slice A n cap] = some x) : n ≤ cap := by
  rcases open_slice ht h with ⟨e, _⟩ | ⟨a, len, cap', m, n', D, Pl, e, hb, hl, hm, hmm, _, hx⟩
  · simp at e; omega
  · simp at e; omega
theorem open_sums {fuel : Nat} {cs : List Value} {x : DataW H × List MemPlace} (h : DataW.trod enc Try.prog w base spare held fuel 37 cs = some x) :
    ∃ (A : Option Addr) (n cap : Nat) (l : List (List Nat)), cs = [.slice A n cap] ∧ l.length = n ∧ n ≤ cap ∧ (AllB 16 l ∧ Sl w 16 A n (rowN 16 l)) := by
  have h0 := h
  obtain ⟨A, n, cap, l, h1, h2, h3, h4⟩ := open_rows (encN 16) 16 (encN_len 16) (by decide) (fun l => l.length = 16 ∧ ∀ y ∈ l, y < 256) Try.underlying37 (by kernel_rfl) (fun n cs x h => open_sum n cs x h) h
  rw [h1] at h0
  exact ⟨A, n, cap, l, h1, h3, open_cap Try.underlying37 h0, h2, h4⟩

set_option maxRecDepth 100000 in
theorem open_proof_val {r : Reach} {b0 fuel : Nat} {v : Value} {x : DataW H × List MemPlace}
    (hval : Value.okWide Try.prog w r b0 41 v) (h : DataW.trod enc Try.prog w base spare held fuel 41 v.cells.toList = some x) :
    ∃ p : ProofV w, v = .agg (proofC p.v p.n p.a p.b p.B p.A p.ls.length p.cap).toArray := by
  obtain ⟨cs, rfl⟩ := open_agg Try.underlying41 hval
  have e : (Value.agg cs).cells.toList = cs.toList := rfl
  rw [e] at h
  obtain ⟨xs, m, _, rfl, hl, hlen, hf⟩ := DataW.trod_struct Try.underlying41 h
  have hl' : cs.toList.length = 37 := by rw [hl]; kernel_rfl
  have hlen' : xs.length = 6 := by first | exact hlen | (rw [hlen]; rfl)
  match xs, hlen' with
  | [y0, y1, y2, y3, y4, y5], _ =>
    have k1 : Try.prog.cellsOf 3 = 1 := by kernel_rfl
    have k2 : Try.prog.cellsOf 24 = 32 := by kernel_rfl
    have k3 : Try.prog.cellsOf 37 = 1 := by kernel_rfl
    obtain ⟨a0, e0, _, _⟩ := DataW.trod_int Try.underlying3 (show DataW.trod enc Try.prog w base spare held m 3 ((cs.toList.drop 0).take (Try.prog.cellsOf 3)) = some y0 from hf 0 _ rfl)
    obtain ⟨a1, e1, _, _⟩ := DataW.trod_int Try.underlying3 (show DataW.trod enc Try.prog w base spare held m 3 ((cs.toList.drop 1).take (Try.prog.cellsOf 3)) = some y1 from hf 1 _ rfl)
    obtain ⟨a2, e2, _, _⟩ := DataW.trod_int Try.underlying3 (show DataW.trod enc Try.prog w base spare held m 3 ((cs.toList.drop 2).take (Try.prog.cellsOf 3)) = some y2 from hf 2 _ rfl)
    obtain ⟨a3, e3, _, _⟩ := DataW.trod_int Try.underlying3 (show DataW.trod enc Try.prog w base spare held m 3 ((cs.toList.drop 3).take (Try.prog.cellsOf 3)) = some y3 from hf 3 _ rfl)
    obtain ⟨B, hB, e4⟩ := open_block _ _ _ (show DataW.trod enc Try.prog w base spare held m 24 ((cs.toList.drop 4).take (Try.prog.cellsOf 24)) = some y4 from hf 4 _ rfl)
    obtain ⟨A, n, cap, ls, e5, hn, hc, hok, hs⟩ := open_sums (show DataW.trod enc Try.prog w base spare held m 37 ((cs.toList.drop 36).take (Try.prog.cellsOf 37)) = some y5 from hf 5 _ rfl)
    rw [k1] at e0 e1 e2 e3
    rw [k2] at e4
    rw [k3] at e5
    subst hn
    refine ⟨⟨a0, a1, a2, a3, B, A, cap, ls, hB, hok, hc, hs⟩, ?_⟩
    have : cs.toList = proofC a0 a1 a2 a3 B A ls.length cap := by
      rw [encN_eq hB.1] at e4
      have p1 : cs.toList = ((cs.toList.drop 0).take 1 ++ ((cs.toList.drop 1).take 1 ++ ((cs.toList.drop 2).take 1 ++ ((cs.toList.drop 3).take 1 ++ ((cs.toList.drop 4).take 32 ++ (cs.toList.drop 36).take 1))))) := by
        apply List.ext_getElem
        · have hl2 : cs.size = 37 := by simpa using hl'
          simp; omega
        · intro i h1 h2
          simp only [List.getElem_append, List.getElem_take, List.getElem_drop, List.length_take, List.length_drop, hl']
          repeat' split
          all_goals first | (congr 1; omega) | omega
      rw [p1]
      unfold proofC
      have f0 : (cs.toList.drop 0).take 1 = [Value.int .i64 a0] := e0
      have f1 : (cs.toList.drop 1).take 1 = [Value.int .i64 a1] := e1
      have f2 : (cs.toList.drop 2).take 1 = [Value.int .i64 a2] := e2
      have f3 : (cs.toList.drop 3).take 1 = [Value.int .i64 a3] := e3
      have f4 : (cs.toList.drop 4).take 32 = u8s B := e4
      have f5 : (cs.toList.drop 36).take 1 = [Value.slice A ls.length cap] := e5
      rw [f0, f1, f2, f3, f4, f5]
      rfl
    show Value.agg cs = _
    rw [← this]
end
end Go.Proofs.Ythbdmfbjkkmplaa
