/- Layer 54: a list in memory; its number, its places. Layer 54: Mark, Skip, Promised. Layer 54: holds that are over are lifted (clear). Layer 54: Tick. Layer 54: Lift. Layer 54: Drop. -/
import Derived.Test.YtoglddndicmelaaGreatProA
import Derived.Test.YtoglddndicmelaaGreatTru1
namespace Go.Proofs.YtoglddndicmelaaGreat.Tr
open Go.RowKit Go.Proofs.YtoglddndicmelaaGreatB Go.Proofs.YtoglddndicmelaaGreat
set_option maxRecDepth 100000

/-- a block of cells of a type -/
def Ty (w : World) (b : Nat) (T : TypeId) : Prop := ∃ cs fr, w.heap[b]? = some (.cells cs T fr)
theorem Ty.ne {w : World} {b c : Nat} {T U : TypeId} (h : Ty w b T) (k : Ty w c U) (hT : T ≠ U) : b ≠ c := by
  rintro rfl
  obtain ⟨_, _, h⟩ := h
  obtain ⟨_, _, k⟩ := k
  rw [h] at k
  injection k with k
  injection k with _ k _
  exact hT k
theorem Ty.of {w : World} {b : Nat} {cs : Array Value} {T : TypeId} {fr : Nat × Nat} (h : w.heap[b]? = some (.cells cs T fr)) : Ty w b T := ⟨_, _, h⟩
theorem own_ty {w : World} {B : Nat} {e : TypeId} {sz : Nat} {v : Value} {n : Nat} {cs : List Value} (h : w.ownsRow B e sz v n cs) {b : Nat} (hb : v.ownBlock = some b) : Ty w b e := by
  rcases h.2 with ⟨rfl, _⟩ | ⟨g, cap, cur, rfl, _, hgg, _⟩
  · cases hb
  · injection hb with hb
    have e' : g = b := hb
    subst e'
    exact ⟨_, _, hgg⟩
/-- where a list's things lie -/
structure LstP where
  p : Nat
  wv : Value
  P : LawP
def LstP.row (L : LstP) (s : TS) : Array Value := #[.int .i64 s.vols, .int .i64 s.blocks, .int .i64 s.now, .int .u64 s.top, L.wv, .pointer (some ⟨L.P.pt, 0, none⟩), .slice L.P.A L.P.n L.P.c, .int .i64 L.P.nev, .bool L.P.nevs, .pointer (some ⟨L.P.pb, 0, none⟩), .pointer (some ⟨L.P.pf, 0, none⟩)]
structure LstAt (w : World) (L : LstP) (s : TS) : Prop where
  blk : w.heap[L.p]? = some (.cells (L.row s) 126 (0, 0))
  ws : w.ownsRow 0 139 36 L.wv s.ws.length (s.ws.flatMap Wr.cells)
  law : LawAt w L.P s.rules s.tab s.holds s.fs
/-- what may change -/
def LstP.F (L : LstP) (b : Nat) : Prop := b = L.p ∨ L.wv.ownBlock = some b ∨ b = L.P.pt ∨ L.P.tv.ownBlock = some b ∨ b = L.P.pb ∨ L.P.bv.ownBlock = some b ∨ b = L.P.pf
/-- a set of blocks that are neither rules nor keepers -/
def NoCal (w : World) (S : Nat → Prop) : Prop := ∀ b, S b → ¬ Ty w b 112 ∧ ¬ Ty w b 168
theorem NoCal.of {w : World} {b : Nat} {T : TypeId} (h : Ty w b T) (h1 : T ≠ 112) (h2 : T ≠ 168) : ¬ Ty w b 112 ∧ ¬ Ty w b 168 :=
  ⟨fun k => h.ne k h1 rfl, fun k => h.ne k h2 rfl⟩
/-- a compiled calendar stays, whatever other blocks do -/
theorem AutC.nocal {S : Nat → Prop} {w w' : World} {n0 n1 : Nat} {rs : List Rul} {v : Value} {nev : Int} {nevs : Bool} (h : AutC w n0 n1 rs v nev nevs) (hx : Ex S w w') (hS : NoCal w S) : AutC w' n0 n1 rs v nev nevs := by
  obtain ⟨ks, h1, h2, h3⟩ := h.keep
  have hb : ∀ b r, RulAt w b r → RulAt w' b r := fun b r h => (hx.block b (Array.getElem?_eq_some_iff.1 h).1 (fun hs => (hS b hs).1 ⟨_, _, h⟩)).trans h
  refine ⟨⟨ks, h1, own_ex h2 hx (fun b hb hs => (hS b hs).2 (own_ty h2 hb)), fun k hk => ?_⟩, h.row, h.nev⟩
  rcases h3 k hk with h | ⟨h1, b, h2, h3, h4, h5⟩ | ⟨h1, b, h2, h3, h4, h5⟩
  · exact .inl h
  · exact .inr (.inl ⟨h1, b, h2, h3, h4, hb _ _ h5⟩)
  · exact .inr (.inr ⟨h1, b, h2, h3, h4, hb _ _ h5⟩)
theorem LawAt.tys {w : World} {P : LawP} {rs : List Rul} {tab : List Mo.It} {hs : List Ho.Put} {fs : List Tw} (h : LawAt w P rs tab hs fs) :
    Ty w P.pt 171 ∧ (∀ b, P.tv.ownBlock = some b → Ty w b 199) ∧ Ty w P.pb 174 ∧ (∀ b, P.bv.ownBlock = some b → Ty w b 203) ∧ Ty w P.pf 159 :=
  ⟨.of h.tab.blk, fun _ hb => own_ty h.tab.own hb, .of h.bk.blk, fun _ hb => own_ty h.bk.own hb, .of h.fs.blk⟩
theorem LstAt.tys {w : World} {L : LstP} {s : TS} (h : LstAt w L s) : Ty w L.p 126 ∧ (∀ b, L.wv.ownBlock = some b → Ty w b 139) := ⟨.of h.blk, fun _ hb => own_ty h.ws hb⟩
theorem LstAt.nocal {w : World} {L : LstP} {s : TS} (h : LstAt w L s) : NoCal w L.F := by
  obtain ⟨h1, h2⟩ := h.tys
  obtain ⟨h3, h4, h5, h6, h7⟩ := h.law.tys
  intro b hb
  rcases hb with rfl | hb | rfl | hb | rfl | hb | rfl
  · exact NoCal.of h1 (by decide) (by decide)
  · exact NoCal.of (h2 b hb) (by decide) (by decide)
  · exact NoCal.of h3 (by decide) (by decide)
  · exact NoCal.of (h4 b hb) (by decide) (by decide)
  · exact NoCal.of h5 (by decide) (by decide)
  · exact NoCal.of (h6 b hb) (by decide) (by decide)
  · exact NoCal.of h7 (by decide) (by decide)
theorem LawAt.ex {S : Nat → Prop} {w w' : World} {P : LawP} {rs : List Rul} {tab : List Mo.It} {hs : List Ho.Put} {fs : List Tw} (h : LawAt w P rs tab hs fs) (hx : Ex S w w') (hc : NoCal w S) (h1 : ¬ S P.pt) (h2 : ∀ b, P.tv.ownBlock = some b → ¬ S b) (h3 : ¬ S P.pb) (h4 : ∀ b, P.bv.ownBlock = some b → ¬ S b) (h5 : ¬ S P.pf) : LawAt w' P rs tab hs fs :=
  ⟨h.tab.ex hx h1 h2, h.bk.ex hx h3 h4, h.fs.ex hx h5, h.aut.nocal hx hc⟩
theorem LstAt.ex {S : Nat → Prop} {w w' : World} {L : LstP} {s : TS} (h : LstAt w L s) (hx : Ex S w w') (hc : NoCal w S) (hS : ∀ b, L.F b → ¬ S b) : LstAt w' L s :=
  ⟨(hx.block _ (Array.getElem?_eq_some_iff.1 h.blk).1 (hS _ (.inl rfl))).trans h.blk, own_ex h.ws hx (fun b hb => hS b (.inr (.inl hb))),
    h.law.ex hx hc (hS _ (.inr (.inr (.inl rfl)))) (fun b hb => hS b (.inr (.inr (.inr (.inl hb))))) (hS _ (.inr (.inr (.inr (.inr (.inl rfl)))))) (fun b hb => hS b (.inr (.inr (.inr (.inr (.inr (.inl hb))))))) (hS _ (.inr (.inr (.inr (.inr (.inr (.inr rfl)))))))⟩
theorem LstAt.ex0 {w w' : World} {L : LstP} {s : TS} (h : LstAt w L s) (hx : Ex0 w w') : LstAt w' L s := h.ex hx (fun _ h => h.elim) (fun _ _ => id)
theorem LstAt.cell {w : World} {L : LstP} {s : TS} (h : LstAt w L s) {j : Nat} {u : Value} (hu : (L.row s)[j]? = some u) : w.cell? ⟨L.p, j, none⟩ = some u := by rw [cell_of_row _ _ _ _ _ _ h.blk]; exact hu
theorem LstAt.lt {w : World} {L : LstP} {s : TS} (h : LstAt w L s) : L.p < w.heap.size := (Array.getElem?_eq_some_iff.1 h.blk).1
theorem LstAt.frozen {w : World} {L : LstP} {s : TS} (h : LstAt w L s) (j : Nat) : w.frozen? ⟨L.p, j, none⟩ = false := frozen_of_row _ _ _ _ _ h.blk

theorem next_any (L : LstP) (s : TS) (w : World) (h : LstAt w L s) (ht : 0 ≤ s.top) :
    Calls Tryz.prog 59 #[.pointer (some ⟨L.p, 0, none⟩)] w fun e w' => e = .returned (.int .u64 s.next) ∧ w' = w := by
  have c3 : w.cell? ⟨L.p, 3, none⟩ = some (.int .u64 s.top) := h.cell rfl
  have hl := h.lt
  clear h
  unfold TS.next
  by_cases h : 65535 ≤ s.top
  · rw [if_pos h]
    go_enter Tryz.func59, Tryz.ntmps59
    go_wp2
    go_ret
    exact ⟨rfl, rfl⟩
  · rw [if_neg h]
    go_enter Tryz.func59, Tryz.ntmps59
    go_wp2
    go_ret
    exact ⟨rfl, rfl⟩
theorem top_any (L : LstP) (s : TS) (w : World) (h : LstAt w L s) :
    Calls Tryz.prog 16 #[.pointer (some ⟨L.p, 0, none⟩)] w fun e w' => e = .returned (.int .u64 s.top) ∧ w' = w := by
  have c3 : w.cell? ⟨L.p, 3, none⟩ = some (.int .u64 s.top) := h.cell rfl
  have hl := h.lt
  clear h
  go_enter Tryz.func16, Tryz.ntmps16
  go_wp2
  go_ret
  exact ⟨rfl, rfl⟩
theorem there_any (L : LstP) (s : TS) (vol blk : Int) (w : World) (h : LstAt w L s) :
    Calls Tryz.prog 50 #[.pointer (some ⟨L.p, 0, none⟩), .int .i64 vol, .int .i64 blk] w fun e w' => e = .returned (.bool (s.there vol blk)) ∧ w' = w := by
  have c0 : w.cell? ⟨L.p, 0, none⟩ = some (.int .i64 s.vols) := h.cell rfl
  have c1 : w.cell? ⟨L.p, 1, none⟩ = some (.int .i64 s.blocks) := h.cell rfl
  have hl := h.lt
  clear h
  unfold TS.there
  cases h1 : decide (0 ≤ vol) with
  | false =>
    go_enter Tryz.func50, Tryz.ntmps50
    go_wp2
    go_ret
    exact ⟨rfl, rfl⟩
  | true =>
    cases h2 : decide (0 ≤ blk) with
    | false =>
      go_enter Tryz.func50, Tryz.ntmps50
      go_wp2
      go_ret
      exact ⟨rfl, rfl⟩
    | true =>
      cases h3 : decide (vol < s.vols) with
      | false =>
        go_enter Tryz.func50, Tryz.ntmps50
        go_wp2
        go_ret
        exact ⟨rfl, rfl⟩
      | true =>
        cases h4 : decide (blk < s.blocks) with
        | false =>
          go_enter Tryz.func50, Tryz.ntmps50
          go_wp2
          go_ret
          exact ⟨rfl, rfl⟩
        | true =>
          go_enter Tryz.func50, Tryz.ntmps50
          go_wp2
          go_ret
          exact ⟨rfl, rfl⟩
end Go.Proofs.YtoglddndicmelaaGreat.Tr

namespace Go.Proofs.YtoglddndicmelaaGreat.Tr
open Go.RowKit Go.Proofs.YtoglddndicmelaaGreatB Go.Proofs.YtoglddndicmelaaGreat
set_option maxRecDepth 100000

/-- what stands behind an operation -/
def OpP (L : LstP) (s' : TS) (w w' : World) : Prop := ∃ L' : LstP, L'.p = L.p ∧ LstAt w' L' s' ∧ Ex L.F w w' ∧ Nw w L.F L'.F
theorem OpP.same {L : LstP} {s : TS} {w w' : World} (h : LstAt w L s) (hx : Ex0 w w') : OpP L s w w' := ⟨L, rfl, h.ex0 hx, hx.to (fun _ _ h => h.elim), Nw.refl _ _⟩
theorem TS.all_eq (s : TS) : s.all = promL s.rules s.tab s.holds s.fs s.now := rfl
theorem lawOk_of {s : TS} (hI : Inv s) : LawOk s.rules s.tab s.holds s.fs := ⟨hI.tab, by have := hI.hlen; omega, hI.fs, hI.rules⟩
theorem LstAt.apart {w : World} {L : LstP} {s : TS} (h : LstAt w L s) : (∀ b, L.wv.ownBlock = some b → b ≠ L.p) ∧ L.P.pt ≠ L.p ∧ (∀ b, L.P.tv.ownBlock = some b → b ≠ L.p) ∧ L.P.pb ≠ L.p ∧ (∀ b, L.P.bv.ownBlock = some b → b ≠ L.p) ∧ L.P.pf ≠ L.p := by
  obtain ⟨h1, h2⟩ := h.tys
  obtain ⟨h3, h4, h5, h6, h7⟩ := h.law.tys
  exact ⟨fun b hb => (h2 b hb).ne h1 (by decide), h3.ne h1 (by decide), fun b hb => (h4 b hb).ne h1 (by decide), h5.ne h1 (by decide), fun b hb => (h6 b hb).ne h1 (by decide), h7.ne h1 (by decide)⟩
/-- one of its own cells is set -/
theorem LstAt.setC {w : World} {L : LstP} {s s' : TS} {j : Nat} {u : Value} (h : LstAt w L s) (hr : (L.row s).setIfInBounds j u = L.row s') (h1 : s'.ws = s.ws) (h2 : s'.rules = s.rules) (h3 : s'.tab = s.tab) (h4 : s'.holds = s.holds) (h5 : s'.fs = s.fs) :
    LstAt (w.setCell ⟨L.p, j, none⟩ u) L s' := by
  obtain ⟨a1, a2, a3, a4, a5, a6⟩ := h.apart
  have hx := Ex.setCell w ⟨L.p, j, none⟩ u
  have hnc : NoCal w (· = L.p) := fun b hb => by subst hb; exact h.nocal _ (.inl rfl)
  refine ⟨?_, ?_, ?_⟩
  · rw [heap_setCell_same _ _ _ _ _ _ h.blk, ← hr]
  · rw [h1]; exact own_ex h.ws hx (fun b hb => a1 b hb)
  · rw [h2, h3, h4, h5]; exact h.law.ex hx hnc a2 a3 a4 a5 a6
theorem OpP.setC {w : World} {L : LstP} {s s' : TS} {j : Nat} {u : Value} (h : LstAt w L s) (hr : (L.row s).setIfInBounds j u = L.row s') (h1 : s'.ws = s.ws) (h2 : s'.rules = s.rules) (h3 : s'.tab = s.tab) (h4 : s'.holds = s.holds) (h5 : s'.fs = s.fs) :
    OpP L s' w (w.setCell ⟨L.p, j, none⟩ u) :=
  ⟨L, rfl, h.setC hr h1 h2 h3 h4 h5, (Ex.setCell _ _ _).to (fun _ _ e => .inl e), Nw.refl _ _⟩

theorem mark_any (L : LstP) (s : TS) (w : World) (h : LstAt w L s) (ht : 0 ≤ s.top) :
    Calls Tryz.prog 31 #[.pointer (some ⟨L.p, 0, none⟩)] w fun e w' => e = .returned (.int .u64 s.next) ∧ OpP L s.mark w w' := by
  have HL := Lib.hid h
  have HN := Lib.hid (next_any L s w h ht)
  have hl := h.lt
  have hf := h.frozen 3
  have hc : w.cell? ⟨L.p, 3, none⟩ = some (.int .u64 s.top) := h.cell rfl
  clear h
  by_cases hn : s.next = 0
  · have hm : s.mark = s := by unfold TS.mark; rw [if_pos hn]
    rw [hm]
    go_enter Tryz.func31, Tryz.ntmps31
    go_wp2_with fail
    refine HN.out.mono ?_
    rintro e w1 ⟨rfl, rfl⟩
    rw [hn]
    go_wp2
    go_ret
    exact ⟨Ho.ret_int hn.symm, .same HL.out (Ex.refl _ _)⟩
  · have hm : s.mark = { s with top := s.top + 1 } := by unfold TS.mark; rw [if_neg hn]
    have hv : s.next = s.top + 1 := by
      unfold TS.next at hn ⊢
      by_cases h : 65535 ≤ s.top
      · rw [if_pos h] at hn; exact absurd rfl hn
      · rw [if_neg h]
    rw [hm, hv]
    rw [hv] at HN
    have hp : 0 < s.top + 1 := by omega
    clear hm hv hn
    go_enter Tryz.func31, Tryz.ntmps31
    go_wp2_with fail
    refine HN.out.mono ?_
    rintro e w1 ⟨rfl, rfl⟩
    go_wp2
    go_ret
    exact ⟨rfl, OpP.setC HL.out rfl rfl rfl rfl rfl rfl⟩
theorem skip_any (L : LstP) (s : TS) (t : Int) (w : World) (h : LstAt w L s) :
    Calls Tryz.prog 30 #[.pointer (some ⟨L.p, 0, none⟩), .int .u64 t] w fun e w' => e = .returned (.tuple #[]) ∧ OpP L (s.skip t) w w' := by
  have HL := Lib.hid h
  have hl := h.lt
  have hf := h.frozen 3
  have hc : w.cell? ⟨L.p, 3, none⟩ = some (.int .u64 s.top) := h.cell rfl
  clear h
  unfold TS.skip
  cases h1 : decide (s.top < t) with
  | false =>
    rw [if_neg (fun h => by simp [h.1] at h1)]
    go_enter Tryz.func30, Tryz.ntmps30
    go_wp2
    go_end0
    exact ⟨rfl, .same HL.out (Ex.refl _ _)⟩
  | true =>
    cases h2 : decide (t ≤ 65535) with
    | false =>
      rw [if_neg (fun h => by simp [h.2] at h2)]
      go_enter Tryz.func30, Tryz.ntmps30
      go_wp2
      go_end0
      exact ⟨rfl, .same HL.out (Ex.refl _ _)⟩
    | true =>
      rw [if_pos ⟨of_decide_eq_true h1, of_decide_eq_true h2⟩]
      go_enter Tryz.func30, Tryz.ntmps30
      go_wp2
      go_end0
      exact ⟨rfl, OpP.setC HL.out rfl rfl rfl rfl rfl rfl⟩
theorem LstAt.lawRow {w : World} {L : LstP} {s : TS} (h : LstAt w L s) : RowAt w ⟨L.p, 5, none⟩ L.P.cells := fun j u hu => by
  rw [add_row]
  refine h.cell ?_
  unfold LstP.row
  unfold LawP.cells LawP.av at hu
  rcases j with _ | _ | _ | _ | _ | _ | j
  · exact hu
  · exact hu
  · exact hu
  · exact hu
  · exact hu
  · exact hu
  · simp at hu
set_option maxHeartbeats 2000000 in
theorem promised_any (L : LstP) (s : TS) (w : World) (h : LstAt w L s) (hI : Inv s) :
    Calls Tryz.prog 17 #[.pointer (some ⟨L.p, 0, none⟩)] w fun e w' => ∃ v, e = .returned v ∧ w'.ownsRow w.heap.size 31 1 v s.all.length (s.all.map (Value.int .u64)) ∧ Ex0 w w' := by
  have HA := Lib.hid (pall_any L.P s.rules s.tab s.holds s.fs s.now w.drew (h.ex0 (Ex.drew _)).law (lawOk_of hI))
  have hS : RowAt w.drew ⟨L.p, 5, none⟩ L.P.cells ∧ w.drew.cell? ⟨L.p, 2, none⟩ = some (.int .i64 s.now) := ⟨(h.ex0 (Ex.drew _)).lawRow, (h.ex0 (Ex.drew _)).cell rfl⟩
  clear h hI
  rw [TS.all_eq]
  have hx0 : Ex0 w w.drew := Ex.drew w
  have hsz : w.drew.heap.size = w.heap.size := rfl
  rw [hsz] at HA
  go_enter Tryz.func17, Tryz.ntmps17
  go_wp2_with fail
  refine wp_region_takes (fun w' => RowAt w' ⟨L.p, 5, none⟩ L.P.cells ∧ w'.cell? ⟨L.p, 2, none⟩ = some (.int .i64 s.now)) (by kernel_rfl) ?_
  simp only [List.length_cons, List.length_nil]
  generalize w.drew = wd at *
  refine' wpAnyH_do 0 rfl (by kernel_rfl) (fun _ _ _ _ h => h) (by rfl) (by assumption) ⟨_, fun w' hS => ?_, ?_⟩
  rotate_left
  · ((try dsimp only at hS); go_split_ands; go_simp; try (with_reducible rfl))
  simp only [Act.put, List.setIfInBounds_toArray, List.set_cons_zero, List.set_cons_succ]
  refine' wpAnyH_do 1 rfl (by kernel_rfl) (fun _ _ _ _ h => h) (by rfl) (by assumption) ⟨_, fun w' hS => ?_, ?_⟩
  rotate_left
  · ((try dsimp only at hS); go_split_ands; go_simp; try (with_reducible rfl))
  simp only [Act.put, List.setIfInBounds_toArray, List.set_cons_zero, List.set_cons_succ]
  refine' wpAnyH_do 2 rfl (by kernel_rfl) (fun _ _ _ _ h => h) (by rfl) (by assumption) ⟨_, fun w' hS => ?_, ?_⟩
  rotate_left
  · ((try dsimp only at hS); go_split_ands; go_simp; try (with_reducible rfl))
  simp only [Act.put, List.setIfInBounds_toArray, List.set_cons_zero, List.set_cons_succ]
  refine' wpAnyH_do 3 rfl (by kernel_rfl) (fun _ _ _ _ h => h) (by rfl) (by assumption) ⟨_, fun w' hS => exec_load_at 123 (.tmp 7) rfl ⟨L.p, 5, none⟩ rfl _ _ hS.1 Tryz.underlying123 rfl (by kernel_rfl), ?_⟩
  simp only [Act.put, List.setIfInBounds_toArray, List.set_cons_zero, List.set_cons_succ]
  refine' wpAnyH_do 4 rfl (by kernel_rfl) (fun _ _ _ _ h => h) (by rfl) (by assumption) ⟨_, fun w' hS => ?_, ?_⟩
  rotate_left
  · ((try dsimp only at hS); go_split_ands; go_simp; try (with_reducible rfl))
  simp only [Act.put, List.setIfInBounds_toArray, List.set_cons_zero, List.set_cons_succ]
  refine' wpAnyH_do 5 rfl (by kernel_rfl) (fun _ _ _ _ h => h) (by rfl) (by assumption) ⟨_, fun w' hS => ?_, ?_⟩
  rotate_left
  · ((try dsimp only at hS); go_split_ands; go_simp; try (with_reducible rfl))
  simp only [Act.put, List.setIfInBounds_toArray, List.set_cons_zero, List.set_cons_succ]
  refine' wpAnyH_do 6 rfl (by kernel_rfl) (fun _ _ _ _ h => h) (by rfl) (by assumption) ⟨_, fun w' hS => ?_, ?_⟩
  rotate_left
  · ((try dsimp only at hS); go_split_ands; go_simp; try (with_reducible rfl))
  simp only [Act.put, List.setIfInBounds_toArray, List.set_cons_zero, List.set_cons_succ]
  refine' wpAnyH_do 7 rfl (by kernel_rfl) (fun _ _ _ _ h => h) (by rfl) (by assumption) ⟨_, fun w' hS => ?_, ?_⟩
  rotate_left
  · ((try dsimp only at hS); go_split_ands; go_simp; try (with_reducible rfl))
  simp only [Act.put, List.setIfInBounds_toArray, List.set_cons_zero, List.set_cons_succ]
  refine wpAnyH_eff 8 rfl (by kernel_rfl) (by rfl) (fun K hK => ?_)
  have HKK := Lib.hid hK
  clear hK
  go_simp
  refine HA.out.mono ?_
  rintro e w1 ⟨v, rfl, ho, hx1⟩
  have hS1 : RowAt w1 ⟨L.p, 5, none⟩ L.P.cells ∧ w1.cell? ⟨L.p, 2, none⟩ = some (.int .i64 s.now) := ⟨hS.1.ex hx1 id, hx1.cellS hS.2 not_false⟩
  have HO := Lib.hid ho
  have HX := Lib.hid (hx0.trans0 hx1)
  clear ho hx1 hx0 hS
  dsimp only
  refine HKK.out _ _ hS1 ?_
  clear HKK K
  (try simp only [Act.put, List.setIfInBounds_toArray, List.set_cons_zero, List.set_cons_succ])
  have hS := hS1
  refine' wpAnyH_do 9 rfl (by kernel_rfl) (fun _ _ _ _ h => h) (by rfl) (by assumption) ⟨_, fun w' hS => ?_, ?_⟩
  rotate_left
  · ((try dsimp only at hS); go_split_ands; go_simp; try (with_reducible rfl))
  simp only [Act.put, List.setIfInBounds_toArray, List.set_cons_zero, List.set_cons_succ]
  refine wpAnyH_done (by kernel_rfl) ?_ _
  go_wp2
  go_ret
  exact ⟨v, rfl, HO.out, HX.out⟩
end Go.Proofs.YtoglddndicmelaaGreat.Tr

namespace Go.Proofs.YtoglddndicmelaaGreat.Tr
open Go.RowKit Go.Proofs.YtoglddndicmelaaGreatB Go.Proofs.YtoglddndicmelaaGreat Go.Shelf
set_option maxRecDepth 100000
attribute [local go_sem] Oper.semAt_some

/-- the ids of those over -/
def overN (m : Int) (pre : List Ho.Put) : List Int := (pre.filter fun p => decide (p.h.til ≤ m)).map fun p => p.h.id
theorem overN_snoc (m : Int) (pre : List Ho.Put) (x : Ho.Put) : overN m (pre ++ [x]) = overN m pre ++ (if decide (x.h.til ≤ m) then [x.h.id] else []) := by
  unfold overN
  rw [List.filter_append, List.map_append]
  cases h : decide (x.h.til ≤ m) <;> simp [h]
theorem overN_len (m : Int) (pre : List Ho.Put) : (overN m pre).length ≤ pre.length := by
  unfold overN; rw [List.length_map]; exact List.length_filter_le _ _
/-- what holds through the walk -/
structure ClrI (w : World) (p : Nat) (m : Int) (pre : List Ho.Put) (W : World) : Prop where
  b0 : Boxed W w.heap.size 28 (.pointer (some ⟨p, 0, none⟩))
  bl : ∃ v, Boxed W (w.heap.size + 1) 33 v ∧ W.ownsRow (w.heap.size + 3) 31 1 v (overN m pre).length ((overN m pre).map (Value.int .u64))
  bel : Below w.heap.size w W
theorem ClrI.kc {w : World} {p : Nat} {m : Int} {pre : List Ho.Put} {W W' : World} (h : ClrI w p m pre W) (hx : Kc0 W W') (hb : Below w.heap.size w W') : ClrI w p m pre W' := by
  obtain ⟨v, h1, h2⟩ := h.bl
  exact ⟨boxed_kc h.b0 hx id, ⟨v, boxed_kc h1 hx id, own_kc h2 hx (fun _ _ => id)⟩, hb⟩
theorem LstAt.fin {w : World} {L : LstP} {s : TS} (h : LstAt w L s) : In w L.F := fun b hb => by
  have ht : ∀ {b : Nat} {T : TypeId}, Ty w b T → b < w.heap.size := fun ⟨_, _, h⟩ => (Array.getElem?_eq_some_iff.1 h).1
  obtain ⟨h1, h2⟩ := h.tys
  obtain ⟨h3, h4, h5, h6, h7⟩ := h.law.tys
  rcases hb with rfl | hb | rfl | hb | rfl | hb | rfl
  · exact ht h1
  · exact ht (h2 b hb)
  · exact ht h3
  · exact ht (h4 b hb)
  · exact ht h5
  · exact ht (h6 b hb)
  · exact ht h7
/-- another book's row -/
theorem LstAt.book {w w' : World} {L : LstP} {s : TS} (h : LstAt w L s) {bv : Value} {hs : List Ho.Put} (hb : Ho.BookAt w' L.P.pb bv hs) (hx : Ex (fun b => b = L.P.pb ∨ L.P.bv.ownBlock = some b) w w') :
    LstAt w' { L with P := { L.P with bv := bv } } { s with holds := hs } := by
  obtain ⟨h1, h2⟩ := h.tys
  obtain ⟨h3, h4, h5, h6, h7⟩ := h.law.tys
  have hne : ∀ {b : Nat} {T : TypeId}, Ty w b T → T ≠ 174 → T ≠ 203 → ¬ (b = L.P.pb ∨ L.P.bv.ownBlock = some b) := fun ht n1 n2 hc => hc.elim (fun e => ht.ne h5 n1 e) (fun e => ht.ne (h6 _ e) n2 rfl)
  have hnc : NoCal w (fun b => b = L.P.pb ∨ L.P.bv.ownBlock = some b) := fun b hb => hb.elim (fun e => by subst e; exact NoCal.of h5 (by decide) (by decide)) (fun e => NoCal.of (h6 _ e) (by decide) (by decide))
  exact ⟨(hx.block _ h.lt (hne h1 (by decide) (by decide))).trans h.blk, own_ex h.ws hx (fun b hb => hne (h2 b hb) (by decide) (by decide)),
    ⟨h.law.tab.ex hx (hne h3 (by decide) (by decide)) (fun b hb => hne (h4 b hb) (by decide) (by decide)), hb, h.law.fs.ex hx (hne h7 (by decide) (by decide)), h.law.aut.nocal hx hnc⟩⟩
set_option maxHeartbeats 4000000 in
theorem clear_any (L : LstP) (s : TS) (w : World) (h : LstAt w L s) (hl : s.holds.length ≤ 64) :
    Calls Tryz.prog 64 #[.pointer (some ⟨L.p, 0, none⟩)] w fun e w' => e = .returned (.tuple #[]) ∧ OpP L { s with holds := (overN s.now s.holds).foldl (fun t i => Ho.liftL i t) s.holds } w w' := by
  obtain ⟨i0, hi0, hz0, hz1, hz2⟩ := info_parts infoU64
  have HL := Lib.hid h
  have hb : w.cell? ⟨L.p, 9, none⟩ = some (.pointer (some ⟨L.P.pb, 0, none⟩)) := h.cell rfl
  have hlt := h.lt
  obtain ⟨A, cap, hv, hsl, hbl⟩ := own_sl h.law.bk.own
  have hbc := h.law.bk.cell
  rw [hv] at hbc
  have hA : ∀ b, Bl A b → b < w.heap.size := fun b hb => (h.law.bk.own.lt b (by rw [hbl]; exact hb)).2
  have HC := Lib.hid hbc
  have HSL := Lib.hid hsl
  have HAA := Lib.hid hA
  clear h hbc hsl hA hbl hv
  refine (callsIn_wide (n := 10)).1 (callsIn_of_wp_marks Tryz.func64 rfl trivial ?_ rfl)
  simp only [Tryz.ntmps64, List.size_toArray, List.length_cons, List.length_nil, Nat.reduceAdd, Nat.reduceSub, Array.replicate_succ, Array.replicate_zero, List.push_toArray, List.append_toArray, List.nil_append, List.cons_append]
  refine wpIn_wide.2 ?_
  go_wp2_with fail
  refine (callsIn_wide.1 (Ho.all_any _ _)).mono ?_
  rintro e w' ⟨rfl, rfl⟩
  go_wp2_with fail
  refine (wpIn_wide (n := 10)).1 ?_
  refine wpIn_named fun a0 ha => ?_
  obtain ⟨w1, hw1⟩ : ∃ w1, w1 = w.alloc (.cells #[.pointer (some ⟨L.p, 0, none⟩)] 28) := ⟨_, rfl⟩
  obtain ⟨w2, hw2⟩ : ∃ w2, w2 = w1.alloc (.cells #[.slice none 0 0] 33) := ⟨_, rfl⟩
  obtain ⟨w3, hw3⟩ : ∃ w3, w3 = w2.alloc (.cells #[.pointer (some ⟨L.P.pb, 0, none⟩)] 120) := ⟨_, rfl⟩
  rw [← hw1, ← hw2, ← hw3]
  have hs1 : w1.heap.size = w.heap.size + 1 := by rw [hw1]; simp
  have hs2 : w2.heap.size = w.heap.size + 2 := by rw [hw2, World.size_alloc, hs1]
  have hs3 : w3.heap.size = w.heap.size + 3 := by rw [hw3, World.size_alloc, hs2]
  have b0 : Boxed w3 w.heap.size 28 (.pointer (some ⟨L.p, 0, none⟩)) := by rw [hw3, hw2, hw1]; exact ((Boxed.new w _ _).alloc _).alloc _
  have b1 : Boxed w3 (w.heap.size + 1) 33 (.slice none 0 0) := by rw [hw3, hw2, ← hs1]; exact (Boxed.new w1 _ _).alloc _
  have b2 : Boxed w3 (w.heap.size + 2) 120 (.pointer (some ⟨L.P.pb, 0, none⟩)) := by rw [hw3, ← hs2]; exact Boxed.new w2 _ _
  have hx3 : Ex0 w w3 := by rw [hw3, hw2, hw1]; exact ((Ex.alloc _ _).alloc' _).alloc' _
  have hsz : w.heap.size ≤ w3.heap.size := hx3.size
  have hI0 : ClrI w L.p s.now [] w3 := ⟨b0, ⟨_, b1, World.ownsRow_nil _ _ _ _⟩, hx3.below (Nat.le_refl _) (fun _ h => h.elim)⟩
  clear hw1 hw2 hw3 hs1 hs2 b0 b1
  clear w1 w2
  refine wpIn_rangeFunc_ownH rfl (by omega) (gf := 146) (lb := #[.pointer (some ⟨w.heap.size + 2, 0, none⟩)]) (by rw [ha]; rfl) trivial (enters_of Tryz.func146 (by kernel_rfl) rfl)
    (Ho.all_seq (w.heap.size + 2) w.heap.size L.P.pb A cap s.holds _ b2.cell (hx3.cellS HC.out not_false) (HSL.out.ex0 hx3) HAA.out hsz) belowK_t (belowK_b hsz) (Below.refl _ _) (fun _ => rfl)
    (ClrI w L.p s.now) (fun _ _ _ => False)
    (ownFrom_kc (w0 := w) (Nat.le_refl _) hsz (fun _ _ _ h hx hb => h.kc hx hb) (fun _ _ h => h.bel)) (fun _ _ _ _ _ hs _ _ => hs)
    hI0
    (fun x a' W => ∃ b, a' = { tmps := (a0.tmps.setIfInBounds 12 x.val).setIfInBounds 3 (.pointer (some ⟨b, 0, none⟩)), defers := [] } ∧ W.heap[b]? = some (.cells #[.int .u64 x.h.id, .int .i64 x.h.fr, .int .i64 x.h.to, .int .i64 x.h.til, .int .u64 x.num, .int .i64 x.min] 203 (0, 0)))
    (fun x a' s X Y row h hg hrow => by obtain ⟨b, e, hb⟩ := h; exact ⟨b, e, Ho.putBox_own _ b x () X Y row hb hg hrow⟩) ?assign ?body ?done ?stop
  case assign =>
    intro l' pre x W K hI hK
    obtain ⟨⟨a1, a2, a3, a4⟩, a5, a6⟩ := x
    rw [ha] at hK ⊢
    unfold Ho.Put.val at hK ⊢
    simp only [List.setIfInBounds_toArray, List.set_cons_zero, List.set_cons_succ] at hK
    gi_wp2
    exact hK _ _ ((KeepsOthers.alloc W _).from _) ((Below.refl _ W).alloc (Nat.le_trans (Nat.le_refl _) hI.bel.size) _) (hI.kc (Kc.ofEx (Ex.alloc _ _)) (hI.bel.trans ((Ex.alloc W _).below hI.bel.size (fun _ h => h.elim)))) ⟨_, rfl, heap_alloc_new _ _⟩
  case body =>
    rintro l' pre x a' W hl' hr hI ⟨b, hA, hb⟩ hlt
    rw [ha] at hA
    simp only [List.setIfInBounds_toArray, List.set_cons_zero, List.set_cons_succ] at hA
    subst hA
    obtain ⟨⟨a1, a2, a3, a4⟩, a5, a6⟩ := x
    dsimp only at hb
    have c0 := hI.b0.cell
    have HII := Lib.hid hI
    obtain ⟨v, hbl, hown⟩ := hI.bl
    have HBL := Lib.hid hbl
    have HO := Lib.hid hown
    have hlen := overN_len s.now pre
    have hAP := overN_snoc s.now pre ⟨⟨a1, a2, a3, a4⟩, a5, a6⟩
    dsimp only at hAP
    have HAP := Lib.hid hAP
    have hI3 : Hid (w3.heap.size ≤ W.heap.size) := by obtain ⟨r, hr'⟩ := hr; have := (Array.getElem?_eq_some_iff.1 hr').1; show _ ≤ _; omega
    have cn : W.cell? ⟨L.p, 2, none⟩ = some (.int .i64 s.now) := (HL.out.ex0 (Ex.ofBelow hI.bel)).cell rfl
    have k0 : W.cell? ⟨b, 0, none⟩ = some (.int .u64 a1) := by rw [cell_of_row W b 0 _ _ _ hb]; rfl
    have k3 : W.cell? ⟨b, 3, none⟩ = some (.int .i64 a4) := by rw [cell_of_row W b 3 _ _ _ hb]; rfl
    have lb := (Array.getElem?_eq_some_iff.1 hb).1
    have hS0 : (fun w' : World => w'.cell? ⟨w.heap.size, 0, none⟩ = some (.pointer (some ⟨L.p, 0, none⟩)) ∧ w'.cell? ⟨L.p, 2, none⟩ = some (.int .i64 s.now) ∧ w'.cell? ⟨b, 3, none⟩ = some (.int .i64 a4)) W.drew := ⟨c0, cn, k3⟩
    clear hI hbl hown hr ha hAP hb
    have hS := hS0
    unfold Ho.Put.val
    cases hc : decide (a4 ≤ s.now) with
    | false =>
      gi_wp2_with fail
      refine wpIn_region_round (fun w' => w'.cell? ⟨w.heap.size, 0, none⟩ = some (.pointer (some ⟨L.p, 0, none⟩)) ∧ w'.cell? ⟨L.p, 2, none⟩ = some (.int .i64 s.now) ∧ w'.cell? ⟨b, 3, none⟩ = some (.int .i64 a4)) (by kernel_rfl) (by kernel_rfl) (by rintro ⟨_, _, h⟩; exact h) ?_
      simp only [List.length_cons, List.length_nil]
      refine' wpAnyH_do 0 rfl (by kernel_rfl) (fun _ _ _ _ h => h) (by rfl) (by assumption) ⟨_, fun w' hS => ?_, ?_⟩
      rotate_left
      · ((try dsimp only at hS); go_split_ands; go_simp; try (with_reducible rfl))
      simp only [Act.put, List.setIfInBounds_toArray, List.set_cons_zero, List.set_cons_succ]
      refine' wpAnyH_do 1 rfl (by kernel_rfl) (fun _ _ _ _ h => h) (by rfl) (by assumption) ⟨_, fun w' hS => ?_, ?_⟩
      rotate_left
      · ((try dsimp only at hS); go_split_ands; go_simp; try (with_reducible rfl))
      simp only [Act.put, List.setIfInBounds_toArray, List.set_cons_zero, List.set_cons_succ]
      refine' wpAnyH_do 2 rfl (by kernel_rfl) (fun _ _ _ _ h => h) (by rfl) (by assumption) ⟨_, fun w' hS => ?_, ?_⟩
      rotate_left
      · ((try dsimp only at hS); go_split_ands; go_simp; try (with_reducible rfl))
      simp only [Act.put, List.setIfInBounds_toArray, List.set_cons_zero, List.set_cons_succ]
      refine' wpAnyH_do 3 rfl (by kernel_rfl) (fun _ _ _ _ h => h) (by rfl) (by assumption) ⟨_, fun w' hS => ?_, ?_⟩
      rotate_left
      · ((try dsimp only at hS); go_split_ands; go_simp; try (with_reducible rfl))
      simp only [Act.put, List.setIfInBounds_toArray, List.set_cons_zero, List.set_cons_succ]
      refine' wpAnyH_do 4 rfl (by kernel_rfl) (fun _ _ _ _ h => h) (by rfl) (by assumption) ⟨_, fun w' hS => ?_, ?_⟩
      rotate_left
      · ((try dsimp only at hS); go_split_ands; go_simp; try (with_reducible rfl))
      simp only [Act.put, List.setIfInBounds_toArray, List.set_cons_zero, List.set_cons_succ]
      refine' wpAnyH_do 5 rfl (by kernel_rfl) (fun _ _ _ _ h => h) (by rfl) (by assumption) ⟨_, fun w' hS => ?_, ?_⟩
      rotate_left
      · ((try dsimp only at hS); go_split_ands; go_simp; try (with_reducible rfl))
      simp only [Act.put, List.setIfInBounds_toArray, List.set_cons_zero, List.set_cons_succ]
      refine' wpAnyH_do 6 rfl (by kernel_rfl) (fun _ _ _ _ h => h) (by rfl) (by assumption) ⟨_, fun w' hS => ?_, ?_⟩
      rotate_left
      · ((try dsimp only at hS); go_split_ands; go_simp; try (with_reducible rfl))
      simp only [Act.put, List.setIfInBounds_toArray, List.set_cons_zero, List.set_cons_succ]
      refine' wpAnyH_do 7 rfl (by kernel_rfl) (fun _ _ _ _ h => h) (by rfl) (by assumption) ⟨_, fun w' hS => ?_, ?_⟩
      rotate_left
      · ((try dsimp only at hS); go_split_ands; go_simp; try (with_reducible rfl))
      simp only [Act.put, List.setIfInBounds_toArray, List.set_cons_zero, List.set_cons_succ]
      refine wpAnyH_done (by kernel_rfl) ?_ _
      gi_wp2
      have hxd : Ex0 W W.drew := Ex.drew W
      refine ⟨(others_ex0 hxd).from _, hxd.below HII.out.bel.size (fun _ h => h.elim), ⟨boxed_kc HII.out.b0 (Kc.ofEx hxd) id, ⟨v, boxed_kc HBL.out (Kc.ofEx hxd) id, ?_⟩, HII.out.bel.trans (hxd.below HII.out.bel.size (fun _ h => h.elim))⟩⟩
      rw [HAP.out, hc]
      simpa using own_ex HO.out hxd (fun _ _ => id)
    | true =>
      gi_wp2_with fail
      refine wpIn_region_round (fun w' => w'.cell? ⟨w.heap.size, 0, none⟩ = some (.pointer (some ⟨L.p, 0, none⟩)) ∧ w'.cell? ⟨L.p, 2, none⟩ = some (.int .i64 s.now) ∧ w'.cell? ⟨b, 3, none⟩ = some (.int .i64 a4)) (by kernel_rfl) (by kernel_rfl) (by rintro ⟨_, _, h⟩; exact h) ?_
      simp only [List.length_cons, List.length_nil]
      refine' wpAnyH_do 0 rfl (by kernel_rfl) (fun _ _ _ _ h => h) (by rfl) (by assumption) ⟨_, fun w' hS => ?_, ?_⟩
      rotate_left
      · ((try dsimp only at hS); go_split_ands; go_simp; try (with_reducible rfl))
      simp only [Act.put, List.setIfInBounds_toArray, List.set_cons_zero, List.set_cons_succ]
      refine' wpAnyH_do 1 rfl (by kernel_rfl) (fun _ _ _ _ h => h) (by rfl) (by assumption) ⟨_, fun w' hS => ?_, ?_⟩
      rotate_left
      · ((try dsimp only at hS); go_split_ands; go_simp; try (with_reducible rfl))
      simp only [Act.put, List.setIfInBounds_toArray, List.set_cons_zero, List.set_cons_succ]
      refine' wpAnyH_do 2 rfl (by kernel_rfl) (fun _ _ _ _ h => h) (by rfl) (by assumption) ⟨_, fun w' hS => ?_, ?_⟩
      rotate_left
      · ((try dsimp only at hS); go_split_ands; go_simp; try (with_reducible rfl))
      simp only [Act.put, List.setIfInBounds_toArray, List.set_cons_zero, List.set_cons_succ]
      refine' wpAnyH_do 3 rfl (by kernel_rfl) (fun _ _ _ _ h => h) (by rfl) (by assumption) ⟨_, fun w' hS => ?_, ?_⟩
      rotate_left
      · ((try dsimp only at hS); go_split_ands; go_simp; try (with_reducible rfl))
      simp only [Act.put, List.setIfInBounds_toArray, List.set_cons_zero, List.set_cons_succ]
      refine' wpAnyH_do 4 rfl (by kernel_rfl) (fun _ _ _ _ h => h) (by rfl) (by assumption) ⟨_, fun w' hS => ?_, ?_⟩
      rotate_left
      · ((try dsimp only at hS); go_split_ands; go_simp; try (with_reducible rfl))
      simp only [Act.put, List.setIfInBounds_toArray, List.set_cons_zero, List.set_cons_succ]
      refine' wpAnyH_do 5 rfl (by kernel_rfl) (fun _ _ _ _ h => h) (by rfl) (by assumption) ⟨_, fun w' hS => ?_, ?_⟩
      rotate_left
      · ((try dsimp only at hS); go_split_ands; go_simp; try (with_reducible rfl))
      simp only [Act.put, List.setIfInBounds_toArray, List.set_cons_zero, List.set_cons_succ]
      refine' wpAnyH_do 6 rfl (by kernel_rfl) (fun _ _ _ _ h => h) (by rfl) (by assumption) ⟨_, fun w' hS => ?_, ?_⟩
      rotate_left
      · ((try dsimp only at hS); go_split_ands; go_simp; try (with_reducible rfl))
      simp only [Act.put, List.setIfInBounds_toArray, List.set_cons_zero, List.set_cons_succ]
      refine' wpAnyH_do 7 rfl (by kernel_rfl) (fun _ _ _ _ h => h) (by rfl) (by assumption) ⟨_, fun w' hS => ?_, ?_⟩
      rotate_left
      · ((try dsimp only at hS); go_split_ands; go_simp; try (with_reducible rfl))
      simp only [Act.put, List.setIfInBounds_toArray, List.set_cons_zero, List.set_cons_succ]
      refine wpAnyH_done (by kernel_rfl) ?_ _
      have hxd : Ex0 W W.drew := Ex.drew W
      have hbl2 := boxed_kc HBL.out (Kc.ofEx hxd) id
      have HO2 := Lib.hid (own_ex HO.out hxd (fun _ _ => id))
      have HXD := Lib.hid hxd
      have hsd : W.drew.heap.size = W.heap.size := rfl
      have k0d : W.drew.cell? ⟨b, 0, none⟩ = some (.int .u64 a1) := k0
      have lbd : b < W.drew.heap.size := lb
      have cl := hbl2.cell
      have fl := hbl2.frozen
      have hsz' := HII.out.bel.size
      have hWs : w.heap.size + 3 ≤ W.heap.size := by have := hI3.out; omega
      have hWd : w.heap.size + 3 ≤ W.drew.heap.size := hWs
      clear hsd
      generalize overN s.now pre = N at HO HO2 HAP hlen
      clear hxd c0 cn k0 k3 lb hbl2 hS hS0
      generalize W.drew = Wd at *
      gi_wp2_with (refine wpListIn_append_own_at _ rfl (.tmp 21) (.tmp 25) 33 rfl (w.heap.size + 3) 31 i0 _ 1 8 Tryz.underlying33 hi0 hz0 hz1 hz2 rfl (by decide) v _ _ rfl (HO2.out.alloc _) ⟨Wd.heap.size, 0, none⟩ 1 1 [.int .u64 a1] rfl rfl (World.news_of_block (cs := #[.int .u64 a1]) (t := 31) (fr := (0, 0)) (heap_alloc_new Wd _)) (by simp [Value.oneCell']) (by unfold maxLen; omega) (by omega) (by simp; omega) ?_)
      intro v2 w4 hown4 hgrow _ _
      obtain ⟨g2, cap2, hv2⟩ := ownsRow_succ hown4
      have HO4 := Lib.hid hown4
      subst hv2
      have hlv : ∀ b, v.ownBlock = some b → w.heap.size + 3 ≤ b := fun b hb => (HO2.out.lt b hb).1
      have hx4 : Ex (fun b => v.ownBlock = some b) W w4 := (HXD.out.alloc' _).trans (Ex.ofGrown hgrow) (fun _ _ h => h.elim) (fun _ _ h => h)
      have hb4 : Boxed w4 (w.heap.size + 1) 33 v := boxed_kc (HBL.out) (Kc.ofEx hx4) (fun e => by have := hlv _ e; omega)
      have hko : KeepsOthers W w4 := ((others_ex0 HXD.out).trans (KeepsOthers.alloc _ _)).trans (others_own (HO2.out.alloc _) hgrow)
      have cl4 := hb4.cell
      have fl4 := hb4.frozen
      have HX4 := Lib.hid hx4
      have HB4 := Lib.hid hb4
      have HKO := Lib.hid hko
      have HLV := Lib.hid hlv
      clear hown4 hgrow hlv hx4 hb4 hko cl fl
      gi_wp2
      have hx5 : Ex (fun b => v.ownBlock = some b ∨ b = w.heap.size + 1) W (w4.setCell ⟨w.heap.size + 1, 0, none⟩ (.slice (some ⟨g2, 0, none⟩) (N.length + 1) cap2)) := HX4.out.trans (Ex.setCell _ _ _) (fun _ _ h => .inl h) (fun _ _ h => .inr h)
      have hne2 : (Value.slice (some ⟨g2, 0, none⟩) (N.length + 1) cap2).ownBlock ≠ some (w.heap.size + 1) := fun e => by have := (HO4.out.lt _ e).1; omega
      refine ⟨(HKO.out.trans (KeepsOthers.setCell _ _ _)).from _, hx5.below hsz' (fun i h => h.elim (fun h => by have := HLV.out _ h; omega) (fun h => by omega)), ⟨boxed_kc HII.out.b0 (Kc.ofEx hx5) (fun h => h.elim (fun h => by have := HLV.out _ h; omega) (fun h => by omega)), ⟨_, HB4.out.set _, ?_⟩, HII.out.bel.trans (hx5.below HII.out.bel.size (fun i h => h.elim (fun h => by have := HLV.out _ h; omega) (fun h => by omega)))⟩⟩
      rw [HAP.out, hc]
      simp only [if_true, List.length_append, List.map_append]
      exact own_ex HO4.out (Ex.setCell _ _ _) (fun b hb e => hne2 (by rw [hb, e]))
  case done =>
    rintro D xs W hD rfl hI hK
    obtain ⟨v, hbl, hown⟩ := hI.bl
    obtain ⟨N, hN⟩ : ∃ N, overN s.now s.holds = N := ⟨_, rfl⟩
    have hnl : N.length ≤ 64 := by rw [← hN]; have := overN_len s.now s.holds; omega
    rw [hN] at hown
    obtain ⟨A5, c5, rfl, hs5, _⟩ := own_sl hown
    have cl := hbl.cell
    have HII := Lib.hid hI
    have HK := Lib.hid hK
    have HO := Lib.hid hown
    have HNE := Lib.hid hN
    rw [ha]
    clear hown hI hbl hK ha hs5 hN
    dsimp only
    go_wp2_with fail
    have hb0W := HII.out.b0.cell
    have HLW := Lib.hid (HL.out.ex0 (Ex.ofBelow HII.out.bel))
    have hpbl : L.P.pb < w.heap.size := HL.out.law.bk.lt
    have HBVL : Hid (∀ b, L.P.bv.ownBlock = some b → b < w.heap.size) := fun b hb => (HL.out.law.bk.own.lt b hb).2
    have HB0 := Lib.hid hb0W
    have hD2 : w.heap.size ≤ D := by omega
    have hW3 : w3.heap.size ≤ W.heap.size := by have := (Array.getElem?_eq_some_iff.1 HK.out).1; omega
    clear hb0W
    go_loopw [29] (fun i wr => ∃ (k : Nat) (bv : Value), k ≤ N.length ∧ i = .int .i64 k ∧ bv.ownBlock = L.P.bv.ownBlock ∧ LstAt wr { L with P := { L.P with bv := bv } } { s with holds := (N.take k).foldl (fun t i => Ho.liftL i t) s.holds } ∧ Ex (fun b => b = L.P.pb ∨ L.P.bv.ownBlock = some b) W wr) (fun i _ => N.length - (intOf i).toNat)
    case atStart => exact ⟨0, L.P.bv, by omega, rfl, rfl, HLW.out, Ex.refl _ _⟩
    case round =>
      obtain ⟨k, bv, hk, rfl, hbv, hAt, hx⟩ := hrel
      have HX := Lib.hid hx
      have HAT := Lib.hid hAt
      by_cases hlt : k < N.length
      · obtain ⟨A6, c6, e6, hs6, _⟩ := own_sl (own_ex HO.out hx (fun b hb h => h.elim (fun h => by have := (HO.out.lt b hb).1; omega) (fun h => by have := (HO.out.lt b hb).1; have := HBVL.out b h; omega)))
        cases e6
        obtain ⟨g, off, hA, _, hcell⟩ := hs6.one hlt
        subst hA
        have hcb : wr.cell? ⟨w.heap.size, 0, none⟩ = some (.pointer (some ⟨L.p, 0, none⟩)) := hx.cellS HB0.out (fun h => h.elim (fun h => by have h' : w.heap.size = L.P.pb := h; omega) (fun h => by have := HBVL.out _ h; simp at this))
        have hc9 : wr.cell? ⟨L.p, 9, none⟩ = some (.pointer (some ⟨L.P.pb, 0, none⟩)) := hAt.cell rfl
        have hlp : L.p < wr.heap.size := hAt.lt
        have hk0 : (0 : Int) ≤ (k : Int) := by omega
        have hk1 : (k : Int) < (N.length : Int) := by omega
        have hsn : N.take (k + 1) = N.take k ++ [N[k]] := List.take_succ_eq_append_getElem hlt
        have HSN := Lib.hid hsn
        clear hx hAt hs6 hsn
        generalize N[k] = y at hcell HSN
        go_wp2_with fail
        refine (Ho.lift_any L.P.pb bv _ y _ HAT.out.law.bk).mono ?_
        rintro e w5 ⟨bv5, rfl, hv5, hb5, hx5⟩
        have HX5 := Lib.hid hx5
        have HB5 := Lib.hid hb5
        clear hx5 hb5
        rw [hbv] at HX5
        go_wp2
        go_roundw
        case rel =>
          refine ⟨k + 1, bv5, by omega, by go_num, hv5.trans hbv, ?_, HX.out.trans HX5.out (fun _ _ h => h) (fun _ _ h => h)⟩
          rw [HSN.out, List.foldl_append]
          exact HAT.out.book HB5.out (HX5.out.wide (fun b h => h.imp id (fun h => hbv.trans h)))
        case measure => simp [intOf]; omega
      · have hkn : k = N.length := by omega
        subst hkn
        have hK3 : wr.heap[D]? = some (.deferred (some [])) := (hx.block D (Array.getElem?_eq_some_iff.1 HK.out).1 (fun h => h.elim (fun h => by have h' : D = L.P.pb := h; omega) (fun h => by have := HBVL.out _ h; omega))).trans HK.out
        rw [List.take_length] at HAT
        clear hx hAt
        go_wp2
        refine ⟨by simp, .inl ⟨_, _, rfl, run_takeDeferred hK3, ?_⟩⟩
        have hxp : Ex (fun b => some D = some b) wr (wr.putObj D (.deferred none)) := Ex.ofGrown (grownBy_putObj' wr D (.deferred none))
        have hFw : ∀ b, ({ L with P := { L.P with bv := bv } } : LstP).F b → L.F b := fun b hb => by
          rcases hb with h | h | h | h | h | h | h
          · exact .inl h
          · exact .inr (.inl h)
          · exact .inr (.inr (.inl h))
          · exact .inr (.inr (.inr (.inl h)))
          · exact .inr (.inr (.inr (.inr (.inl h))))
          · exact .inr (.inr (.inr (.inr (.inr (.inl (hbv.symm.trans h))))))
          · exact .inr (.inr (.inr (.inr (.inr (.inr h)))))
        have hnc : NoCal wr (fun b => some D = some b) := fun b hb => by
          cases hb
          have hn : ∀ T, ¬ Ty wr D T := fun T h => by obtain ⟨_, _, h⟩ := h; rw [hK3] at h; cases h
          exact ⟨hn _, hn _⟩
        rw [HNE.out]
        refine ⟨_, results_none rfl _ _ _, rfl, { L with P := { L.P with bv := bv } }, rfl, HAT.out.ex hxp hnc (fun b hb e => ?_), ?_, fun b hb => .inl (hFw b hb)⟩
        · cases e
          have := HL.out.fin _ (hFw _ hb)
          omega
        · refine ((Ex.ofBelow HII.out.bel).trans (U := L.F) HX.out (fun _ _ h => h.elim) (fun _ _ h => h.elim (fun e => .inr (.inr (.inr (.inr (.inl e))))) (fun e => .inr (.inr (.inr (.inr (.inr (.inl e)))))))).trans hxp (fun _ _ h => h) (fun i hi e => by cases e; omega)
  case stop =>
    rintro D c pre W _ _ h _
    exact h.elim
end Go.Proofs.YtoglddndicmelaaGreat.Tr

namespace Go.Proofs.YtoglddndicmelaaGreat.Tr
open Go.RowKit Go.Proofs.YtoglddndicmelaaGreatB Go.Proofs.YtoglddndicmelaaGreat
set_option maxRecDepth 100000

theorem tick_any (L : LstP) (s : TS) (m : Int) (w : World) (h : LstAt w L s) (hI : Inv s) :
    Calls Tryz.prog 26 #[.pointer (some ⟨L.p, 0, none⟩), .int .i64 m] w fun e w' => e = .returned (.int .i64 (s.tickE m)) ∧ OpP L (s.tick m) w w' := by
  have HL := Lib.hid h
  have hl := h.lt
  have hf := h.frozen 2
  have hc : w.cell? ⟨L.p, 2, none⟩ = some (.int .i64 s.now) := h.cell rfl
  by_cases h1 : 1073741824 < m
  · have he : s.tickE m = 2 := by unfold TS.tickE; rw [if_pos h1]
    have ht : s.tick m = s := by unfold TS.tick; rw [he]; rfl
    rw [he, ht]
    clear he ht h hI
    go_enter Tryz.func26, Tryz.ntmps26
    go_wp2
    go_ret
    exact ⟨rfl, .same HL.out (Ex.refl _ _)⟩
  · have h1' : decide (1073741824 < m) = false := decide_eq_false h1
    by_cases h2 : m < s.now
    · have he : s.tickE m = 15 := by unfold TS.tickE; rw [if_neg h1, if_pos h2]
      have ht : s.tick m = s := by unfold TS.tick; rw [he]; rfl
      rw [he, ht]
      clear he ht h hI
      go_enter Tryz.func26, Tryz.ntmps26
      go_wp2
      go_ret
      exact ⟨rfl, .same HL.out (Ex.refl _ _)⟩
    · have h2' : decide (m < s.now) = false := decide_eq_false h2
      have he : s.tickE m = 0 := by unfold TS.tickE; rw [if_neg h1, if_neg h2]
      have ht : s.tick m = { s with now := m, holds := s.holds.filter fun p => decide (m < p.h.til) } := by unfold TS.tick; rw [he]; rfl
      have hov := overNs_fold hI m
      have HS : Hid (LstAt (w.setCell ⟨L.p, 2, none⟩ (.int .i64 m)) L { s with now := m }) := h.setC rfl rfl rfl rfl rfl rfl
      have HC := Lib.hid (clear_any L { s with now := m } _ HS.out hI.hlen)
      rw [he, ht, ← hov]
      clear he ht h hI hov
      go_enter Tryz.func26, Tryz.ntmps26
      go_wp2_with fail
      refine HC.out.mono ?_
      rintro e w1 ⟨rfl, L', hp, hL', hx, hn⟩
      have HQ : Hid (OpP L { s with now := m, holds := (overNs s m).foldl (fun t i => Ho.liftL i t) s.holds } w w1) :=
        ⟨L', hp, hL', ((Ex.setCell w ⟨L.p, 2, none⟩ (.int .i64 m)).to (fun _ _ e => .inl e)).trans hx (fun _ _ h => h) (fun _ _ h => h), hn.from (by simp [World.setCell])⟩
      clear hL' hx hn hp
      go_wp2
      go_ret
      exact ⟨rfl, HQ.out⟩
end Go.Proofs.YtoglddndicmelaaGreat.Tr

namespace Go.Proofs.YtoglddndicmelaaGreat.Tr
open Go.RowKit Go.Proofs.YtoglddndicmelaaGreatB Go.Proofs.YtoglddndicmelaaGreat
set_option maxRecDepth 100000

/-- another book, and another last number -/
theorem LstAt.swapBook {w : World} {L : LstP} {s : TS} (h : LstAt w L s) {p' : Nat} {v' : Value} {hs' : List Ho.Put} (hb : Ho.BookAt w p' v' hs') (t : Int) :
    LstAt ((w.setCell ⟨L.p, 9, none⟩ (.pointer (some ⟨p', 0, none⟩))).setCell ⟨L.p, 3, none⟩ (.int .u64 t)) { L with P := { L.P with pb := p', bv := v' } } { s with top := t, holds := hs' } := by
  obtain ⟨a1, a2, a3, a4, a5, a6⟩ := h.apart
  have hx : Ex (· = L.p) w ((w.setCell ⟨L.p, 9, none⟩ (.pointer (some ⟨p', 0, none⟩))).setCell ⟨L.p, 3, none⟩ (.int .u64 t)) := (Ex.setCell _ _ _).trans (Ex.setCell _ _ _) (fun _ _ h => h) (fun _ _ h => h)
  have hnc : NoCal w (· = L.p) := fun b hb => by subst hb; exact h.nocal _ (.inl rfl)
  have h1 := h.tys.1
  refine ⟨?_, own_ex h.ws hx (fun b hb => a1 b hb), h.law.tab.ex hx a2 a3, hb.ex hx ((Ty.of hb.blk).ne h1 (by decide)) (fun b hb' => (own_ty hb.own hb').ne h1 (by decide)), h.law.fs.ex hx a6, h.law.aut.nocal hx hnc⟩
  rw [heap_setCell_same _ _ _ _ _ _ (heap_setCell_same _ _ _ _ _ _ h.blk)]
  rfl
set_option maxHeartbeats 1000000 in
theorem tlift_any (L : LstP) (s : TS) (id : Int) (w : World) (h : LstAt w L s) (ht : 0 ≤ s.top) (hl : s.holds.length ≤ 64) :
    Calls Tryz.prog 29 #[.pointer (some ⟨L.p, 0, none⟩), .int .u64 id] w fun e w' => e = .returned (.int .i64 (s.liftE id)) ∧ OpP L (s.lift id) w w' := by
  have HL := Lib.hid h
  have HN := Lib.hid (next_any L s w h ht)
  have HC := Lib.hid (Ho.clone_any L.P.pb L.P.bv s.holds w h.law.bk (by omega))
  have hlp := h.lt
  have hc9 : w.cell? ⟨L.p, 9, none⟩ = some (.pointer (some ⟨L.P.pb, 0, none⟩)) := h.cell rfl
  clear h hl
  go_enter Tryz.func29, Tryz.ntmps29
  go_wp2_with fail
  refine HN.out.mono ?_
  rintro e wa ⟨rfl, rfl⟩
  go_wp2_with fail
  refine HC.out.mono ?_
  rintro e w1 ⟨p', v', rfl, hp', hv', hb1, hx1⟩
  have HL1 := Lib.hid (HL.out.ex0 hx1)
  have HX1 := Lib.hid hx1
  go_wp2_with fail
  refine (Ho.lift_any p' v' s.holds id _ hb1).mono ?_
  rintro e w2 ⟨v2, rfl, hv2, hb2, hx2⟩
  have HX2 : Hid (Ex0 wa w2) := hx1.trans hx2 (fun _ _ h => h) (fun i hi h => h.elim (fun e => by subst e; omega) (fun e => by have := hv' _ e; omega))
  have HB2 := Lib.hid hb2
  have HV2 : Hid (∀ b, v2.ownBlock = some b → wa.heap.size ≤ b) := fun b hb => hv' b (hv2.symm.trans hb)
  have HL2 := Lib.hid (HL.out.ex0 HX2.out)
  clear hx1 hb1 hv' hv2 hb2 hx2 hc9 hlp
  have hc2 : w2.frozen? ⟨L.p, 9, none⟩ = false := HL2.out.frozen 9
  have hc3 : w2.frozen? ⟨L.p, 3, none⟩ = false := HL2.out.frozen 3
  have hlt2 := HL2.out.lt
  have k9 : w2.cell? ⟨L.p, 9, none⟩ = some (.pointer (some ⟨L.P.pb, 0, none⟩)) := HL2.out.cell rfl
  have k3 : w2.cell? ⟨L.p, 3, none⟩ = some (.int .u64 s.top) := HL2.out.cell rfl
  by_cases he : Ho.liftE id s.holds = 0
  · by_cases hn : s.next = 0
    · have h14 : s.liftE id = 14 := by unfold TS.liftE; rw [if_pos he, if_pos hn]
      have hsame : s.lift id = s := by unfold TS.lift; rw [h14]; rfl
      rw [he, hn]
      go_wp2
      go_ret
      exact ⟨Ho.ret_int h14.symm, by rw [hsame]; exact .same HL.out HX2.out⟩
    · have hv : s.next = s.top + 1 := by
        unfold TS.next at hn ⊢
        by_cases h : 65535 ≤ s.top
        · rw [if_pos h] at hn; exact absurd rfl hn
        · rw [if_neg h]
      have h0 : s.liftE id = 0 := by unfold TS.liftE; rw [if_pos he, if_neg hn]
      have hst : s.lift id = { s with top := s.top + 1, holds := Ho.liftL id s.holds } := by unfold TS.lift; rw [if_pos h0]
      have hne : (s.top + 1 == 0) = false := by simp; omega
      have hH := Lib.hid hst
      have hH0 := Lib.hid h0
      have hp2 := Lib.hid hp'
      rw [he, hv]
      clear hn hv h0 hst he hp'
      go_wp2
      go_ret
      refine ⟨Ho.ret_int hH0.out.symm, ?_⟩
      rw [hH.out]
      refine ⟨{ L with P := { L.P with pb := p', bv := v2 } }, rfl, HL2.out.swapBook HB2.out _, (((HX2.out.to (fun _ _ h => h.elim)).trans (Ex.setCell _ _ _) (fun _ _ h => h) (fun _ _ h => .inl h)).trans (Ex.setCell _ _ _) (fun _ _ h => h) (fun _ _ h => .inl h)), fun b hb => ?_⟩
      rcases hb with h | h | h | h | h | h | h
      · exact .inl (.inl h)
      · exact .inl (.inr (.inl h))
      · exact .inl (.inr (.inr (.inl h)))
      · exact .inl (.inr (.inr (.inr (.inl h))))
      · exact .inr (by subst h; exact hp2.out)
      · exact .inr (HV2.out b h)
      · exact .inl (.inr (.inr (.inr (.inr (.inr (.inr h))))))
  · have h4 : Ho.liftE id s.holds = 4 := by
      unfold Ho.liftE at he ⊢
      split
      · rename_i h; rw [h] at he; exact absurd rfl he
      · rfl
    have h4' : s.liftE id = 4 := by unfold TS.liftE; rw [if_neg he, h4]
    have hsame : s.lift id = s := by unfold TS.lift; rw [h4']; rfl
    rw [h4]
    go_wp2
    go_ret
    exact ⟨Ho.ret_int h4'.symm, by rw [hsame]; exact .same HL.out HX2.out⟩
end Go.Proofs.YtoglddndicmelaaGreat.Tr

namespace Go.Proofs.YtoglddndicmelaaGreat.Tr
open Go.RowKit Go.Proofs.YtoglddndicmelaaGreatB Go.Proofs.YtoglddndicmelaaGreat
set_option maxRecDepth 100000

/-- another forest, and another last number -/
theorem LstAt.swapFor {w : World} {L : LstP} {s : TS} (h : LstAt w L s) {p' : Nat} {fs' : List Tw} (hb : ForAt w p' fs') (t : Int) :
    LstAt ((w.setCell ⟨L.p, 10, none⟩ (.pointer (some ⟨p', 0, none⟩))).setCell ⟨L.p, 3, none⟩ (.int .u64 t)) { L with P := { L.P with pf := p' } } { s with top := t, fs := fs' } := by
  obtain ⟨a1, a2, a3, a4, a5, a6⟩ := h.apart
  have hx : Ex (· = L.p) w ((w.setCell ⟨L.p, 10, none⟩ (.pointer (some ⟨p', 0, none⟩))).setCell ⟨L.p, 3, none⟩ (.int .u64 t)) := (Ex.setCell _ _ _).trans (Ex.setCell _ _ _) (fun _ _ h => h) (fun _ _ h => h)
  have hnc : NoCal w (· = L.p) := fun b hb => by subst hb; exact h.nocal _ (.inl rfl)
  have h1 := h.tys.1
  refine ⟨?_, own_ex h.ws hx (fun b hb => a1 b hb), h.law.tab.ex hx a2 a3, h.law.bk.ex hx a4 a5, hb.ex hx ((Ty.of hb.blk).ne h1 (by decide)), h.law.aut.nocal hx hnc⟩
  rw [heap_setCell_same _ _ _ _ _ _ (heap_setCell_same _ _ _ _ _ _ h.blk)]
  rfl
set_option maxHeartbeats 1000000 in
theorem tdrop_any (L : LstP) (s : TS) (id : Int) (w : World) (h : LstAt w L s) (ht : 0 ≤ s.top) :
    Calls Tryz.prog 32 #[.pointer (some ⟨L.p, 0, none⟩), .int .i64 id] w fun e w' => e = .returned (.int .i64 (s.dropE id)) ∧ OpP L (s.drop id) w w' := by
  have HL := Lib.hid h
  have HN := Lib.hid (next_any L s w h ht)
  have HC := Lib.hid (fclone_any L.P.pf s.fs w h.law.fs)
  have hlp := h.lt
  have hc9 : w.cell? ⟨L.p, 10, none⟩ = some (.pointer (some ⟨L.P.pf, 0, none⟩)) := h.cell rfl
  clear h
  go_enter Tryz.func32, Tryz.ntmps32
  go_wp2_with fail
  refine HN.out.mono ?_
  rintro e wa ⟨rfl, rfl⟩
  go_wp2_with fail
  refine HC.out.mono ?_
  rintro e w1 ⟨rfl, hb1, hx1⟩
  go_wp2_with fail
  refine (fdrop_any wa.heap.size s.fs id _ hb1).mono ?_
  rintro e w2 ⟨rfl, hb2, hx2⟩
  have HX2 : Hid (Ex0 wa w2) := hx1.trans hx2 (fun _ _ h => h) (fun i hi h => by have h' : i = wa.heap.size := h; omega)
  have HB2 := Lib.hid hb2
  have HL2 := Lib.hid (HL.out.ex0 HX2.out)
  clear hx1 hb1 hb2 hx2 hc9 hlp
  have hc2 : w2.frozen? ⟨L.p, 10, none⟩ = false := HL2.out.frozen 10
  have hc3 : w2.frozen? ⟨L.p, 3, none⟩ = false := HL2.out.frozen 3
  have hlt2 := HL2.out.lt
  have k9 : w2.cell? ⟨L.p, 10, none⟩ = some (.pointer (some ⟨L.P.pf, 0, none⟩)) := HL2.out.cell rfl
  have k3 : w2.cell? ⟨L.p, 3, none⟩ = some (.int .u64 s.top) := HL2.out.cell rfl
  by_cases he : Tr.dropE s.fs id = 0
  · by_cases hn : s.next = 0
    · have h14 : s.dropE id = 14 := by unfold TS.dropE; rw [if_pos he, if_pos hn]
      have hsame : s.drop id = s := by unfold TS.drop; rw [h14]; rfl
      rw [he, hn]
      go_wp2
      go_ret
      exact ⟨Ho.ret_int h14.symm, by rw [hsame]; exact .same HL.out HX2.out⟩
    · have hv : s.next = s.top + 1 := by
        unfold TS.next at hn ⊢
        by_cases h : 65535 ≤ s.top
        · rw [if_pos h] at hn; exact absurd rfl hn
        · rw [if_neg h]
      have h0 : s.dropE id = 0 := by unfold TS.dropE; rw [if_pos he, if_neg hn]
      have hdf : dropF s.fs id = s.fs.set id.toNat tw0 := by unfold dropF; rw [if_pos he]
      have hst : s.drop id = { s with top := s.top + 1, fs := dropF s.fs id } := by unfold TS.drop; rw [if_pos h0, hdf]
      have hH := Lib.hid hst
      have hH0 := Lib.hid h0
      have hne : (s.top + 1 == 0) = false := by simp; omega
      rw [he, hv]
      clear hn hv h0 hst he hdf
      go_wp2
      go_ret
      refine ⟨Ho.ret_int hH0.out.symm, ?_⟩
      rw [hH.out]
      refine ⟨{ L with P := { L.P with pf := wa.heap.size } }, rfl, HL2.out.swapFor HB2.out _, (((HX2.out.to (fun _ _ h => h.elim)).trans (Ex.setCell _ _ _) (fun _ _ h => h) (fun _ _ h => .inl h)).trans (Ex.setCell _ _ _) (fun _ _ h => h) (fun _ _ h => .inl h)), fun b hb => ?_⟩
      rcases hb with h | h | h | h | h | h | h
      · exact .inl (.inl h)
      · exact .inl (.inr (.inl h))
      · exact .inl (.inr (.inr (.inl h)))
      · exact .inl (.inr (.inr (.inr (.inl h))))
      · exact .inl (.inr (.inr (.inr (.inr (.inl h)))))
      · exact .inl (.inr (.inr (.inr (.inr (.inr (.inl h))))))
      · exact .inr (by rw [h]; exact Nat.le_refl _)
  · have h4' : s.dropE id = Tr.dropE s.fs id := by unfold TS.dropE; rw [if_neg he]
    have hsame : s.drop id = s := by unfold TS.drop; rw [h4', if_neg he]
    have hne : (Tr.dropE s.fs id == 0) = false := by simpa using he
    have hne2 : (Tr.dropE s.fs id != 0) = true := by simpa using he
    go_wp2
    go_ret
    exact ⟨Ho.ret_int h4'.symm, by rw [hsame]; exact .same HL.out HX2.out⟩
end Go.Proofs.YtoglddndicmelaaGreat.Tr
