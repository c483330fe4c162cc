/- Contracts of layer 28: the document's Add. -/
import Derived.Test.YthlmcoeikelheaaMom7
namespace Go.Proofs.Ythlmcoeikelheaa
open Go.RowKit Go.Proofs.YthlmcoeikelheaaB Go.Shelf

theorem infoU : (Try.prog.info? 23).map (fun i => (i.zero, i.size, i.bytes)) = some (some (.int .u64 0), 1, 8) := by kernel_rfl
theorem infoI : (Try.prog.info? 3).map (fun i => (i.zero, i.size, i.bytes)) = some (some (.int .i64 0), 1, 8) := by kernel_rfl
theorem infoB : (Try.prog.info? 4).map (fun i => (i.zero, i.size, i.bytes)) = some (some (.bool false), 1, 1) := by kernel_rfl

/-- the document's table, on its way -/
structure Doc3 (w : World) (p : Nat) (A0 A1 A2 : Option Addr) (n0 n1 n2 c0 c1 c2 : Nat) (xs0 xs1 xs2 : List Value) : Prop where
  blk : w.heap[p]? = some (.cells #[.slice A0 n0 c0, .slice A1 n1 c1, .slice A2 n2 c2] 32 (0, 0))
  s0 : Sl w 1 A0 n0 xs0
  s1 : Sl w 1 A1 n1 xs1
  s2 : Sl w 1 A2 n2 xs2
  e0 : A0 = none → c0 = 0
  e1 : A1 = none → c1 = 0
  e2 : A2 = none → c2 = 0
  a0 : ∀ b, Bl A0 b → b ≠ p ∧ b < w.heap.size
  a1 : ∀ b, Bl A1 b → b ≠ p ∧ b < w.heap.size
  a2 : ∀ b, Bl A2 b → b ≠ p ∧ b < w.heap.size
  k0 : n0 ≤ c0
  k1 : n1 ≤ c1
  k2 : n2 ≤ c2
section
variable {w W : World} {p : Nat} {A0 A1 A2 A : Option Addr} {n0 n1 n2 c0 c1 c2 n c : Nat} {xs0 xs1 xs2 xs : List Value}
theorem Doc3.lt (h : Doc3 w p A0 A1 A2 n0 n1 n2 c0 c1 c2 xs0 xs1 xs2) : p < w.heap.size := (Array.getElem?_eq_some_iff.1 h.blk).1
theorem Doc3.cells (h : Doc3 w p A0 A1 A2 n0 n1 n2 c0 c1 c2 xs0 xs1 xs2) : w.cell? ⟨p, 0, none⟩ = some (.slice A0 n0 c0) ∧ w.cell? ⟨p, 1, none⟩ = some (.slice A1 n1 c1) ∧ w.cell? ⟨p, 2, none⟩ = some (.slice A2 n2 c2) ∧
    w.frozen? ⟨p, 0, none⟩ = false ∧ w.frozen? ⟨p, 1, none⟩ = false ∧ w.frozen? ⟨p, 2, none⟩ = false := by
  refine ⟨?_, ?_, ?_, ?_, ?_, ?_⟩
  · rw [cell_of_row w p _ _ _ _ h.blk]; rfl
  · rw [cell_of_row w p _ _ _ _ h.blk]; rfl
  · rw [cell_of_row w p _ _ _ _ h.blk]; rfl
  · exact frozen_of_row w p _ _ _ h.blk
  · exact frozen_of_row w p _ _ _ h.blk
  · exact frozen_of_row w p _ _ _ h.blk
theorem Doc3.ex0 (h : Doc3 w p A0 A1 A2 n0 n1 n2 c0 c1 c2 xs0 xs1 xs2) (hx : Ex0 w W) : Doc3 W p A0 A1 A2 n0 n1 n2 c0 c1 c2 xs0 xs1 xs2 :=
  ⟨(hx.block p h.lt not_false).trans h.blk, h.s0.ex0 hx, h.s1.ex0 hx, h.s2.ex0 hx, h.e0, h.e1, h.e2, fun b hb => ⟨(h.a0 b hb).1, Nat.lt_of_lt_of_le (h.a0 b hb).2 hx.size⟩, fun b hb => ⟨(h.a1 b hb).1, Nat.lt_of_lt_of_le (h.a1 b hb).2 hx.size⟩, fun b hb => ⟨(h.a2 b hb).1, Nat.lt_of_lt_of_le (h.a2 b hb).2 hx.size⟩, h.k0, h.k1, h.k2⟩
theorem bl_set {w W : World} {p j : Nat} {u : Value} {A : Option Addr} (hx : Ex0 w W) (h : ∀ b, Bl A b → b ≠ p ∧ b < w.heap.size) : ∀ b, Bl A b → b ≠ p ∧ b < (W.setCell ⟨p, j, none⟩ u).heap.size := fun b hb => ⟨(h b hb).1, by have := (h b hb).2; have := hx.size; simp [World.setCell]; omega⟩
theorem sl_set {w W : World} {p j n : Nat} {u : Value} {A : Option Addr} {xs : List Value} (hs : Sl w 1 A n xs) (hx : Ex0 w W) (h : ∀ b, Bl A b → b ≠ p ∧ b < w.heap.size) : Sl (W.setCell ⟨p, j, none⟩ u) 1 A n xs :=
  (hs.ex0 hx).ex (Ex.setCell W ⟨p, j, none⟩ u) (fun b hb e => (h b hb).1 e)
theorem new_ap {w W : World} {p : Nat} {A : Option Addr} (hp : p < w.heap.size) (hb : ∀ b, Bl A b → w.heap.size ≤ b ∧ b < W.heap.size) : ∀ b, Bl A b → b ≠ p ∧ b < W.heap.size := fun b h => ⟨by have := (hb b h).1; omega, (hb b h).2⟩

theorem Doc3.set0 (h : Doc3 w p A0 A1 A2 n0 n1 n2 c0 c1 c2 xs0 xs1 xs2) (hx : Ex0 w W) (hs : Sl W 1 A n xs) (hb : ∀ b, Bl A b → w.heap.size ≤ b ∧ b < W.heap.size) (hc : A = none → c = 0) (hk' : n ≤ c) :
    Doc3 (W.setCell ⟨p, 0, none⟩ (.slice A n c)) p A A1 A2 n n1 n2 c c1 c2 xs xs1 xs2 :=
  ⟨heap_setCell_same W p 0 _ _ _ ((hx.block p h.lt not_false).trans h.blk), (hs.ex (Ex.setCell W _ _) (fun b hb' e => (new_ap h.lt hb b hb').1 e)), sl_set h.s1 hx h.a1, sl_set h.s2 hx h.a2, hc, h.e1, h.e2, bl_set (Ex.refl _ W) (new_ap h.lt hb), bl_set hx h.a1, bl_set hx h.a2, hk', h.k1, h.k2⟩
theorem Doc3.set1 (h : Doc3 w p A0 A1 A2 n0 n1 n2 c0 c1 c2 xs0 xs1 xs2) (hx : Ex0 w W) (hs : Sl W 1 A n xs) (hb : ∀ b, Bl A b → w.heap.size ≤ b ∧ b < W.heap.size) (hc : A = none → c = 0) (hk' : n ≤ c) :
    Doc3 (W.setCell ⟨p, 1, none⟩ (.slice A n c)) p A0 A A2 n0 n n2 c0 c c2 xs0 xs xs2 :=
  ⟨heap_setCell_same W p 1 _ _ _ ((hx.block p h.lt not_false).trans h.blk), sl_set h.s0 hx h.a0, (hs.ex (Ex.setCell W _ _) (fun b hb' e => (new_ap h.lt hb b hb').1 e)), sl_set h.s2 hx h.a2, h.e0, hc, h.e2, bl_set hx h.a0, bl_set (Ex.refl _ W) (new_ap h.lt hb), bl_set hx h.a2, h.k0, hk', h.k2⟩
theorem Doc3.set2 (h : Doc3 w p A0 A1 A2 n0 n1 n2 c0 c1 c2 xs0 xs1 xs2) (hx : Ex0 w W) (hs : Sl W 1 A n xs) (hb : ∀ b, Bl A b → w.heap.size ≤ b ∧ b < W.heap.size) (hc : A = none → c = 0) (hk' : n ≤ c) :
    Doc3 (W.setCell ⟨p, 2, none⟩ (.slice A n c)) p A0 A1 A n0 n1 n c0 c1 c xs0 xs1 xs :=
  ⟨heap_setCell_same W p 2 _ _ _ ((hx.block p h.lt not_false).trans h.blk), sl_set h.s0 hx h.a0, sl_set h.s1 hx h.a1, (hs.ex (Ex.setCell W _ _) (fun b hb' e => (new_ap h.lt hb b hb').1 e)), h.e0, h.e1, hc, bl_set hx h.a0, bl_set hx h.a1, bl_set (Ex.refl _ W) (new_ap h.lt hb), h.k0, h.k1, hk'⟩
theorem Doc3.of {d : DocV} {l : List It} (h : DocAt w p d l) : Doc3 w p d.N d.M d.O l.length l.length l.length d.cN d.cM d.cO (l.map fun x => Value.int .u64 x.num) (l.map fun x => Value.int .i64 x.min) (l.map fun x => Value.bool x.out) :=
  ⟨h.blk, h.sN, h.sM, h.sO, h.cN, h.cM, h.cO, fun b hb => h.ap b (.inl hb), fun b hb => h.ap b (.inr (.inl hb)), fun b hb => h.ap b (.inr (.inr hb)), h.kN, h.kM, h.kO⟩
theorem Doc3.to {l : List It} (h : Doc3 w p A0 A1 A2 l.length l.length l.length c0 c1 c2 (l.map fun x => Value.int .u64 x.num) (l.map fun x => Value.int .i64 x.min) (l.map fun x => Value.bool x.out)) : DocAt w p ⟨A0, A1, A2, c0, c1, c2⟩ l :=
  ⟨h.blk, h.s0, h.s1, h.s2, h.e0, h.e1, h.e2, fun b hb => by
    rcases hb with hb | hb | hb
    · exact h.a0 b hb
    · exact h.a1 b hb
    · exact h.a2 b hb, h.k0, h.k1, h.k2⟩
end

theorem size_set (w : World) (a : Addr) (v : Value) : (w.setCell a v).heap.size = w.heap.size := by simp [World.setCell]
theorem heap_alloc_set (w : World) (a : Addr) (v : Value) (o : Obj) : ((w.setCell a v).alloc o).heap[w.heap.size]? = some o := by
  have := heap_alloc_new (w.setCell a v) o
  rwa [size_set] at this

theorem one_map {α : Type} (f : α → Value) (l : List α) (h : ∀ x, (f x).oneCell' = true) : ∀ u ∈ l.map f, u.oneCell' = true := by
  intro u hu
  obtain ⟨x, _, rfl⟩ := List.mem_map.1 hu
  exact h x

def DocPost (p : Nat) (d : DocV) (l' : List It) (r : Int) (w : World) (e : Ending) (w' : World) : Prop :=
  ∃ d', e = .returned (.int .i64 r) ∧ DocAt w' p d' l' ∧ (∀ b, Bld d' b → Bld d b ∨ w.heap.size ≤ b) ∧ Ex (· = p) w w'
theorem docPost_same {p : Nat} {d : DocV} {l : List It} {r : Int} {w w' : World} (hD : DocAt w p d l) (hx : Ex0 w w') : DocPost p d l r w (.returned (.int .i64 r)) w' :=
  ⟨d, rfl, hD.ex0 hx, fun b hb => .inl hb, hx.to (fun _ _ hh => hh.elim)⟩

set_option maxRecDepth 100000 in
set_option maxHeartbeats 4000000 in
theorem radd_any (p : Nat) (d : DocV) (l : List It) (num min : Int) (w : World) (hD : DocAt w p d l) (hk : TabOk l) (hlen : l.length ≤ 900) :
    Calls Try.prog 36 #[.pointer (some ⟨p, 0, none⟩), .int .u64 num, .int .i64 min] w (DocPost p d (addL num min l) (addE num min l) w) := by
  obtain ⟨iu, hiu, hzu0, hzu1, hzu2⟩ := info_parts infoU
  obtain ⟨ii, hii, hzi0, hzi1, hzi2⟩ := info_parts infoI
  obtain ⟨ib, hib, hzb0, hzb1, hzb2⟩ := info_parts infoB
  obtain ⟨n0, n1, n2⟩ := hD.cells
  have hcases : (num < 1) ∨ (¬ num < 1 ∧ num > 65535) ∨ (¬ num < 1 ∧ ¬ num > 65535 ∧ min < 0) ∨ (¬ num < 1 ∧ ¬ num > 65535 ∧ ¬ min < 0 ∧ min > 1073741824) ∨ (¬ num < 1 ∧ ¬ num > 65535 ∧ ¬ min < 0 ∧ ¬ min > 1073741824) := by omega
  have hbad : rngB num min = false → DocPost p d (addL num min l) (addE num min l) w (.returned (.int .i64 2)) w := fun h => by
    have e0 : addE num min l = 2 := by unfold addE; rw [h]; rfl
    rw [show addL num min l = l by unfold addL; rw [e0]; rfl, e0]
    exact docPost_same hD (Ex.refl _ _)
  have HBAD := Lib.hid hbad
  have HD := Lib.hid hD
  have HK := Lib.hid hk
  clear hbad
  rcases hcases with h1 | ⟨h1, h2⟩ | ⟨h1, h2, h3⟩ | ⟨h1, h2, h3, h4⟩ | ⟨h1, h2, h3, h4⟩
  · have hb : rngB num min = false := by unfold rngB; simp; omega
    have HBD := Lib.hid hb
    clear hb hD hk
    go_enter Try.func36, Try.ntmps36
    go_wp2
    go_ret
    exact HBAD.out HBD.out
  · have hb : rngB num min = false := by unfold rngB; simp; omega
    have HBD := Lib.hid hb
    clear hb hD hk
    go_enter Try.func36, Try.ntmps36
    go_wp2
    go_ret
    exact HBAD.out HBD.out
  · have hb : rngB num min = false := by unfold rngB; simp; omega
    have HBD := Lib.hid hb
    clear hb hD hk
    go_enter Try.func36, Try.ntmps36
    go_wp2
    go_ret
    exact HBAD.out HBD.out
  · have hb : rngB num min = false := by unfold rngB; simp; omega
    have HBD := Lib.hid hb
    clear hb hD hk
    go_enter Try.func36, Try.ntmps36
    go_wp2
    go_ret
    exact HBAD.out HBD.out
  have hb : rngB num min = true := by unfold rngB; simp; omega
  have hadd : addE num min l = if l.any (pastI num min) then 15 else 0 := by unfold addE; rw [hb]; rfl
  have HADD := Lib.hid hadd
  clear hb hadd HBAD
  have hpost : l.any (pastI num min) = true → DocPost p d (addL num min l) (addE num min l) w (.returned (.int .i64 15)) w := fun h => by
    have e0 : addE num min l = 15 := by rw [HADD.out, h]; rfl
    rw [show addL num min l = l by unfold addL; rw [e0]; rfl, e0]
    exact docPost_same HD.out (Ex.refl _ _)
  have HPOST := Lib.hid hpost
  clear hpost
  go_enter Try.func36, Try.ntmps36
  go_wp2
  go_loopw [7] (fun i wr => ∃ k : Nat, k ≤ l.length ∧ i = .int .i64 k ∧ wr = w ∧ ∀ t (h : t < l.length), t < k → pastI num min l[t] = false) (fun i _ => l.length - (intOf i).toNat)
  case atStart => exact ⟨0, Nat.zero_le _, rfl, rfl, fun t h ht => by omega⟩
  case round =>
    obtain ⟨k, hle, rfl, rfl, hq⟩ := hrel
    have HQ := Lib.hid hq
    clear hq
    by_cases hlt : k < l.length
    · obtain ⟨g, off, hA, hg, hc⟩ := hD.sN.one hlt
      obtain ⟨g2, off2, hA2, hg2, hc2⟩ := hD.sM.one hlt
      rw [hA] at n0
      rw [hA2] at n1
      have hi0' : (0 : Int) ≤ (k : Int) := Int.natCast_nonneg _
      have hi1 : (k : Int) < (l.length : Int) := by omega
      have hany : pastI num min l[k] = true → l.any (pastI num min) = true := fun h => List.any_eq_true.2 ⟨_, List.getElem_mem hlt, h⟩
      have hpe : pastI num min l[k] = (decide (num ≤ l[k].num) || decide (min < l[k].min)) := rfl
      have HANY := Lib.hid hany
      have HPE := Lib.hid hpe
      clear hany hpe
      by_cases hx1 : l[k].num ≥ num
      · have hp : pastI num min l[k] = true := by rw [HPE.out]; simp; omega
        have HP := Lib.hid (HPOST.out (HANY.out hp))
        clear hp
        generalize l[k].num = y at *
        go_wp2
        go_ret
        exact HP.out
      · by_cases hx2 : l[k].min > min
        · have hp : pastI num min l[k] = true := by rw [HPE.out]; simp; omega
          have HP := Lib.hid (HPOST.out (HANY.out hp))
          clear hp
          generalize l[k].num = y at *
          generalize l[k].min = z at *
          go_wp2
          go_ret
          exact HP.out
        · have hp : pastI num min l[k] = false := by rw [HPE.out]; simp; omega
          have HP := Lib.hid hp
          clear hp
          generalize l[k].num = y at *
          generalize l[k].min = z at *
          go_wp2
          go_roundw
          case rel => exact ⟨k + 1, by omega, by go_num, trivial, fun t h ht => by
            by_cases e : t = k
            · subst e; exact HP.out
            · exact HQ.out t h (by omega)⟩
          case measure => simp [intOf]; omega
    · have hno : l.any (pastI num min) = false := by
        rw [List.any_eq_false]; intro x hx
        obtain ⟨t, ht, rfl⟩ := List.getElem_of_mem hx
        rw [HQ.out t ht (by omega)]; simp
      have e0 : addE num min l = 0 := by rw [HADD.out, hno]; rfl
      have eL : addL num min l = l ++ [⟨num, min, false⟩] := by unfold addL; rw [e0]; rfl
      have E0 := Lib.hid e0
      have EL := Lib.hid eL
      have hn63 := hlen
      have hpl0 := hD.lt
      have D0 := Lib.hid (Doc3.of hD)
      have X0 := Lib.hid (Ex.refl (fun b => b = p) wr)
      clear e0 eL hno hD hk
      obtain ⟨dN, dM, dO, cN, cM, cO⟩ := d
      dsimp only at D0 n0 n1 n2
      -- region 8
      go_wp2_with (at_builtin; refine wpList_append_sl rfl (.tmp 52) (.tmp 56) 28 rfl wr.heap.size 23 iu _ 1 8 Try.underlying28 hiu hzu0 hzu1 hzu2 rfl (by decide) _ 0 [] rfl (own_empty (heap_alloc_new _ _) _ (by simp)) dN l.length cN (l.map (fun x : It => Value.int .u64 x.num)) rfl (D0.out.s0.ex0 (Ex.alloc _ _)) D0.out.e0 (one_map _ _ (fun _ => rfl)) (by unfold maxLen; omega) (by omega) (by simp) ?_)
      intro v01 w01 ho hg hat
      have hx01 : Ex0 wr w01 := ex_of_new (Ex.alloc _ _) hg (by intro b hb; simp [Value.ownBlock] at hb; first | omega | (rw [size_set]; omega))
      have HO01 := Lib.hid ho
      have HX01 := Lib.hid hx01
      have hsz01 : wr.heap.size ≤ w01.heap.size := by have := hx01.size; first | exact this | (rw [size_set] at this; exact this)
      obtain ⟨A01, cap01, rfl, hsl0, hbl0⟩ := own_sl ho
      clear ho hg hat hx01 hsl0 hbl0
      obtain ⟨m0, m1, m2, f0, f1, f2⟩ := (D0.out.ex0 HX01.out).cells
      have hpl := (D0.out.ex0 HX01.out).lt
      go_wp2_with (at_builtin; refine wpList_append_sl rfl (.tmp 57) (.tmp 59) 28 rfl wr.heap.size 23 iu _ 1 8 Try.underlying28 hiu hzu0 hzu1 hzu2 rfl (by decide) _ _ _ rfl (HO01.out.alloc _) _ 1 1 [.int .u64 num] rfl (sl_block (cs := #[.int .u64 num]) (e := 23) (fr := (0, 0)) (heap_alloc_new _ _) rfl (by omega)) (fun h => by cases h) (by simp [Value.oneCell']) (by unfold maxLen; omega) (by omega) (by simp; omega) ?_)
      intro v02 w02 ho hg hat
      have hx02 : Ex0 wr w02 := ex_of_new (HX01.out.alloc' _) hg (by intro b hb; have h9 := (HO01.out.lt b hb).1; first | exact h9 | (rw [size_set]; exact h9))
      have HO02 := Lib.hid ho
      have HX02 := Lib.hid hx02
      have hsz02 : wr.heap.size ≤ w02.heap.size := by have := hx02.size; first | exact this | (rw [size_set] at this; exact this)
      obtain ⟨A02, cap02, rfl, hsl, hbl, hcp⟩ := own_sl' ho
      have D1 := Lib.hid (D0.out.set0 hx02 hsl (fun b hb => by have h9 := ho.lt b (by rw [hbl]; exact hb); first | exact h9 | (rw [size_set]; exact h9)) hcp (own_cap ho))
      have X1 := Lib.hid ((X0.out.trans hx02 (T := fun _ => False) (U := fun b => b = p) (fun _ _ h => h) (fun _ _ h => h.elim)).trans (Ex.setCell w02 ⟨p, 0, none⟩ (.slice A02 (l.length + 1) cap02)) (U := fun b => b = p) (fun _ _ h => h) (fun _ _ h => h))
      have L1 := Lib.hid (show ∀ b, Bl A02 b → wr.heap.size ≤ b from fun b hb => by have h8 := X0.out.size; have h9 := (ho.lt b (by rw [hbl]; exact hb)).1; first | omega | (rw [size_set] at h8; omega))
      clear ho hg hat hx02 hsl hbl hcp m0 m1 m2 f0 f1 f2 hpl
      obtain ⟨m0, m1, m2, f0, f1, f2⟩ := (D0.out.ex0 HX02.out).cells
      have hpl := (D0.out.ex0 HX02.out).lt
      -- region 9
      go_wp2_with (at_builtin; refine wpList_append_sl rfl (.tmp 64) (.tmp 68) 29 rfl w02.heap.size 3 ii _ 1 8 Try.underlying29 hii hzi0 hzi1 hzi2 rfl (by decide) _ 0 [] rfl (own_empty (heap_alloc_set _ _ _ _) _ (by simp)) dM l.length cM (l.map (fun x : It => Value.int .i64 x.min)) rfl (D1.out.s1.ex0 (Ex.alloc _ _)) D1.out.e1 (one_map _ _ (fun _ => rfl)) (by unfold maxLen; omega) (by omega) (by simp) ?_)
      intro v11 w11 ho hg hat
      have hx11 : Ex0 (w02.setCell ⟨p, 0, none⟩ (.slice A02 (l.length + 1) cap02)) w11 := ex_of_new (Ex.alloc _ _) hg (by intro b hb; simp [Value.ownBlock] at hb; first | omega | (rw [size_set]; omega))
      have HO11 := Lib.hid ho
      have HX11 := Lib.hid hx11
      have hsz11 : w02.heap.size ≤ w11.heap.size := by have := hx11.size; first | exact this | (rw [size_set] at this; exact this)
      obtain ⟨A11, cap11, rfl, hsl0, hbl0⟩ := own_sl ho
      clear ho hg hat hx11 hsl0 hbl0
      obtain ⟨m0, m1, m2, f0, f1, f2⟩ := (D1.out.ex0 HX11.out).cells
      have hpl := (D1.out.ex0 HX11.out).lt
      go_wp2_with (at_builtin; refine wpList_append_sl rfl (.tmp 69) (.tmp 71) 29 rfl w02.heap.size 3 ii _ 1 8 Try.underlying29 hii hzi0 hzi1 hzi2 rfl (by decide) _ _ _ rfl (HO11.out.alloc _) _ 1 1 [.int .i64 min] rfl (sl_block (cs := #[.int .i64 min]) (e := 3) (fr := (0, 0)) (heap_alloc_new _ _) rfl (by omega)) (fun h => by cases h) (by simp [Value.oneCell']) (by unfold maxLen; omega) (by omega) (by simp; omega) ?_)
      intro v12 w12 ho hg hat
      have hx12 : Ex0 (w02.setCell ⟨p, 0, none⟩ (.slice A02 (l.length + 1) cap02)) w12 := ex_of_new (HX11.out.alloc' _) hg (by intro b hb; have h9 := (HO11.out.lt b hb).1; first | exact h9 | (rw [size_set]; exact h9))
      have HO12 := Lib.hid ho
      have HX12 := Lib.hid hx12
      have hsz12 : w02.heap.size ≤ w12.heap.size := by have := hx12.size; first | exact this | (rw [size_set] at this; exact this)
      obtain ⟨A12, cap12, rfl, hsl, hbl, hcp⟩ := own_sl' ho
      have D2 := Lib.hid (D1.out.set1 hx12 hsl (fun b hb => by have h9 := ho.lt b (by rw [hbl]; exact hb); first | exact h9 | (rw [size_set]; exact h9)) hcp (own_cap ho))
      have X2 := Lib.hid ((X1.out.trans hx12 (T := fun _ => False) (U := fun b => b = p) (fun _ _ h => h) (fun _ _ h => h.elim)).trans (Ex.setCell w12 ⟨p, 1, none⟩ (.slice A12 (l.length + 1) cap12)) (U := fun b => b = p) (fun _ _ h => h) (fun _ _ h => h))
      have L2 := Lib.hid (show ∀ b, Bl A12 b → wr.heap.size ≤ b from fun b hb => by have h8 := X1.out.size; have h9 := (ho.lt b (by rw [hbl]; exact hb)).1; first | omega | (rw [size_set] at h8; omega))
      clear ho hg hat hx12 hsl hbl hcp m0 m1 m2 f0 f1 f2 hpl
      obtain ⟨m0, m1, m2, f0, f1, f2⟩ := (D1.out.ex0 HX12.out).cells
      have hpl := (D1.out.ex0 HX12.out).lt
      -- region 10
      go_wp2_with (at_builtin; refine wpList_append_sl rfl (.tmp 76) (.tmp 80) 30 rfl w12.heap.size 4 ib _ 1 1 Try.underlying30 hib hzb0 hzb1 hzb2 rfl (by decide) _ 0 [] rfl (own_empty (heap_alloc_set _ _ _ _) _ (by simp)) dO l.length cO (l.map (fun x : It => Value.bool x.out)) rfl (D2.out.s2.ex0 (Ex.alloc _ _)) D2.out.e2 (one_map _ _ (fun _ => rfl)) (by unfold maxLen; omega) (by omega) (by simp) ?_)
      intro v21 w21 ho hg hat
      have hx21 : Ex0 (w12.setCell ⟨p, 1, none⟩ (.slice A12 (l.length + 1) cap12)) w21 := ex_of_new (Ex.alloc _ _) hg (by intro b hb; simp [Value.ownBlock] at hb; first | omega | (rw [size_set]; omega))
      have HO21 := Lib.hid ho
      have HX21 := Lib.hid hx21
      have hsz21 : w12.heap.size ≤ w21.heap.size := by have := hx21.size; first | exact this | (rw [size_set] at this; exact this)
      obtain ⟨A21, cap21, rfl, hsl0, hbl0⟩ := own_sl ho
      clear ho hg hat hx21 hsl0 hbl0
      obtain ⟨m0, m1, m2, f0, f1, f2⟩ := (D2.out.ex0 HX21.out).cells
      have hpl := (D2.out.ex0 HX21.out).lt
      go_wp2_with (at_builtin; refine wpList_append_sl rfl (.tmp 81) (.tmp 82) 30 rfl w12.heap.size 4 ib _ 1 1 Try.underlying30 hib hzb0 hzb1 hzb2 rfl (by decide) _ _ _ rfl (HO21.out.alloc _) _ 1 1 [.bool false] rfl (sl_block (cs := #[.bool false]) (e := 4) (fr := (0, 0)) (heap_alloc_new _ _) rfl (by omega)) (fun h => by cases h) (by simp [Value.oneCell']) (by unfold maxLen; omega) (by omega) (by simp; omega) ?_)
      intro v22 w22 ho hg hat
      have hx22 : Ex0 (w12.setCell ⟨p, 1, none⟩ (.slice A12 (l.length + 1) cap12)) w22 := ex_of_new (HX21.out.alloc' _) hg (by intro b hb; have h9 := (HO21.out.lt b hb).1; first | exact h9 | (rw [size_set]; exact h9))
      have HO22 := Lib.hid ho
      have HX22 := Lib.hid hx22
      have hsz22 : w12.heap.size ≤ w22.heap.size := by have := hx22.size; first | exact this | (rw [size_set] at this; exact this)
      obtain ⟨A22, cap22, rfl, hsl, hbl, hcp⟩ := own_sl' ho
      have D3 := Lib.hid (D2.out.set2 hx22 hsl (fun b hb => by have h9 := ho.lt b (by rw [hbl]; exact hb); first | exact h9 | (rw [size_set]; exact h9)) hcp (own_cap ho))
      have X3 := Lib.hid ((X2.out.trans hx22 (T := fun _ => False) (U := fun b => b = p) (fun _ _ h => h) (fun _ _ h => h.elim)).trans (Ex.setCell w22 ⟨p, 2, none⟩ (.slice A22 (l.length + 1) cap22)) (U := fun b => b = p) (fun _ _ h => h) (fun _ _ h => h))
      have L3 := Lib.hid (show ∀ b, Bl A22 b → wr.heap.size ≤ b from fun b hb => by have h8 := X2.out.size; have h9 := (ho.lt b (by rw [hbl]; exact hb)).1; first | omega | (rw [size_set] at h8; omega))
      clear ho hg hat hx22 hsl hbl hcp m0 m1 m2 f0 f1 f2 hpl
      obtain ⟨m0, m1, m2, f0, f1, f2⟩ := (D2.out.ex0 HX22.out).cells
      have hpl := (D2.out.ex0 HX22.out).lt
      go_wp2
      go_ret
      have D4 := D3.out
      have hl1 : (l ++ [(⟨num, min, false⟩ : It)]).length = l.length + 1 := by simp
      rw [EL.out, E0.out]
      refine ⟨⟨A02, A12, A22, cap02, cap12, cap22⟩, rfl, Doc3.to (by simpa using D4), fun b hb => .inr ?_, X3.out⟩
      rcases hb with hb | hb | hb
      · exact L1.out b hb
      · exact L2.out b hb
      · exact L3.out b hb
end Go.Proofs.Ythlmcoeikelheaa
