/- The walk of AuditProves: places that there are not. -/
import Derived.Test.YthbdmfbjkkmplaaAud46
namespace Go.Proofs.Ythbdmfbjkkmplaa
open Go.RowKit Go.Proofs.YthbdmfbjkkmplaaB Go.Proofs.Ythbdmfbjkkmplaa.Sha

theorem wpList_load_at_g {P : Program} {ops : Array Oper} {rest : List Oper} {o : Oper} {a : Act} {w : World} {Q : Exit → Act → World → Prop} (hw : Region.wanted o (yielded ops a.tmps) = true) (ty : TypeId) (x : Operand) (ho : o.op = .load ty x)
    (ad : Addr) (hx : a.eval x = .pointer (some ad)) (cs : List Value) (d : TypeDesc) (hg : RowAt w ad cs)
    (hu : P.underlying ty = some d) (hd : (match d with | .struct _ | .array _ _ => true | _ => false) = true) (hi : (P.info? ty).map (·.size) = some cs.length)
    (h : wpList P ops Q rest (a.put o.dst (.agg cs.toArray)) w) : wpList P ops Q (o :: rest) a w :=
  wpList_step fun K hK => by rw [if_pos hw]; exact wp_load_at ty x ho ad hx cs d hg hu hd hi (hK _ _ h)
theorem zeroP_block : ∀ j u, (u8s z32)[j]? = some u → zeroP[4 + j]? = some u := fun j u hu => by
  have hj : j < (u8s z32).length := (List.getElem?_eq_some_iff.1 hu).1
  unfold zeroP
  simp only [proofC, List.getElem?_toArray]
  rw [List.getElem?_append_right (by simp), show 4 + j - [Value.int IntKind.i64 0, Value.int IntKind.i64 0, Value.int IntKind.i64 0, Value.int IntKind.i64 0].length = j by simp, List.getElem?_append_left hj]
  exact hu

set_option maxRecDepth 100000 in
set_option maxHeartbeats 4000000 in
theorem proves_no (v n : Int) (A : Option Addr) (L cap : Nat) (hL : L ≤ 48) (a b : Int) (hg : ¬ (fitsB v n = true ∧ 24 < v * n)) (h : placeB v n a b = false) (w : World) :
    Calls Try.prog 4 (provesArgs v n A L cap a b) w fun e w' => e = .returned (.bool true) ∧ Below w.heap.size w w' := by
  have HZP : Hid (∀ v ∈ zeroP, v.oneCell' = true) := by show ∀ v ∈ zeroP, _; unfold zeroP; simpa using proofC_one 0 0 0 0 z32 none 0 0
  have HPN : Hid (∀ cp w', Calls Try.prog 17 #[.int .i64 v, .int .i64 n, .int .i64 a, .int .i64 b, .func (.func diskFn) #[] cp] w' fun e w'' => e = .returned (.tuple #[.agg zeroP, .int .i64 2]) ∧ Ex0 w' w'') := fun cp w' => aprove_no v n a b h diskFn cp w'
  have hzs : zeroP.size = 37 := rfl
  have hz0 : zeroP[0]? = some (.int .i64 0) ∧ zeroP[1]? = some (.int .i64 0) ∧ zeroP[2]? = some (.int .i64 0) ∧ zeroP[3]? = some (.int .i64 0) ∧ zeroP[36]? = some (.slice none 0 0) := ⟨rfl, rfl, rfl, rfl, rfl⟩
  have HZB := Lib.hid zeroP_block
  have HZ0 := Lib.hid hz0
  obtain ⟨ZB, hZB⟩ : ∃ V, V = u8s z32 := ⟨_, rfl⟩
  have hbs : ZB.length = 32 := by rw [hZB]; simp [u8s_len, z32]
  have heqz : ∀ w', (Op.equalIn 10000 24 (.agg ZB.toArray) (.agg #[.int .u8 0, .int .u8 0, .int .u8 0, .int .u8 0, .int .u8 0, .int .u8 0, .int .u8 0, .int .u8 0, .int .u8 0, .int .u8 0, .int .u8 0, .int .u8 0, .int .u8 0, .int .u8 0, .int .u8 0, .int .u8 0, .int .u8 0, .int .u8 0, .int .u8 0, .int .u8 0, .int .u8 0, .int .u8 0, .int .u8 0, .int .u8 0, .int .u8 0, .int .u8 0, .int .u8 0, .int .u8 0, .int .u8 0, .int .u8 0, .int .u8 0, .int .u8 0])).run Try.prog w' = .ok true w' := fun w' => by
    have := run_eql_bytes (P := Try.prog) w' 24 5 32 .u8 Try.underlying24 Try.underlying5 (by kernel_rfl) (fun w => by kernel_rfl) z32 z32 z32_ok.1 z32_ok.1
    rw [decide_eq_true rfl] at this
    rw [hZB]; exact this
  have hg1 : Try.prog.eqGuardType Try.prog.depth 24 = false := by kernel_rfl
  rw [← hZB] at HZB
  obtain ⟨ZP, hZP⟩ : ∃ P, P = zeroP := ⟨_, rfl⟩
  rw [← hZP] at HPN HZP HZ0 HZB hzs
  have i48 : ¬ (48 : Int) < (L : Int) := by omega
  obtain ⟨F, hF⟩ : ∃ F, F = fitsB v n := ⟨_, rfl⟩
  have hp : (F = false ∧ 1 ≤ n) ∨ (F = false ∧ n < 1) ∨ (F = true ∧ 1 ≤ n ∧ a < 0) ∨ (F = true ∧ 1 ≤ n ∧ 0 ≤ a ∧ v ≤ a) ∨ (F = true ∧ 1 ≤ n ∧ 0 ≤ a ∧ a < v ∧ b < 0) ∨ (F = true ∧ 1 ≤ n ∧ 0 ≤ a ∧ a < v ∧ 0 ≤ b ∧ n ≤ b) := by
    cases hf : fitsB v n with
    | false => rw [hF, hf]; simp; omega
    | true =>
      have h' : 1 ≤ v ∧ v ≤ 8 ∧ 1 ≤ n ∧ n ≤ 256 := by simpa [fitsB] using hf
      have h2 : ¬ (0 ≤ a ∧ a < v ∧ 0 ≤ b ∧ b < n) := by
        intro hh
        have : placeB v n a b = true := by unfold placeB; rw [hf]; simpa using hh
        rw [this] at h; cases h
      rw [hF, hf]; simp; omega
  obtain ⟨p, hpp⟩ : ∃ p, p = v * n := ⟨_, rfl⟩
  have hmul := hpp.symm
  have i24 : F = true → ¬ 24 < p := fun h1 h2 => hg ⟨hF ▸ h1, hpp ▸ h2⟩
  have HB : Hid (fitsB v n = true → -9000000000000000000 ≤ p ∧ p ≤ 9000000000000000000) := fun hf => by
    have h' : 1 ≤ v ∧ v ≤ 8 ∧ 1 ≤ n ∧ n ≤ 256 := by simpa [fitsB] using hf
    obtain ⟨a1, a2, a3, a4⟩ := h'
    obtain ⟨v', rfl⟩ : ∃ v' : Nat, v = v' := ⟨v.toNat, by omega⟩
    obtain ⟨n', rfl⟩ : ∃ n' : Nat, n = n' := ⟨n.toNat, by omega⟩
    have : v' * n' ≤ 8 * 256 := Nat.mul_le_mul (by omega) (by omega)
    have e : (v' : Int) * (n' : Int) = ((v' * n' : Nat) : Int) := by simp
    rw [hpp, e]
    omega
  have HF := Lib.hid hF
  clear hF hg h hZB hZP hpp hz0
  have HCU : Hid (Ex0 w w) := Ex.refl _ _
  have hQ : F = true → ¬ 24 < p ∧ -9000000000000000000 ≤ p ∧ p ≤ 9000000000000000000 := fun h => ⟨i24 h, HB.out (HF.out.symm.trans h)⟩
  have hp' : (F = false ∧ 1 ≤ n) ∨ (F = false ∧ n < 1) ∨ (F = true ∧ (¬ 24 < p ∧ -9000000000000000000 ≤ p ∧ p ≤ 9000000000000000000) ∧ 1 ≤ n ∧ a < 0) ∨ (F = true ∧ (¬ 24 < p ∧ -9000000000000000000 ≤ p ∧ p ≤ 9000000000000000000) ∧ 1 ≤ n ∧ 0 ≤ a ∧ v ≤ a) ∨ (F = true ∧ (¬ 24 < p ∧ -9000000000000000000 ≤ p ∧ p ≤ 9000000000000000000) ∧ 1 ≤ n ∧ 0 ≤ a ∧ a < v ∧ b < 0) ∨ (F = true ∧ (¬ 24 < p ∧ -9000000000000000000 ≤ p ∧ p ≤ 9000000000000000000) ∧ 1 ≤ n ∧ 0 ≤ a ∧ a < v ∧ 0 ≤ b ∧ n ≤ b) := by
    rcases hp with h | h | h | h | h | h
    · exact .inl h
    · exact .inr (.inl h)
    · exact .inr (.inr (.inl ⟨h.1, hQ h.1, h.2⟩))
    · exact .inr (.inr (.inr (.inl ⟨h.1, hQ h.1, h.2⟩)))
    · exact .inr (.inr (.inr (.inr (.inl ⟨h.1, hQ h.1, h.2⟩))))
    · exact .inr (.inr (.inr (.inr (.inr ⟨h.1, hQ h.1, h.2⟩))))
  clear hQ hp i24 HB
  rcases hp' with ⟨rfl, h1⟩ | ⟨rfl, h1⟩ | ⟨rfl, ⟨i24, q1, q2⟩, h1, h2⟩ | ⟨rfl, ⟨i24, q1, q2⟩, h1, h2, h3⟩ | ⟨rfl, ⟨i24, q1, q2⟩, h1, h2, h3, h4⟩ | ⟨rfl, ⟨i24, q1, q2⟩, h1, h2, h3, h4, h5⟩
  all_goals
    go_enter Try.func4, Try.ntmps4
    go_wp2_with (first | (refine (awake_any _).mono ?_; rintro e w1 ⟨rfl, hx1⟩; have HCU := Lib.hid (HCU.out.trans0 hx1); clear hx1) | (refine (fits_any _ _ _).mono ?_; rintro e w' ⟨rfl, rfl⟩; rw [← HF.out]) | (refine (disk_any _ _ _ _ _).mono ?_; rintro e w2 ⟨rfl, _, _, hx2⟩; have HCU := Lib.hid (HCU.out.trans0 hx2); clear hx2) | (refine (HPN.out _ _).mono ?_; rintro e w3 ⟨rfl, hx3⟩; have HCU := Lib.hid (HCU.out.trans0 hx3); clear hx3) | (refine wpList_store_all rfl 41 (.tmp 11) (.tmp 47) rfl w3.heap.size rfl ZP _ rfl 41 (heap_alloc_new _ _) (by rw [hzs]; rfl) HZP.out (by rw [hzs]; kernel_rfl) ?_; rw [World.setRow_alloc_new]; obtain ⟨w5, hw5⟩ : ∃ w5, w5 = w3.alloc (.cells ZP 41) := ⟨_, rfl⟩; rw [← hw5]; have HCU : Hid (Ex0 w w5) := (by rw [hw5]; exact HCU.out.alloc' _); have h11 : w5.heap[w3.heap.size]? = some (.cells ZP 41 (0, 0)) := (by rw [hw5]; exact heap_alloc_new _ _); have c0 : w5.cell? ⟨w3.heap.size, 0, none⟩ = some (.int .i64 0) := (by rw [cell_of_row _ _ _ _ _ _ h11]; exact HZ0.out.1); have c1 : w5.cell? ⟨w3.heap.size, 1, none⟩ = some (.int .i64 0) := (by rw [cell_of_row _ _ _ _ _ _ h11]; exact HZ0.out.2.1); have c2 : w5.cell? ⟨w3.heap.size, 2, none⟩ = some (.int .i64 0) := (by rw [cell_of_row _ _ _ _ _ _ h11]; exact HZ0.out.2.2.1); have c3 : w5.cell? ⟨w3.heap.size, 3, none⟩ = some (.int .i64 0) := (by rw [cell_of_row _ _ _ _ _ _ h11]; exact HZ0.out.2.2.2.1); have c36 : w5.cell? ⟨w3.heap.size, 36, none⟩ = some (.slice none 0 0) := (by rw [cell_of_row _ _ _ _ _ _ h11]; exact HZ0.out.2.2.2.2); have HR : Hid (RowAt w5 ⟨w3.heap.size, 4, none⟩ ZB) := (fun j u hu => (by rw [Addr.add_lit, cell_of_row _ _ _ _ _ _ h11]; exact HZB.out j u hu)); clear hw5 h11) | refine wpList_load_at_g rfl 24 (.tmp 100) rfl ⟨w3.heap.size, 4, none⟩ rfl ZB _ HR.out Try.underlying24 rfl (by rw [hbs]; kernel_rfl) ?_)
    go_ret
    exact ⟨ret_bool (by simp), low_of_ex HCU.out⟩
end Go.Proofs.Ythbdmfbjkkmplaa
