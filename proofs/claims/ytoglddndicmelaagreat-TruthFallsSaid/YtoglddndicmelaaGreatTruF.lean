/- Branches of branches, plainly: sixteen twigs, and the list of those that are alive. -/
namespace Go.Proofs.YtoglddndicmelaaGreat.Tr

structure Tw where
  al : Bool
  pa : Int
  ba : Int
  nu : Int
def tw0 : Tw := ⟨false, 0, 0, 0⟩
def tg (fs : List Tw) (i : Nat) : Tw := fs.getD i tw0
def alive (fs : List Tw) (id : Int) : Bool := decide (0 ≤ id) && (decide (id < 16) && (id == 0 || (tg fs id.toNat).al))

structure FOk (fs : List Tw) : Prop where
  len : fs.length = 16
  root : tg fs 0 = tw0
  dead : ∀ i, (tg fs i).al = false → tg fs i = tw0
  par : ∀ i, (tg fs i).al = true → alive fs (tg fs i).pa = true ∧ (tg fs (tg fs i).pa.toNat).nu ≤ (tg fs i).ba ∧ (tg fs i).ba < (tg fs i).nu ∧ (tg fs i).nu ≤ 65535 ∧ 0 ≤ (tg fs i).ba

theorem tg_get {fs : List Tw} {i : Nat} (h : i < fs.length) : tg fs i = fs[i] := by unfold tg; simp [List.getD, List.getElem?_eq_getElem h]
theorem tg_out {fs : List Tw} {i : Nat} (h : fs.length ≤ i) : tg fs i = tw0 := by unfold tg; simp [List.getD, List.getElem?_eq_none h]
theorem tg_set {fs : List Tw} {i : Nat} (h : i < fs.length) (x : Tw) (j : Nat) : tg (fs.set i x) j = if j = i then x else tg fs j := by
  unfold tg
  by_cases e : j = i
  · subst e; simp [List.getD, h]
  · rw [if_neg e]; simp only [List.getD, List.getElem?_set_ne (fun h => e h.symm)]

theorem FOk.lt {fs : List Tw} (h : FOk fs) {i : Nat} (ha : (tg fs i).al = true) : i < 16 := by
  by_cases e : i < 16
  · exact e
  · rw [tg_out (by rw [h.len]; omega)] at ha; cases ha
theorem FOk.pos {fs : List Tw} (h : FOk fs) {i : Nat} (ha : (tg fs i).al = true) : i ≠ 0 := fun e => by rw [e, h.root] at ha; cases ha
theorem alive_nat (fs : List Tw) (i : Nat) : alive fs (i : Int) = (decide (i < 16) && (decide (i = 0) || (tg fs i).al)) := by
  unfold alive
  have h1 : decide ((0 : Int) ≤ (i : Int)) = true := by simp
  have h2 : decide ((i : Int) < 16) = decide (i < 16) := by rw [decide_eq_decide]; omega
  have h3 : ((i : Int) == 0) = decide (i = 0) := by rw [Bool.eq_iff_iff]; simp
  rw [h1, h2, h3]; simp
theorem alive_iff (fs : List Tw) (id : Int) : alive fs id = true ↔ ∃ i : Nat, id = i ∧ i < 16 ∧ (i = 0 ∨ (tg fs i).al = true) := by
  constructor
  · intro h
    simp only [alive, Bool.and_eq_true, decide_eq_true_eq, Bool.or_eq_true, beq_iff_eq] at h
    obtain ⟨h1, h2, h3⟩ := h
    exact ⟨id.toNat, by omega, by omega, h3.imp (fun h => by omega) _root_.id⟩
  · rintro ⟨i, rfl, h1, h2⟩
    rw [alive_nat]; simp [h1, h2]
theorem alive_root (fs : List Tw) : alive fs 0 = true := by unfold alive; simp
theorem FOk.nu_rng {fs : List Tw} (h : FOk fs) (i : Nat) : 0 ≤ (tg fs i).nu ∧ (tg fs i).nu ≤ 65535 := by
  cases ha : (tg fs i).al with
  | true => have := h.par i ha; omega
  | false => rw [h.dead i ha]; decide
theorem FOk.ba_rng {fs : List Tw} (h : FOk fs) (i : Nat) : 0 ≤ (tg fs i).ba ∧ (tg fs i).ba ≤ 65535 := by
  cases ha : (tg fs i).al with
  | true => have := h.par i ha; omega
  | false => rw [h.dead i ha]; decide
theorem FOk.pa_rng {fs : List Tw} (h : FOk fs) (i : Nat) : 0 ≤ (tg fs i).pa ∧ (tg fs i).pa < 16 := by
  cases ha : (tg fs i).al with
  | true => obtain ⟨j, e, hj, _⟩ := (alive_iff _ _).1 (h.par i ha).1; omega
  | false => rw [h.dead i ha]; decide

def fs0 : List Tw := List.replicate 16 tw0
theorem fok0 : FOk fs0 := by
  have e : ∀ i, tg fs0 i = tw0 := fun i => by
    by_cases h : i < 16
    · rw [tg_get (by simpa [fs0] using h)]; simp only [fs0, List.getElem_replicate]
    · exact tg_out (by simp [fs0]; omega)
  exact ⟨by simp [fs0], e 0, fun i _ => e i, fun i h => by rw [e i] at h; cases h⟩

/-- how many are forked of one -/
def kids (fs : List Tw) (id : Int) : Nat := if alive fs id then fs.countP (fun t => t.al && t.pa == id) else 0
/-- the number of a branch -/
def numF (fs : List Tw) (id : Int) : Int := if alive fs id then (tg fs id.toNat).nu else 0
def forkE (fs : List Tw) (id pa ba nu : Int) : Int :=
  if id < 1 ∨ 16 ≤ id then 2 else if (tg fs id.toNat).al then 5 else if alive fs pa = false then 4 else if ba < (tg fs pa.toNat).nu ∨ nu ≤ ba then 15 else 0
def forkF (fs : List Tw) (id pa ba nu : Int) : List Tw := if forkE fs id pa ba nu = 0 then fs.set id.toNat ⟨true, pa, ba, nu⟩ else fs
def dropE (fs : List Tw) (id : Int) : Int := if id = 0 then 7 else if alive fs id = false then 4 else if 0 < kids fs id then 12 else 0
def dropF (fs : List Tw) (id : Int) : List Tw := if dropE fs id = 0 then fs.set id.toNat tw0 else fs
/-- the least id that is not alive; 16: there is none -/
def freeF (fs : List Tw) : Nat := match (List.range 16).find? (fun i => decide (0 < i) && !(tg fs i).al) with | some i => i | none => 16

theorem forkE_ok {fs : List Tw} {id pa ba nu : Int} (h : forkE fs id pa ba nu = 0) : 1 ≤ id ∧ id < 16 ∧ (tg fs id.toNat).al = false ∧ alive fs pa = true ∧ (tg fs pa.toNat).nu ≤ ba ∧ ba < nu := by
  unfold forkE at h
  by_cases h1 : id < 1 ∨ 16 ≤ id
  · rw [if_pos h1] at h; cases h
  rw [if_neg h1] at h
  cases h2 : (tg fs id.toNat).al with
  | true => rw [h2, if_pos rfl] at h; cases h
  | false =>
    rw [h2, if_neg (by simp)] at h
    cases h3 : alive fs pa with
    | false => rw [if_pos h3] at h; cases h
    | true =>
      rw [if_neg (by rw [h3]; simp)] at h
      by_cases h4 : ba < (tg fs pa.toNat).nu ∨ nu ≤ ba
      · rw [if_pos h4] at h; cases h
      · exact ⟨by omega, by omega, rfl, rfl, by omega, by omega⟩
theorem alive_set {fs : List Tw} (hf : FOk fs) {i : Nat} (hi : i < 16) (h0 : i ≠ 0) (x : Tw) (id : Int) : alive (fs.set i x) id = if id = i then x.al else alive fs id := by
  have hl : i < fs.length := by rw [hf.len]; exact hi
  by_cases e : id = i
  · rw [if_pos e, e, alive_nat, tg_set hl, if_pos rfl]
    simp [hi, h0]
  · rw [if_neg e]
    unfold alive
    by_cases h1 : 0 ≤ id
    · rw [tg_set hl, if_neg (by omega)]
    · simp [h1]
theorem fok_fork {fs : List Tw} (hf : FOk fs) {id pa ba nu : Int} (hn : nu ≤ 65535) : FOk (forkF fs id pa ba nu) := by
  unfold forkF
  by_cases h : forkE fs id pa ba nu = 0
  · rw [if_pos h]
    obtain ⟨h1, h2, h3, h4, h5, h6⟩ := forkE_ok h
    have hl : id.toNat < fs.length := by rw [hf.len]; omega
    have hp : pa ≠ id := by
      rintro rfl
      obtain ⟨i, e, hi, h⟩ := (alive_iff _ _).1 h4
      rcases h with h | h
      · omega
      · have e' : pa.toNat = i := by omega
        rw [e', h] at h3; cases h3
    have hp' : 0 ≤ pa := by obtain ⟨i, e, _⟩ := (alive_iff _ _).1 h4; omega
    have ha : ∀ q, alive fs q = true → alive (fs.set id.toNat ⟨true, pa, ba, nu⟩) q = true := fun q hq => by
      rw [alive_set hf (by omega) (by omega)]; split
      · rfl
      · exact hq
    have hnu := hf.nu_rng pa.toNat
    refine ⟨by rw [List.length_set]; exact hf.len, ?_, fun i => ?_, fun i => ?_⟩
    · rw [tg_set hl, if_neg (by omega)]; exact hf.root
    · rw [tg_set hl]; split
      · intro h; cases h
      · exact hf.dead i
    · rw [tg_set hl]; split
      · intro _
        dsimp only
        rw [tg_set hl, if_neg (by omega)]
        exact ⟨ha _ h4, h5, h6, hn, by omega⟩
      · intro hi
        obtain ⟨a1, a2, a3, a4, a5⟩ := hf.par i hi
        refine ⟨ha _ a1, ?_, a3, a4, a5⟩
        rw [tg_set hl, if_neg]
        · exact a2
        · intro e
          obtain ⟨j, e2, hj, h⟩ := (alive_iff _ _).1 a1
          rcases h with h | h
          · omega
          · rw [← show (tg fs i).pa.toNat = j by omega, e, h3] at h; cases h
  · rw [if_neg h]; exact hf
theorem dropE_ok {fs : List Tw} {id : Int} (h : dropE fs id = 0) : id ≠ 0 ∧ alive fs id = true ∧ kids fs id = 0 := by
  unfold dropE at h
  by_cases h1 : id = 0
  · rw [if_pos h1] at h; cases h
  rw [if_neg h1] at h
  cases h2 : alive fs id with
  | false => rw [if_pos h2] at h; cases h
  | true =>
    rw [if_neg (by rw [h2]; simp)] at h
    by_cases h3 : 0 < kids fs id
    · rw [if_pos h3] at h; cases h
    · exact ⟨h1, rfl, by omega⟩
theorem kids_none {fs : List Tw} {id : Int} (ha : alive fs id = true) (h : kids fs id = 0) (i : Nat) (hi : (tg fs i).al = true) : (tg fs i).pa ≠ id := by
  intro e
  unfold kids at h
  rw [if_pos ha, List.countP_eq_zero] at h
  have hl : i < fs.length := by
    by_cases hl : i < fs.length
    · exact hl
    · rw [tg_out (by omega)] at hi; cases hi
  have := h (tg fs i) (by rw [tg_get hl]; exact List.getElem_mem hl)
  rw [hi, e] at this; simp at this
theorem fok_drop {fs : List Tw} (hf : FOk fs) {id : Int} : FOk (dropF fs id) := by
  unfold dropF
  by_cases h : dropE fs id = 0
  · rw [if_pos h]
    obtain ⟨h1, h2, h3⟩ := dropE_ok h
    obtain ⟨k, rfl, hk, _⟩ := (alive_iff _ _).1 h2
    have hl : k < fs.length := by rw [hf.len]; exact hk
    have hk0 : k ≠ 0 := by omega
    simp only [Int.toNat_natCast]
    refine ⟨by rw [List.length_set]; exact hf.len, ?_, fun i => ?_, fun i => ?_⟩
    · rw [tg_set hl, if_neg (by omega)]; exact hf.root
    · rw [tg_set hl]; split
      · intro _; rfl
      · exact hf.dead i
    · rw [tg_set hl]; split
      · intro h; cases h
      · intro hi
        obtain ⟨a1, a2, a3, a4, a5⟩ := hf.par i hi
        have hne := kids_none h2 h3 i hi
        have h0 := (hf.pa_rng i).1
        refine ⟨?_, ?_, a3, a4, a5⟩
        · rw [alive_set hf hk hk0, if_neg hne]; exact a1
        · rw [tg_set hl, if_neg (by omega)]; exact a2
  · rw [if_neg h]; exact hf
theorem freeF_spec (fs : List Tw) : (freeF fs < 16 ∧ 0 < freeF fs ∧ (tg fs (freeF fs)).al = false ∧ ∀ j : Nat, j < freeF fs → alive fs (j : Int) = true) ∨ (freeF fs = 16 ∧ ∀ j : Nat, j < 16 → alive fs (j : Int) = true) := by
  unfold freeF
  cases h : (List.range 16).find? (fun i => decide (0 < i) && !(tg fs i).al) with
  | some i =>
    left
    obtain ⟨h1, h2⟩ := List.find?_range_eq_some.1 h
    simp only [Bool.and_eq_true, decide_eq_true_eq, Bool.not_eq_true'] at h1
    dsimp only
    refine ⟨by simpa using h2.1, h1.1, h1.2, fun j hj => ?_⟩
    have := h2.2 j hj
    rw [alive_nat]
    have hi := List.mem_range.1 h2.1
    simp only [Bool.not_eq_true', Bool.and_eq_false_iff, decide_eq_false_iff_not, Bool.not_eq_false'] at this
    simp only [Bool.and_eq_true, decide_eq_true_eq, Bool.or_eq_true]
    exact ⟨by omega, this.imp (fun h => by omega) id⟩
  | none =>
    right
    refine ⟨rfl, fun j hj => ?_⟩
    have := List.find?_eq_none.1 h j (List.mem_range.2 hj)
    rw [alive_nat]
    simp only [Bool.not_eq_true', Bool.and_eq_true, decide_eq_true_eq, not_and] at this
    simp only [Bool.and_eq_true, decide_eq_true_eq, Bool.or_eq_true]
    by_cases h0 : j = 0
    · exact ⟨hj, .inl h0⟩
    · exact ⟨hj, .inr (by simpa using this (by omega))⟩

/-- a branch as the document has it -/
structure Br where
  id : Int
  pa : Int
  ba : Int
  nu : Int
def brOf (fs : List Tw) (i : Nat) : Br := ⟨i, (tg fs i).pa, (tg fs i).ba, (tg fs i).nu⟩
def brs (fs : List Tw) : List Br := ((List.range 16).filter fun i => (tg fs i).al).map (brOf fs)
theorem brs_len (fs : List Tw) : (brs fs).length ≤ 16 := by
  unfold brs; rw [List.length_map]; have := List.length_filter_le (fun i => (tg fs i).al) (List.range 16); simpa using this
theorem brs_mem {fs : List Tw} {b : Br} : b ∈ brs fs ↔ ∃ i, i < 16 ∧ (tg fs i).al = true ∧ b = brOf fs i := by
  unfold brs
  simp only [List.mem_map, List.mem_filter, List.mem_range]
  constructor
  · rintro ⟨i, ⟨h1, h2⟩, h3⟩; exact ⟨i, h1, h2, h3.symm⟩
  · rintro ⟨i, h1, h2, h3⟩; exact ⟨i, ⟨h1, h2⟩, h3.symm⟩
theorem brs_srt (fs : List Tw) : (brs fs).Pairwise (fun x y => x.id < y.id) := by
  unfold brs
  rw [List.pairwise_map]
  refine (List.Pairwise.filter _ List.pairwise_lt_range).imp ?_
  intro a b h
  show (a : Int) < (b : Int)
  omega
/-- is a branch alive, by the list -/
def ralive (bs : List Br) (id : Int) : Bool := id == 0 || bs.any (·.id == id)
def rnum (bs : List Br) (id : Int) : Int := match bs.find? (·.id == id) with | some b => b.nu | none => 0
def rkids (bs : List Br) (id : Int) : Nat := bs.countP (·.pa == id)
theorem any_brs {fs : List Tw} (hf : FOk fs) (id : Int) : (brs fs).any (·.id == id) = (alive fs id && !(id == 0)) := by
  rw [Bool.eq_iff_iff, List.any_eq_true]
  constructor
  · rintro ⟨b, hb, e⟩
    obtain ⟨i, h1, h2, rfl⟩ := brs_mem.1 hb
    have e' : (i : Int) = id := by simpa [brOf] using e
    subst e'
    have := hf.pos h2
    rw [alive_nat]; simp [h1, h2]; omega
  · intro h
    simp only [Bool.and_eq_true, Bool.not_eq_true', beq_eq_false_iff_ne] at h
    obtain ⟨i, rfl, h1, h2⟩ := (alive_iff _ _).1 h.1
    rcases h2 with h2 | h2
    · omega
    · exact ⟨brOf fs i, brs_mem.2 ⟨i, h1, h2, rfl⟩, by simp [brOf]⟩
theorem ralive_brs {fs : List Tw} (hf : FOk fs) (id : Int) : ralive (brs fs) id = alive fs id := by
  unfold ralive
  rw [any_brs hf]
  by_cases h : id = 0
  · subst h; rw [alive_root]; rfl
  · have e : (id == 0) = false := by simpa using h
    rw [e]; simp
theorem find_brs {fs : List Tw} (hf : FOk fs) (id : Int) : (brs fs).find? (·.id == id) = if alive fs id && !(id == 0) then some (brOf fs id.toNat) else none := by
  cases h : (brs fs).find? (·.id == id) with
  | none =>
    rw [if_neg]
    rw [← any_brs hf, List.any_eq_true]
    rintro ⟨b, hb, e⟩
    exact List.find?_eq_none.1 h b hb e
  | some b =>
    have h1 := List.find?_some h
    have h2 := List.mem_of_find?_eq_some h
    rw [if_pos]
    · obtain ⟨i, _, _, rfl⟩ := brs_mem.1 h2
      have e : (i : Int) = id := by simpa [brOf] using h1
      subst e; simp
    · rw [← any_brs hf, List.any_eq_true]; exact ⟨b, h2, h1⟩
theorem rnum_brs {fs : List Tw} (hf : FOk fs) (id : Int) : rnum (brs fs) id = numF fs id := by
  unfold rnum numF
  rw [find_brs hf]
  by_cases h0 : id = 0
  · subst h0
    rw [if_neg (by simp), if_pos (alive_root fs)]
    show 0 = (tg fs 0).nu
    rw [hf.root]; rfl
  · cases ha : alive fs id <;> simp [h0, brOf]
theorem countP_range (p : Tw → Bool) : ∀ (n : Nat) (fs : List Tw), fs.length = n → fs.countP p = (List.range n).countP (fun i => p (tg fs i)) := by
  intro n
  induction n with
  | zero => intro fs h; rw [List.eq_nil_of_length_eq_zero h]; rfl
  | succ n ih =>
    intro fs h
    rw [List.range_succ, List.countP_append]
    have hd : fs = fs.take n ++ [tg fs n] := by
      rw [tg_get (by omega)]
      conv => lhs; rw [← List.take_append_drop n fs]
      rw [List.drop_eq_getElem_cons (by omega), List.drop_eq_nil_of_le (by omega)]
    have e1 := ih (fs.take n) (by rw [List.length_take]; omega)
    have e2 : (List.range n).countP (fun i => p (tg (fs.take n) i)) = (List.range n).countP (fun i => p (tg fs i)) := by
      apply List.countP_congr
      intro i hi
      have hi' := List.mem_range.1 hi
      unfold tg
      simp [List.getD, hi']
    conv => lhs; rw [hd]
    rw [List.countP_append, e1, e2]
    simp [List.countP_cons]
theorem rkids_brs {fs : List Tw} (hf : FOk fs) {id : Int} (ha : alive fs id = true) : rkids (brs fs) id = kids fs id := by
  unfold rkids kids brs
  rw [if_pos ha, List.countP_map, List.countP_filter, countP_range _ 16 fs hf.len]
  apply List.countP_congr
  intro i _
  simp only [Function.comp, brOf, Bool.and_eq_true]
  exact And.comm

/-- the ids below, and above -/
theorem range_split {i : Nat} (hi : i < 16) : List.range 16 = List.range i ++ i :: (List.range (15 - i)).map (· + (i + 1)) := by
  have h : (16 : Nat) = i + (1 + (15 - i)) := by omega
  conv => lhs; rw [h, List.range_add]
  rw [List.range_add]
  simp only [List.map_append, List.map_map]
  congr 1
  simp only [List.range_one, List.map_cons, List.map_nil, Nat.add_zero, List.cons_append, List.nil_append]
  congr 1
  apply List.map_congr_left
  intro a _
  simp only [Function.comp]; omega
def lowB (fs : List Tw) (i : Nat) : List Br := ((List.range i).filter fun i => (tg fs i).al).map (brOf fs)
def highB (fs : List Tw) (i : Nat) : List Br := (((List.range (15 - i)).map (· + (i + 1))).filter fun i => (tg fs i).al).map (brOf fs)
theorem brs_split (fs : List Tw) {i : Nat} (hi : i < 16) : brs fs = lowB fs i ++ ((if (tg fs i).al then [brOf fs i] else []) ++ highB fs i) := by
  unfold brs lowB highB
  conv => lhs; rw [range_split hi]
  rw [List.filter_append, List.map_append, List.filter_cons]
  split
  · simp
  · simp
theorem low_set {fs : List Tw} {i : Nat} (hl : i < fs.length) (x : Tw) : lowB (fs.set i x) i = lowB fs i := by
  unfold lowB
  have e : ∀ j ∈ List.range i, tg (fs.set i x) j = tg fs j := fun j hj => by rw [tg_set hl, if_neg (by have := List.mem_range.1 hj; omega)]
  rw [List.filter_congr (q := fun j => (tg fs j).al) (fun j hj => by rw [e j hj])]
  apply List.map_congr_left
  intro j hj
  unfold brOf
  rw [e j (List.mem_filter.1 hj).1]
theorem high_set {fs : List Tw} {i : Nat} (hl : i < fs.length) (x : Tw) : highB (fs.set i x) i = highB fs i := by
  unfold highB
  have e : ∀ j ∈ (List.range (15 - i)).map (· + (i + 1)), tg (fs.set i x) j = tg fs j := fun j hj => by
    obtain ⟨k, _, rfl⟩ := List.mem_map.1 hj
    rw [tg_set hl, if_neg (by omega)]
  rw [List.filter_congr (q := fun j => (tg fs j).al) (fun j hj => by rw [e j hj])]
  apply List.map_congr_left
  intro j hj
  unfold brOf
  rw [e j (List.mem_filter.1 hj).1]
theorem low_id {fs : List Tw} {i : Nat} {b : Br} (h : b ∈ lowB fs i) : b.id < i := by
  unfold lowB at h
  simp only [List.mem_map, List.mem_filter, List.mem_range] at h
  obtain ⟨j, ⟨h1, _⟩, rfl⟩ := h
  show (j : Int) < i
  omega
theorem high_id {fs : List Tw} {i : Nat} {b : Br} (h : b ∈ highB fs i) : (i : Int) < b.id := by
  unfold highB at h
  simp only [List.mem_map, List.mem_filter, List.mem_range] at h
  obtain ⟨j, ⟨⟨k, _, rfl⟩, _⟩, rfl⟩ := h
  show (i : Int) < ((k + (i + 1) : Nat) : Int)
  omega
/-- how many have a lesser id -/
def lowN (bs : List Br) (id : Int) : Nat := bs.countP (fun b => decide (b.id < id))
theorem lowN_brs (fs : List Tw) {i : Nat} (hi : i < 16) : lowN (brs fs) i = (lowB fs i).length := by
  unfold lowN
  rw [brs_split fs hi, List.countP_append, List.countP_append]
  have h1 : (lowB fs i).countP (fun b => decide (b.id < (i : Int))) = (lowB fs i).length := List.countP_eq_length.2 (fun b hb => by simpa using low_id hb)
  have h2 : (highB fs i).countP (fun b => decide (b.id < (i : Int))) = 0 := List.countP_eq_zero.2 (fun b hb => by have := high_id hb; simp; omega)
  have h3 : (if (tg fs i).al then [brOf fs i] else []).countP (fun b => decide (b.id < (i : Int))) = 0 := List.countP_eq_zero.2 (fun b hb => by
    split at hb
    · rw [List.mem_singleton.1 hb]; simp [brOf]
    · cases hb)
  rw [h1, h2, h3]; rfl
theorem brs_fork {fs : List Tw} (hf : FOk fs) {i : Nat} (hi : i < 16) (hd : (tg fs i).al = false) (pa ba nu : Int) :
    brs (fs.set i ⟨true, pa, ba, nu⟩) = (brs fs).take (lowN (brs fs) i) ++ ⟨i, pa, ba, nu⟩ :: (brs fs).drop (lowN (brs fs) i) := by
  have hl : i < fs.length := by rw [hf.len]; exact hi
  rw [lowN_brs fs hi, brs_split fs hi, brs_split (fs.set i _) hi, low_set hl, high_set hl, hd]
  have e : brOf (fs.set i ⟨true, pa, ba, nu⟩) i = ⟨i, pa, ba, nu⟩ := by unfold brOf; rw [tg_set hl, if_pos rfl]
  rw [tg_set hl, if_pos rfl, e]
  simp
theorem brs_drop {fs : List Tw} (hf : FOk fs) {i : Nat} (hi : i < 16) (ha : (tg fs i).al = true) :
    brs (fs.set i tw0) = (brs fs).take (lowN (brs fs) i) ++ (brs fs).drop (lowN (brs fs) i + 1) ∧ (brs fs)[lowN (brs fs) i]? = some (brOf fs i) := by
  have hl : i < fs.length := by rw [hf.len]; exact hi
  rw [lowN_brs fs hi, brs_split fs hi, brs_split (fs.set i _) hi, low_set hl, high_set hl, ha]
  rw [tg_set hl, if_pos rfl]
  have e : (tw0.al = true) = False := by simp [tw0]
  simp [tw0]

/-- a step of a line -/
structure Stp where
  br : Int
  lo : Int
  hi : Int
/-- a branch's line, by so many steps -/
def lineN (fs : List Tw) : Nat → Nat → Int → List Stp
  | 0, _, _ => []
  | n + 1, id, m => ⟨id, (tg fs id).nu, m⟩ :: (if id = 0 then [] else lineN fs n (tg fs id).pa.toNat (tg fs id).ba)
def lineF (fs : List Tw) (id : Nat) (m : Int) : List Stp := lineN fs ((tg fs id).nu.toNat + 1) id m
theorem lineN_more {fs : List Tw} (hf : FOk fs) : ∀ (n k : Nat) (id : Nat) (m : Int), alive fs (id : Int) = true → (tg fs id).nu.toNat < n → (tg fs id).nu.toNat < k → lineN fs n id m = lineN fs k id m := by
  intro n
  induction n with
  | zero => intro k id m _ h; omega
  | succ n ih =>
    intro k id m ha h1 h2
    obtain ⟨k, rfl⟩ : ∃ j, k = j + 1 := ⟨k - 1, by omega⟩
    unfold lineN
    by_cases h0 : id = 0
    · rw [if_pos h0, if_pos h0]
    · rw [if_neg h0, if_neg h0]
      congr 1
      obtain ⟨i, e, hi, hh⟩ := (alive_iff _ _).1 ha
      obtain rfl : id = i := by omega
      have hal : (tg fs id).al = true := hh.resolve_left h0
      have hp := hf.par id hal
      have hr := hf.pa_rng id
      refine ih k _ _ ?_ (by omega) (by omega)
      rw [Int.toNat_of_nonneg hr.1]; exact hp.1
theorem lineF_step {fs : List Tw} (hf : FOk fs) {id : Nat} (m : Int) (ha : alive fs (id : Int) = true) :
    lineF fs id m = ⟨id, (tg fs id).nu, m⟩ :: (if id = 0 then [] else lineF fs (tg fs id).pa.toNat (tg fs id).ba) := by
  unfold lineF
  conv => lhs; unfold lineN
  congr 1
  by_cases h0 : id = 0
  · rw [if_pos h0, if_pos h0]
  · rw [if_neg h0, if_neg h0]
    obtain ⟨i, e, hi, hh⟩ := (alive_iff _ _).1 ha
    obtain rfl : id = i := by omega
    have hal : (tg fs id).al = true := hh.resolve_left h0
    have hp := hf.par id hal
    have hr := hf.pa_rng id
    refine lineN_more hf _ _ _ _ ?_ (by omega) (by omega)
    rw [Int.toNat_of_nonneg hr.1]; exact hp.1
theorem lineN_len (fs : List Tw) : ∀ (n id : Nat) (m : Int), (lineN fs n id m).length ≤ n := by
  intro n
  induction n with
  | zero => intro _ _; simp [lineN]
  | succ n ih =>
    intro id m
    unfold lineN
    split
    · simp
    · have := ih (tg fs id).pa.toNat (tg fs id).ba
      simp; omega
theorem lineF_len {fs : List Tw} (hf : FOk fs) (id : Nat) (m : Int) : (lineF fs id m).length ≤ 65536 := by
  have h1 := lineN_len fs ((tg fs id).nu.toNat + 1) id m
  have h2 := hf.nu_rng id
  unfold lineF; omega
end Go.Proofs.YtoglddndicmelaaGreat.Tr
