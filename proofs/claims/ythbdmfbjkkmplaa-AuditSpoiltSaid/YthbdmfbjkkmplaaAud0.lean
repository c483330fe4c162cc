/- The hash of layer 3 as a plain function on numbers. The tree of layer 47 as plain functions on lists. -/

namespace Go.Proofs.Ythbdmfbjkkmplaa.Sha

def rotr (x n : Nat) : Nat := (x / 2 ^ n + x * 2 ^ (32 - n)) % 4294967296
def sg0 (x : Nat) : Nat := rotr x 7 ^^^ rotr x 18 ^^^ x / 8
def sg1 (x : Nat) : Nat := rotr x 17 ^^^ rotr x 19 ^^^ x / 1024
def ep0 (x : Nat) : Nat := rotr x 2 ^^^ rotr x 13 ^^^ rotr x 22
def ep1 (x : Nat) : Nat := rotr x 6 ^^^ rotr x 11 ^^^ rotr x 25
def chf (e f g : Nat) : Nat := (e &&& f) ^^^ ((4294967295 - e) &&& g)
def maj (a b c : Nat) : Nat := (a &&& b) ^^^ (a &&& c) ^^^ (b &&& c)

def word4 (blk : List Nat) (i : Nat) : Nat := blk.getD (4 * i) 0 * 16777216 + blk.getD (4 * i + 1) 0 * 65536 + blk.getD (4 * i + 2) 0 * 256 + blk.getD (4 * i + 3) 0
def nextW (w : List Nat) : Nat := (w.getD (w.length - 16) 0 + w.getD (w.length - 7) 0 + sg0 (w.getD (w.length - 15) 0) + sg1 (w.getD (w.length - 2) 0)) % 4294967296
/-- the first n words of a block -/
def sched (blk : List Nat) : Nat → List Nat
  | 0 => []
  | n + 1 => sched blk n ++ [if n < 16 then word4 blk n else nextW (sched blk n)]

def rnd (s : List Nat) (k w : Nat) : List Nat :=
  let t1 := (s.getD 7 0 + ep1 (s.getD 4 0) + chf (s.getD 4 0) (s.getD 5 0) (s.getD 6 0) + k + w) % 4294967296
  let t2 := (ep0 (s.getD 0 0) + maj (s.getD 0 0) (s.getD 1 0) (s.getD 2 0)) % 4294967296
  [(t1 + t2) % 4294967296, s.getD 0 0, s.getD 1 0, s.getD 2 0, (s.getD 3 0 + t1) % 4294967296, s.getD 4 0, s.getD 5 0, s.getD 6 0]

def ks : List Nat := [
  0x428a2f98, 0x71374491, 0xb5c0fbcf, 0xe9b5dba5, 0x3956c25b, 0x59f111f1, 0x923f82a4, 0xab1c5ed5,
  0xd807aa98, 0x12835b01, 0x243185be, 0x550c7dc3, 0x72be5d74, 0x80deb1fe, 0x9bdc06a7, 0xc19bf174,
  0xe49b69c1, 0xefbe4786, 0x0fc19dc6, 0x240ca1cc, 0x2de92c6f, 0x4a7484aa, 0x5cb0a9dc, 0x76f988da,
  0x983e5152, 0xa831c66d, 0xb00327c8, 0xbf597fc7, 0xc6e00bf3, 0xd5a79147, 0x06ca6351, 0x14292967,
  0x27b70a85, 0x2e1b2138, 0x4d2c6dfc, 0x53380d13, 0x650a7354, 0x766a0abb, 0x81c2c92e, 0x92722c85,
  0xa2bfe8a1, 0xa81a664b, 0xc24b8b70, 0xc76c51a3, 0xd192e819, 0xd6990624, 0xf40e3585, 0x106aa070,
  0x19a4c116, 0x1e376c08, 0x2748774c, 0x34b0bcb5, 0x391c0cb3, 0x4ed8aa4a, 0x5b9cca4f, 0x682e6ff3,
  0x748f82ee, 0x78a5636f, 0x84c87814, 0x8cc70208, 0x90befffa, 0xa4506ceb, 0xbef9a3f7, 0xc67178f2]
def h0 : List Nat := [0x6a09e667, 0xbb67ae85, 0x3c6ef372, 0xa54ff53a, 0x510e527f, 0x9b05688c, 0x1f83d9ab, 0x5be0cd19]

/-- the state behind n rounds -/
def rnds (h : List Nat) (ws : List Nat) : Nat → List Nat
  | 0 => h
  | n + 1 => rnd (rnds h ws n) (ks.getD n 0) (ws.getD n 0)
def addW (a b : List Nat) : List Nat := List.zipWith (fun x y => (x + y) % 4294967296) a b
def compress (h blk : List Nat) : List Nat := addW (rnds h (sched blk 64) 64) h

def padN (n : Nat) : Nat := (n + 9 + (64 - (n + 9) % 64) % 64) - n - 9
def lenB (n : Nat) : List Nat := (List.range 8).map fun i => (n * 8 / 256 ^ (7 - i)) % 256
def pad (b : List Nat) : List Nat := b ++ 128 :: (List.replicate (padN b.length) 0 ++ lenB b.length)
/-- the hash behind n blocks -/
def hashN (p : List Nat) : Nat → List Nat
  | 0 => h0
  | n + 1 => compress (hashN p n) ((p.drop (64 * n)).take 64)
def outB (h : List Nat) : List Nat := (List.range 32).map fun i => h.getD (i / 4) 0 / 256 ^ (3 - i % 4) % 256
def sum (b : List Nat) : List Nat := outB (hashN (pad b) ((pad b).length / 64))
def chain (prev b : List Nat) : List Nat := (sum (prev ++ b)).take 16

theorem rotr_lt (x n : Nat) : rotr x n < 4294967296 := Nat.mod_lt _ (by decide)
theorem div_lt {x k : Nat} (h : x < 4294967296) : x / k < 4294967296 := Nat.lt_of_le_of_lt (Nat.div_le_self _ _) h
theorem xor_lt {a b : Nat} (h1 : a < 4294967296) (h2 : b < 4294967296) : a ^^^ b < 4294967296 := Nat.xor_lt_two_pow (n := 32) h1 h2
theorem and_lt {a b : Nat} (h1 : a < 4294967296) : a &&& b < 4294967296 := Nat.lt_of_le_of_lt Nat.and_le_left h1
theorem sg0_lt {x : Nat} (h : x < 4294967296) : sg0 x < 4294967296 := xor_lt (xor_lt (rotr_lt _ _) (rotr_lt _ _)) (div_lt h)
theorem sg1_lt {x : Nat} (h : x < 4294967296) : sg1 x < 4294967296 := xor_lt (xor_lt (rotr_lt _ _) (rotr_lt _ _)) (div_lt h)
theorem ep0_lt (x : Nat) : ep0 x < 4294967296 := xor_lt (xor_lt (rotr_lt _ _) (rotr_lt _ _)) (rotr_lt _ _)
theorem ep1_lt (x : Nat) : ep1 x < 4294967296 := xor_lt (xor_lt (rotr_lt _ _) (rotr_lt _ _)) (rotr_lt _ _)
theorem chf_lt {e f g : Nat} (h : e < 4294967296) : chf e f g < 4294967296 := xor_lt (and_lt h) (and_lt (by omega))
theorem maj_lt {a b c : Nat} (h : a < 4294967296) (hb : b < 4294967296) : maj a b c < 4294967296 := xor_lt (xor_lt (and_lt h) (and_lt h)) (and_lt hb)

/-- a turned word, as the program joins it -/
theorem rotr_or_aux {a b k q : Nat} (h1 : a + 1 ≤ q) (h2 : b < k) (e : (4294967296 : Nat) = q * k) : (b + a * k) % 4294967296 = a * k + b := by
  have h3 : (a + 1) * k ≤ q * k := Nat.mul_le_mul_right _ h1
  rw [Nat.succ_mul, ← e] at h3
  rw [Nat.mod_eq_of_lt (by omega)]; omega
theorem rotr_or {x n : Nat} (hx : x < 4294967296) (h2 : n ≤ 32) : (x * 2 ^ (32 - n)) % 4294967296 ||| x / 2 ^ n = rotr x n := by
  have e : (4294967296 : Nat) = 2 ^ n * 2 ^ (32 - n) := by rw [← Nat.pow_add, show n + (32 - n) = 32 by omega]
  have h3 : (x * 2 ^ (32 - n)) % 4294967296 = (x % 2 ^ n) * 2 ^ (32 - n) := by
    rw [e, Nat.mul_mod_mul_right]
  have h4 : x / 2 ^ n < 2 ^ (32 - n) := by
    rw [Nat.div_lt_iff_lt_mul (Nat.two_pow_pos n), Nat.mul_comm, ← e]; exact hx
  have h5 : x % 2 ^ n < 2 ^ n := Nat.mod_lt _ (Nat.two_pow_pos n)
  have h6 : (x % 2 ^ n) * 2 ^ (32 - n) ||| x / 2 ^ n = (x % 2 ^ n) * 2 ^ (32 - n) + x / 2 ^ n := by
    rw [← Nat.shiftLeft_eq, ← Nat.shiftLeft_add_eq_or_of_lt h4]
  unfold rotr
  rw [h3, h6, Nat.add_mod, h3, Nat.mod_eq_of_lt (div_lt hx)]
  exact (rotr_or_aux h5 h4 e).symm
theorem sched_len (blk : List Nat) : ∀ n, (sched blk n).length = n
  | 0 => rfl
  | n + 1 => by simp [sched, sched_len blk n]
theorem rnds_len (h ws : List Nat) (hh : h.length = 8) : ∀ n, (rnds h ws n).length = 8
  | 0 => hh
  | n + 1 => by simp [rnds, rnd]
theorem word4_lt {blk : List Nat} (hb : ∀ x ∈ blk, x < 256) (i : Nat) : word4 blk i < 4294967296 := by
  have h : ∀ j, blk.getD j 0 < 256 := fun j => by
    rw [List.getD_eq_getElem?_getD]
    rcases Nat.lt_or_ge j blk.length with h | h
    · rw [List.getElem?_eq_getElem h]; exact hb _ (List.getElem_mem h)
    · rw [List.getElem?_eq_none h]; decide
  have := h (4 * i); have := h (4 * i + 1); have := h (4 * i + 2); have := h (4 * i + 3)
  unfold word4; omega
theorem sched_lt {blk : List Nat} (hb : ∀ x ∈ blk, x < 256) : ∀ n, ∀ x ∈ sched blk n, x < 4294967296
  | 0, x, h => by cases h
  | n + 1, x, h => by
    simp only [sched, List.mem_append, List.mem_singleton] at h
    rcases h with h | h
    · exact sched_lt hb n x h
    · subst h; split
      · exact word4_lt hb n
      · exact Nat.mod_lt _ (by decide)
theorem sched_get (blk : List Nat) : ∀ (n i : Nat), i < n → (sched blk n).getD i 0 = if i < 16 then word4 blk i else nextW (sched blk i)
  | 0, i, h => by omega
  | n + 1, i, h => by
    simp only [sched]
    rw [List.getD_eq_getElem?_getD]
    rcases Nat.lt_or_ge i n with h1 | h1
    · rw [List.getElem?_append_left (by rw [sched_len]; exact h1), ← List.getD_eq_getElem?_getD]
      exact sched_get blk n i h1
    · have e : i = n := by omega
      subst e
      rw [List.getElem?_append_right (by rw [sched_len]; exact Nat.le_refl _), sched_len, Nat.sub_self]; rfl
theorem sched_pre (blk : List Nat) {n m : Nat} (h : n ≤ m) (i : Nat) (hi : i < n) : (sched blk m).getD i 0 = (sched blk n).getD i 0 := by
  rw [sched_get blk m i (by omega), sched_get blk n i hi]
theorem rnds_lt {h ws : List Nat} (hh : ∀ x ∈ h, x < 4294967296) : ∀ n, ∀ x ∈ rnds h ws n, x < 4294967296
  | 0, x, hx => hh x hx
  | n + 1, x, hx => by
    have ih := rnds_lt hh (ws := ws) n
    have hg : ∀ j, (rnds h ws n).getD j 0 < 4294967296 := fun j => by
      rw [List.getD_eq_getElem?_getD]
      rcases Nat.lt_or_ge j (rnds h ws n).length with h1 | h1
      · rw [List.getElem?_eq_getElem h1]; exact ih _ (List.getElem_mem h1)
      · rw [List.getElem?_eq_none h1]; decide
    simp only [rnds, rnd, List.mem_cons, List.not_mem_nil, or_false] at hx
    rcases hx with rfl | rfl | rfl | rfl | rfl | rfl | rfl | rfl <;> first | exact hg _ | exact Nat.mod_lt _ (by decide)
theorem addW_len {a b : List Nat} (h : a.length = b.length) : (addW a b).length = b.length := by simp [addW, h]
theorem addW_lt {a b : List Nat} : ∀ x ∈ addW a b, x < 4294967296 := by
  intro x hx
  unfold addW at hx
  obtain ⟨i, hi, rfl⟩ := List.getElem_of_mem hx
  rw [List.getElem_zipWith]; exact Nat.mod_lt _ (by decide)
theorem compress_len (h blk : List Nat) (hh : h.length = 8) : (compress h blk).length = 8 := by
  unfold compress; rw [addW_len (by rw [rnds_len h _ hh, hh]), hh]
theorem compress_lt (h blk : List Nat) : ∀ x ∈ compress h blk, x < 4294967296 := addW_lt
theorem hashN_len (p : List Nat) : ∀ n, (hashN p n).length = 8
  | 0 => rfl
  | n + 1 => compress_len _ _ (hashN_len p n)
theorem hashN_lt (p : List Nat) : ∀ n, ∀ x ∈ hashN p n, x < 4294967296
  | 0 => fun x hx => (by decide : ∀ x ∈ h0, x < 4294967296) x hx
  | n + 1 => compress_lt _ _
theorem sum_len (b : List Nat) : (sum b).length = 32 := by simp [sum, outB]
theorem sum_lt (b : List Nat) : ∀ x ∈ sum b, x < 256 := by
  intro x hx
  unfold sum outB at hx
  obtain ⟨i, _, rfl⟩ := List.mem_map.1 hx
  exact Nat.mod_lt _ (by decide)
theorem chain_len (p b : List Nat) : (chain p b).length = 16 := by simp [chain, sum_len]
theorem chain_lt (p b : List Nat) : ∀ x ∈ chain p b, x < 256 := fun x hx => sum_lt _ x (List.mem_of_mem_take hx)
theorem pad_len (b : List Nat) : (pad b).length = b.length + 9 + padN b.length := by simp [pad, lenB]; omega
theorem pad_mod (b : List Nat) : (pad b).length % 64 = 0 := by rw [pad_len]; unfold padN; omega
end Go.Proofs.Ythbdmfbjkkmplaa.Sha

namespace Go.Proofs.Ythbdmfbjkkmplaa.Sha

def z16 : List Nat := List.replicate 16 0
def oneS (x : List Nat) : List Nat := chain z16 (0 :: x)
def joinS (a b : List Nat) : List Nat := chain z16 (1 :: (a ++ b))
def cutN (n : Nat) : Nat := n - n / 2
theorem cutN_pos {n : Nat} (h : 2 ≤ n) : 1 ≤ cutN n := by unfold cutN; omega
theorem cutN_lt {n : Nat} (h : 2 ≤ n) : cutN n < n := by unfold cutN; omega
theorem cutN_half (n : Nat) : (n + 1) / 2 = cutN n := by unfold cutN; omega

def treeF : Nat → List (List Nat) → List Nat
  | 0, _ => []
  | f + 1, l => if l.length < 2 then oneS (l.headD []) else joinS (treeF f (l.take (cutN l.length))) (treeF f (l.drop (cutN l.length)))
def treeS (l : List (List Nat)) : List Nat := treeF l.length l
theorem treeF_fuel : ∀ (f : Nat) (l : List (List Nat)), 0 < l.length → l.length ≤ f → ∀ g, l.length ≤ g → treeF f l = treeF g l
  | 0, l, h0, hf => by omega
  | f + 1, l, h0, hf => fun g hg => by
    obtain ⟨g, rfl⟩ : ∃ g', g = g' + 1 := ⟨g - 1, by omega⟩
    unfold treeF
    by_cases h : l.length < 2
    · rw [if_pos h, if_pos h]
    · have h1 := cutN_pos (n := l.length) (by omega)
      have h2 := cutN_lt (n := l.length) (by omega)
      rw [if_neg h, if_neg h, treeF_fuel f _ (by simp; omega) (by simp; omega) g (by simp; omega), treeF_fuel f _ (by simp; omega) (by simp; omega) g (by simp; omega)]
theorem treeS_one (x : List Nat) : treeS [x] = oneS x := rfl
theorem treeS_two {l : List (List Nat)} (h : 2 ≤ l.length) : treeS l = joinS (treeS (l.take (cutN l.length))) (treeS (l.drop (cutN l.length))) := by
  have h1 := cutN_pos h
  have h2 := cutN_lt h
  unfold treeS
  obtain ⟨f, hf⟩ : ∃ f, l.length = f + 1 := ⟨l.length - 1, by omega⟩
  conv => lhs; rw [hf]; unfold treeF
  rw [if_neg (by omega), treeF_fuel f _ (by simp; omega) (by simp; omega) _ (Nat.le_refl _), treeF_fuel f (l.drop _) (by simp; omega) (by simp; omega) _ (Nat.le_refl _)]
theorem joinS_len (a b : List Nat) : (joinS a b).length = 16 := chain_len _ _
theorem oneS_len (x : List Nat) : (oneS x).length = 16 := chain_len _ _
theorem joinS_lt (a b : List Nat) : ∀ x ∈ joinS a b, x < 256 := chain_lt _ _
theorem oneS_lt (a : List Nat) : ∀ x ∈ oneS a, x < 256 := chain_lt _ _
theorem treeS_len {l : List (List Nat)} (h : 0 < l.length) : (treeS l).length = 16 := by
  by_cases h2 : 2 ≤ l.length
  · rw [treeS_two h2, joinS_len]
  · match l, h, h2 with
    | [x], _, _ => rw [treeS_one, oneS_len]
    | [], h, _ => simp at h
    | _ :: _ :: _, _, h2 => simp at h2
theorem treeS_lt {l : List (List Nat)} (h : 0 < l.length) : ∀ x ∈ treeS l, x < 256 := by
  by_cases h2 : 2 ≤ l.length
  · rw [treeS_two h2]; exact joinS_lt _ _
  · match l, h, h2 with
    | [x], _, _ => rw [treeS_one]; exact oneS_lt _
    | [], h, _ => simp at h
    | _ :: _ :: _, _, h2 => simp at h2

/-- the sums that one needs, the lowest first -/
def proofF : Nat → List (List Nat) → Nat → List (List Nat)
  | 0, _, _ => []
  | f + 1, l, i => if l.length < 2 then [] else if i < cutN l.length then proofF f (l.take (cutN l.length)) i ++ [treeS (l.drop (cutN l.length))] else proofF f (l.drop (cutN l.length)) (i - cutN l.length) ++ [treeS (l.take (cutN l.length))]
def proofS (l : List (List Nat)) (i : Nat) : List (List Nat) := proofF l.length l i
theorem proofF_fuel : ∀ (f : Nat) (l : List (List Nat)) (i : Nat), l.length ≤ f → ∀ g, l.length ≤ g → proofF f l i = proofF g l i
  | 0, l, i, hf => fun g hg => by
    cases g with
    | zero => rfl
    | succ g => unfold proofF; rw [if_pos (by omega)]
  | f + 1, l, i, hf => fun g hg => by
    cases g with
    | zero => unfold proofF; rw [if_pos (by omega)]
    | succ g =>
      unfold proofF
      by_cases h : l.length < 2
      · rw [if_pos h, if_pos h]
      · have h1 := cutN_pos (n := l.length) (by omega)
        have h2 := cutN_lt (n := l.length) (by omega)
        rw [if_neg h, if_neg h, proofF_fuel f _ _ (by simp; omega) g (by simp; omega), proofF_fuel f (l.drop _) _ (by simp; omega) g (by simp; omega)]
theorem proofS_one {l : List (List Nat)} (h : l.length < 2) (i : Nat) : proofS l i = [] := by
  unfold proofS
  cases hl : l.length with
  | zero => rfl
  | succ n => unfold proofF; rw [if_pos h]
theorem proofS_left {l : List (List Nat)} (h : 2 ≤ l.length) {i : Nat} (hi : i < cutN l.length) : proofS l i = proofS (l.take (cutN l.length)) i ++ [treeS (l.drop (cutN l.length))] := by
  have h1 := cutN_pos h
  have h2 := cutN_lt h
  unfold proofS
  obtain ⟨f, hf⟩ : ∃ f, l.length = f + 1 := ⟨l.length - 1, by omega⟩
  conv => lhs; rw [hf]; unfold proofF
  rw [if_neg (by omega), if_pos hi, proofF_fuel f _ _ (by simp; omega) _ (Nat.le_refl _)]
theorem proofS_right {l : List (List Nat)} (h : 2 ≤ l.length) {i : Nat} (hi : ¬ i < cutN l.length) : proofS l i = proofS (l.drop (cutN l.length)) (i - cutN l.length) ++ [treeS (l.take (cutN l.length))] := by
  have h1 := cutN_pos h
  have h2 := cutN_lt h
  unfold proofS
  obtain ⟨f, hf⟩ : ∃ f, l.length = f + 1 := ⟨l.length - 1, by omega⟩
  conv => lhs; rw [hf]; unfold proofF
  rw [if_neg (by omega), if_neg hi, proofF_fuel f _ _ (by simp; omega) _ (Nat.le_refl _)]

/-- what a leaf comes to by a row of sums -/
def comeF : Nat → Nat → Nat → List Nat → List (List Nat) → List Nat × Bool
  | 0, _, _, _, _ => (z16, false)
  | f + 1, n, i, x, p =>
    if n = 1 then (oneS x, p.length == 0)
    else match p.getLast? with
      | none => (z16, false)
      | some s => if i < cutN n then let r := comeF f (cutN n) i x p.dropLast; (joinS r.1 s, r.2) else let r := comeF f (n - cutN n) (i - cutN n) x p.dropLast; (joinS s r.1, r.2)
def comeS (n i : Nat) (x : List Nat) (p : List (List Nat)) : List Nat × Bool := comeF n n i x p
theorem comeF_fuel : ∀ (f n i : Nat) (x : List Nat) (p : List (List Nat)), 0 < n → n ≤ f → ∀ g, n ≤ g → comeF f n i x p = comeF g n i x p
  | 0, n, i, x, p, h0, hf => by omega
  | f + 1, n, i, x, p, h0, hf => fun g hg => by
    obtain ⟨g, rfl⟩ : ∃ g', g = g' + 1 := ⟨g - 1, by omega⟩
    unfold comeF
    by_cases h : n = 1
    · rw [if_pos h, if_pos h]
    · have h1 := cutN_pos (n := n) (by omega)
      have h2 := cutN_lt (n := n) (by omega)
      rw [if_neg h, if_neg h]
      cases p.getLast? with
      | none => rfl
      | some s =>
        dsimp only
        rw [comeF_fuel f (cutN n) i x _ (by omega) (by omega) g (by omega), comeF_fuel f (n - cutN n) _ x _ (by omega) (by omega) g (by omega)]
theorem comeS_one (i : Nat) (x : List Nat) (p : List (List Nat)) : comeS 1 i x p = (oneS x, p.length == 0) := rfl
theorem comeS_nil {n : Nat} (h : 2 ≤ n) (i : Nat) (x : List Nat) : comeS n i x [] = (z16, false) := by
  unfold comeS
  obtain ⟨f, rfl⟩ : ∃ f, n = f + 1 := ⟨n - 1, by omega⟩
  unfold comeF
  rw [if_neg (by omega)]; rfl
theorem comeS_left {n : Nat} (h : 2 ≤ n) {i : Nat} (x : List Nat) (p : List (List Nat)) (s : List Nat) (hi : i < cutN n) : comeS n i x (p ++ [s]) = (joinS (comeS (cutN n) i x p).1 s, (comeS (cutN n) i x p).2) := by
  have h1 := cutN_pos h
  have h2 := cutN_lt h
  unfold comeS
  obtain ⟨f, rfl⟩ : ∃ f, n = f + 1 := ⟨n - 1, by omega⟩
  conv => lhs; unfold comeF
  rw [if_neg (by omega), List.getLast?_concat, List.dropLast_concat]
  dsimp only
  rw [if_pos hi, comeF_fuel f (cutN (f + 1)) i x p (by omega) (by omega) _ (Nat.le_refl _)]
theorem comeS_right {n : Nat} (h : 2 ≤ n) {i : Nat} (x : List Nat) (p : List (List Nat)) (s : List Nat) (hi : ¬ i < cutN n) : comeS n i x (p ++ [s]) = (joinS s (comeS (n - cutN n) (i - cutN n) x p).1, (comeS (n - cutN n) (i - cutN n) x p).2) := by
  have h1 := cutN_pos h
  have h2 := cutN_lt h
  unfold comeS
  obtain ⟨f, rfl⟩ : ∃ f, n = f + 1 := ⟨n - 1, by omega⟩
  conv => lhs; unfold comeF
  rw [if_neg (by omega), List.getLast?_concat, List.dropLast_concat]
  dsimp only
  rw [if_neg hi, comeF_fuel f (f + 1 - cutN (f + 1)) _ x p (by omega) (by omega) _ (Nat.le_refl _)]
/-- a proof comes to the root -/
theorem come_proof : ∀ (k : Nat) (l : List (List Nat)) (i : Nat), l.length ≤ k → i < l.length → comeS l.length i (l.getD i []) (proofS l i) = (treeS l, true)
  | 0, l, i, hk, hi => by omega
  | k + 1, l, i, hk, hi => by
    by_cases h : 2 ≤ l.length
    · have h1 := cutN_pos h
      have h2 := cutN_lt h
      by_cases hc : i < cutN l.length
      · rw [proofS_left h hc, comeS_left h _ _ _ hc]
        have ih := come_proof k (l.take (cutN l.length)) i (by simp; omega) (by simp; omega)
        rw [List.length_take, Nat.min_eq_left (by omega)] at ih
        have e : (l.take (cutN l.length)).getD i [] = l.getD i [] := by simp [List.getD_eq_getElem?_getD, List.getElem?_take, hc]
        rw [e] at ih
        rw [ih, treeS_two h]
      · rw [proofS_right h hc, comeS_right h _ _ _ hc]
        have ih := come_proof k (l.drop (cutN l.length)) (i - cutN l.length) (by simp; omega) (by simp; omega)
        rw [List.length_drop] at ih
        have e : (l.drop (cutN l.length)).getD (i - cutN l.length) [] = l.getD i [] := by simp [List.getD_eq_getElem?_getD, List.getElem?_drop, show cutN l.length + (i - cutN l.length) = i by omega]
        rw [e] at ih
        rw [ih, treeS_two h]
    · match l, hi, h with
      | [x], hi, _ =>
        obtain rfl : i = 0 := by simpa using hi
        rfl
      | [], hi, _ => simp at hi
      | _ :: _ :: _, _, h => simp at h
/-- one sum too many -/
theorem come_long : ∀ (k n i : Nat) (x y : List Nat) (p : List (List Nat)) (q : List (List Nat)), n ≤ k → 0 < n → i < n → p.length ≠ q.length → (comeS n i x p).2 = true → (comeS n i y q).2 = false
  | 0, n, i, x, y, p, q, hk, h0, hi, hl, h => by omega
  | k + 1, n, i, x, y, p, q, hk, h0, hi, hl, h => by
    by_cases h1 : n = 1
    · subst h1
      rw [comeS_one] at h ⊢
      simp at h ⊢
      subst h
      intro hq; subst hq; simp at hl
    · have hn : 2 ≤ n := by omega
      have c1 := cutN_pos hn
      have c2 := cutN_lt hn
      rcases List.eq_nil_or_concat p with rfl | ⟨p', s, rfl⟩
      · rw [comeS_nil hn] at h; cases h
      · rcases List.eq_nil_or_concat q with rfl | ⟨q', s', rfl⟩
        · rw [comeS_nil hn]
        · have hl' : p'.length ≠ q'.length := by simpa using hl
          by_cases hc : i < cutN n
          · rw [List.concat_eq_append, comeS_left hn _ _ _ hc] at h
            rw [List.concat_eq_append, comeS_left hn _ _ _ hc]
            exact come_long k (cutN n) i x y p' q' (by omega) (by omega) hc hl' h
          · rw [List.concat_eq_append, comeS_right hn _ _ _ hc] at h
            rw [List.concat_eq_append, comeS_right hn _ _ _ hc]
            exact come_long k (n - cutN n) (i - cutN n) x y p' q' (by omega) (by omega) (by omega) hl' h
end Go.Proofs.Ythbdmfbjkkmplaa.Sha
