/- The constants of the document's hash, as plain functions of numbers. -/
import Derived.Test.YthbdmfbjkkmplaaAud0
namespace Go.Proofs.Ythbdmfbjkkmplaa.Sha

def primeB (n : Nat) : Bool := decide (1 < n) && (List.range n).all fun i => decide (i < 2) || n % i != 0
def primesBelow (n : Nat) : List Nat := (List.range n).filter primeB
def pl : List Nat := [2, 3, 5, 7, 11, 13, 17, 19, 23, 29, 31, 37, 41, 43, 47, 53, 59, 61, 67, 71, 73, 79, 83, 89, 97, 101, 103, 107, 109, 113, 127, 131, 137, 139, 149, 151, 157, 163, 167, 173, 179, 181, 191, 193, 197, 199, 211, 223, 227, 229, 233, 239, 241, 251, 257, 263, 269, 271, 277, 281, 283, 293, 307, 311]
theorem pl_eq : primesBelow 312 = pl := by decide +kernel
theorem pl_len : pl.length = 64 := rfl

def inS (a b out : List Nat) (i : Nat) : Nat → List Nat × Nat
  | 0 => (out, 0)
  | k + 1 => ((inS a b out i k).1.set (i + k) (((inS a b out i k).1.getD (i + k) 0 + a.getD i 0 * b.getD k 0 + (inS a b out i k).2) % 18446744073709551616 % 65536),
      ((inS a b out i k).1.getD (i + k) 0 + a.getD i 0 * b.getD k 0 + (inS a b out i k).2) % 18446744073709551616 / 65536)
def outS (a b : List Nat) : Nat → List Nat
  | 0 => List.replicate (a.length + b.length) 0
  | i + 1 => (inS a b (outS a b i) i b.length).1.set (i + b.length) (inS a b (outS a b i) i b.length).2
def timesN (a b : List Nat) : List Nat := outS a b a.length
def abS (a b : List Nat) : Nat → Bool
  | 0 => false
  | i + 1 => if a.getD i 0 = b.getD i 0 then abS a b i else decide (b.getD i 0 < a.getD i 0)
def aboveN (a b : List Nat) : Bool := abS a b (max a.length b.length)
def goalN (p by_ : Nat) : List Nat := List.replicate (2 * by_) 0 ++ [p]
def digits (y : Nat) : List Nat := [y % 65536, y / 65536 % 65536, y / 65536 / 65536]
def power (by_ y : Nat) : List Nat := if by_ = 3 then timesN (timesN (digits y) (digits y)) (digits y) else timesN (digits y) (digits y)
def rootStep (p by_ k x : Nat) : Nat := if aboveN (power by_ ((x + 2 ^ (36 - k)) % 18446744073709551616)) (goalN p by_) = true then x else (x + 2 ^ (36 - k)) % 18446744073709551616
def rootS (p by_ : Nat) : Nat → Nat
  | 0 => 0
  | k + 1 => rootStep p by_ k (rootS p by_ k)
def rootN (p by_ : Nat) : Nat := rootS p by_ 37 % 4294967296

theorem h0_roots : (pl.take 8).map (fun p => rootN p 2) = h0 := by decide +kernel
theorem ks_roots0 : ((pl.drop 0).take 4).map (fun p => rootN p 3) = (ks.drop 0).take 4 := by decide +kernel
theorem ks_roots1 : ((pl.drop 4).take 4).map (fun p => rootN p 3) = (ks.drop 4).take 4 := by decide +kernel
theorem ks_roots2 : ((pl.drop 8).take 4).map (fun p => rootN p 3) = (ks.drop 8).take 4 := by decide +kernel
theorem ks_roots3 : ((pl.drop 12).take 4).map (fun p => rootN p 3) = (ks.drop 12).take 4 := by decide +kernel
theorem ks_roots4 : ((pl.drop 16).take 4).map (fun p => rootN p 3) = (ks.drop 16).take 4 := by decide +kernel
theorem ks_roots5 : ((pl.drop 20).take 4).map (fun p => rootN p 3) = (ks.drop 20).take 4 := by decide +kernel
theorem ks_roots6 : ((pl.drop 24).take 4).map (fun p => rootN p 3) = (ks.drop 24).take 4 := by decide +kernel
theorem ks_roots7 : ((pl.drop 28).take 4).map (fun p => rootN p 3) = (ks.drop 28).take 4 := by decide +kernel
theorem ks_roots8 : ((pl.drop 32).take 4).map (fun p => rootN p 3) = (ks.drop 32).take 4 := by decide +kernel
theorem ks_roots9 : ((pl.drop 36).take 4).map (fun p => rootN p 3) = (ks.drop 36).take 4 := by decide +kernel
theorem ks_roots10 : ((pl.drop 40).take 4).map (fun p => rootN p 3) = (ks.drop 40).take 4 := by decide +kernel
theorem ks_roots11 : ((pl.drop 44).take 4).map (fun p => rootN p 3) = (ks.drop 44).take 4 := by decide +kernel
theorem ks_roots12 : ((pl.drop 48).take 4).map (fun p => rootN p 3) = (ks.drop 48).take 4 := by decide +kernel
theorem ks_roots13 : ((pl.drop 52).take 4).map (fun p => rootN p 3) = (ks.drop 52).take 4 := by decide +kernel
theorem ks_roots14 : ((pl.drop 56).take 4).map (fun p => rootN p 3) = (ks.drop 56).take 4 := by decide +kernel
theorem ks_roots15 : ((pl.drop 60).take 4).map (fun p => rootN p 3) = (ks.drop 60).take 4 := by decide +kernel
theorem ks_key : ∀ q, q < 16 → ((pl.drop (4 * q)).take 4).map (fun p => rootN p 3) = (ks.drop (4 * q)).take 4
  | 0, _ => ks_roots0
  | 1, _ => ks_roots1
  | 2, _ => ks_roots2
  | 3, _ => ks_roots3
  | 4, _ => ks_roots4
  | 5, _ => ks_roots5
  | 6, _ => ks_roots6
  | 7, _ => ks_roots7
  | 8, _ => ks_roots8
  | 9, _ => ks_roots9
  | 10, _ => ks_roots10
  | 11, _ => ks_roots11
  | 12, _ => ks_roots12
  | 13, _ => ks_roots13
  | 14, _ => ks_roots14
  | 15, _ => ks_roots15
  | q + 16, h => by omega
theorem ks_root {i : Nat} (hi : i < 64) : rootN (pl.getD i 0) 3 = ks.getD i 0 := by
  have h := congrArg (fun l => l[i % 4]?) (ks_key (i / 4) (by omega))
  have e : 4 * (i / 4) + i % 4 = i := by omega
  have h4 : i % 4 < 4 := Nat.mod_lt _ (by decide)
  have l1 : i < pl.length := hi
  have l2 : i < ks.length := hi
  simp only [List.getElem?_map, List.getElem?_take, List.getElem?_drop, e, h4, if_true, List.getElem?_eq_getElem l1, List.getElem?_eq_getElem l2, Option.map_some, Option.some.injEq] at h
  rw [List.getD_eq_getElem?_getD, List.getD_eq_getElem?_getD, List.getElem?_eq_getElem l1, List.getElem?_eq_getElem l2]
  exact h
theorem h0_root {i : Nat} (hi : i < 8) : rootN (pl.getD i 0) 2 = h0.getD i 0 := by
  have h := congrArg (fun l => l[i]?) h0_roots
  have l1 : i < pl.length := by rw [pl_len]; omega
  have l2 : i < h0.length := hi
  simp only [List.getElem?_map, List.getElem?_take, hi, if_true, List.getElem?_eq_getElem l1, List.getElem?_eq_getElem l2, Option.map_some, Option.some.injEq] at h
  rw [List.getD_eq_getElem?_getD, List.getD_eq_getElem?_getD, List.getElem?_eq_getElem l1, List.getElem?_eq_getElem l2]
  exact h
theorem inS_len (a b out : List Nat) (i : Nat) : ∀ k, (inS a b out i k).1.length = out.length
  | 0 => rfl
  | k + 1 => by simp [inS, inS_len a b out i k]
theorem outS_len (a b : List Nat) : ∀ i, (outS a b i).length = a.length + b.length
  | 0 => by simp [outS]
  | i + 1 => by simp [outS, inS_len, outS_len a b i]
theorem timesN_len (a b : List Nat) : (timesN a b).length = a.length + b.length := outS_len a b _
end Go.Proofs.Ythbdmfbjkkmplaa.Sha
