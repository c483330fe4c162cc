/- Layer 28: the law's told; which answers are there. -/
import Derived.Test.YthlmcoeikelheaaMom26
import Derived.Test.YthlmcoeikelheaaMom19
namespace Go.Proofs.Ythlmcoeikelheaa
open Go.RowKit Go.Proofs.YthlmcoeikelheaaB Go.Shelf

theorem told_any (n : Int) (w : World) :
    Calls Try.prog 31 #[.int .u64 n, .bool (n != 0), .int .u64 n] w fun e w' => e = .returned (.int .i64 1) ∧ w' = w := by
  have h1 : (n != n) = false := by simp
  have h2 : ((n != 0) != (n != 0)) = false := by simp
  go_enter Try.func31, Try.ntmps31
  go_wp2
  go_ret
  exact ⟨rfl, rfl⟩
theorem last_flag {l : List It} (hk : TabOk l) : decide (0 < l.length) = (lastN l != 0) := by
  unfold lastN
  by_cases h : l.length = 0
  · simp [h]
  · have := (gt_rng hk (i := l.length - 1) (by omega)).1
    rw [if_neg h, decide_eq_true (by omega)]
    symm; rw [bne_iff_ne]; omega
theorem next_flag {l : List It} (hk : TabOk l) (num : Int) : nextB num l = (nextN num l != 0) := by
  unfold nextN
  cases hb : nextB num l
  · rfl
  · have hlt : nextI num l < l.length := by unfold nextB at hb; simpa using hb
    have := (gt_rng hk hlt).1
    symm; simp only [if_true]; rw [bne_iff_ne]; omega
end Go.Proofs.Ythlmcoeikelheaa
