/- Contracts of layer 28: Closes, Quiet; New, Add, Release, Drop, Clone. -/
import Derived.Test.YthlmcoeikelheaaMom3
import Derived.OwnWalk
namespace Go.Proofs.Ythlmcoeikelheaa
open Go.RowKit Go.Proofs.YthlmcoeikelheaaB Go.Shelf

/-- the next one's minute -/
def nextM (num : Int) (l : List It) : Int := if nextB num l then minV (nextN num l) l else 0
theorem ahead_any (p : Nat) (v : Value) (l : List It) (num : Int) (w : World) (hB : TabAt w p v l) (hk : TabOk l) :
    Calls Try.prog 39 #[.pointer (some ⟨p, 0, none⟩), .int .u64 num] w fun e w' => e = .returned (.tuple #[.int .i64 (minV num l), .int .i64 (nextM num l), .bool (has num l), .bool (!nextB num l)]) ∧ Ex0 w w' := by
  go_enter Try.func39, Try.ntmps39
  go_wp2_with fail
  refine (min_any p v l num _ hB hk).mono ?_
  rintro e w1 ⟨rfl, hx1⟩
  have hB1 := Lib.hid (hB.ex0 hx1)
  have HX1 := Lib.hid hx1
  clear hx1 hB
  go_wp2_with fail
  refine (next_any p v l num _ hB1.out hk).mono ?_
  rintro e w2 ⟨rfl, hx2⟩
  have hB2 := Lib.hid (hB1.out.ex0 hx2)
  have HX2 := Lib.hid (HX1.out.trans0 hx2)
  clear hx2 hB1 HX1
  cases hb : nextB num l
  · have HB := Lib.hid hb
    clear hb
    go_wp2
    refine bodyPost_ret (v := .tuple #[.int .i64 (minV num l), .int .i64 0, .bool (has num l), .bool true]) (by simp [results, Try.results39, go_sem]) rfl ?_
    refine ⟨?_, HX2.out⟩
    unfold nextM; rw [HB.out]; rfl
  · have HB := Lib.hid hb
    clear hb
    go_wp2_with fail
    refine (min_any p v l (nextN num l) _ hB2.out hk).mono ?_
    rintro e w3 ⟨rfl, hx3⟩
    have HX3 := Lib.hid (HX2.out.trans0 hx3)
    clear hx3
    go_wp2
    refine bodyPost_ret (v := .tuple #[.int .i64 (minV num l), .int .i64 (minV (nextN num l) l), .bool (has num l), .bool false]) (by simp [results, Try.results39, go_sem]) rfl ?_
    refine ⟨?_, HX3.out⟩
    unfold nextM; rw [HB.out]; rfl

theorem minV_rng {l : List It} (hk : TabOk l) (num : Int) : 0 ≤ minV num l ∧ minV num l ≤ 1073741824 := by
  unfold minV
  cases hh : has num l
  · simp
  · obtain ⟨hi, _⟩ := has_get hk.srt hh
    have := gt_rng hk hi
    simp only [if_true]; exact ⟨this.2.2.1, this.2.2.2⟩
theorem nextM_rng {l : List It} (hk : TabOk l) (num : Int) : 0 ≤ nextM num l ∧ nextM num l ≤ 1073741824 := by
  unfold nextM
  split
  · exact minV_rng hk _
  · simp

/-- does it close its window? -/
def closesB (num win : Int) (l : List It) : Bool := has num l && decide (1 ≤ win) && (!nextB num l || !(minV num l / win == nextM num l / win))

set_option maxHeartbeats 1000000 in
theorem closes_any (p : Nat) (v : Value) (l : List It) (num win : Int) (w : World) (hB : TabAt w p v l) (hk : TabOk l) (hwin : win ≤ 9223372036854775807) :
    Calls Try.prog 16 #[.pointer (some ⟨p, 0, none⟩), .int .u64 num, .int .i64 win] w fun e w' => e = .returned (.bool (closesB num win l)) ∧ Ex0 w w' := by
  have hr1 := minV_rng hk num
  have hr2 := nextM_rng hk num
  go_enter Try.func16, Try.ntmps16
  go_wp2_with fail
  refine (ahead_any p v l num _ hB hk).mono ?_
  rintro e w1 ⟨rfl, hx1⟩
  have HX1 := Lib.hid hx1
  have hcl : closesB num win l = (has num l && decide (1 ≤ win) && (!nextB num l || !(minV num l / win == nextM num l / win))) := rfl
  have HCL := Lib.hid hcl
  clear hx1 hcl
  generalize has num l = h at *
  generalize nextB num l = nb at *
  cases h
  · go_wp2
    go_quiet (fail)
    go_wp2
    go_ret
    exact ⟨by rw [HCL.out]; rfl, HX1.out.drewN' _⟩
  · by_cases hw : 1 ≤ win
    · have hd : decide (1 ≤ win) = true := by simpa using hw
      have HD := Lib.hid hd
      clear hd
      cases nb
      · go_wp2
        go_quiet (fail)
        go_wp2
        go_ret
        exact ⟨by rw [HCL.out, HD.out]; rfl, HX1.out.drewN' _⟩
      · have hx : (minV num l / win != nextM num l / win) = (true && true && (!true || !(minV num l / win == nextM num l / win))) := by simp [bne]
        have HXX := Lib.hid hx
        clear hx
        go_wp2
        go_quiet (fail)
        go_wp2
        go_ret
        refine ⟨?_, HX1.out.drewN' _⟩
        rw [HCL.out, HD.out, ← HXX.out]
        rfl
    · have hd : decide (1 ≤ win) = false := by simpa using hw
      have HD := Lib.hid hd
      have hlt : win < 1 := by omega
      go_wp2
      go_quiet (fail)
      go_wp2
      go_ret
      exact ⟨by rw [HCL.out, HD.out]; rfl, HX1.out.drewN' _⟩

/-- is it quiet? -/
def quietB (num gap : Int) (l : List It) : Bool := has num l && decide (0 ≤ gap) && (!nextB num l || decide (nextM num l - minV num l > gap))
theorem quiet_any (p : Nat) (v : Value) (l : List It) (num gap : Int) (w : World) (hB : TabAt w p v l) (hk : TabOk l) :
    Calls Try.prog 18 #[.pointer (some ⟨p, 0, none⟩), .int .u64 num, .int .i64 gap] w fun e w' => e = .returned (.bool (quietB num gap l)) ∧ Ex0 w w' := by
  have hr1 := minV_rng hk num
  have hr2 := nextM_rng hk num
  go_enter Try.func18, Try.ntmps18
  go_wp2_with fail
  refine (ahead_any p v l num _ hB hk).mono ?_
  rintro e w1 ⟨rfl, hx1⟩
  have HX1 := Lib.hid hx1
  have hcl : quietB num gap l = (has num l && decide (0 ≤ gap) && (!nextB num l || decide (nextM num l - minV num l > gap))) := rfl
  have HCL := Lib.hid hcl
  clear hx1 hcl
  generalize minV num l = a at *
  generalize nextM num l = b at *
  generalize has num l = h at *
  generalize nextB num l = nb at *
  cases h
  · go_wp2
    go_ret
    exact ⟨by rw [HCL.out]; rfl, HX1.out⟩
  · by_cases hw : 0 ≤ gap
    · have hd : decide (0 ≤ gap) = true := by simpa using hw
      have HD := Lib.hid hd
      clear hd
      cases nb
      · go_wp2
        go_ret
        exact ⟨by rw [HCL.out, HD.out]; rfl, HX1.out⟩
      · by_cases hg : b - a > gap
        · have hd2 : decide (b - a > gap) = true := by simpa using hg
          have HD2 := Lib.hid hd2
          clear hd2
          go_wp2
          go_ret
          exact ⟨by rw [HCL.out, HD.out, HD2.out]; rfl, HX1.out⟩
        · have hd2 : decide (b - a > gap) = false := by simpa using hg
          have HD2 := Lib.hid hd2
          clear hd2
          go_wp2
          go_ret
          exact ⟨by rw [HCL.out, HD.out, HD2.out]; rfl, HX1.out⟩
    · have hd : decide (0 ≤ gap) = false := by simpa using hw
      have HD := Lib.hid hd
      clear hd
      go_wp2
      go_ret
      exact ⟨by rw [HCL.out, HD.out]; rfl, HX1.out⟩
end Go.Proofs.Ythlmcoeikelheaa
