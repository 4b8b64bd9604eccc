/-
  One row of a contest: the test and the score: contracts.
-/
import Derived.Test.YtcbecfkckdalmaaInts
import Derived.Test.YtcbecfkckdalmaaSolved
namespace Go.Proofs.Ytcbecfkckdalmaa
open Go.RowKit

def solvedB (x : SolvedV) : Bool := inB x.pupil 1 999 && inB x.heat 1 4 && inB x.right 0 100 && inB x.wrong 0 100 && inB x.time 1 3600
theorem solvedB_iff {x : SolvedV} (h : solvedB x = true) : (1 ≤ x.pupil ∧ x.pupil ≤ 999) ∧ (1 ≤ x.heat ∧ x.heat ≤ 4) ∧ (0 ≤ x.right ∧ x.right ≤ 100) ∧ (0 ≤ x.wrong ∧ x.wrong ≤ 100) ∧ (1 ≤ x.time ∧ x.time ≤ 3600) := by
  simpa [solvedB, inB, and_assoc] using h
/-- The score, as the machine reckons it. -/
def scoreW (x : SolvedV) : Int := max 0 (wrap64 (wrap64 (10 * x.right) - wrap64 (5 * x.wrong)))
theorem wrap_in (n : Int) (h0 : -9223372036854775808 ≤ n) (h1 : n ≤ 9223372036854775807) : wrap64 n = n := IntWalk.wrap64_in n ⟨h0, h1⟩
theorem scoreW_in {x : SolvedV} (h : solvedB x = true) : scoreW x = max 0 (10 * x.right - 5 * x.wrong) ∧ 0 ≤ scoreW x ∧ scoreW x ≤ 1000 := by
  have := solvedB_iff h
  have e : scoreW x = max 0 (10 * x.right - 5 * x.wrong) := by
    unfold scoreW
    rw [wrap_in (10 * x.right) (by omega) (by omega), wrap_in (5 * x.wrong) (by omega) (by omega), wrap_in _ (by omega) (by omega)]
  exact ⟨e, by rw [e]; omega, by rw [e]; omega⟩
theorem max_if (a b : Int) : (if a < b then b else a) = max a b := by split <;> omega

set_option maxHeartbeats 400000 in
theorem isId_any (n : Int) (w : World) :
    Calls Try.prog 64 #[.int .i64 n] w fun e w' => e = .returned (.bool (inB n 1 999)) ∧ w = w' := by
  go_enter Try.func64, Try.ntmps64
  go_wp2_with (go_at_call 66; refine (within_any _ _ _ _).mono ?_; rintro e w' ⟨rfl, rfl⟩)
  go_ret
  exact ⟨rfl, rfl⟩
set_option maxHeartbeats 400000 in
theorem isHeat_any (n : Int) (w : World) :
    Calls Try.prog 65 #[.int .i64 n] w fun e w' => e = .returned (.bool (inB n 1 4)) ∧ w = w' := by
  go_enter Try.func65, Try.ntmps65
  go_wp2_with (go_at_call 66; refine (within_any _ _ _ _).mono ?_; rintro e w' ⟨rfl, rfl⟩)
  go_ret
  exact ⟨rfl, rfl⟩
set_option maxHeartbeats 400000 in
theorem l18Heat_any (n : Int) (w : World) :
    Calls Try.prog 71 #[.int .i64 n] w fun e w' => e = .returned (.bool (inB n 1 4)) ∧ w = w' := by
  go_enter Try.func71, Try.ntmps71
  go_wp2_with (go_at_call 79; refine (l1In_any _ _ _ _).mono ?_; rintro e w' ⟨rfl, rfl⟩)
  go_ret
  exact ⟨rfl, rfl⟩

set_option maxHeartbeats 1600000 in
theorem isSolved_any (p h r q t : Int) (w : World) :
    Calls Try.prog 18 #[.agg #[.int .i64 p, .int .i64 h, .int .i64 r, .int .i64 q, .int .i64 t]] w fun e w' => e = .returned (.bool (solvedB ⟨p, h, r, q, t⟩)) ∧ Below w.heap.size w w' := by
  unfold solvedB
  simp only []
  cases g0 : inB p 1 999
  · go_enter Try.func18, Try.ntmps18
    go_wp2_with (first | (go_at_call 64; refine (isId_any _ _).mono ?_; rintro e w' ⟨rfl, rfl⟩) | (go_at_call 65; refine (isHeat_any _ _).mono ?_; rintro e w' ⟨rfl, rfl⟩) | (go_at_call 66; refine (within_any _ _ _ _).mono ?_; rintro e w' ⟨rfl, rfl⟩))
    go_ret
    exact ⟨rfl, (Below.refl _ _).alloc (Nat.le_refl _) _⟩
  cases g1 : inB h 1 4
  · go_enter Try.func18, Try.ntmps18
    go_wp2_with (first | (go_at_call 64; refine (isId_any _ _).mono ?_; rintro e w' ⟨rfl, rfl⟩) | (go_at_call 65; refine (isHeat_any _ _).mono ?_; rintro e w' ⟨rfl, rfl⟩) | (go_at_call 66; refine (within_any _ _ _ _).mono ?_; rintro e w' ⟨rfl, rfl⟩))
    go_ret
    exact ⟨rfl, (Below.refl _ _).alloc (Nat.le_refl _) _⟩
  cases g2 : inB r 0 100
  · go_enter Try.func18, Try.ntmps18
    go_wp2_with (first | (go_at_call 64; refine (isId_any _ _).mono ?_; rintro e w' ⟨rfl, rfl⟩) | (go_at_call 65; refine (isHeat_any _ _).mono ?_; rintro e w' ⟨rfl, rfl⟩) | (go_at_call 66; refine (within_any _ _ _ _).mono ?_; rintro e w' ⟨rfl, rfl⟩))
    go_ret
    exact ⟨rfl, (Below.refl _ _).alloc (Nat.le_refl _) _⟩
  cases g3 : inB q 0 100
  · go_enter Try.func18, Try.ntmps18
    go_wp2_with (first | (go_at_call 64; refine (isId_any _ _).mono ?_; rintro e w' ⟨rfl, rfl⟩) | (go_at_call 65; refine (isHeat_any _ _).mono ?_; rintro e w' ⟨rfl, rfl⟩) | (go_at_call 66; refine (within_any _ _ _ _).mono ?_; rintro e w' ⟨rfl, rfl⟩))
    go_ret
    exact ⟨rfl, (Below.refl _ _).alloc (Nat.le_refl _) _⟩
  cases g4 : inB t 1 3600
  · go_enter Try.func18, Try.ntmps18
    go_wp2_with (first | (go_at_call 64; refine (isId_any _ _).mono ?_; rintro e w' ⟨rfl, rfl⟩) | (go_at_call 65; refine (isHeat_any _ _).mono ?_; rintro e w' ⟨rfl, rfl⟩) | (go_at_call 66; refine (within_any _ _ _ _).mono ?_; rintro e w' ⟨rfl, rfl⟩))
    go_ret
    exact ⟨rfl, (Below.refl _ _).alloc (Nat.le_refl _) _⟩
  go_enter Try.func18, Try.ntmps18
  go_wp2_with (first | (go_at_call 64; refine (isId_any _ _).mono ?_; rintro e w' ⟨rfl, rfl⟩) | (go_at_call 65; refine (isHeat_any _ _).mono ?_; rintro e w' ⟨rfl, rfl⟩) | (go_at_call 66; refine (within_any _ _ _ _).mono ?_; rintro e w' ⟨rfl, rfl⟩))
  go_ret
  exact ⟨rfl, (Below.refl _ _).alloc (Nat.le_refl _) _⟩
set_option maxHeartbeats 1600000 in
theorem l18One_any (p h r q t : Int) (w : World) :
    Calls Try.prog 63 #[.agg #[.int .i64 p, .int .i64 h, .int .i64 r, .int .i64 q, .int .i64 t]] w fun e w' => e = .returned (.bool (solvedB ⟨p, h, r, q, t⟩)) ∧ Below w.heap.size w w' := by
  unfold solvedB
  simp only []
  cases g0 : inB p 1 999
  · go_enter Try.func63, Try.ntmps63
    go_wp2_with (first | (go_at_call 71; refine (l18Heat_any _ _).mono ?_; rintro e w' ⟨rfl, rfl⟩) | (go_at_call 79; refine (l1In_any _ _ _ _).mono ?_; rintro e w' ⟨rfl, rfl⟩))
    go_ret
    exact ⟨rfl, (Below.refl _ _).alloc (Nat.le_refl _) _⟩
  cases g1 : inB h 1 4
  · go_enter Try.func63, Try.ntmps63
    go_wp2_with (first | (go_at_call 71; refine (l18Heat_any _ _).mono ?_; rintro e w' ⟨rfl, rfl⟩) | (go_at_call 79; refine (l1In_any _ _ _ _).mono ?_; rintro e w' ⟨rfl, rfl⟩))
    go_ret
    exact ⟨rfl, (Below.refl _ _).alloc (Nat.le_refl _) _⟩
  cases g2 : inB r 0 100
  · go_enter Try.func63, Try.ntmps63
    go_wp2_with (first | (go_at_call 71; refine (l18Heat_any _ _).mono ?_; rintro e w' ⟨rfl, rfl⟩) | (go_at_call 79; refine (l1In_any _ _ _ _).mono ?_; rintro e w' ⟨rfl, rfl⟩))
    go_ret
    exact ⟨rfl, (Below.refl _ _).alloc (Nat.le_refl _) _⟩
  cases g3 : inB q 0 100
  · go_enter Try.func63, Try.ntmps63
    go_wp2_with (first | (go_at_call 71; refine (l18Heat_any _ _).mono ?_; rintro e w' ⟨rfl, rfl⟩) | (go_at_call 79; refine (l1In_any _ _ _ _).mono ?_; rintro e w' ⟨rfl, rfl⟩))
    go_ret
    exact ⟨rfl, (Below.refl _ _).alloc (Nat.le_refl _) _⟩
  cases g4 : inB t 1 3600
  · go_enter Try.func63, Try.ntmps63
    go_wp2_with (first | (go_at_call 71; refine (l18Heat_any _ _).mono ?_; rintro e w' ⟨rfl, rfl⟩) | (go_at_call 79; refine (l1In_any _ _ _ _).mono ?_; rintro e w' ⟨rfl, rfl⟩))
    go_ret
    exact ⟨rfl, (Below.refl _ _).alloc (Nat.le_refl _) _⟩
  go_enter Try.func63, Try.ntmps63
  go_wp2_with (first | (go_at_call 71; refine (l18Heat_any _ _).mono ?_; rintro e w' ⟨rfl, rfl⟩) | (go_at_call 79; refine (l1In_any _ _ _ _).mono ?_; rintro e w' ⟨rfl, rfl⟩))
  go_ret
  exact ⟨rfl, (Below.refl _ _).alloc (Nat.le_refl _) _⟩
set_option maxHeartbeats 400000 in
theorem isSolvedS_any (p h r q t : Int) (w : World) :
    Calls Try.prog 16 #[.agg #[.int .i64 p, .int .i64 h, .int .i64 r, .int .i64 q, .int .i64 t]] w fun e w' => e = .returned (.bool (solvedB ⟨p, h, r, q, t⟩)) ∧ Below w.heap.size w w' := by
  go_enter Try.func16, Try.ntmps16
  go_wp2_with (go_at_call 63; refine (l18One_any _ _ _ _ _ _).mono ?_; rintro e w1 ⟨rfl, hb⟩)
  go_ret
  exact ⟨rfl, (Below.refl _ _).alloc (Nat.le_refl _) _ |>.trans (hb.mono (by simp))⟩

set_option maxHeartbeats 400000 in
theorem scoreOf_any (p h r q t : Int) (w : World) :
    Calls Try.prog 68 #[.agg #[.int .i64 p, .int .i64 h, .int .i64 r, .int .i64 q, .int .i64 t]] w fun e w' => e = .returned (.int .i64 (scoreW ⟨p, h, r, q, t⟩)) ∧ Below w.heap.size w w' := by
  go_enter Try.func68, Try.ntmps68
  obtain ⟨s, hs⟩ : ∃ s, s = wrap64 (wrap64 (10 * r) - wrap64 (5 * q)) := ⟨_, rfl⟩
  have e : scoreW ⟨p, h, r, q, t⟩ = max 0 s := by rw [hs]; rfl
  rw [e]
  have HS := Lib.hid hs
  clear hs e
  go_wp2
  all_goals (go_ret; refine ⟨?_, (Below.refl _ _).alloc (Nat.le_refl _) _⟩; rw [HS.out]; refine congrArg (fun z => Ending.returned (.int .i64 z)) ?_; omega)
set_option maxHeartbeats 400000 in
theorem l18Score_any (p h r q t : Int) (w : World) :
    Calls Try.prog 67 #[.agg #[.int .i64 p, .int .i64 h, .int .i64 r, .int .i64 q, .int .i64 t]] w fun e w' => e = .returned (.int .i64 (scoreW ⟨p, h, r, q, t⟩)) ∧ Below w.heap.size w w' := by
  go_enter Try.func67, Try.ntmps67
  go_wp2_with (go_at_call 75; refine (l1Most_any _ _ _).mono ?_; rintro e w1 ⟨rfl, rfl⟩)
  go_ret
  exact ⟨rfl, (Below.refl _ _).alloc (Nat.le_refl _) _⟩
end Go.Proofs.Ytcbecfkckdalmaa
