/-
  A column with a bug: contracts of the small functions of the bugs.
-/
import Derived.Test.YtcljnfmlakpflaaPow
import Derived.Test.YtcljnfmlakpflaaList
namespace Go.Proofs.Ytcljnfmlakpflaa
open Go.RowKit

def colV (bug x y : Int) : Int × Int :=
  if bug = 1 then (max (x - y) (y - x), 0)
  else if bug = 3 ∧ x = 0 ∧ y ≠ 0 then (0, 0)
  else if bug = 4 ∧ x = 0 ∧ y ≠ 0 then (y, 0)
  else if y ≤ x then (x - y, 0)
  else if bug = 2 then (x + 10 - y, 0)
  else if bug = 5 then (0, 0)
  else (x + 10 - y, 1)
theorem tup2 {X P Y Q : Int} (h1 : X = P) (h2 : Y = Q) : Ending.returned (.tuple #[.int .i64 X, .int .i64 Y]) = Ending.returned (.tuple #[.int .i64 P, .int .i64 Q]) := by rw [h1, h2]
theorem colV_bd (bug x y : Int) (hx0 : -1 ≤ x) (hx1 : x ≤ 9) (hy0 : 0 ≤ y) (hy1 : y ≤ 9) : (0 ≤ (colV bug x y).1 ∧ (colV bug x y).1 ≤ 10) ∧ (0 ≤ (colV bug x y).2 ∧ (colV bug x y).2 ≤ 1) := by
  unfold colV
  repeat' split
  all_goals (simp only []; omega)
theorem colV_none (x y : Int) : colV 0 x y = if y ≤ x then (x - y, 0) else (x + 10 - y, 1) := by simp [colV]

set_option maxHeartbeats 400000 in
theorem abs_any (n : Int) (w : World) (h0 : -100000 ≤ n) :
    Calls Try.prog 82 #[.int .i64 n] w fun e w' => e = .returned (.int .i64 (max n (0 - n))) ∧ w = w' := by
  by_cases h : n < 0
  · rw [show max n (0 - n) = -n by omega]
    go_enter Try.func82, Try.ntmps82
    go_wp2
    go_ret
    exact ⟨rfl, rfl⟩
  · rw [show max n (0 - n) = n by omega]
    go_enter Try.func82, Try.ntmps82
    go_wp2
    go_ret
    exact ⟨rfl, rfl⟩
set_option maxHeartbeats 4000000 in
theorem column_any (bug x y : Int) (w : World) (hb0 : 0 ≤ bug) (hb5 : bug ≤ 5) (hx0 : -1 ≤ x) (hx1 : x ≤ 9) (hy0 : 0 ≤ y) (hy1 : y ≤ 9) :
    Calls Try.prog 63 #[.int .i64 bug, .int .i64 x, .int .i64 y] w fun e w' => e = .returned (.tuple #[.int .i64 (colV bug x y).1, .int .i64 (colV bug x y).2]) ∧ w = w' := by
  rcases (show bug = 0 ∨ bug = 1 ∨ bug = 2 ∨ bug = 3 ∨ bug = 4 ∨ bug = 5 by omega) with rfl | rfl | rfl | rfl | rfl | rfl
  · by_cases hxy : y ≤ x
    · have hd1 : decide (y ≤ x) = true := decide_eq_true hxy
      go_enter Try.func63, Try.ntmps63
      go_wp2_with (go_at_call 82; refine (abs_any _ _ (by omega)).mono ?_; rintro e w' ⟨rfl, rfl⟩; rw [show max (x - y) (0 - (x - y)) = max (x - y) (y - x) by omega])
      go_ret2
      exact ⟨tup2 (by unfold colV; (repeat' split) <;> first | rfl | omega | (simp only []; omega)) (by unfold colV; (repeat' split) <;> first | rfl | omega | (simp only []; omega)), rfl⟩
    · have hd1 : decide (y ≤ x) = false := decide_eq_false hxy
      go_enter Try.func63, Try.ntmps63
      go_wp2_with (go_at_call 82; refine (abs_any _ _ (by omega)).mono ?_; rintro e w' ⟨rfl, rfl⟩; rw [show max (x - y) (0 - (x - y)) = max (x - y) (y - x) by omega])
      go_ret2
      exact ⟨tup2 (by unfold colV; (repeat' split) <;> first | rfl | omega | (simp only []; omega)) (by unfold colV; (repeat' split) <;> first | rfl | omega | (simp only []; omega)), rfl⟩
  · go_enter Try.func63, Try.ntmps63
    go_wp2_with (go_at_call 82; refine (abs_any _ _ (by omega)).mono ?_; rintro e w' ⟨rfl, rfl⟩; rw [show max (x - y) (0 - (x - y)) = max (x - y) (y - x) by omega])
    go_ret2
    exact ⟨tup2 (by simp only [colV, if_true]) (by simp [colV]), rfl⟩
  · by_cases hxy : y ≤ x
    · have hd1 : decide (y ≤ x) = true := decide_eq_true hxy
      go_enter Try.func63, Try.ntmps63
      go_wp2_with (go_at_call 82; refine (abs_any _ _ (by omega)).mono ?_; rintro e w' ⟨rfl, rfl⟩; rw [show max (x - y) (0 - (x - y)) = max (x - y) (y - x) by omega])
      go_ret2
      exact ⟨tup2 (by unfold colV; (repeat' split) <;> first | rfl | omega | (simp only []; omega)) (by unfold colV; (repeat' split) <;> first | rfl | omega | (simp only []; omega)), rfl⟩
    · have hd1 : decide (y ≤ x) = false := decide_eq_false hxy
      go_enter Try.func63, Try.ntmps63
      go_wp2_with (go_at_call 82; refine (abs_any _ _ (by omega)).mono ?_; rintro e w' ⟨rfl, rfl⟩; rw [show max (x - y) (0 - (x - y)) = max (x - y) (y - x) by omega])
      go_ret2
      exact ⟨tup2 (by unfold colV; (repeat' split) <;> first | rfl | omega | (simp only []; omega)) (by unfold colV; (repeat' split) <;> first | rfl | omega | (simp only []; omega)), rfl⟩
  · by_cases hxy : y ≤ x
    · have hd1 : decide (y ≤ x) = true := decide_eq_true hxy
      by_cases hx : x = 0
      · subst hx
        by_cases hy : y = 0
        · subst hy
          go_enter Try.func63, Try.ntmps63
          go_wp2_with (go_at_call 82; refine (abs_any _ _ (by omega)).mono ?_; rintro e w' ⟨rfl, rfl⟩; rw [show max (x - y) (0 - (x - y)) = max (x - y) (y - x) by omega])
          go_ret2
          exact ⟨tup2 (by unfold colV; (repeat' split) <;> first | rfl | omega | (simp only []; omega)) (by unfold colV; (repeat' split) <;> first | rfl | omega | (simp only []; omega)), rfl⟩
        · have hd2 : (y != 0) = true := by simp [hy]
          have hd3 : decide (0 < y) = true := decide_eq_true (by omega)
          go_enter Try.func63, Try.ntmps63
          go_wp2_with (go_at_call 82; refine (abs_any _ _ (by omega)).mono ?_; rintro e w' ⟨rfl, rfl⟩; rw [show max (x - y) (0 - (x - y)) = max (x - y) (y - x) by omega])
          go_ret2
          exact ⟨tup2 (by unfold colV; (repeat' split) <;> first | rfl | omega | (simp only []; omega)) (by unfold colV; (repeat' split) <;> first | rfl | omega | (simp only []; omega)), rfl⟩
      · have hd2 : (x == 0) = false := by simp [hx]
        go_enter Try.func63, Try.ntmps63
        go_wp2_with (go_at_call 82; refine (abs_any _ _ (by omega)).mono ?_; rintro e w' ⟨rfl, rfl⟩; rw [show max (x - y) (0 - (x - y)) = max (x - y) (y - x) by omega])
        go_ret2
        exact ⟨tup2 (by unfold colV; (repeat' split) <;> first | rfl | omega | (simp only []; omega)) (by unfold colV; (repeat' split) <;> first | rfl | omega | (simp only []; omega)), rfl⟩
    · have hd1 : decide (y ≤ x) = false := decide_eq_false hxy
      by_cases hx : x = 0
      · subst hx
        by_cases hy : y = 0
        · subst hy
          omega
        · have hd2 : (y != 0) = true := by simp [hy]
          have hd3 : decide (0 < y) = true := decide_eq_true (by omega)
          go_enter Try.func63, Try.ntmps63
          go_wp2_with (go_at_call 82; refine (abs_any _ _ (by omega)).mono ?_; rintro e w' ⟨rfl, rfl⟩; rw [show max (x - y) (0 - (x - y)) = max (x - y) (y - x) by omega])
          go_ret2
          exact ⟨tup2 (by unfold colV; (repeat' split) <;> first | rfl | omega | (simp only []; omega)) (by unfold colV; (repeat' split) <;> first | rfl | omega | (simp only []; omega)), rfl⟩
      · have hd2 : (x == 0) = false := by simp [hx]
        go_enter Try.func63, Try.ntmps63
        go_wp2_with (go_at_call 82; refine (abs_any _ _ (by omega)).mono ?_; rintro e w' ⟨rfl, rfl⟩; rw [show max (x - y) (0 - (x - y)) = max (x - y) (y - x) by omega])
        go_ret2
        exact ⟨tup2 (by unfold colV; (repeat' split) <;> first | rfl | omega | (simp only []; omega)) (by unfold colV; (repeat' split) <;> first | rfl | omega | (simp only []; omega)), rfl⟩
  · by_cases hxy : y ≤ x
    · have hd1 : decide (y ≤ x) = true := decide_eq_true hxy
      by_cases hx : x = 0
      · subst hx
        by_cases hy : y = 0
        · subst hy
          go_enter Try.func63, Try.ntmps63
          go_wp2_with (go_at_call 82; refine (abs_any _ _ (by omega)).mono ?_; rintro e w' ⟨rfl, rfl⟩; rw [show max (x - y) (0 - (x - y)) = max (x - y) (y - x) by omega])
          go_ret2
          exact ⟨tup2 (by unfold colV; (repeat' split) <;> first | rfl | omega | (simp only []; omega)) (by unfold colV; (repeat' split) <;> first | rfl | omega | (simp only []; omega)), rfl⟩
        · have hd2 : (y != 0) = true := by simp [hy]
          have hd3 : decide (0 < y) = true := decide_eq_true (by omega)
          go_enter Try.func63, Try.ntmps63
          go_wp2_with (go_at_call 82; refine (abs_any _ _ (by omega)).mono ?_; rintro e w' ⟨rfl, rfl⟩; rw [show max (x - y) (0 - (x - y)) = max (x - y) (y - x) by omega])
          go_ret2
          exact ⟨tup2 (by unfold colV; (repeat' split) <;> first | rfl | omega | (simp only []; omega)) (by unfold colV; (repeat' split) <;> first | rfl | omega | (simp only []; omega)), rfl⟩
      · have hd2 : (x == 0) = false := by simp [hx]
        go_enter Try.func63, Try.ntmps63
        go_wp2_with (go_at_call 82; refine (abs_any _ _ (by omega)).mono ?_; rintro e w' ⟨rfl, rfl⟩; rw [show max (x - y) (0 - (x - y)) = max (x - y) (y - x) by omega])
        go_ret2
        exact ⟨tup2 (by unfold colV; (repeat' split) <;> first | rfl | omega | (simp only []; omega)) (by unfold colV; (repeat' split) <;> first | rfl | omega | (simp only []; omega)), rfl⟩
    · have hd1 : decide (y ≤ x) = false := decide_eq_false hxy
      by_cases hx : x = 0
      · subst hx
        by_cases hy : y = 0
        · subst hy
          omega
        · have hd2 : (y != 0) = true := by simp [hy]
          have hd3 : decide (0 < y) = true := decide_eq_true (by omega)
          go_enter Try.func63, Try.ntmps63
          go_wp2_with (go_at_call 82; refine (abs_any _ _ (by omega)).mono ?_; rintro e w' ⟨rfl, rfl⟩; rw [show max (x - y) (0 - (x - y)) = max (x - y) (y - x) by omega])
          go_ret2
          exact ⟨tup2 (by unfold colV; (repeat' split) <;> first | rfl | omega | (simp only []; omega)) (by unfold colV; (repeat' split) <;> first | rfl | omega | (simp only []; omega)), rfl⟩
      · have hd2 : (x == 0) = false := by simp [hx]
        go_enter Try.func63, Try.ntmps63
        go_wp2_with (go_at_call 82; refine (abs_any _ _ (by omega)).mono ?_; rintro e w' ⟨rfl, rfl⟩; rw [show max (x - y) (0 - (x - y)) = max (x - y) (y - x) by omega])
        go_ret2
        exact ⟨tup2 (by unfold colV; (repeat' split) <;> first | rfl | omega | (simp only []; omega)) (by unfold colV; (repeat' split) <;> first | rfl | omega | (simp only []; omega)), rfl⟩
  · by_cases hxy : y ≤ x
    · have hd1 : decide (y ≤ x) = true := decide_eq_true hxy
      go_enter Try.func63, Try.ntmps63
      go_wp2_with (go_at_call 82; refine (abs_any _ _ (by omega)).mono ?_; rintro e w' ⟨rfl, rfl⟩; rw [show max (x - y) (0 - (x - y)) = max (x - y) (y - x) by omega])
      go_ret2
      exact ⟨tup2 (by unfold colV; (repeat' split) <;> first | rfl | omega | (simp only []; omega)) (by unfold colV; (repeat' split) <;> first | rfl | omega | (simp only []; omega)), rfl⟩
    · have hd1 : decide (y ≤ x) = false := decide_eq_false hxy
      go_enter Try.func63, Try.ntmps63
      go_wp2_with (go_at_call 82; refine (abs_any _ _ (by omega)).mono ?_; rintro e w' ⟨rfl, rfl⟩; rw [show max (x - y) (0 - (x - y)) = max (x - y) (y - x) by omega])
      go_ret2
      exact ⟨tup2 (by unfold colV; (repeat' split) <;> first | rfl | omega | (simp only []; omega)) (by unfold colV; (repeat' split) <;> first | rfl | omega | (simp only []; omega)), rfl⟩
set_option maxHeartbeats 4000000 in
theorem l16Column_any (bug x y : Int) (w : World) (hb0 : 0 ≤ bug) (hb5 : bug ≤ 5) (hx0 : -1 ≤ x) (hx1 : x ≤ 9) (hy0 : 0 ≤ y) (hy1 : y ≤ 9) :
    Calls Try.prog 61 #[.int .i64 bug, .int .i64 x, .int .i64 y] w fun e w' => e = .returned (.tuple #[.int .i64 (colV bug x y).1, .int .i64 (colV bug x y).2]) ∧ w = w' := by
  rcases (show bug = 0 ∨ bug = 1 ∨ bug = 2 ∨ bug = 3 ∨ bug = 4 ∨ bug = 5 by omega) with rfl | rfl | rfl | rfl | rfl | rfl
  · by_cases hxy : y ≤ x
    · have hd1 : decide (y ≤ x) = true := decide_eq_true hxy
      go_enter Try.func61, Try.ntmps61
      go_wp2_with (go_at_call 80; refine (l1Most_any _ _ _).mono ?_; rintro e w' ⟨rfl, rfl⟩)
      go_ret2
      exact ⟨tup2 (by unfold colV; (repeat' split) <;> first | rfl | omega | (simp only []; omega)) (by unfold colV; (repeat' split) <;> first | rfl | omega | (simp only []; omega)), rfl⟩
    · have hd1 : decide (y ≤ x) = false := decide_eq_false hxy
      go_enter Try.func61, Try.ntmps61
      go_wp2_with (go_at_call 80; refine (l1Most_any _ _ _).mono ?_; rintro e w' ⟨rfl, rfl⟩)
      go_ret2
      exact ⟨tup2 (by unfold colV; (repeat' split) <;> first | rfl | omega | (simp only []; omega)) (by unfold colV; (repeat' split) <;> first | rfl | omega | (simp only []; omega)), rfl⟩
  · go_enter Try.func61, Try.ntmps61
    go_wp2_with (go_at_call 80; refine (l1Most_any _ _ _).mono ?_; rintro e w' ⟨rfl, rfl⟩)
    go_ret2
    exact ⟨tup2 (by unfold colV; (repeat' split) <;> first | rfl | omega | (simp only []; omega)) (by simp [colV]), rfl⟩
  · by_cases hxy : y ≤ x
    · have hd1 : decide (y ≤ x) = true := decide_eq_true hxy
      go_enter Try.func61, Try.ntmps61
      go_wp2_with (go_at_call 80; refine (l1Most_any _ _ _).mono ?_; rintro e w' ⟨rfl, rfl⟩)
      go_ret2
      exact ⟨tup2 (by unfold colV; (repeat' split) <;> first | rfl | omega | (simp only []; omega)) (by unfold colV; (repeat' split) <;> first | rfl | omega | (simp only []; omega)), rfl⟩
    · have hd1 : decide (y ≤ x) = false := decide_eq_false hxy
      go_enter Try.func61, Try.ntmps61
      go_wp2_with (go_at_call 80; refine (l1Most_any _ _ _).mono ?_; rintro e w' ⟨rfl, rfl⟩)
      go_ret2
      exact ⟨tup2 (by unfold colV; (repeat' split) <;> first | rfl | omega | (simp only []; omega)) (by unfold colV; (repeat' split) <;> first | rfl | omega | (simp only []; omega)), rfl⟩
  · by_cases hxy : y ≤ x
    · have hd1 : decide (y ≤ x) = true := decide_eq_true hxy
      by_cases hx : x = 0
      · subst hx
        by_cases hy : y = 0
        · subst hy
          go_enter Try.func61, Try.ntmps61
          go_wp2_with (go_at_call 80; refine (l1Most_any _ _ _).mono ?_; rintro e w' ⟨rfl, rfl⟩)
          go_ret2
          exact ⟨tup2 (by unfold colV; (repeat' split) <;> first | rfl | omega | (simp only []; omega)) (by unfold colV; (repeat' split) <;> first | rfl | omega | (simp only []; omega)), rfl⟩
        · have hd2 : (y != 0) = true := by simp [hy]
          have hd3 : decide (0 < y) = true := decide_eq_true (by omega)
          go_enter Try.func61, Try.ntmps61
          go_wp2_with (go_at_call 80; refine (l1Most_any _ _ _).mono ?_; rintro e w' ⟨rfl, rfl⟩)
          go_ret2
          exact ⟨tup2 (by unfold colV; (repeat' split) <;> first | rfl | omega | (simp only []; omega)) (by unfold colV; (repeat' split) <;> first | rfl | omega | (simp only []; omega)), rfl⟩
      · have hd2 : (x == 0) = false := by simp [hx]
        go_enter Try.func61, Try.ntmps61
        go_wp2_with (go_at_call 80; refine (l1Most_any _ _ _).mono ?_; rintro e w' ⟨rfl, rfl⟩)
        go_ret2
        exact ⟨tup2 (by unfold colV; (repeat' split) <;> first | rfl | omega | (simp only []; omega)) (by unfold colV; (repeat' split) <;> first | rfl | omega | (simp only []; omega)), rfl⟩
    · have hd1 : decide (y ≤ x) = false := decide_eq_false hxy
      by_cases hx : x = 0
      · subst hx
        by_cases hy : y = 0
        · subst hy
          omega
        · have hd2 : (y != 0) = true := by simp [hy]
          have hd3 : decide (0 < y) = true := decide_eq_true (by omega)
          go_enter Try.func61, Try.ntmps61
          go_wp2_with (go_at_call 80; refine (l1Most_any _ _ _).mono ?_; rintro e w' ⟨rfl, rfl⟩)
          go_ret2
          exact ⟨tup2 (by unfold colV; (repeat' split) <;> first | rfl | omega | (simp only []; omega)) (by unfold colV; (repeat' split) <;> first | rfl | omega | (simp only []; omega)), rfl⟩
      · have hd2 : (x == 0) = false := by simp [hx]
        go_enter Try.func61, Try.ntmps61
        go_wp2_with (go_at_call 80; refine (l1Most_any _ _ _).mono ?_; rintro e w' ⟨rfl, rfl⟩)
        go_ret2
        exact ⟨tup2 (by unfold colV; (repeat' split) <;> first | rfl | omega | (simp only []; omega)) (by unfold colV; (repeat' split) <;> first | rfl | omega | (simp only []; omega)), rfl⟩
  · by_cases hxy : y ≤ x
    · have hd1 : decide (y ≤ x) = true := decide_eq_true hxy
      by_cases hx : x = 0
      · subst hx
        by_cases hy : y = 0
        · subst hy
          go_enter Try.func61, Try.ntmps61
          go_wp2_with (go_at_call 80; refine (l1Most_any _ _ _).mono ?_; rintro e w' ⟨rfl, rfl⟩)
          go_ret2
          exact ⟨tup2 (by unfold colV; (repeat' split) <;> first | rfl | omega | (simp only []; omega)) (by unfold colV; (repeat' split) <;> first | rfl | omega | (simp only []; omega)), rfl⟩
        · have hd2 : (y != 0) = true := by simp [hy]
          have hd3 : decide (0 < y) = true := decide_eq_true (by omega)
          go_enter Try.func61, Try.ntmps61
          go_wp2_with (go_at_call 80; refine (l1Most_any _ _ _).mono ?_; rintro e w' ⟨rfl, rfl⟩)
          go_ret2
          exact ⟨tup2 (by unfold colV; (repeat' split) <;> first | rfl | omega | (simp only []; omega)) (by unfold colV; (repeat' split) <;> first | rfl | omega | (simp only []; omega)), rfl⟩
      · have hd2 : (x == 0) = false := by simp [hx]
        go_enter Try.func61, Try.ntmps61
        go_wp2_with (go_at_call 80; refine (l1Most_any _ _ _).mono ?_; rintro e w' ⟨rfl, rfl⟩)
        go_ret2
        exact ⟨tup2 (by unfold colV; (repeat' split) <;> first | rfl | omega | (simp only []; omega)) (by unfold colV; (repeat' split) <;> first | rfl | omega | (simp only []; omega)), rfl⟩
    · have hd1 : decide (y ≤ x) = false := decide_eq_false hxy
      by_cases hx : x = 0
      · subst hx
        by_cases hy : y = 0
        · subst hy
          omega
        · have hd2 : (y != 0) = true := by simp [hy]
          have hd3 : decide (0 < y) = true := decide_eq_true (by omega)
          go_enter Try.func61, Try.ntmps61
          go_wp2_with (go_at_call 80; refine (l1Most_any _ _ _).mono ?_; rintro e w' ⟨rfl, rfl⟩)
          go_ret2
          exact ⟨tup2 (by unfold colV; (repeat' split) <;> first | rfl | omega | (simp only []; omega)) (by unfold colV; (repeat' split) <;> first | rfl | omega | (simp only []; omega)), rfl⟩
      · have hd2 : (x == 0) = false := by simp [hx]
        go_enter Try.func61, Try.ntmps61
        go_wp2_with (go_at_call 80; refine (l1Most_any _ _ _).mono ?_; rintro e w' ⟨rfl, rfl⟩)
        go_ret2
        exact ⟨tup2 (by unfold colV; (repeat' split) <;> first | rfl | omega | (simp only []; omega)) (by unfold colV; (repeat' split) <;> first | rfl | omega | (simp only []; omega)), rfl⟩
  · by_cases hxy : y ≤ x
    · have hd1 : decide (y ≤ x) = true := decide_eq_true hxy
      go_enter Try.func61, Try.ntmps61
      go_wp2_with (go_at_call 80; refine (l1Most_any _ _ _).mono ?_; rintro e w' ⟨rfl, rfl⟩)
      go_ret2
      exact ⟨tup2 (by unfold colV; (repeat' split) <;> first | rfl | omega | (simp only []; omega)) (by unfold colV; (repeat' split) <;> first | rfl | omega | (simp only []; omega)), rfl⟩
    · have hd1 : decide (y ≤ x) = false := decide_eq_false hxy
      go_enter Try.func61, Try.ntmps61
      go_wp2_with (go_at_call 80; refine (l1Most_any _ _ _).mono ?_; rintro e w' ⟨rfl, rfl⟩)
      go_ret2
      exact ⟨tup2 (by unfold colV; (repeat' split) <;> first | rfl | omega | (simp only []; omega)) (by unfold colV; (repeat' split) <;> first | rfl | omega | (simp only []; omega)), rfl⟩

def taskB (a b : Int) : Bool := inB a 0 9999 && inB b 0 a
theorem taskB_iff (a b : Int) : taskB a b = true ↔ (0 ≤ a ∧ a ≤ 9999) ∧ (0 ≤ b ∧ b ≤ a) := by
  simp only [taskB, Bool.and_eq_true, inB_iff]
theorem taskB_spec (a b : Int) : taskB a b = (inB b 0 a && decide (a ≤ 9999)) := by
  rw [Bool.eq_iff_iff, taskB_iff]; simp only [Bool.and_eq_true, inB_iff, decide_eq_true_eq]; omega
set_option maxHeartbeats 400000 in
theorem isTask_any (a b : Int) (w : World) :
    Calls Try.prog 54 #[.int .i64 a, .int .i64 b] w fun e w' => e = .returned (.bool (taskB a b)) ∧ w = w' := by
  unfold taskB
  cases h : inB a 0 9999
  · go_enter Try.func54, Try.ntmps54
    go_wp2_with (go_at_call 73; refine (within_any _ _ _ _).mono ?_; rintro e w' ⟨rfl, rfl⟩)
    go_ret
    exact ⟨rfl, rfl⟩
  · go_enter Try.func54, Try.ntmps54
    go_wp2_with (go_at_call 73; refine (within_any _ _ _ _).mono ?_; rintro e w' ⟨rfl, rfl⟩)
    go_ret
    exact ⟨rfl, rfl⟩
set_option maxHeartbeats 400000 in
theorem l16Task_any (a b : Int) (w : World) :
    Calls Try.prog 51 #[.int .i64 a, .int .i64 b] w fun e w' => e = .returned (.bool (taskB a b)) ∧ w = w' := by
  rw [taskB_spec]
  cases h : inB b 0 a
  · go_enter Try.func51, Try.ntmps51
    go_wp2_with (go_at_call 69; refine (l1In_any _ _ _ _).mono ?_; rintro e w' ⟨rfl, rfl⟩)
    go_ret
    exact ⟨rfl, rfl⟩
  · go_enter Try.func51, Try.ntmps51
    go_wp2_with (go_at_call 69; refine (l1In_any _ _ _ _).mono ?_; rintro e w' ⟨rfl, rfl⟩)
    go_ret
    exact ⟨rfl, rfl⟩
set_option maxHeartbeats 400000 in
theorem isBug_any (n : Int) (w : World) :
    Calls Try.prog 53 #[.int .i64 n] w fun e w' => e = .returned (.bool (inB n 0 5)) ∧ w = w' := by
  go_enter Try.func53, Try.ntmps53
  go_wp2_with (go_at_call 73; refine (within_any _ _ _ _).mono ?_; rintro e w' ⟨rfl, rfl⟩)
  go_ret
  exact ⟨rfl, rfl⟩
set_option maxHeartbeats 400000 in
theorem l16Bug_any (n : Int) (w : World) :
    Calls Try.prog 50 #[.int .i64 n] w fun e w' => e = .returned (.bool (inB n 0 5)) ∧ w = w' := by
  go_enter Try.func50, Try.ntmps50
  go_wp2_with (go_at_call 69; refine (l1In_any _ _ _ _).mono ?_; rintro e w' ⟨rfl, rfl⟩)
  go_ret
  exact ⟨rfl, rfl⟩
attribute [irreducible] colV
end Go.Proofs.Ytcljnfmlakpflaa
