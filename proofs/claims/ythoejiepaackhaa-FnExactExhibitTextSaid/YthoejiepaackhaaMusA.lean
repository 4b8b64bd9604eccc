/-
  Is it an exhibit; the greatest number that it shows: contracts.
-/
import Derived.Test.YthoejiepaackhaaExhibit
namespace Go.Proofs.Ythoejiepaackhaa
open Go.RowKit

def RetN (w : World) (n : Int) (ok : Bool) (e : Ending) (w' : World) : Prop := e = .returned (.tuple #[.int .i64 n, .bool ok]) ∧ Below w.heap.size w w'
def exhB (x : ExhibitV) : Bool := inB x.id_ 1 999 && wordB x.land && inB x.made 1000 2100 && inB x.upper 0 2 && inB x.lower 4 10 && inB x.rods 3 31 && inB x.case_ 0 9
theorem exhB_iff {x : ExhibitV} (h : exhB x = true) : (1 ≤ x.id_ ∧ x.id_ ≤ 999) ∧ (1000 ≤ x.made ∧ x.made ≤ 2100) ∧ (0 ≤ x.upper ∧ x.upper ≤ 2) ∧ (4 ≤ x.lower ∧ x.lower ≤ 10) ∧ (3 ≤ x.rods ∧ x.rods ≤ 31) ∧ (0 ≤ x.case_ ∧ x.case_ ≤ 9) := by
  simp only [exhB, Bool.and_eq_true, inB_iff] at h
  omega
theorem ok_size {x : ExhibitV} (h : x.ok) : x.land.size ≤ 1048576 := h
set_option maxHeartbeats 400000 in
theorem isId_any (n : Int) (w : World) : Calls Try.prog 41 #[.int .i64 n] w fun e w' => e = .returned (.bool (inB n 1 999)) ∧ w = w' := by
  go_enter Try.func41, Try.ntmps41
  go_wp2_with (go_at_call 43; refine (within_any _ _ _ _).mono ?_; rintro e w' ⟨rfl, rfl⟩)
  go_ret
  exact ⟨rfl, rfl⟩

set_option maxHeartbeats 1600000 in
theorem isExhibit_at (id_ : Int) (land : ByteArray) (made : Int) (upper : Int) (lower : Int) (rods : Int) (case_ : Int) (w : World) (hl : land.size ≤ 1048576) :
    Calls Try.prog 15 #[.agg #[.int .i64 id_, .string land, .int .i64 made, .int .i64 upper, .int .i64 lower, .int .i64 rods, .int .i64 case_]] w fun e w' => e = .returned (.bool (exhB ⟨id_, land, made, upper, lower, rods, case_⟩)) ∧ Below w.heap.size w w' := by
  unfold exhB
  simp only []
  have hm : land.size ≤ maxLen := by unfold maxLen; omega
  cases g0 : inB id_ 1 999
  · go_enter Try.func15, Try.ntmps15
    go_wp2_with (first | (go_at_call 41; refine (isId_any _ _).mono ?_; rintro e w' ⟨rfl, rfl⟩) | (go_at_call 42; refine (isWord_any _ _ hm).mono ?_; rintro e w' ⟨rfl, rfl⟩) | (go_at_call 43; refine (within_any _ _ _ _).mono ?_; rintro e w' ⟨rfl, rfl⟩))
    go_ret
    exact ⟨rfl, (Below.refl _ _).alloc (Nat.le_refl _) _⟩
  cases g1 : wordB land
  · go_enter Try.func15, Try.ntmps15
    go_wp2_with (first | (go_at_call 41; refine (isId_any _ _).mono ?_; rintro e w' ⟨rfl, rfl⟩) | (go_at_call 42; refine (isWord_any _ _ hm).mono ?_; rintro e w' ⟨rfl, rfl⟩) | (go_at_call 43; refine (within_any _ _ _ _).mono ?_; rintro e w' ⟨rfl, rfl⟩))
    go_ret
    exact ⟨rfl, (Below.refl _ _).alloc (Nat.le_refl _) _⟩
  cases g2 : inB made 1000 2100
  · go_enter Try.func15, Try.ntmps15
    go_wp2_with (first | (go_at_call 41; refine (isId_any _ _).mono ?_; rintro e w' ⟨rfl, rfl⟩) | (go_at_call 42; refine (isWord_any _ _ hm).mono ?_; rintro e w' ⟨rfl, rfl⟩) | (go_at_call 43; refine (within_any _ _ _ _).mono ?_; rintro e w' ⟨rfl, rfl⟩))
    go_ret
    exact ⟨rfl, (Below.refl _ _).alloc (Nat.le_refl _) _⟩
  cases g3 : inB upper 0 2
  · go_enter Try.func15, Try.ntmps15
    go_wp2_with (first | (go_at_call 41; refine (isId_any _ _).mono ?_; rintro e w' ⟨rfl, rfl⟩) | (go_at_call 42; refine (isWord_any _ _ hm).mono ?_; rintro e w' ⟨rfl, rfl⟩) | (go_at_call 43; refine (within_any _ _ _ _).mono ?_; rintro e w' ⟨rfl, rfl⟩))
    go_ret
    exact ⟨rfl, (Below.refl _ _).alloc (Nat.le_refl _) _⟩
  cases g4 : inB lower 4 10
  · go_enter Try.func15, Try.ntmps15
    go_wp2_with (first | (go_at_call 41; refine (isId_any _ _).mono ?_; rintro e w' ⟨rfl, rfl⟩) | (go_at_call 42; refine (isWord_any _ _ hm).mono ?_; rintro e w' ⟨rfl, rfl⟩) | (go_at_call 43; refine (within_any _ _ _ _).mono ?_; rintro e w' ⟨rfl, rfl⟩))
    go_ret
    exact ⟨rfl, (Below.refl _ _).alloc (Nat.le_refl _) _⟩
  cases g5 : inB rods 3 31
  · go_enter Try.func15, Try.ntmps15
    go_wp2_with (first | (go_at_call 41; refine (isId_any _ _).mono ?_; rintro e w' ⟨rfl, rfl⟩) | (go_at_call 42; refine (isWord_any _ _ hm).mono ?_; rintro e w' ⟨rfl, rfl⟩) | (go_at_call 43; refine (within_any _ _ _ _).mono ?_; rintro e w' ⟨rfl, rfl⟩))
    go_ret
    exact ⟨rfl, (Below.refl _ _).alloc (Nat.le_refl _) _⟩
  cases g6 : inB case_ 0 9
  · go_enter Try.func15, Try.ntmps15
    go_wp2_with (first | (go_at_call 41; refine (isId_any _ _).mono ?_; rintro e w' ⟨rfl, rfl⟩) | (go_at_call 42; refine (isWord_any _ _ hm).mono ?_; rintro e w' ⟨rfl, rfl⟩) | (go_at_call 43; refine (within_any _ _ _ _).mono ?_; rintro e w' ⟨rfl, rfl⟩))
    go_ret
    exact ⟨rfl, (Below.refl _ _).alloc (Nat.le_refl _) _⟩
  go_enter Try.func15, Try.ntmps15
  go_wp2_with (first | (go_at_call 41; refine (isId_any _ _).mono ?_; rintro e w' ⟨rfl, rfl⟩) | (go_at_call 42; refine (isWord_any _ _ hm).mono ?_; rintro e w' ⟨rfl, rfl⟩) | (go_at_call 43; refine (within_any _ _ _ _).mono ?_; rintro e w' ⟨rfl, rfl⟩))
  go_ret
  exact ⟨rfl, (Below.refl _ _).alloc (Nat.le_refl _) _⟩
theorem isExhibit_any (x : ExhibitV) (w : World) (hk : x.ok) : Calls Try.prog 15 #[.agg #[.int .i64 x.id_, .string x.land, .int .i64 x.made, .int .i64 x.upper, .int .i64 x.lower, .int .i64 x.rods, .int .i64 x.case_]] w fun e w' => e = .returned (.bool (exhB x)) ∧ Below w.heap.size w w' := isExhibit_at _ _ _ _ _ _ _ w hk
set_option maxHeartbeats 1600000 in
theorem l22One_at (id_ : Int) (land : ByteArray) (made : Int) (upper : Int) (lower : Int) (rods : Int) (case_ : Int) (w : World) (hl : land.size ≤ 1048576) :
    Calls Try.prog 40 #[.agg #[.int .i64 id_, .string land, .int .i64 made, .int .i64 upper, .int .i64 lower, .int .i64 rods, .int .i64 case_]] w fun e w' => e = .returned (.bool (exhB ⟨id_, land, made, upper, lower, rods, case_⟩)) ∧ Below w.heap.size w w' := by
  unfold exhB
  simp only []
  have hm : land.size ≤ maxLen := by unfold maxLen; omega
  cases g0 : inB id_ 1 999
  · go_enter Try.func40, Try.ntmps40
    go_wp2_with (first | (go_at_call 60; refine (l2Word_any _ _ hm).mono ?_; rintro e w' ⟨rfl, rfl⟩) | (go_at_call 57; refine (l1In_any _ _ _ _).mono ?_; rintro e w' ⟨rfl, rfl⟩))
    go_ret
    exact ⟨rfl, (Below.refl _ _).alloc (Nat.le_refl _) _⟩
  cases g1 : wordB land
  · go_enter Try.func40, Try.ntmps40
    go_wp2_with (first | (go_at_call 60; refine (l2Word_any _ _ hm).mono ?_; rintro e w' ⟨rfl, rfl⟩) | (go_at_call 57; refine (l1In_any _ _ _ _).mono ?_; rintro e w' ⟨rfl, rfl⟩))
    go_ret
    exact ⟨rfl, (Below.refl _ _).alloc (Nat.le_refl _) _⟩
  cases g2 : inB made 1000 2100
  · go_enter Try.func40, Try.ntmps40
    go_wp2_with (first | (go_at_call 60; refine (l2Word_any _ _ hm).mono ?_; rintro e w' ⟨rfl, rfl⟩) | (go_at_call 57; refine (l1In_any _ _ _ _).mono ?_; rintro e w' ⟨rfl, rfl⟩))
    go_ret
    exact ⟨rfl, (Below.refl _ _).alloc (Nat.le_refl _) _⟩
  cases g3 : inB upper 0 2
  · go_enter Try.func40, Try.ntmps40
    go_wp2_with (first | (go_at_call 60; refine (l2Word_any _ _ hm).mono ?_; rintro e w' ⟨rfl, rfl⟩) | (go_at_call 57; refine (l1In_any _ _ _ _).mono ?_; rintro e w' ⟨rfl, rfl⟩))
    go_ret
    exact ⟨rfl, (Below.refl _ _).alloc (Nat.le_refl _) _⟩
  cases g4 : inB lower 4 10
  · go_enter Try.func40, Try.ntmps40
    go_wp2_with (first | (go_at_call 60; refine (l2Word_any _ _ hm).mono ?_; rintro e w' ⟨rfl, rfl⟩) | (go_at_call 57; refine (l1In_any _ _ _ _).mono ?_; rintro e w' ⟨rfl, rfl⟩))
    go_ret
    exact ⟨rfl, (Below.refl _ _).alloc (Nat.le_refl _) _⟩
  cases g5 : inB rods 3 31
  · go_enter Try.func40, Try.ntmps40
    go_wp2_with (first | (go_at_call 60; refine (l2Word_any _ _ hm).mono ?_; rintro e w' ⟨rfl, rfl⟩) | (go_at_call 57; refine (l1In_any _ _ _ _).mono ?_; rintro e w' ⟨rfl, rfl⟩))
    go_ret
    exact ⟨rfl, (Below.refl _ _).alloc (Nat.le_refl _) _⟩
  cases g6 : inB case_ 0 9
  · go_enter Try.func40, Try.ntmps40
    go_wp2_with (first | (go_at_call 60; refine (l2Word_any _ _ hm).mono ?_; rintro e w' ⟨rfl, rfl⟩) | (go_at_call 57; refine (l1In_any _ _ _ _).mono ?_; rintro e w' ⟨rfl, rfl⟩))
    go_ret
    exact ⟨rfl, (Below.refl _ _).alloc (Nat.le_refl _) _⟩
  go_enter Try.func40, Try.ntmps40
  go_wp2_with (first | (go_at_call 60; refine (l2Word_any _ _ hm).mono ?_; rintro e w' ⟨rfl, rfl⟩) | (go_at_call 57; refine (l1In_any _ _ _ _).mono ?_; rintro e w' ⟨rfl, rfl⟩))
  go_ret
  exact ⟨rfl, (Below.refl _ _).alloc (Nat.le_refl _) _⟩
theorem l22One_any (x : ExhibitV) (w : World) (hk : x.ok) : Calls Try.prog 40 #[.agg #[.int .i64 x.id_, .string x.land, .int .i64 x.made, .int .i64 x.upper, .int .i64 x.lower, .int .i64 x.rods, .int .i64 x.case_]] w fun e w' => e = .returned (.bool (exhB x)) ∧ Below w.heap.size w w' := l22One_at _ _ _ _ _ _ _ w hk
set_option maxHeartbeats 800000 in
theorem isExhibitS_any (x : ExhibitV) (w : World) (hk : x.ok) : Calls Try.prog 13 #[.agg #[.int .i64 x.id_, .string x.land, .int .i64 x.made, .int .i64 x.upper, .int .i64 x.lower, .int .i64 x.rods, .int .i64 x.case_]] w fun e w' => e = .returned (.bool (exhB x)) ∧ Below w.heap.size w w' := by
  go_enter Try.func13, Try.ntmps13
  go_wp2_with (go_at_call 40; refine (l22One_any x _ hk).mono ?_; rintro e w1 ⟨rfl, hb1⟩)
  go_ret
  refine ⟨rfl, ?_⟩
  exact ((Below.refl _ _).alloc (Nat.le_refl _) _).trans (hb1.mono (by simp))
def gsV (x : ExhibitV) : Int := if exhB x = true then min 9 (5 * x.upper + x.lower) else 0
theorem gsV_no {x : ExhibitV} (h : exhB x = false) : gsV x = 0 := by simp [gsV, h]
theorem gsV_yes {x : ExhibitV} (h : exhB x = true) : gsV x = min 9 (5 * x.upper + x.lower) := by simp [gsV, h]
set_option maxHeartbeats 400000 in
theorem l1Least_any (a b : Int) (w : World) : Calls Try.prog 44 #[.int .i64 a, .int .i64 b] w fun e w' => e = .returned (.int .i64 (min a b)) ∧ w = w' := by
  by_cases h1 : a < b
  · rw [Int.min_eq_left (by omega)]
    go_enter Try.func44, Try.ntmps44
    go_wp2
    go_ret
    exact ⟨rfl, rfl⟩
  · rw [Int.min_eq_right (by omega)]
    go_enter Try.func44, Try.ntmps44
    go_wp2
    go_ret
    exact ⟨rfl, rfl⟩
set_option maxHeartbeats 800000 in
theorem greatestShownI_any (x : ExhibitV) (w : World) (hk : x.ok) : Calls Try.prog 17 #[.agg #[.int .i64 x.id_, .string x.land, .int .i64 x.made, .int .i64 x.upper, .int .i64 x.lower, .int .i64 x.rods, .int .i64 x.case_]] w (RetN w (gsV x) (exhB x)) := by
  have hE := fun W => isExhibit_any x W hk
  cases hg : exhB x
  · rw [gsV_no hg]
    rw [hg] at hE
    go_enter Try.func17, Try.ntmps17
    go_wp2_with (go_at_call 15; refine (hE _).mono ?_; rintro e w1 ⟨rfl, hb1⟩)
    go_ret2
    exact ⟨rfl, ((Below.refl _ _).alloc (Nat.le_refl _) _).trans (hb1.mono (by simp))⟩
  · rw [gsV_yes hg]
    rw [hg] at hE
    have hi := exhB_iff hg
    by_cases h9 : 5 * x.upper + x.lower < 9
    · rw [Int.min_eq_right (by omega)]
      go_enter Try.func17, Try.ntmps17
      go_wp2_with (go_at_call 15; refine (hE _).mono ?_; rintro e w1 ⟨rfl, hb1⟩; have hbx := (box_cells hb1).2)
      go_ret2
      exact ⟨rfl, ((Below.refl _ _).alloc (Nat.le_refl _) _).trans (hb1.mono (by simp))⟩
    · rw [Int.min_eq_left (by omega)]
      go_enter Try.func17, Try.ntmps17
      go_wp2_with (go_at_call 15; refine (hE _).mono ?_; rintro e w1 ⟨rfl, hb1⟩; have hbx := (box_cells hb1).2)
      go_ret2
      exact ⟨rfl, ((Below.refl _ _).alloc (Nat.le_refl _) _).trans (hb1.mono (by simp))⟩
set_option maxHeartbeats 800000 in
theorem greatestShownS_any (x : ExhibitV) (w : World) (hk : x.ok) : Calls Try.prog 16 #[.agg #[.int .i64 x.id_, .string x.land, .int .i64 x.made, .int .i64 x.upper, .int .i64 x.lower, .int .i64 x.rods, .int .i64 x.case_]] w (RetN w (gsV x) (exhB x)) := by
  have hE := fun W => l22One_any x W hk
  cases hg : exhB x
  · rw [gsV_no hg]
    rw [hg] at hE
    go_enter Try.func16, Try.ntmps16
    go_wp2_with (go_at_call 40; refine (hE _).mono ?_; rintro e w1 ⟨rfl, hb1⟩)
    go_ret2
    exact ⟨rfl, ((Below.refl _ _).alloc (Nat.le_refl _) _).trans (hb1.mono (by simp))⟩
  · rw [gsV_yes hg]
    rw [hg] at hE
    have hi := exhB_iff hg
    go_enter Try.func16, Try.ntmps16
    go_wp2_with (first | (go_at_call 40; refine (hE _).mono ?_; rintro e w1 ⟨rfl, hb1⟩; have hbx := (box_cells hb1).2) | (go_at_call 44; refine (l1Least_any _ _ _).mono ?_; rintro e w' ⟨rfl, rfl⟩))
    go_ret2
    exact ⟨rfl, ((Below.refl _ _).alloc (Nat.le_refl _) _).trans (hb1.mono (by simp))⟩
end Go.Proofs.Ythoejiepaackhaa

