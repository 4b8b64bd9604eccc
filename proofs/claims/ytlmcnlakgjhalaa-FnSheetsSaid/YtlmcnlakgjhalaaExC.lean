/-
  The columns that carry and the chains: contracts of CarryColumns, of the program and of the reference.
-/
import Derived.Test.YtlmcnlakgjhalaaExB
namespace Go.Proofs.Ytlmcnlakgjhalaa
open Go.RowKit

def colsR (a b : Int) : List Int := if exB a b = true then cols a b 4 else []
theorem colsR_len (a b : Int) : (colsR a b).length ≤ 4 := by
  unfold colsR
  split
  · exact cols_len _ _ _
  · simp
set_option maxHeartbeats 400000 in
theorem carryColumns_any (a b : Int) (w : World) : Calls Try.prog 19 #[.int .i64 a, .int .i64 b] w (RetI w (colsR a b) (exB a b)) := by
  cases hx : exB a b
  · have e : colsR a b = [] := if_neg (by simp [hx])
    rw [e]
    go_enter Try.func19, Try.ntmps19
    go_wp2_with (go_at_call 61; refine (isExercise_any _ _ _).mono ?_; rintro e w' ⟨rfl, rfl⟩)
    go_ret2
    exact ⟨_, _, rfl, OwnI.nil _ _, Below.refl _ _⟩
  · have e : colsR a b = cols a b 4 := if_pos hx
    rw [e]
    obtain ⟨⟨ha, ha'⟩, hb, hb'⟩ := (exB_iff _ _).1 hx
    go_enter Try.func19, Try.ntmps19
    go_wp2_with (first | (go_at_call 61; refine (isExercise_any _ _ _).mono ?_; rintro e w' ⟨rfl, rfl⟩) | (go_at_call 56; refine (carry_any a b _ ha ha' hb hb').mono ?_; rintro e w1 ⟨A, c, rfl, hown, hbl⟩))
    go_ret2
    exact ⟨A, c, rfl, hown, hbl⟩
set_option maxHeartbeats 400000 in
theorem carryColumns2_any (a b : Int) (w : World) : Calls Try.prog 18 #[.int .i64 a, .int .i64 b] w (RetI w (colsR a b) (exB a b)) := by
  cases hx : exB a b
  · have e : colsR a b = [] := if_neg (by simp [hx])
    rw [e]
    go_enter Try.func18, Try.ntmps18
    go_wp2_with (go_at_call 60; refine (l20Good_any _ _ _).mono ?_; rintro e w' ⟨rfl, rfl⟩)
    go_ret2
    exact ⟨_, _, rfl, OwnI.empty _ _ (Nat.le_refl _), (Below.refl _ _).alloc (Nat.le_refl _) _⟩
  · have e : colsR a b = cols a b 4 := if_pos hx
    rw [e]
    obtain ⟨⟨ha, ha'⟩, hb, hb'⟩ := (exB_iff _ _).1 hx
    go_enter Try.func18, Try.ntmps18
    go_wp2_with (first | (go_at_call 60; refine (l20Good_any _ _ _).mono ?_; rintro e w' ⟨rfl, rfl⟩) | (go_at_call 53; refine (columns_any a b _ ha ha' hb hb').mono ?_; rintro e w1 ⟨A, c, rfl, hown, hbl⟩))
    go_ret2
    exact ⟨A, c, rfl, hown, hbl⟩

end Go.Proofs.Ytlmcnlakgjhalaa
