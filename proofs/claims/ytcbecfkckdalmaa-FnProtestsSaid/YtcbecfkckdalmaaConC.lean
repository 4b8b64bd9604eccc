/-
  The score and the test of rows, of the program and of the reference: contracts of the exported functions.
-/
import Derived.Test.YtcbecfkckdalmaaConB
namespace Go.Proofs.Ytcbecfkckdalmaa
open Go.RowKit

set_option maxHeartbeats 400000 in
theorem areSolvedS_any (A : Option Addr) (c : Nat) (l : List SolvedV) (w : World) (hn : l.length ≤ 16777216) (h : RdT solvedT w A l) :
    Calls Try.prog 22 #[.slice A l.length c] w fun e w' => e = .returned (.bool (goodB l)) ∧ Below w.heap.size w w' := by
  go_enter Try.func22, Try.ntmps22
  go_wp2_with (go_at_call 69; refine (l18Good_any A c l _ hn h).mono ?_; rintro e w1 ⟨rfl, hb⟩)
  go_ret
  exact ⟨rfl, hb⟩

def scoreV (x : SolvedV) : Int := if solvedB x = true then scoreW x else 0
set_option maxHeartbeats 800000 in
theorem scoreOfI_any (p h r q t : Int) (w : World) :
    Calls Try.prog 20 #[.agg #[.int .i64 p, .int .i64 h, .int .i64 r, .int .i64 q, .int .i64 t]] w fun e w' => e = .returned (.tuple #[.int .i64 (scoreV ⟨p, h, r, q, t⟩), .bool (solvedB ⟨p, h, r, q, t⟩)]) ∧ Below w.heap.size w w' := by
  cases hs : solvedB ⟨p, h, r, q, t⟩
  · have e : scoreV ⟨p, h, r, q, t⟩ = 0 := if_neg (by simp [hs])
    rw [e]
    go_enter Try.func20, Try.ntmps20
    go_wp2_with (go_at_call 18; refine (isSolved_any _ _ _ _ _ _).mono ?_; rintro e w2 ⟨rfl, hb2⟩)
    go_ret2
    exact ⟨rfl, ((Below.refl _ _).alloc (Nat.le_refl _) _).trans (hb2.mono (by simp))⟩
  · have e : scoreV ⟨p, h, r, q, t⟩ = scoreW ⟨p, h, r, q, t⟩ := if_pos hs
    rw [e]
    go_enter Try.func20, Try.ntmps20
    go_wp2_with (first | (go_at_call 18; refine (isSolved_any _ _ _ _ _ _).mono ?_; rintro e w2 ⟨rfl, hb2⟩; have hbx := (box_cells hb2).2) | (go_at_call 68; refine (scoreOf_any _ _ _ _ _ _).mono ?_; rintro e w3 ⟨rfl, hb3⟩))
    go_ret2
    exact ⟨rfl, (((Below.refl _ _).alloc (Nat.le_refl _) _).trans (hb2.mono (by simp))).trans (hb3.mono (by have := hb2.size; simp at this; omega))⟩
set_option maxHeartbeats 800000 in
theorem scoreOfS_any (p h r q t : Int) (w : World) :
    Calls Try.prog 19 #[.agg #[.int .i64 p, .int .i64 h, .int .i64 r, .int .i64 q, .int .i64 t]] w fun e w' => e = .returned (.tuple #[.int .i64 (scoreV ⟨p, h, r, q, t⟩), .bool (solvedB ⟨p, h, r, q, t⟩)]) ∧ Below w.heap.size w w' := by
  cases hs : solvedB ⟨p, h, r, q, t⟩
  · have e : scoreV ⟨p, h, r, q, t⟩ = 0 := if_neg (by simp [hs])
    rw [e]
    go_enter Try.func19, Try.ntmps19
    go_wp2_with (go_at_call 63; refine (l18One_any _ _ _ _ _ _).mono ?_; rintro e w2 ⟨rfl, hb2⟩)
    go_ret2
    exact ⟨rfl, ((Below.refl _ _).alloc (Nat.le_refl _) _).trans (hb2.mono (by simp))⟩
  · have e : scoreV ⟨p, h, r, q, t⟩ = scoreW ⟨p, h, r, q, t⟩ := if_pos hs
    rw [e]
    go_enter Try.func19, Try.ntmps19
    go_wp2_with (first | (go_at_call 63; refine (l18One_any _ _ _ _ _ _).mono ?_; rintro e w2 ⟨rfl, hb2⟩; have hbx := (box_cells hb2).2) | (go_at_call 67; refine (l18Score_any _ _ _ _ _ _).mono ?_; rintro e w3 ⟨rfl, hb3⟩))
    go_ret2
    exact ⟨rfl, (((Below.refl _ _).alloc (Nat.le_refl _) _).trans (hb2.mono (by simp))).trans (hb3.mono (by have := hb2.size; simp at this; omega))⟩

end Go.Proofs.Ytcbecfkckdalmaa
