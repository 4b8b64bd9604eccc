/-
  How far two lists of moves are apart: plain, and the costs' contracts.
-/
import Derived.Test.YtkcbldaondflmaaRecD
import Derived.Deep.DrawnRows
namespace Go.Proofs.Ytkcbldaondflmaa
open Go.RowKit

def costM (m n : MoveV) : Int := if sameM m n = true then 0 else if (m.rod == n.rod) = true then 1 else 2
theorem costM_same {m n : MoveV} (h : sameM m n = true) : costM m n = 0 := if_pos h
theorem costM_rod {m n : MoveV} (h : sameM m n = false) (h2 : (m.rod == n.rod) = true) : costM m n = 1 := by unfold costM; rw [if_neg (by rw [h]; decide), if_pos h2]
theorem costM_not {m n : MoveV} (h : sameM m n = false) (h2 : (m.rod == n.rod) = false) : costM m n = 2 := by unfold costM; rw [if_neg (by rw [h]; decide), if_neg (by rw [h2]; decide)]
theorem costM_bd (m n : MoveV) : 0 ≤ costM m n ∧ costM m n ≤ 2 := by unfold costM; (repeat' split) <;> omega
def evs (k : Nat) : List Int := (List.range k).map fun (i : Nat) => 2 * (i : Int)
theorem evs_succ (k : Nat) : evs (k + 1) = evs k ++ [2 * (k : Int)] := by simp [evs, List.range_succ]
theorem evs_len (k : Nat) : (evs k).length = k := by simp [evs]
theorem evs_zero : evs 0 = [] := rfl
theorem evs_bnd (k : Nat) : bnd (2 * (k : Int)) (evs k) := by
  unfold bnd
  intro x hx
  simp only [evs, List.mem_map, List.mem_range] at hx
  obtain ⟨i, hi, rfl⟩ := hx
  omega
theorem start_pad (n : Nat) (s : Int) : (List.replicate (n + 1) 0).set 0 s = pad [s] n := by unfold pad; simp [List.replicate_succ]
def distF (b : List MoveV) (m : MoveV) (k : Nat) (x y z : Int) : Int := match b[k]? with
  | some n => min (x + costM m n) (min (y + 2) (z + 2))
  | none => 0
theorem distF_at {b : List MoveV} {m n : MoveV} {k : Nat} (h : b[k]? = some n) (x y z : Int) : distF b m k x y z = min (x + costM m n) (min (y + 2) (z + 2)) := by simp [distF, h]
theorem distF_ok (b : List MoveV) (m : MoveV) (R : Int) (hR : 0 ≤ R) : okF R (distF b m) := by
  intro k x y z hx hy hz
  unfold distF
  split
  · rename_i n _
    have := costM_bd m n
    omega
  · omega
def distR (a b : List MoveV) (i : Nat) : List Int := dpR (distF b) (fun i => 2 * ((i : Int) + 1)) (evs (b.length + 1)) a b.length i
theorem distR_zero (a b : List MoveV) : distR a b 0 = evs (b.length + 1) := by unfold distR dpR; rfl
theorem distR_succ {a : List MoveV} (b : List MoveV) {i : Nat} {m : MoveV} (h : a[i]? = some m) : distR a b (i + 1) = dpN (distF b m) (2 * ((i : Int) + 1)) (distR a b i) b.length := dpR_succ _ _ _ _ h
theorem distR_len (a b : List MoveV) (i : Nat) : (distR a b i).length = b.length + 1 := dpR_len _ _ _ _ _ (evs_len _) i
theorem distR_bd (a b : List MoveV) (i : Nat) : bnd (2 * (b.length : Int) + 2 + 2 * (i : Int)) (distR a b i) :=
  dpR_bd (distF b) (fun i => 2 * ((i : Int) + 1)) (evs (b.length + 1)) a b.length (2 * (b.length : Int) + 2) (by omega) (fun m T hT => distF_ok b m T hT) (fun i => by omega) (by have := evs_bnd (b.length + 1); rw [show (2 : Int) * ((b.length + 1 : Nat) : Int) = 2 * (b.length : Int) + 2 by omega] at this; exact this) i
def distV (a b : List MoveV) : Int := (distR a b a.length).getD b.length 0
theorem distV_bd (a b : List MoveV) : 0 ≤ distV a b ∧ distV a b ≤ 2 * (b.length : Int) + 2 + 2 * (a.length : Int) := bnd_getD (distR_bd a b a.length) (by omega) _
attribute [irreducible] distF distR distV evs costM

set_option maxHeartbeats 1600000 in
theorem replaceCost_any (x0 x1 x2 y0 y1 y2 : Int) (w : World) :
    Calls Try.prog 61 #[.agg #[.int .i64 x0, .int .i64 x1, .int .i64 x2], .agg #[.int .i64 y0, .int .i64 y1, .int .i64 y2]] w fun e w' => e = .returned (.int .i64 (costM ⟨x0, x1, x2⟩ ⟨y0, y1, y2⟩)) ∧ Below w.heap.size w w' := by
  have heq := eq_move x0 x1 x2 y0 y1 y2
  cases hs : sameM ⟨x0, x1, x2⟩ ⟨y0, y1, y2⟩
  · cases hr : (x0 == y0)
    · rw [costM_not hs hr]
      go_enter Try.func61, Try.ntmps61
      go_wp2
      go_ret
      refine ⟨rfl, ?_⟩
      repeat (first | exact Below.refl _ _ | (refine Below.setCell ?_ (by first | omega | (simp; done) | (simp; omega)) _) | (refine Below.alloc ?_ (by first | omega | (simp; done) | (simp; omega)) _) | (refine below_drewN ?_ _))
    · rw [costM_rod hs hr]
      go_enter Try.func61, Try.ntmps61
      go_wp2
      go_ret
      refine ⟨rfl, ?_⟩
      repeat (first | exact Below.refl _ _ | (refine Below.setCell ?_ (by first | omega | (simp; done) | (simp; omega)) _) | (refine Below.alloc ?_ (by first | omega | (simp; done) | (simp; omega)) _) | (refine below_drewN ?_ _))
  · rw [costM_same hs]
    go_enter Try.func61, Try.ntmps61
    go_wp2
    go_ret
    refine ⟨rfl, ?_⟩
    repeat (first | exact Below.refl _ _ | (refine Below.setCell ?_ (by first | omega | (simp; done) | (simp; omega)) _) | (refine Below.alloc ?_ (by first | omega | (simp; done) | (simp; omega)) _) | (refine below_drewN ?_ _))
set_option maxHeartbeats 1600000 in
theorem l19Cost_any (x0 x1 x2 y0 y1 y2 : Int) (w : World) :
    Calls Try.prog 60 #[.agg #[.int .i64 x0, .int .i64 x1, .int .i64 x2], .agg #[.int .i64 y0, .int .i64 y1, .int .i64 y2]] w fun e w' => e = .returned (.int .i64 (costM ⟨x0, x1, x2⟩ ⟨y0, y1, y2⟩)) ∧ Below w.heap.size w w' := by
  have heq := eq_move x0 x1 x2 y0 y1 y2
  cases hs : sameM ⟨x0, x1, x2⟩ ⟨y0, y1, y2⟩
  · cases hr : (x0 == y0)
    · rw [costM_not hs hr]
      go_enter Try.func60, Try.ntmps60
      go_wp2
      go_ret
      refine ⟨rfl, ?_⟩
      repeat (first | exact Below.refl _ _ | (refine Below.setCell ?_ (by first | omega | (simp; done) | (simp; omega)) _) | (refine Below.alloc ?_ (by first | omega | (simp; done) | (simp; omega)) _) | (refine below_drewN ?_ _))
    · rw [costM_rod hs hr]
      go_enter Try.func60, Try.ntmps60
      go_wp2
      go_ret
      refine ⟨rfl, ?_⟩
      repeat (first | exact Below.refl _ _ | (refine Below.setCell ?_ (by first | omega | (simp; done) | (simp; omega)) _) | (refine Below.alloc ?_ (by first | omega | (simp; done) | (simp; omega)) _) | (refine below_drewN ?_ _))
  · rw [costM_same hs]
    go_enter Try.func60, Try.ntmps60
    go_wp2
    go_ret
    refine ⟨rfl, ?_⟩
    repeat (first | exact Below.refl _ _ | (refine Below.setCell ?_ (by first | omega | (simp; done) | (simp; omega)) _) | (refine Below.alloc ?_ (by first | omega | (simp; done) | (simp; omega)) _) | (refine below_drewN ?_ _))
set_option maxHeartbeats 400000 in
theorem l1Least_any (a b : Int) (w : World) :
    Calls Try.prog 59 #[.int .i64 a, .int .i64 b] w fun e w' => e = .returned (.int .i64 (min a b)) ∧ w = w' := by
  by_cases h1 : a < b
  · rw [Int.min_eq_left (by omega)]
    go_enter Try.func59, Try.ntmps59
    go_wp2
    go_ret
    exact ⟨rfl, rfl⟩
  · rw [Int.min_eq_right (by omega)]
    go_enter Try.func59, Try.ntmps59
    go_wp2
    go_ret
    exact ⟨rfl, rfl⟩
end Go.Proofs.Ytkcbldaondflmaa
