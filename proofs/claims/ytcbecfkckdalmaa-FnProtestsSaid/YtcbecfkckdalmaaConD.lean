/-
  HeatWinner; the sums of a pupil: contracts.
-/
import Derived.Test.YtcbecfkckdalmaaConC
namespace Go.Proofs.Ytcbecfkckdalmaa
open Go.RowKit

/-- A call that returns a number, and whether there is one. -/
def RetN (w : World) (n : Int) (ok : Bool) (e : Ending) (w' : World) : Prop := e = .returned (.tuple #[.int .i64 n, .bool ok]) ∧ Below w.heap.size w w'

/-! ### the sums of a pupil, as the machine reckons them: total, time, wrong answers, number of rows -/
structure Sums where
  total : Int
  time : Int
  wrong : Int
  rows : Nat
def sums (l : List SolvedV) (p : Int) : Nat → Sums
  | 0 => ⟨0, 0, 0, 0⟩
  | k + 1 => match l[k]? with
    | some x => if x.pupil = p then ⟨wrap64 ((sums l p k).total + scoreW x), wrap64 ((sums l p k).time + x.time), wrap64 ((sums l p k).wrong + x.wrong), (sums l p k).rows + 1⟩ else sums l p k
    | none => sums l p k
theorem sums_hit {l : List SolvedV} {p : Int} {k : Nat} {x : SolvedV} (hx : l[k]? = some x) (h : x.pupil = p) :
    sums l p (k + 1) = ⟨wrap64 ((sums l p k).total + scoreW x), wrap64 ((sums l p k).time + x.time), wrap64 ((sums l p k).wrong + x.wrong), (sums l p k).rows + 1⟩ := by simp [sums, hx, h]
theorem sums_miss {l : List SolvedV} {p : Int} {k : Nat} {x : SolvedV} (hx : l[k]? = some x) (h : ¬ x.pupil = p) : sums l p (k + 1) = sums l p k := by simp [sums, hx, h]
theorem sums_rows (l : List SolvedV) (p : Int) (k : Nat) : (sums l p k).rows ≤ k := by
  induction k with
  | zero => simp [sums]
  | succ k ih =>
    simp only [sums]
    split
    · split
      · simp; omega
      · omega
    · omega
def sumsV (l : List SolvedV) (p : Int) : Sums := sums l p l.length
theorem sums_zero (l : List SolvedV) (p : Int) : sums l p 0 = ⟨0, 0, 0, 0⟩ := rfl
attribute [irreducible] sums

set_option maxHeartbeats 4000000 in
theorem l18Sums_any (A : Option Addr) (c : Nat) (l : List SolvedV) (p : Int) (w : World) (hn : l.length ≤ 16777216) (h : RdT solvedT w A l) :
    Calls Try.prog 72 #[.slice A l.length c, .int .i64 p] w fun e w' => e = .returned (.tuple #[.int .i64 (sumsV l p).total, .int .i64 (sumsV l p).time, .int .i64 (sumsV l p).wrong, .int .i64 (sumsV l p).rows]) ∧ Below w.heap.size w w' := by
  go_enter Try.func72, Try.ntmps72
  go_wp2
  go_loopw [8, 9, 10, 11, 12] (fun t u v n i wr => ∃ k : Nat, k ≤ l.length ∧ i = .int .i64 k ∧ t = .int .i64 (sums l p k).total ∧ u = .int .i64 (sums l p k).time ∧ v = .int .i64 (sums l p k).wrong ∧ n = .int .i64 (sums l p k).rows ∧ Below w.heap.size w wr) (fun _ _ _ _ i _ => l.length - (intOf i).toNat)
  case atStart => exact ⟨0, by omega, rfl, by rw [sums_zero], by rw [sums_zero], by rw [sums_zero], by rw [sums_zero]; rfl, Below.refl _ _⟩
  case round =>
    obtain ⟨k, hk, rfl, rfl, rfl, rfl, rfl, hb⟩ := hrel
    have hz := hb.size
    have hrows := sums_rows l p k
    have hr := h.below hb (Nat.le_refl _)
    by_cases hlt : k < l.length
    · obtain ⟨b, off, p', h', r, q, t, rfl, hx, hlb, hc0, hc1, hc2, hc3, hc4⟩ := solvedT_at hr hlt
      by_cases hp : p' = p
      · have E := Lib.hid (sums_hit hx hp)
        have hpe : (p' == p) = true := by simpa using hp
        clear hx hp
        go_wp2_with (go_at_call 67; refine (l18Score_any _ _ _ _ _ _).mono ?_; rintro e w2 ⟨rfl, hb2⟩; have hbx := (box_cells hb2).2)
        go_roundw
        case rel => exact ⟨k + 1, by omega, by go_num, by rw [E.out], by rw [E.out], by rw [E.out], by rw [E.out]; go_num, (hb.alloc hz _).trans (hb2.mono (by simp; omega))⟩
        case measure => simp [intOf]; omega
      · have E := Lib.hid (sums_miss hx hp)
        have hpe : (p' == p) = false := by simpa using hp
        clear hx hp
        go_wp2
        go_roundw
        case rel => exact ⟨k + 1, by omega, by go_num, by rw [E.out], by rw [E.out], by rw [E.out], by rw [E.out], hb.alloc hz _⟩
        case measure => simp [intOf]; omega
    · obtain rfl : k = l.length := by omega
      go_wp2
      refine bodyPost_ret (results_tmp4 rfl _ _ _) rfl ?_
      exact ⟨rfl, hb⟩
end Go.Proofs.Ytcbecfkckdalmaa
