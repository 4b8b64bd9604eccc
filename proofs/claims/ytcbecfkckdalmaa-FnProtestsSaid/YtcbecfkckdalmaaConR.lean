/-
  How many right answers are needed: plain.
-/
import Derived.Test.YtcbecfkckdalmaaConM
namespace Go.Proofs.Ytcbecfkckdalmaa
open Go.RowKit

theorem scoreW_wide {x : SolvedV} (h0 : 0 ≤ x.right) (h1 : x.right ≤ 1000) (h2 : 0 ≤ x.wrong) (h3 : x.wrong ≤ 1000) : scoreW x = max 0 (10 * x.right - 5 * x.wrong) ∧ 0 ≤ scoreW x ∧ scoreW x ≤ 10000 := by
  have e : scoreW x = max 0 (10 * x.right - 5 * x.wrong) := by
    unfold scoreW
    rw [wrap_in (10 * x.right) (by omega) (by omega), wrap_in (5 * x.wrong) (by omega) (by omega), wrap_in _ (by omega) (by omega)]
  exact ⟨e, by rw [e]; omega, by rw [e]; omega⟩
theorem good_row {l : List SolvedV} (h : goodB l = true) {k : Nat} {x : SolvedV} (hx : l[k]? = some x) : solvedB x = true := (good_pair h).2.1 x (List.mem_of_getElem? hx)
theorem sums_bd {l : List SolvedV} (h : goodB l = true) (p : Int) (k : Nat) (hk : k ≤ 12) : 0 ≤ (sums l p k).total ∧ (sums l p k).total ≤ 1000 * (k : Int) ∧ 0 ≤ (sums l p k).time ∧ (sums l p k).time ≤ 3600 * (k : Int) ∧ 0 ≤ (sums l p k).wrong ∧ (sums l p k).wrong ≤ 100 * (k : Int) := by
  induction k with
  | zero => rw [sums_zero]; simp
  | succ k ih =>
    have ih := ih (by omega)
    cases hx : l[k]? with
    | none =>
      have : sums l p (k + 1) = sums l p k := by
        conv => lhs; unfold sums
        rw [hx]
      rw [this]; omega
    | some x =>
      have hs := good_row h hx
      have hb := scoreW_in hs
      have hr := solvedB_iff hs
      by_cases hp : x.pupil = p
      · rw [sums_hit hx hp]
        simp only []
        rw [wrap_in ((sums l p k).total + scoreW x) (by omega) (by omega), wrap_in ((sums l p k).time + x.time) (by omega) (by omega), wrap_in ((sums l p k).wrong + x.wrong) (by omega) (by omega)]
        omega
      · rw [sums_miss hx hp]; omega
theorem sumsV_bd {l : List SolvedV} (h : goodB l = true) (p : Int) : 0 ≤ (sumsV l p).total ∧ (sumsV l p).total ≤ 12000 := by
  have h12 := goodB_len h
  have := sums_bd h p l.length h12
  unfold sumsV
  omega
/-- The greatest total of another pupil. -/
def mostA (l : List SolvedV) (p : Int) : Nat → Int
  | 0 => -1
  | k + 1 => match (pupV l)[k]? with
    | some q => if q = p then mostA l p k else max (mostA l p k) (sumsV l q).total
    | none => mostA l p k
theorem mostA_zero (l : List SolvedV) (p : Int) : mostA l p 0 = -1 := rfl
theorem mostA_own {l : List SolvedV} {p : Int} {k : Nat} {q : Int} (hx : (pupV l)[k]? = some q) (h : q = p) : mostA l p (k + 1) = mostA l p k := by simp [mostA, hx, h]
theorem mostA_other {l : List SolvedV} {p : Int} {k : Nat} {q : Int} (hx : (pupV l)[k]? = some q) (h : ¬ q = p) : mostA l p (k + 1) = max (mostA l p k) (sumsV l q).total := by simp [mostA, hx, h]
theorem mostA_bd {l : List SolvedV} (h : goodB l = true) (p : Int) (k : Nat) : -1 ≤ mostA l p k ∧ mostA l p k ≤ 12000 := by
  induction k with
  | zero => rw [mostA_zero]; omega
  | succ k ih =>
    cases hx : (pupV l)[k]? with
    | none =>
      have : mostA l p (k + 1) = mostA l p k := by simp [mostA, hx]
      rw [this]; exact ih
    | some q =>
      have hb := sumsV_bd h q
      by_cases e : q = p
      · rw [mostA_own hx e]; exact ih
      · rw [mostA_other hx e]; omega
def moreR (x : SolvedV) (n : Int) : SolvedV := ⟨x.pupil, x.heat, x.right + n, x.wrong, x.time⟩
def hitX (p T M : Int) (n : Int) (x : SolvedV) : Bool := decide (x.pupil = p) && decide (M < T - scoreW x + scoreW (moreR x n))
def hitB (l : List SolvedV) (p T M : Int) (n : Nat) (k : Nat) : Bool := (l.take k).any (hitX p T M n)
theorem hitB_zero (l : List SolvedV) (p T M : Int) (n : Nat) : hitB l p T M n 0 = false := by simp [hitB]
theorem hitB_no {l : List SolvedV} {p T M : Int} {n k : Nat} {x : SolvedV} (h : hitB l p T M n k = false) (hx : l[k]? = some x) (hh : hitX p T M n x = false) : hitB l p T M n (k + 1) = false := by
  unfold hitB at *; rw [take_snoc' hx, List.any_append, h]; simp [hh]
theorem hitB_yes {l : List SolvedV} {p T M : Int} {n k : Nat} {x : SolvedV} (hx : l[k]? = some x) (hh : hitX p T M n x = true) : hitB l p T M n l.length = true := by
  unfold hitB
  rw [List.take_length, List.any_eq_true]
  exact ⟨x, List.mem_of_getElem? hx, hh⟩
theorem hitX_other {p T M n : Int} {x : SolvedV} (h : ¬ x.pupil = p) : hitX p T M n x = false := by simp [hitX, h]
theorem hitX_own {p T M n : Int} {x : SolvedV} (h : x.pupil = p) : hitX p T M n x = decide (M < T - scoreW x + scoreW (moreR x n)) := by simp [hitX, h]
def ndF (l : List SolvedV) (p T M : Int) : Option Nat := (List.range 101).find? fun n => hitB l p T M n l.length
theorem nd_some {l : List SolvedV} {p T M : Int} {n : Nat} (hn : n ≤ 100) (h : ∀ m, m < n → hitB l p T M m l.length = false) (hh : hitB l p T M n l.length = true) : ndF l p T M = some n := by
  unfold ndF
  rw [List.find?_range_eq_some]
  exact ⟨hh, by simp; omega, fun j hj => by rw [h j hj]; rfl⟩
theorem nd_none {l : List SolvedV} {p T M : Int} (h : ∀ m, m < 101 → hitB l p T M m l.length = false) : ndF l p T M = none := by
  unfold ndF
  rw [List.find?_eq_none]
  intro x hx
  rw [h x (List.mem_range.1 hx)]
  simp
def ndQ (l : List SolvedV) (p : Int) : Option Nat := ndF l p (sumsV l p).total (mostA l p (pupV l).length)
def ndOk (l : List SolvedV) (p : Int) : Bool := totOk l p && (ndQ l p).isSome
def ndV (l : List SolvedV) (p : Int) : Int := if ndOk l p = true then (match ndQ l p with | some n => (n : Int) | none => 0) else 0
theorem nd_no {l : List SolvedV} {p : Int} (h : totOk l p = false) : ndV l p = 0 ∧ ndOk l p = false := by
  have : ndOk l p = false := by simp [ndOk, h]
  exact ⟨if_neg (by simp [this]), this⟩
theorem nd_end {l : List SolvedV} {p : Int} (h : ndQ l p = none) : ndV l p = 0 ∧ ndOk l p = false := by
  have : ndOk l p = false := by simp [ndOk, h]
  exact ⟨if_neg (by simp [this]), this⟩
theorem nd_hit {l : List SolvedV} {p : Int} {n : Nat} (h : totOk l p = true) (hq : ndQ l p = some n) : ndV l p = n ∧ ndOk l p = true := by
  have : ndOk l p = true := by simp [ndOk, h, hq]
  exact ⟨by unfold ndV; rw [if_pos this, hq], this⟩
attribute [irreducible] mostA hitB ndV ndOk ndF ndQ hitX
end Go.Proofs.Ytcbecfkckdalmaa
