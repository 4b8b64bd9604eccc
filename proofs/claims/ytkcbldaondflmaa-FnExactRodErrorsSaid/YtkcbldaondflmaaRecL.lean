/-
  By how much the numbers of moves on the rods differ: plain.
-/
import Derived.Test.YtkcbldaondflmaaRecE
import Derived.Test.YtkcbldaondflmaaStep
namespace Go.Proofs.Ytkcbldaondflmaa
open Go.RowKit

def errA (l : List MoveV) (d : Int) (o : List Int) : Nat → List Int
  | 0 => o
  | k + 1 => match l[k]? with
    | some m => (errA l d o k).set m.rod.toNat ((errA l d o k).getD m.rod.toNat 0 + d)
    | none => errA l d o k
theorem errA_zero (l : List MoveV) (d : Int) (o : List Int) : errA l d o 0 = o := rfl
theorem errA_succ {l : List MoveV} (d : Int) (o : List Int) {k r : Nat} {x1 x2 : Int} (h : l[k]? = some ⟨(r : Int), x1, x2⟩) : errA l d o (k + 1) = (errA l d o k).set r ((errA l d o k).getD r 0 + d) := by simp [errA, h]
theorem errA_len (l : List MoveV) (d : Int) (o : List Int) (k : Nat) : (errA l d o k).length = o.length := by
  induction k with
  | zero => rfl
  | succ k ih => simp only [errA]; split <;> simp [ih]
def abd (R : Int) (l : List Int) : Prop := ∀ j : Nat, -R ≤ l.getD j 0 ∧ l.getD j 0 ≤ R
theorem abd_zero (n : Nat) : abd 0 (List.replicate n 0) := by
  intro j
  rw [List.getD_eq_getElem?_getD, List.getElem?_replicate]
  split <;> simp
theorem errA_bd (l : List MoveV) (d : Int) (hd : -1 ≤ d ∧ d ≤ 1) (o : List Int) (R : Int) (_hR : 0 ≤ R) (h : abd R o) (k : Nat) : abd (R + k) (errA l d o k) := by
  induction k with
  | zero => intro j; have := h j; simp only [errA]; omega
  | succ k ih =>
    intro j
    simp only [errA]
    split
    · rename_i m _
      rw [List.getD_eq_getElem?_getD, List.getElem?_set]
      have h1 := ih m.rod.toNat
      have h2 := ih j
      rw [List.getD_eq_getElem?_getD] at h2
      split
      · split
        · simp only [Option.getD_some]; omega
        · simp; omega
      · omega
    · have := ih j
      omega
def rodB (n : Int) (l : List MoveV) : Bool := l.all fun m => decide (m.rod < n)
def absL (l : List Int) : Nat → List Int
  | 0 => l
  | k + 1 => (absL l k).set k (max (l.getD k 0) (-l.getD k 0))
theorem absL_zero (l : List Int) : absL l 0 = l := rfl
theorem absL_succ (l : List Int) (k : Nat) : absL l (k + 1) = (absL l k).set k (max (l.getD k 0) (-l.getD k 0)) := rfl
theorem absL_len (l : List Int) (k : Nat) : (absL l k).length = l.length := by
  induction k with
  | zero => rfl
  | succ k ih => simp [absL, ih]
theorem absL_at (l : List Int) (k j : Nat) (h : k ≤ j) : (absL l k)[j]? = l[j]? := by
  induction k with
  | zero => rfl
  | succ k ih => simp only [absL]; rw [List.getElem?_set_ne (by omega)]; exact ih (by omega)
theorem absL_get (l : List Int) (k : Nat) (h : k < l.length) : (absL l k)[k]? = some (l.getD k 0) := by rw [absL_at l k k (Nat.le_refl _)]; exact get_getD l k h
def e1L (a : List MoveV) (n : Nat) : List Int := errA a 1 (List.replicate n 0) a.length
def e2L (a b : List MoveV) (n : Nat) : List Int := errA b (-1) (e1L a n) b.length
def reOk (a b : List MoveV) (n : Int) : Bool := recB a && recB b && inB n 1 8 && rodB n a && rodB n b
def reV (a b : List MoveV) (n : Int) : List Int := if reOk a b n = true then absL (e2L a b n.toNat) n.toNat else []
theorem reV_no {a b : List MoveV} {n : Int} (h : reOk a b n = false) : reV a b n = [] := by simp [reV, h]
theorem reV_yes {a b : List MoveV} {n : Int} (h : reOk a b n = true) : reV a b n = absL (e2L a b n.toNat) n.toNat := by simp [reV, h]
theorem e1L_len (a : List MoveV) (n : Nat) : (e1L a n).length = n := by unfold e1L; rw [errA_len]; simp
theorem e2L_len (a b : List MoveV) (n : Nat) : (e2L a b n).length = n := by unfold e2L; rw [errA_len, e1L_len]
theorem reV_len (a b : List MoveV) (n : Int) : (reV a b n).length ≤ 8 := by
  cases h : reOk a b n
  · rw [reV_no h]; simp
  · rw [reV_yes h, absL_len, e2L_len]
    simp only [reOk, Bool.and_eq_true] at h
    have := (inB_iff _ _ _).1 h.1.1.2
    omega
attribute [irreducible] errA absL rodB
end Go.Proofs.Ytkcbldaondflmaa
