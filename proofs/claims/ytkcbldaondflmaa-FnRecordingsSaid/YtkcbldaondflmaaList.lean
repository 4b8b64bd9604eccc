/-
  Tests and sums along a list: plain.
-/
import Derived.Test.YtkcbldaondflmaaInts
import Derived.Test.YtkcbldaondflmaaTyped
import Derived.StillTailTactics
import Derived.Deep.RegionHeld3
import Derived.Lib.QuietBelow
namespace Go.Proofs.Ytkcbldaondflmaa
open Go.RowKit

/-! ### plain: tests and sums along a list -/
theorem all_succ {α : Type} {l : List α} {k : Nat} {x : α} (p : α → Bool) (hx : l[k]? = some x) : (l.take (k + 1)).all p = ((l.take k).all p && p x) := by
  rw [take_snoc' hx, List.all_append]; simp
theorem all_bad {α : Type} {l : List α} {k : Nat} {x : α} (p : α → Bool) (hx : l[k]? = some x) (h : p x = false) : l.all p = false := by
  rw [List.all_eq_false]
  exact ⟨x, List.mem_of_getElem? hx, by simp [h]⟩
theorem all_take {α : Type} (l : List α) (p : α → Bool) (k : Nat) (hk : l.length ≤ k) : (l.take k).all p = l.all p := by rw [List.take_of_length_le hk]
theorem all_get {α : Type} {l : List α} {p : α → Bool} (h : l.all p = true) {k : Nat} {x : α} (hx : l[k]? = some x) : p x = true := List.all_eq_true.1 h x (List.mem_of_getElem? hx)
def sumTo {α : Type} (f : α → Int) (l : List α) (k : Nat) : Int := ((l.take k).map f).sum
theorem sumTo_zero {α : Type} (f : α → Int) (l : List α) : sumTo f l 0 = 0 := by simp [sumTo]
theorem sumTo_succ {α : Type} (f : α → Int) {l : List α} {k : Nat} {x : α} (hx : l[k]? = some x) : sumTo f l (k + 1) = sumTo f l k + f x := by
  unfold sumTo
  rw [take_snoc' hx, List.map_append, List.sum_append]; simp
theorem sumTo_bd {α : Type} (f : α → Int) (B : Nat) (l : List α) (h : ∀ x ∈ l, 0 ≤ f x ∧ f x ≤ B) (k : Nat) : 0 ≤ sumTo f l k ∧ sumTo f l k ≤ B * k := by
  induction k with
  | zero => simp [sumTo]
  | succ k ih =>
    by_cases hk : k < l.length
    · obtain ⟨x, hx⟩ := get_of_lt l hk
      have := h x (List.mem_of_getElem? hx)
      rw [sumTo_succ f hx]
      have e : ((k + 1 : Nat) : Int) = (k : Int) + 1 := by omega
      rw [e, Int.mul_add]
      omega
    · have e : sumTo f l (k + 1) = sumTo f l k := by unfold sumTo; rw [List.take_of_length_le (by omega), List.take_of_length_le (by omega)]
      rw [e]
      have e : ((k + 1 : Nat) : Int) = (k : Int) + 1 := by omega
      rw [e, Int.mul_add]
      omega
attribute [irreducible] sumTo

end Go.Proofs.Ytkcbldaondflmaa
