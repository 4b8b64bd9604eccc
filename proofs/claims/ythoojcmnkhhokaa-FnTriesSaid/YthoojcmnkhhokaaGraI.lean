/-
  The hardest part: plain facts.
-/
import Derived.Test.YthoojcmnkhhokaaGraE
namespace Go.Proofs.Ythoojcmnkhhokaa
set_option maxRecDepth 100000
open Go.RowKit

def ptX (ts : List TryV) (k i : Nat) : Int := match ts[k]? with
  | some t => t.points.getD i 0
  | none => 0
theorem ptX_at {ts : List TryV} {k i : Nat} {t : TryV} {n : Int} (hx : ts[k]? = some t) (hn : t.points[i]? = some n) : ptX ts k i = n := by simp [ptX, hx, List.getD, hn]
def colA (ts : List TryV) (i : Nat) : Nat → Int
  | 0 => 0
  | k + 1 => colA ts i k + ptX ts k i
theorem colA_succ {ts : List TryV} {i k : Nat} {n : Int} (h : ptX ts k i = n) : colA ts i (k + 1) = colA ts i k + n := by show colA ts i k + ptX ts k i = _; rw [h]
def fulX (s : List PartV) (i : Nat) : Int := match s[i]? with
  | some x => x.full
  | none => 0
theorem fulX_at {s : List PartV} {i : Nat} {x : PartV} (hx : s[i]? = some x) : fulX s i = x.full := by simp [fulX, hx]
def bstA (s : List PartV) (c : Nat → Int) : Nat → Nat
  | 0 => 0
  | k + 1 => if c k * fulX s (bstA s c k) < c (bstA s c k) * fulX s k then k else bstA s c k
theorem bstA_lt (s : List PartV) (c : Nat → Int) {n k : Nat} (h : 0 < n) (hk : k ≤ n) : bstA s c k < n := by
  induction k with
  | zero => exact h
  | succ k ih =>
    unfold bstA
    split
    · omega
    · exact ih (by omega)
theorem bstA_one (s : List PartV) (c : Nat → Int) : bstA s c 1 = 0 := by
  unfold bstA
  split <;> rfl
theorem bstA_yes {s : List PartV} {c : Nat → Int} {k : Nat} (h : c k * fulX s (bstA s c k) < c (bstA s c k) * fulX s k) : bstA s c (k + 1) = k := if_pos h
theorem bstA_no {s : List PartV} {c : Nat → Int} {k : Nat} (h : ¬ c k * fulX s (bstA s c k) < c (bstA s c k) * fulX s k) : bstA s c (k + 1) = bstA s c k := if_neg h
theorem ptX_bd {s : List PartV} {ts : List TryV} (h : goodB s ts = true) (k i : Nat) : 0 ≤ ptX ts k i ∧ ptX ts k i ≤ 100 := by
  obtain ⟨hs, _, hall⟩ := goodB_iff h
  cases e : ts[k]? with
  | none => simp [ptX, e]
  | some t =>
    cases e2 : t.points[i]? with
    | none => simp [ptX, e, List.getD, e2]
    | some n =>
      rw [ptX_at e e2]
      exact try_point hs (hall _ (List.mem_of_getElem? e)) e2
theorem colA_bd {s : List PartV} {ts : List TryV} (h : goodB s ts = true) (i k : Nat) : 0 ≤ colA ts i k ∧ colA ts i k ≤ 100 * k := by
  induction k with
  | zero => simp [colA]
  | succ k ih =>
    have := ptX_bd h k i
    unfold colA
    omega
def tabA (ts : List TryV) (n k j : Nat) : List Int := (List.range n).map fun i => colA ts i k + (if i < j then ptX ts k i else 0)
theorem length_tabA (ts : List TryV) (n k j : Nat) : (tabA ts n k j).length = n := by simp [tabA]
theorem tabA_at (ts : List TryV) {n i : Nat} (k j : Nat) (h : i < n) : (tabA ts n k j)[i]? = some (colA ts i k + (if i < j then ptX ts k i else 0)) := by
  unfold tabA
  rw [List.getElem?_map, List.getElem?_range h]
  rfl
theorem tabA_cur (ts : List TryV) {n j : Nat} (k : Nat) (h : j < n) : (tabA ts n k j)[j]? = some (colA ts j k) := by
  rw [tabA_at ts k j h, if_neg (by omega), Int.add_zero]
theorem tabA_end (ts : List TryV) {n i : Nat} (k : Nat) (h : i < n) : (tabA ts n k 0)[i]? = some (colA ts i k) := by
  rw [tabA_at ts k 0 h, if_neg (by omega), Int.add_zero]
theorem tabA_zero (ts : List TryV) (n : Nat) : tabA ts n 0 0 = List.replicate n 0 := by
  apply List.ext_getElem?
  intro i
  by_cases h : i < n
  · rw [tabA_end ts 0 h, List.getElem?_replicate, if_pos h]; rfl
  · rw [List.getElem?_eq_none (by rw [length_tabA]; omega), List.getElem?_eq_none (by simp; omega)]
theorem tabA_set (ts : List TryV) {n j : Nat} (k : Nat) (h : j < n) : (tabA ts n k j).set j (colA ts j k + ptX ts k j) = tabA ts n k (j + 1) := by
  apply List.ext_getElem?
  intro i
  rw [List.getElem?_set]
  by_cases e : j = i
  · subst e
    rw [if_pos rfl, if_pos (by rw [length_tabA]; exact h), tabA_at ts k (j + 1) h, if_pos (by omega)]
  · rw [if_neg e]
    by_cases h2 : i < n
    · rw [tabA_at ts k j h2, tabA_at ts k (j + 1) h2]
      by_cases h3 : i < j
      · rw [if_pos h3, if_pos (by omega)]
      · rw [if_neg h3, if_neg (by omega)]
    · rw [List.getElem?_eq_none (by rw [length_tabA]; omega), List.getElem?_eq_none (by rw [length_tabA]; omega)]
theorem tabA_next (ts : List TryV) (n k : Nat) : tabA ts n k n = tabA ts n (k + 1) 0 := by
  apply List.ext_getElem?
  intro i
  by_cases h : i < n
  · rw [tabA_at ts k n h, if_pos h, tabA_end ts (k + 1) h]; rfl
  · rw [List.getElem?_eq_none (by rw [length_tabA]; omega), List.getElem?_eq_none (by rw [length_tabA]; omega)]
def colF (ts : List TryV) (n i : Nat) : Int := colA ts i n
def harO (s : List PartV) (ts : List TryV) : Bool := goodB s ts && decide (0 < ts.length)
def harV (s : List PartV) (ts : List TryV) : Int := if harO s ts = true then (bstA s (colF ts ts.length) s.length : Nat) else 0
theorem harO_no {s : List PartV} {ts : List TryV} (h : goodB s ts = false) : harO s ts = false := by simp [harO, h]
theorem harO_nil {s : List PartV} {ts : List TryV} (h : ts.length = 0) : harO s ts = false := by simp [harO, h]
theorem harO_yes {s : List PartV} {ts : List TryV} (h : goodB s ts = true) (h0 : 0 < ts.length) : harO s ts = true := by simp [harO, h, h0]
theorem harV_no {s : List PartV} {ts : List TryV} (h : harO s ts = false) : harV s ts = 0 := if_neg (by simp [h])
theorem harV_yes {s : List PartV} {ts : List TryV} (h : harO s ts = true) : harV s ts = (bstA s (colF ts ts.length) s.length : Nat) := if_pos h
theorem sch_len {s : List PartV} (h : schB s = true) : 1 ≤ s.length ∧ s.length ≤ 6 := by
  unfold schB at h
  simp only [Bool.and_eq_true] at h
  have := h.1
  simp [inB] at this
  omega
theorem prod_bd {x y : Int} (h1 : 0 ≤ x) (h2 : x ≤ 1000) (h3 : 0 ≤ y) (h4 : y ≤ 100) : 0 ≤ x * y ∧ x * y ≤ 100000 := by
  refine ⟨Int.mul_nonneg h1 h3, ?_⟩
  calc x * y ≤ 1000 * y := Int.mul_le_mul_of_nonneg_right h2 h3
    _ ≤ 1000 * 100 := Int.mul_le_mul_of_nonneg_left h4 (by decide)
end Go.Proofs.Ythoojcmnkhhokaa
