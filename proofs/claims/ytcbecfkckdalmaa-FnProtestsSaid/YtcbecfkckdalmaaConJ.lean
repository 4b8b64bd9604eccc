/-
  Standings: rows put in by their place, and rows laid place by place: plain.
-/
import Derived.Test.YtcbecfkckdalmaaConH
import Derived.Test.YtcbecfkckdalmaaPut
namespace Go.Proofs.Ytcbecfkckdalmaa
open Go.RowKit

theorem posL_split (L1 L2 : List Int) (n : Int) (h1 : ∀ x ∈ L1, ¬ n < x) (h2 : ∀ x ∈ L2, n < x) : posL (L1 ++ L2) n (L1 ++ L2).length = L1.length := by
  have hj : ∀ j, j ≤ L2.length → posL (L1 ++ L2) n (L1.length + j) = L1.length := by
    intro j
    induction j with
    | zero =>
      intro _
      rw [Nat.add_zero]
      rcases Nat.eq_zero_or_pos L1.length with h0 | h0
      · rw [h0]; rfl
      · obtain ⟨m, hm⟩ : ∃ m, L1.length = m + 1 := ⟨L1.length - 1, by omega⟩
        rw [hm]
        refine posL_stop ?_
        rw [List.getD_eq_getElem?_getD, List.getElem?_append_left (by omega), List.getElem?_eq_getElem (by omega)]
        exact h1 _ (List.getElem_mem _)
    | succ j ih =>
      intro hj
      rw [← Nat.add_assoc, posL_down]
      · exact ih (by omega)
      · rw [List.getD_eq_getElem?_getD, List.getElem?_append_right (by omega), show L1.length + j - L1.length = j by omega, List.getElem?_eq_getElem (by omega)]
        exact h2 _ (List.getElem_mem _)
  have h := hj L2.length (Nat.le_refl _)
  rwa [← List.length_append] at h
theorem flatMap_same {α β : Type} {l : List α} {f g : α → List β} (h : ∀ x ∈ l, f x = g x) : l.flatMap f = l.flatMap g := by
  induction l with
  | nil => rfl
  | cons a l ih => rw [List.flatMap_cons, List.flatMap_cons, h a (by simp), ih (fun x hx => h x (by simp [hx]))]

/-- Put in by the key, the last one behind those of the same key. -/
def insK {α : Type} (f : α → Int) (l : List α) : Nat → List α
  | 0 => []
  | k + 1 => match l[k]? with
    | some x => insL (insK f l k) (posL ((insK f l k).map f) (f x) (insK f l k).length) x
    | none => insK f l k
theorem insK_zero {α : Type} (f : α → Int) (l : List α) : insK f l 0 = [] := rfl
theorem insK_succ {α : Type} {f : α → Int} {l : List α} {k : Nat} {x : α} (hx : l[k]? = some x) : insK f l (k + 1) = insL (insK f l k) (posL ((insK f l k).map f) (f x) (insK f l k).length) x := by simp [insK, hx]
theorem insK_len {α : Type} (f : α → Int) (l : List α) (k : Nat) (h : k ≤ l.length) : (insK f l k).length = k := by
  induction k with
  | zero => rfl
  | succ k ih =>
    rw [insK_succ (List.getElem?_eq_getElem (by omega)), length_insL, ih (by omega)]
theorem insK_mem {α : Type} (f : α → Int) (l : List α) (k : Nat) (h : k ≤ l.length) (y : α) : y ∈ insK f l k ↔ y ∈ l.take k := by
  induction k with
  | zero => simp [insK_zero]
  | succ k ih =>
    have hx : l[k]? = some (l[k]'(by omega)) := List.getElem?_eq_getElem (by omega)
    rw [insK_succ hx, mem_insL, take_snoc' hx, List.mem_append, List.mem_singleton, ih (by omega)]
    exact ⟨fun h => h.symm, fun h => h.symm⟩
/-- Laid key by key. -/
def buckB {α : Type} (f : α → Int) (l : List α) (p : Nat) : List α := l.filter fun x => f x == (p : Int) + 1
def buck {α : Type} (f : α → Int) (l : List α) (m : Nat) : List α := (List.range m).flatMap (buckB f l)
theorem buckB_snoc_miss {α : Type} {f : α → Int} {l : List α} {x : α} {p : Nat} (h : ¬ f x = (p : Int) + 1) : buckB f (l ++ [x]) p = buckB f l p := by
  unfold buckB; rw [List.filter_append]; simp [h]
theorem buckB_snoc_hit {α : Type} {f : α → Int} {l : List α} {x : α} {p : Nat} (h : f x = (p : Int) + 1) : buckB f (l ++ [x]) p = buckB f l p ++ [x] := by
  unfold buckB; rw [List.filter_append]; simp [h]
theorem buck_parts {α : Type} (f : α → Int) (l : List α) (m q : Nat) (hq : q < m) :
    buck f l m = (List.range q).flatMap (buckB f l) ++ buckB f l q ++ ((List.range (m - (q + 1))).map (q + 1 + ·)).flatMap (buckB f l) := by
  unfold buck
  conv => lhs; rw [show m = (q + 1) + (m - (q + 1)) by omega, List.range_add, List.flatMap_append, List.range_succ, List.flatMap_append]
  simp
theorem mem_buckB {α : Type} {f : α → Int} {l : List α} {p : Nat} {y : α} (h : y ∈ buckB f l p) : y ∈ l ∧ f y = (p : Int) + 1 := by
  unfold buckB at h; simpa using h
theorem buck_snoc {α : Type} (f : α → Int) (l : List α) (x : α) (m q : Nat) (hq : q < m) (hx : f x = (q : Int) + 1) :
    buck f (l ++ [x]) m = insL (buck f l m) (posL ((buck f l m).map f) (f x) (buck f l m).length) x := by
  have e1 : (List.range q).flatMap (buckB f (l ++ [x])) = (List.range q).flatMap (buckB f l) := flatMap_same (fun p hp => buckB_snoc_miss (by have := List.mem_range.1 hp; omega))
  have e2 : ((List.range (m - (q + 1))).map (q + 1 + ·)).flatMap (buckB f (l ++ [x])) = ((List.range (m - (q + 1))).map (q + 1 + ·)).flatMap (buckB f l) := flatMap_same (fun p hp => buckB_snoc_miss (by
    obtain ⟨r, _, rfl⟩ := List.mem_map.1 hp
    omega))
  rw [buck_parts f (l ++ [x]) m q hq, e1, e2, buckB_snoc_hit hx, buck_parts f l m q hq]
  generalize hL1 : (List.range q).flatMap (buckB f l) ++ buckB f l q = L1
  generalize hL2 : ((List.range (m - (q + 1))).map (q + 1 + ·)).flatMap (buckB f l) = L2
  have h1 : ∀ y ∈ L1.map f, ¬ f x < y := by
    intro y hy
    obtain ⟨z, hz, rfl⟩ := List.mem_map.1 hy
    rw [← hL1, List.mem_append, List.mem_flatMap] at hz
    rcases hz with ⟨p, hp, hz⟩ | hz
    · have := (mem_buckB hz).2
      have := List.mem_range.1 hp
      omega
    · have := (mem_buckB hz).2
      omega
  have h2 : ∀ y ∈ L2.map f, f x < y := by
    intro y hy
    obtain ⟨z, hz, rfl⟩ := List.mem_map.1 hy
    rw [← hL2, List.mem_flatMap] at hz
    obtain ⟨p, hp, hz⟩ := hz
    obtain ⟨r, _, rfl⟩ := List.mem_map.1 hp
    have := (mem_buckB hz).2
    omega
  have hp : posL ((L1 ++ L2).map f) (f x) (L1 ++ L2).length = L1.length := by
    have := posL_split (L1.map f) (L2.map f) (f x) h1 h2
    rw [← List.map_append, List.length_map, List.length_map] at this
    exact this
  rw [hp]
  unfold insL
  rw [List.take_left, List.drop_left, ← List.append_assoc, hL1]
  simp
theorem insK_buck {α : Type} (f : α → Int) (l : List α) (m : Nat) (h : ∀ x ∈ l, 1 ≤ f x ∧ f x ≤ m) (k : Nat) (hk : k ≤ l.length) : insK f l k = buck f (l.take k) m := by
  induction k with
  | zero => rw [insK_zero, List.take_zero]; unfold buck buckB; simp
  | succ k ih =>
    have hx : l[k]? = some (l[k]'(by omega)) := List.getElem?_eq_getElem (by omega)
    have hb := h _ (List.mem_of_getElem? hx)
    rw [insK_succ hx, take_snoc' hx, buck_snoc f _ _ m (f (l[k]'(by omega)) - 1).toNat (by omega) (by omega), ih (by omega)]
theorem insK_buck_all {α : Type} (f : α → Int) (l : List α) (m : Nat) (h : ∀ x ∈ l, 1 ≤ f x ∧ f x ≤ m) : insK f l l.length = buck f l m := by
  rw [insK_buck f l m h l.length (Nat.le_refl _), List.take_length]

/-! ### places -/
theorem betB_irr (a : RankV) : betB a a = false := by
  rw [betB_wrong rfl rfl]; simp
theorem cntB_lt {α : Type} {f : α → Bool} {l : List α} {x : α} (hx : x ∈ l) (h : f x = false) : cntB f l l.length < l.length := by
  unfold cntB
  rw [List.take_length]
  have : (l.filter f).length < l.length := by
    rcases Nat.lt_or_ge (l.filter f).length l.length with h1 | h1
    · exact h1
    · have := List.length_filter_eq_length_iff.1 (Nat.le_antisymm (List.length_filter_le f l) h1) x hx
      rw [h] at this; cases this
  omega
theorem placV_bd (l : List SolvedV) {p : Int} (hp : p ∈ pupV l) : 1 ≤ placV l p ∧ placV l p ≤ (pupV l).length := by
  rw [placV_eq]
  have h1 := cntB_bd (fun q => betB (rankV l q) (rankV l p)) (pupV l) (pupV l).length
  have h2 := cntB_lt (f := fun q => betB (rankV l q) (rankV l p)) hp (betB_irr _)
  omega
/-- The rows of the standings: place and pupil. -/
def rowsP (l : List SolvedV) : List (Int × Int) := (pupV l).map fun p => (placV l p, p)
theorem rowsP_len (l : List SolvedV) : (rowsP l).length = (pupV l).length := List.length_map _
theorem rowsP_at {l : List SolvedV} {k : Nat} {p : Int} (h : (pupV l)[k]? = some p) : (rowsP l)[k]? = some (placV l p, p) := by
  unfold rowsP; rw [List.getElem?_map, h]; rfl
theorem rowsP_bd (l : List SolvedV) : ∀ x ∈ rowsP l, 1 ≤ x.1 ∧ x.1 ≤ (pupV l).length := by
  intro x hx
  unfold rowsP at hx
  obtain ⟨p, hp, rfl⟩ := List.mem_map.1 hx
  exact placV_bd l hp
def stV (l : List SolvedV) : List (Int × Int) := insK Prod.fst (rowsP l) (rowsP l).length
theorem stV_buck (l : List SolvedV) : stV l = buck Prod.fst (rowsP l) (pupV l).length := insK_buck_all _ _ _ (rowsP_bd l)
theorem stV_len (l : List SolvedV) : (stV l).length = (pupV l).length := by
  unfold stV; rw [insK_len _ _ _ (Nat.le_refl _), rowsP_len]
theorem stV_mem (l : List SolvedV) (x : Int × Int) : x ∈ stV l ↔ x ∈ rowsP l := by
  unfold stV; rw [insK_mem _ _ _ (Nat.le_refl _), List.take_length]
end Go.Proofs.Ytcbecfkckdalmaa
