/-
  A number put into a rising list: plain.
-/
import Derived.Test.YtcbecfkckdalmaaGap
namespace Go.Proofs.Ytcbecfkckdalmaa
open Go.RowKit

def posL (L : List Int) (n : Int) : Nat → Nat
  | 0 => 0
  | k + 1 => if n < L.getD k 0 then posL L n k else k + 1
theorem posL_le (L : List Int) (n : Int) (k : Nat) : posL L n k ≤ k := by
  induction k with
  | zero => exact Nat.le_refl _
  | succ k ih => simp only [posL]; split <;> omega
theorem posL_down {L : List Int} {n : Int} {k : Nat} (h : n < L.getD k 0) : posL L n (k + 1) = posL L n k := by simp only [posL]; rw [if_pos h]
theorem posL_stop {L : List Int} {n : Int} {k : Nat} (h : ¬ n < L.getD k 0) : posL L n (k + 1) = k + 1 := by simp only [posL]; rw [if_neg h]
theorem posL_zero (L : List Int) (n : Int) : posL L n 0 = 0 := rfl
/-- What the list is behind it. -/
def putAt (L : List Int) (n : Int) (k : Nat) : List Int := if 0 < k ∧ L.getD (k - 1) 0 = n then L else insL L k n
def putL (L : List Int) (n : Int) : List Int := putAt L n (posL L n L.length)
theorem putAt_zero (L : List Int) (n : Int) : putAt L n 0 = insL L 0 n := by simp [putAt]
theorem putAt_has {L : List Int} {n : Int} {k : Nat} (h : L.getD k 0 = n) : putAt L n (k + 1) = L := by unfold putAt; rw [if_pos ⟨Nat.succ_pos k, h⟩]
theorem putAt_new {L : List Int} {n : Int} {k : Nat} (h : ¬ L.getD k 0 = n) : putAt L n (k + 1) = insL L (k + 1) n := by unfold putAt; rw [if_neg (fun hh => h hh.2)]
theorem putL_len (L : List Int) (n : Int) : (putL L n).length ≤ L.length + 1 := by
  unfold putL putAt
  split
  · omega
  · rw [length_insL]; omega

/-! ### rising lists -/
def rise (L : List Int) : Prop := L.Pairwise (· < ·)
theorem rise_nil : rise [] := List.Pairwise.nil
theorem rise_lt {L : List Int} (h : rise L) {i j : Nat} (hij : i < j) (hj : j < L.length) : L.getD i 0 < L.getD j 0 := by
  have := List.pairwise_iff_getElem.1 h i j (by omega) hj hij
  simpa [List.getD_eq_getElem?_getD, List.getElem?_eq_getElem hj, List.getElem?_eq_getElem (show i < L.length by omega)] using this
theorem posL_hi (L : List Int) (n : Int) (k : Nat) : ∀ j, posL L n k ≤ j → j < k → n < L.getD j 0 := by
  induction k with
  | zero => intro j _ h; omega
  | succ k ih =>
    intro j h1 h2
    by_cases h : n < L.getD k 0
    · rw [posL_down h] at h1
      by_cases e : j = k
      · subst e; exact h
      · exact ih j h1 (by omega)
    · rw [posL_stop h] at h1; omega
theorem posL_lo (L : List Int) (n : Int) (k : Nat) : posL L n k = 0 ∨ (0 < posL L n k ∧ ¬ n < L.getD (posL L n k - 1) 0) := by
  induction k with
  | zero => exact .inl rfl
  | succ k ih =>
    by_cases h : n < L.getD k 0
    · rw [posL_down h]; exact ih
    · rw [posL_stop h]; exact .inr ⟨by omega, h⟩
theorem getD_of {L : List Int} {j : Nat} {x : Int} (h : L[j]? = some x) : L.getD j 0 = x := by rw [List.getD_eq_getElem?_getD, h]; rfl
theorem mem_take_lt {L : List Int} {k : Nat} {x : Int} (h : x ∈ L.take k) : ∃ j, j < k ∧ j < L.length ∧ L.getD j 0 = x := by
  obtain ⟨j, hj⟩ := List.getElem?_of_mem h
  have hlt := (List.getElem?_eq_some_iff.1 hj).1
  rw [List.length_take] at hlt
  rw [List.getElem?_take_of_lt (by omega)] at hj
  exact ⟨j, by omega, by omega, getD_of hj⟩
theorem mem_drop_ge {L : List Int} {k : Nat} {x : Int} (h : x ∈ L.drop k) : ∃ j, k ≤ j ∧ j < L.length ∧ L.getD j 0 = x := by
  obtain ⟨j, hj⟩ := List.getElem?_of_mem h
  have hlt := (List.getElem?_eq_some_iff.1 hj).1
  rw [List.length_drop] at hlt
  rw [List.getElem?_drop] at hj
  exact ⟨k + j, by omega, by omega, getD_of hj⟩
theorem getD_mem {L : List Int} {j : Nat} (h : j < L.length) : L.getD j 0 ∈ L := by
  rw [List.getD_eq_getElem?_getD, List.getElem?_eq_getElem h]; exact List.getElem_mem h
theorem rise_parts {L : List Int} (h : rise L) (n : Int) (p : Nat) (hp : p ≤ L.length) (hhi : ∀ j, p ≤ j → j < L.length → n < L.getD j 0) (hlo : p = 0 ∨ (0 < p ∧ L.getD (p - 1) 0 < n)) :
    rise (insL L p n) ∧ n ∉ L := by
  have h1 : ∀ x ∈ L.take p, x < n := by
    intro x hx
    obtain ⟨j, hj, hjl, rfl⟩ := mem_take_lt hx
    rcases hlo with h0 | ⟨h0, hlt⟩
    · omega
    · by_cases e : j = p - 1
      · rw [e]; exact hlt
      · have := rise_lt h (i := j) (j := p - 1) (by omega) (by omega); omega
  have h2 : ∀ x ∈ L.drop p, n < x := by
    intro x hx
    obtain ⟨j, hj, hjl, rfl⟩ := mem_drop_ge hx
    exact hhi j hj hjl
  have hsp : (L.take p ++ L.drop p).Pairwise (· < ·) := by rw [List.take_append_drop]; exact h
  obtain ⟨q1, q2, q3⟩ := List.pairwise_append.1 hsp
  refine ⟨?_, ?_⟩
  · refine List.pairwise_append.2 ⟨q1, List.pairwise_cons.2 ⟨h2, q2⟩, fun a ha b hb => ?_⟩
    rcases List.mem_cons.1 hb with rfl | hb
    · exact h1 a ha
    · exact q3 a ha b hb
  · intro hn
    rw [← List.take_append_drop p L, List.mem_append] at hn
    rcases hn with hn | hn
    · have := h1 n hn; omega
    · have := h2 n hn; omega
/-- What is put into a rising list. -/
theorem put_spec {L : List Int} (h : rise L) (n : Int) : rise (putL L n) ∧ (∀ x, x ∈ putL L n ↔ x = n ∨ x ∈ L) ∧ (n ∈ L → putL L n = L) ∧ (n ∉ L → (putL L n).length = L.length + 1) := by
  have hle := posL_le L n L.length
  have hhi := posL_hi L n L.length
  have hlo := posL_lo L n L.length
  by_cases hh : 0 < posL L n L.length ∧ L.getD (posL L n L.length - 1) 0 = n
  · have e : putL L n = L := if_pos hh
    have hm : n ∈ L := by rw [← hh.2]; exact getD_mem (by omega)
    rw [e]
    exact ⟨h, fun x => ⟨.inr, fun hx => by rcases hx with rfl | hx <;> assumption⟩, fun _ => rfl, fun hn => absurd hm hn⟩
  · have e : putL L n = insL L (posL L n L.length) n := if_neg hh
    have hr := rise_parts h n _ hle hhi (by rcases hlo with h0 | ⟨h0, h1⟩
                                            · exact .inl h0
                                            · right; refine ⟨h0, ?_⟩; have : ¬ L.getD (posL L n L.length - 1) 0 = n := fun e => hh ⟨h0, e⟩; omega)
    rw [e]
    exact ⟨hr.1, mem_insL L _ n, fun hn => absurd hn hr.2, fun _ => length_insL _ _ _⟩

/-! ### the numbers of a list, each once: rising, and as they come -/
def hasB (l : List Int) (n : Int) : Bool := l.contains n
theorem hasB_iff (l : List Int) (n : Int) : hasB l n = true ↔ n ∈ l := by simp [hasB]
theorem hasB_not (l : List Int) (n : Int) : hasB l n = false ↔ n ∉ l := by simp [hasB]
def addU (L : List Int) (n : Int) : List Int := if hasB L n = true then L else L ++ [n]
theorem addU_has {L : List Int} {n : Int} (h : hasB L n = true) : addU L n = L := if_pos h
theorem addU_new {L : List Int} {n : Int} (h : hasB L n = false) : addU L n = L ++ [n] := if_neg (by rw [h]; decide)
theorem addU_len (L : List Int) (n : Int) : (addU L n).length ≤ L.length + 1 := by unfold addU; split <;> simp
theorem put_add (l : List Int) : ∀ (P U : List Int), rise P → (∀ x, x ∈ P ↔ x ∈ U) → P.length = U.length → rise (l.foldl putL P) ∧ (∀ x, x ∈ l.foldl putL P ↔ x ∈ l.foldl addU U) ∧ (l.foldl putL P).length = (l.foldl addU U).length := by
  induction l with
  | nil => exact fun P U h1 h2 h3 => ⟨h1, h2, h3⟩
  | cons n l ih =>
    intro P U h1 h2 h3
    obtain ⟨s1, s2, s3, s4⟩ := put_spec h1 n
    refine ih _ _ s1 ?_ ?_
    · intro x
      rw [s2]
      by_cases hc : hasB U n = true
      · rw [addU_has hc, h2]
        have : n ∈ U := (hasB_iff _ _).1 hc
        exact ⟨fun h => by rcases h with rfl | h <;> assumption, .inr⟩
      · rw [addU_new (by simpa using hc), List.mem_append, List.mem_singleton, h2]
        exact ⟨fun h => h.symm, fun h => h.symm⟩
    · by_cases hc : hasB U n = true
      · have : n ∈ U := (hasB_iff _ _).1 hc
        rw [s3 ((h2 n).2 this), addU_has hc, h3]
      · have : n ∉ U := (hasB_not _ _).1 (by simpa using hc)
        rw [s4 (fun hn => this ((h2 n).1 hn)), addU_new (by simpa using hc), h3]; simp
theorem fold_put_len (l : List Int) : ∀ P, (l.foldl putL P).length ≤ P.length + l.length := by
  induction l with
  | nil => intro P; simp
  | cons n l ih => intro P; have := ih (putL P n); have := putL_len P n; simp only [List.foldl_cons, List.length_cons]; omega
theorem fold_add_len (l : List Int) : ∀ P, (l.foldl addU P).length ≤ P.length + l.length := by
  induction l with
  | nil => intro P; simp
  | cons n l ih => intro P; have := ih (addU P n); have := addU_len P n; simp only [List.foldl_cons, List.length_cons]; omega
def putTo (l : List Int) (k : Nat) : List Int := (l.take k).foldl putL []
def addTo (l : List Int) (k : Nat) : List Int := (l.take k).foldl addU []
theorem putTo_succ {l : List Int} {k : Nat} {x : Int} (h : l[k]? = some x) : putTo l (k + 1) = putL (putTo l k) x := by unfold putTo; rw [take_snoc' h, List.foldl_append]; rfl
theorem addTo_succ {l : List Int} {k : Nat} {x : Int} (h : l[k]? = some x) : addTo l (k + 1) = addU (addTo l k) x := by unfold addTo; rw [take_snoc' h, List.foldl_append]; rfl
theorem putTo_len (l : List Int) (k : Nat) : (putTo l k).length ≤ k := by have := fold_put_len (l.take k) []; have := List.length_take_le k l; unfold putTo; simp at *; omega
theorem addTo_len (l : List Int) (k : Nat) : (addTo l k).length ≤ k := by have := fold_add_len (l.take k) []; have := List.length_take_le k l; unfold addTo; simp at *; omega
theorem putTo_addTo (l : List Int) (k : Nat) : rise (putTo l k) ∧ (∀ x, x ∈ putTo l k ↔ x ∈ addTo l k) ∧ (putTo l k).length = (addTo l k).length := put_add _ [] [] rise_nil (fun _ => Iff.rfl) rfl
end Go.Proofs.Ytcbecfkckdalmaa
