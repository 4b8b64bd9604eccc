/-
  The counting tries: plain.
-/
import Derived.Test.YthoojcmnkhhokaaGraF
import Derived.Test.YthoojcmnkhhokaaPut
namespace Go.Proofs.Ythoojcmnkhhokaa
set_option maxRecDepth 100000
open Go.RowKit

def pupOf (ts : List TryV) (o : Int) : Int := match ts[o.toNat]? with
  | some t => t.pupil
  | none => 0
theorem pupOf_at {ts : List TryV} {k : Nat} {t : TryV} (h : ts[k]? = some t) : pupOf ts (k : Int) = t.pupil := by
  unfold pupOf
  rw [Int.toNat_natCast, h]
/-- Those of a list of indices that are one pupil's. -/
def ofP (ts : List TryV) (p : Int) (L : List Int) : List Int := L.filter fun o => pupOf ts o == p
/-- The tries that count among the first k. -/
def cntA (s : List PartV) (ts : List TryV) : Nat → List Int
  | 0 => []
  | k + 1 => match ts[k]? with
    | some t => if t.grade = (ofP ts t.pupil (cntA s ts k)).length + 1 ∧ passB s t.points = true then cntA s ts k ++ [(k : Int)] else cntA s ts k
    | none => cntA s ts k
theorem cntA_zero (s : List PartV) (ts : List TryV) : cntA s ts 0 = [] := rfl
theorem cntA_yes {s : List PartV} {ts : List TryV} {k : Nat} {t : TryV} (hx : ts[k]? = some t) (h1 : t.grade = (ofP ts t.pupil (cntA s ts k)).length + 1) (h2 : passB s t.points = true) : cntA s ts (k + 1) = cntA s ts k ++ [(k : Int)] := by
  simp only [cntA, hx]
  rw [if_pos ⟨h1, h2⟩]
theorem cntA_no {s : List PartV} {ts : List TryV} {k : Nat} {t : TryV} (hx : ts[k]? = some t) (h : ¬ (t.grade = (ofP ts t.pupil (cntA s ts k)).length + 1 ∧ passB s t.points = true)) : cntA s ts (k + 1) = cntA s ts k := by
  simp only [cntA, hx]
  rw [if_neg h]
theorem cntA_mem (s : List PartV) (ts : List TryV) (k : Nat) : (∀ o ∈ cntA s ts k, 0 ≤ o ∧ o < k) ∧ rise (cntA s ts k) ∧ (cntA s ts k).length ≤ k := by
  induction k with
  | zero => exact ⟨fun o h => by simp [cntA] at h, rise_nil, Nat.le_refl _⟩
  | succ k ih =>
    obtain ⟨h1, h2, h3⟩ := ih
    have hsame : (∀ o ∈ cntA s ts k, 0 ≤ o ∧ o < ((k + 1 : Nat) : Int)) ∧ rise (cntA s ts k) ∧ (cntA s ts k).length ≤ k + 1 := ⟨fun o ho => by have := h1 o ho; omega, h2, by omega⟩
    cases hx : ts[k]? with
    | none => simp only [cntA, hx]; exact hsame
    | some t =>
      by_cases h : t.grade = (ofP ts t.pupil (cntA s ts k)).length + 1 ∧ passB s t.points = true
      · rw [cntA_yes hx h.1 h.2]
        refine ⟨fun o ho => ?_, ?_, by simp; omega⟩
        · rcases List.mem_append.1 ho with ho | ho
          · have := h1 o ho; omega
          · simp at ho; omega
        · unfold rise
          rw [List.pairwise_append]
          refine ⟨h2, List.pairwise_singleton _ _, fun a ha b hb => ?_⟩
          simp at hb
          have := h1 a ha
          omega
      · rw [cntA_no hx h]; exact hsame
/-- The program's list of one pupil's tries is the filter of the reference's. -/
theorem own_zero (s : List PartV) (ts : List TryV) (p : Int) : ofP ts p (cntA s ts 0) = [] := rfl
theorem own_yes {s : List PartV} {ts : List TryV} {k : Nat} {t : TryV} {p : Int} (hx : ts[k]? = some t) (hp : t.pupil = p) (h1 : t.grade = (ofP ts p (cntA s ts k)).length + 1) (h2 : passB s t.points = true) : ofP ts p (cntA s ts (k + 1)) = ofP ts p (cntA s ts k) ++ [(k : Int)] := by
  subst hp
  rw [cntA_yes hx h1 h2]
  unfold ofP
  rw [List.filter_append]
  congr 1
  simp [pupOf_at hx]
theorem own_no {s : List PartV} {ts : List TryV} {k : Nat} {t : TryV} {p : Int} (hx : ts[k]? = some t) (h : ¬ (t.pupil = p ∧ t.grade = (ofP ts p (cntA s ts k)).length + 1 ∧ passB s t.points = true)) : ofP ts p (cntA s ts (k + 1)) = ofP ts p (cntA s ts k) := by
  by_cases h2 : t.grade = (ofP ts t.pupil (cntA s ts k)).length + 1 ∧ passB s t.points = true
  · have hp : ¬ t.pupil = p := fun e => h ⟨e, by rw [← e]; exact h2.1, h2.2⟩
    rw [cntA_yes hx h2.1 h2.2]
    unfold ofP
    rw [List.filter_append]
    have : List.filter (fun o => pupOf ts o == p) [(k : Int)] = [] := by simp [pupOf_at hx, hp]
    rw [this, List.append_nil]
  · rw [cntA_no hx h2]
end Go.Proofs.Ythoojcmnkhhokaa
