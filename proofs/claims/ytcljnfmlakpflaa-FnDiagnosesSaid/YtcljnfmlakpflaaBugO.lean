/-
  Plain facts behind the law of the bugs.
-/
import Derived.Test.YtcljnfmlakpflaaBugN
namespace Go.Proofs.Ytcljnfmlakpflaa
open Go.RowKit

theorem colV_plain (bug x y : Int) (_ : 0 ≤ bug) (_ : bug ≤ 5) (hy : 0 ≤ y) (h : y ≤ x) : colV bug x y = (x - y, 0) := by
  unfold colV
  split
  · rw [show max (x - y) (y - x) = x - y by omega]
  · rw [if_neg (by omega), if_neg (by omega)]
    try rw [if_pos h]
theorem no_borrow (a b : Int) (bug : Int) (hb0 : 0 ≤ bug) (hb5 : bug ≤ 5) (k : Nat) (h : borC a b k = []) : ansA bug a b k = ansA 0 a b k ∧ (ansA 0 a b k).2 = 0 := by
  induction k with
  | zero => rw [ansA_zero, ansA_zero]; exact ⟨rfl, rfl⟩
  | succ k ih =>
    rw [borC_succ] at h
    split at h
    · simp at h
    · rename_i hn
      obtain ⟨h1, h2⟩ := ih h
      have hbd := (ansA_bd2 0 a b (k + 1)).1
      have h0 : (ansA 0 a b (k + 1)).2 = 0 := by omega
      refine ⟨?_, h0⟩
      have hc := col_at 0 a b k
      rw [ansA_2, colV_none, h2] at h0
      have hxy : b / pw k % 10 ≤ a / pw k % 10 - 0 := by
        split at h0
        · assumption
        · simp at h0
      apply Prod.ext
      · rw [ansA_1, ansA_1, h1, h2, colV_plain bug _ _ hb0 hb5 hc.2.1 hxy, colV_plain 0 _ _ (by omega) (by omega) hc.2.1 hxy]
      · rw [ansA_2, ansA_2, h1, h2, colV_plain bug _ _ hb0 hb5 hc.2.1 hxy, colV_plain 0 _ _ (by omega) (by omega) hc.2.1 hxy]
theorem addTo_same (l : List Int) (v : Int) (h : ∀ x ∈ l, x = v) (k : Nat) (hk : k + 1 ≤ l.length) : addTo l (k + 1) = [v] := by
  induction k with
  | zero =>
    have hx : l[0]? = some v := by rw [List.getElem?_eq_getElem (by omega)]; rw [h _ (List.getElem_mem (by omega))]
    rw [addTo_succ hx]
    rfl
  | succ k ih =>
    have hx : l[k + 1]? = some v := by rw [List.getElem?_eq_getElem (by omega)]; rw [h _ (List.getElem_mem (by omega))]
    rw [addTo_succ hx, ih (by omega), addU_has (by rw [hasB_iff]; simp)]
theorem tell_one (a b : Int) (h : borC a b (wid a) = []) : tellV a b = 1 := by
  have hall : ∀ k : Nat, k ≤ 5 → ansV k a b = ansV 0 a b := fun k hk => by
    unfold ansV
    rw [(no_borrow a b k (by omega) (by omega) _ h).1]
  have hmem : ∀ n : Nat, n ≤ 6 → ∀ x ∈ allA a b n, x = ansV 0 a b := by
    intro n
    induction n with
    | zero => intro _ x hx; rw [List.eq_nil_of_length_eq_zero (allA_len a b 0)] at hx; cases hx
    | succ n ih =>
      intro hn x hx
      rw [allA_succ] at hx
      rcases List.mem_append.1 hx with hx | hx
      · exact ih (by omega) x hx
      · simp at hx; rw [hx]; exact hall n (by omega)
  rw [tellV_add]
  have hl := allA_len a b 6
  rw [hl, addTo_same (allA a b 6) (ansV 0 a b) (hmem 6 (by omega)) 5 (by omega)]
  rfl
theorem bugs_ok {a b r : Int} : ∀ x ∈ baV [(a, b, r)], inB x 0 5 = true ∧ taskB a b = true ∧ ansW x a b = r := by
  intro x hx
  cases h : listB [(a, b, r)]
  · rw [baV_no h] at hx; cases hx
  · have ht : taskB a b = true := by
      simp [listB, ansP] at h
      exact h.2.1
    rw [baV_yes h] at hx
    have hb : ∀ k : Nat, k ≤ 6 → ∀ x ∈ baA [(a, b, r)] k, inB x 0 5 = true ∧ ansV x a b = r := by
      intro k
      induction k with
      | zero => intro _ x hx; simp [baA] at hx
      | succ k ih =>
        intro hk x hx
        simp only [baA] at hx
        split at hx
        · rename_i he
          rcases List.mem_append.1 hx with hx | hx
          · exact ih (by omega) x hx
          · simp at hx
            subst hx
            refine ⟨by simp [inB]; omega, ?_⟩
            cases hv : (ansV (k : Int) a b == r)
            · have h1 : expA (k : Int) [(a, b, r)] 1 = expA (k : Int) [(a, b, r)] 0 := expA_no (k : Int) (l := [(a, b, r)]) (k := 0) rfl hv
              simp [h1, expA] at he
            · simpa using hv
        · exact ih (by omega) x hx
    obtain ⟨h1, h2⟩ := hb 6 (by omega) x hx
    exact ⟨h1, ht, by rw [ansW_yes h1 ht]; exact h2⟩
theorem tell_facts {x y : Int} (h : taskB x y = true) : ansW 0 x y = x - y ∧ (0 ≤ x ∧ x ≤ 9999 ∧ 0 ≤ y ∧ y ≤ x) ∧ 1 ≤ telW x y ∧ telW x y ≤ 6 ∧ ((borW x y).length = 0 → telW x y = 1) := by
  have h1 := tellV_bd x y
  have h2 := tellV_pos x y
  rw [telW_yes h]
  have hb := (taskB_iff x y).1 h
  refine ⟨by rw [ansW_yes rfl h]; exact ansV_right x y h, ⟨hb.1.1, hb.1.2, hb.2.1, hb.2.2⟩, h2, h1.2, fun hl => ?_⟩
  apply tell_one
  rw [borW_yes h] at hl
  exact List.eq_nil_of_length_eq_zero hl
end Go.Proofs.Ytcljnfmlakpflaa
