/-
  Plain facts behind the law of protests.
-/
import Derived.Test.YtcbecfkckdalmaaConX
import Derived.Test.YtcbecfkckdalmaaConP
import Derived.Test.YtcbecfkckdalmaaConR
namespace Go.Proofs.Ytcbecfkckdalmaa
open Go.RowKit

theorem tt_hit {l : List SolvedV} (h : goodB l = true) {p : Int} {k : Nat} {x : SolvedV} (hx : l[k]? = some x) (hp : x.pupil = p) : (sums l p (k + 1)).total = (sums l p k).total + scoreW x := by
  have h12 := goodB_len h
  have hk := (List.getElem?_eq_some_iff.1 hx).1
  have hb := sums_bd h p k (by omega)
  have hs := scoreW_in (good_row h hx)
  rw [sums_hit hx hp]
  exact wrap_in _ (by omega) (by omega)
theorem tt_miss {l : List SolvedV} {p : Int} {k : Nat} {x : SolvedV} (hx : l[k]? = some x) (hp : ¬ x.pupil = p) : (sums l p (k + 1)).total = (sums l p k).total := by rw [sums_miss hx hp]
theorem tt_zero (l : List SolvedV) (p : Int) : (sums l p 0).total = 0 := by rw [sums_zero]
theorem mod_total {l : List SolvedV} {i : Nat} {x : SolvedV} (hx : l[i]? = some x) (h1 : goodB l = true) (h2 : goodB (l.set i (modR x)) = true) (k : Nat) (hk : k ≤ l.length) : (sums (l.set i (modR x)) x.pupil k).total = (sums l x.pupil k).total + if i < k then scoreW (modR x) - scoreW x else 0 := by
  induction k with
  | zero => rw [tt_zero, tt_zero]; simp
  | succ k ih =>
    have ih := ih (by omega)
    have hy : l[k]? = some (l[k]'(by omega)) := List.getElem?_eq_getElem (by omega)
    generalize l[k]'(by omega) = y at hy
    by_cases e : i = k
    · subst e
      rw [hx] at hy
      injection hy with hy
      subst hy
      have hz : (l.set i (modR x))[i]? = some (modR x) := by rw [List.getElem?_set]; simp; omega
      rw [tt_hit (p := x.pupil) h2 hz rfl, tt_hit h1 hx rfl, ih, if_neg (by omega), if_pos (by omega)]
      omega
    · have hz : (l.set i (modR x))[k]? = some y := by rw [List.getElem?_set, if_neg e]; exact hy
      have hif : (if i < k + 1 then scoreW (modR x) - scoreW x else 0) = (if i < k then scoreW (modR x) - scoreW x else 0) := by
        by_cases h : i < k
        · rw [if_pos h, if_pos (by omega)]
        · rw [if_neg h, if_neg (by omega)]
      rw [hif]
      by_cases hp : y.pupil = x.pupil
      · rw [tt_hit h2 hz hp, tt_hit h1 hy hp, ih]; omega
      · rw [tt_miss hz hp, tt_miss hy hp, ih]
theorem totV_bd (l : List SolvedV) (p : Int) : 0 ≤ totV l p ∧ totV l p ≤ 12000 := by
  cases h : totOk l p
  · rw [totV_no h]; omega
  · rw [totV_yes h]
    have hg : goodB l = true := by unfold totOk at h; simp only [Bool.and_eq_true] at h; exact h.1
    exact sumsV_bd hg p
theorem pro_facts {l : List SolvedV} {p h : Int} (hk : proOk l p h = true) : totOk l p = true ∧ totOk (proV l p h) p = true ∧ totV l p ≤ totV (proV l p h) p ∧ totV (proV l p h) p ≤ totV l p + 15 := by
  have hk0 := hk
  unfold proOk at hk
  simp only [Bool.and_eq_true] at hk
  obtain ⟨hg, hm⟩ := hk
  cases hp : prAt l p h l.length with
  | none => rw [hp] at hm; cases hm
  | some i =>
    rw [hp] at hm
    dsimp only at hm
    obtain ⟨hi, x, hx, hxp, _⟩ := prAt_at hp
    obtain ⟨e1, _⟩ := pro_yes hg hp hm
    rw [e1]
    rw [modL_at hx] at hm ⊢
    subst hxp
    have hz : (l.set i (modR x))[i]? = some (modR x) := by rw [List.getElem?_set]; simp; omega
    have t1 := tot_ok hg hx rfl
    have t2 := tot_ok (p := x.pupil) hm hz rfl
    refine ⟨t1, t2, ?_⟩
    rw [totV_yes t1, totV_yes t2]
    unfold sumsV
    rw [List.length_set, mod_total hx hg hm l.length (Nat.le_refl _), if_pos hi]
    have s1 := (scoreW_in (good_row hg hx)).1
    have s2 := (scoreW_in (good_row hm hz)).1
    rw [s1, s2]
    unfold modR
    dsimp only
    omega
theorem mostA_ge {l : List SolvedV} {p q : Int} (hq : ¬ q = p) {j : Nat} (hj : (pupV l)[j]? = some q) (k : Nat) (hk : j < k) (hkl : k ≤ (pupV l).length) : (sumsV l q).total ≤ mostA l p k := by
  induction k with
  | zero => omega
  | succ k ih =>
    rcases Nat.eq_or_lt_of_le (Nat.lt_succ_iff.1 hk) with rfl | hlt
    · rw [mostA_other hj hq]; omega
    · have ih := ih hlt (by omega)
      have hx : (pupV l)[k]? = some ((pupV l)[k]'(by omega)) := List.getElem?_eq_getElem (by omega)
      by_cases e : (pupV l)[k]'(by omega) = p
      · rw [mostA_own hx e]; exact ih
      · rw [mostA_other hx e]; omega
theorem nd_facts {l : List SolvedV} {p : Int} (h : ndOk l p = true) : totOk l p = true ∧ (0 ≤ ndV l p ∧ ndV l p ≤ 100) ∧ ∀ (i : Nat) (x : SolvedV), l[i]? = some x → totOk l x.pupil = true ∧ (¬ x.pupil = p → totV l x.pupil < totV l p + 10 * ndV l p) := by
  have h0 := h
  unfold ndOk at h
  simp only [Bool.and_eq_true] at h
  obtain ⟨ht, hs⟩ := h
  have hg : goodB l = true := by unfold totOk at ht; simp only [Bool.and_eq_true] at ht; exact ht.1
  cases hq : ndQ l p with
  | none => rw [hq] at hs; cases hs
  | some n =>
    obtain ⟨hv, _⟩ := nd_hit ht hq
    unfold ndQ ndF at hq
    have hn := List.mem_range.1 (List.mem_of_find?_eq_some hq)
    have hh := List.find?_some hq
    unfold hitB at hh
    rw [List.take_length, List.any_eq_true] at hh
    obtain ⟨y, hy, hy2⟩ := hh
    unfold hitX at hy2
    simp only [Bool.and_eq_true, decide_eq_true_eq] at hy2
    have hsy := (good_pair hg).2.1 y hy
    have hby := solvedB_iff hsy
    have s1 := (scoreW_in hsy).1
    have s2 := (scoreW_wide (x := moreR y n) (by unfold moreR; dsimp only; omega) (by unfold moreR; dsimp only; omega) (by unfold moreR; dsimp only; omega) (by unfold moreR; dsimp only; omega)).1
    rw [s1, s2] at hy2
    unfold moreR at hy2
    dsimp only at hy2
    refine ⟨ht, by rw [hv]; omega, fun i x hx => ?_⟩
    have hto := tot_ok hg hx rfl
    refine ⟨hto, fun hne => ?_⟩
    have hm := (pupV_mem hg x.pupil).2 ⟨i, x, hx, rfl⟩
    obtain ⟨j, hj⟩ := List.getElem?_of_mem hm
    have hge := mostA_ge hne hj (pupV l).length (List.getElem?_eq_some_iff.1 hj).1 (Nat.le_refl _)
    rw [totV_yes hto, totV_yes ht, hv]
    omega
theorem tot_good {l : List SolvedV} {p : Int} (h : totOk l p = true) : goodB l = true := by unfold totOk at h; simp only [Bool.and_eq_true] at h; exact h.1
/-- What is left of the total behind the first k rows. -/
def lft (l : List SolvedV) (p : Int) (k : Nat) : Int := totV l p - (sums l p k).total
theorem lft_zero (l : List SolvedV) (p : Int) : lft l p 0 = totV l p := by unfold lft; rw [tt_zero]; omega
theorem lft_hit {l : List SolvedV} {p : Int} (h : totOk l p = true) {k : Nat} {x : SolvedV} (hx : l[k]? = some x) (hp : x.pupil = p) : lft l p (k + 1) = lft l p k - scoreW x := by unfold lft; rw [tt_hit (tot_good h) hx hp]; omega
theorem lft_miss {l : List SolvedV} {p : Int} {k : Nat} {x : SolvedV} (hx : l[k]? = some x) (hp : ¬ x.pupil = p) : lft l p (k + 1) = lft l p k := by unfold lft; rw [tt_miss hx hp]
theorem lft_all {l : List SolvedV} {p : Int} (h : totOk l p = true) : lft l p l.length = 0 := by unfold lft; rw [totV_yes h]; unfold sumsV; omega
theorem lft_bd {l : List SolvedV} {p : Int} (h : totOk l p = true) (k : Nat) (hk : k ≤ l.length) : -20000 ≤ lft l p k ∧ lft l p k ≤ 12000 := by
  have hg := tot_good h
  have h1 := totV_bd l p
  have h12 := goodB_len hg
  have h2 := sums_bd hg p k (by omega)
  unfold lft
  omega
attribute [irreducible] lft
end Go.Proofs.Ytcbecfkckdalmaa
