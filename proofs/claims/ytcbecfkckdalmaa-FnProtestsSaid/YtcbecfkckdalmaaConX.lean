/-
  Plain facts behind the law of contests.
-/
import Derived.Test.YtcbecfkckdalmaaConL
import Derived.Test.YtcbecfkckdalmaaConN
import Derived.Test.YtcbecfkckdalmaaConG
namespace Go.Proofs.Ytcbecfkckdalmaa
open Go.RowKit

def low (L : List Int) : Prop := L.Pairwise (· ≤ ·)
theorem low_get {L : List Int} (h : low L) {i j : Nat} (hij : i ≤ j) (hj : j < L.length) : L.getD i 0 ≤ L.getD j 0 := by
  rcases Nat.eq_or_lt_of_le hij with rfl | hlt
  · exact Int.le_refl _
  · have := List.pairwise_iff_getElem.1 h i j (by omega) hj hlt
    rw [List.getD_eq_getElem?_getD, List.getD_eq_getElem?_getD, List.getElem?_eq_getElem (by omega), List.getElem?_eq_getElem hj]
    exact this
theorem low_ins {L : List Int} (h : low L) (n : Int) : low (insL L (posL L n L.length) n) := by
  have hp := posL_le L n L.length
  have hhi := posL_hi L n L.length
  have hlo := posL_lo L n L.length
  generalize posL L n L.length = p at *
  have h1 : ∀ x ∈ L.take p, x ≤ n := by
    intro x hx
    obtain ⟨j, hj, hjl, rfl⟩ := mem_take_lt hx
    rcases hlo with h0 | ⟨_, h0⟩
    · omega
    · have := low_get h (i := j) (j := p - 1) (by omega) (by omega)
      omega
  have h2 : ∀ x ∈ L.drop p, n ≤ x := by
    intro x hx
    obtain ⟨j, hj, hjl, rfl⟩ := mem_drop_ge hx
    have := hhi j hj hjl
    omega
  have h3 : (L.take p ++ L.drop p).Pairwise (· ≤ ·) := by rw [List.take_append_drop]; exact h
  obtain ⟨h4, h5, h6⟩ := List.pairwise_append.1 h3
  show (insL L p n).Pairwise (· ≤ ·)
  unfold insL
  rw [List.pairwise_append]
  refine ⟨h4, ?_, ?_⟩
  · rw [List.pairwise_cons]
    exact ⟨h2, h5⟩
  · intro x hx y hy
    rcases List.mem_cons.1 hy with rfl | hy
    · exact h1 x hx
    · exact h6 x hx y hy
theorem map_ins {α : Type} (f : α → Int) (L : List α) (p : Nat) (x : α) : (insL L p x).map f = insL (L.map f) p (f x) := by
  unfold insL
  simp [List.map_take, List.map_drop]
theorem insK_low {α : Type} (f : α → Int) (l : List α) (k : Nat) (hk : k ≤ l.length) : low ((insK f l k).map f) := by
  induction k with
  | zero => rw [insK_zero]; exact List.Pairwise.nil
  | succ k ih =>
    have hx : l[k]? = some (l[k]'(by omega)) := List.getElem?_eq_getElem (by omega)
    rw [insK_succ hx, map_ins]
    have := low_ins (ih (by omega)) (f (l[k]'(by omega)))
    rwa [List.length_map] at this
theorem insK_perm {α : Type} (f : α → Int) (l : List α) (k : Nat) (hk : k ≤ l.length) : (insK f l k).Perm (l.take k) := by
  induction k with
  | zero => rw [insK_zero, List.take_zero]
  | succ k ih =>
    have hx : l[k]? = some (l[k]'(by omega)) := List.getElem?_eq_getElem (by omega)
    rw [insK_succ hx, take_snoc' hx]
    unfold insL
    refine List.perm_middle.trans ?_
    rw [List.take_append_drop]
    exact (List.Perm.cons _ (ih (by omega))).trans (List.perm_append_singleton _ _).symm
theorem betB_trans {a b c : RankV} (h1 : betB a b = true) (h2 : betB b c = true) : betB a c = true := by
  unfold betB at *
  split at h1
  · split at h1
    · split at h2
      · split at h2
        · rw [if_pos (by omega), if_pos (by omega)]
          simp only [decide_eq_true_eq] at *; omega
        · rw [if_pos (by omega), if_neg (by omega)]
          simp only [decide_eq_true_eq] at *; omega
      · rw [if_neg (by omega)]
        simp only [decide_eq_true_eq] at *; omega
    · simp only [decide_eq_true_eq] at h1
      split at h2
      · split at h2
        · rw [if_pos (by omega), if_neg (by omega)]
          simp only [decide_eq_true_eq] at *; omega
        · simp only [decide_eq_true_eq] at h2
          rw [if_pos (by omega), if_neg (by omega)]
          simp only [decide_eq_true_eq] at *; omega
      · rw [if_neg (by omega)]
        simp only [decide_eq_true_eq] at *; omega
  · simp only [decide_eq_true_eq] at h1
    split at h2
    · rw [if_neg (by omega)]
      simp only [decide_eq_true_eq]; omega
    · simp only [decide_eq_true_eq] at h2
      rw [if_neg (by omega)]
      simp only [decide_eq_true_eq]; omega
theorem filter_mono {α : Type} (p q : α → Bool) (h : ∀ x, p x = true → q x = true) (l : List α) : (l.filter p).length ≤ (l.filter q).length := by
  induction l with
  | nil => simp
  | cons a l ih =>
    rw [List.filter_cons, List.filter_cons]
    by_cases hp : p a = true
    · rw [if_pos hp, if_pos (h a hp)]; simp; exact ih
    · rw [if_neg hp]
      split
      · simp; omega
      · exact ih
theorem filter_more {α : Type} (p q : α → Bool) (h : ∀ x, p x = true → q x = true) (l : List α) {y : α} (hy : y ∈ l) (h1 : p y = false) (h2 : q y = true) : (l.filter p).length < (l.filter q).length := by
  induction l with
  | nil => cases hy
  | cons a l ih =>
    rw [List.filter_cons, List.filter_cons]
    by_cases e : y = a
    · subst e
      have := filter_mono p q h l
      rw [if_neg (by simp [h1]), if_pos h2]; simp; omega
    · have ih := ih ((List.mem_cons.1 hy).resolve_left e)
      by_cases hp : p a = true
      · rw [if_pos hp, if_pos (h a hp)]; simp; exact ih
      · rw [if_neg hp]
        split
        · simp; omega
        · exact ih
/-- Who is better has a smaller place. -/
theorem plac_mono {l : List SolvedV} {q p : Int} (hq : q ∈ pupV l) (h : betB (rankV l q) (rankV l p) = true) : placV l q < placV l p := by
  rw [placV_eq, placV_eq]
  unfold cntB
  rw [List.take_length]
  have := filter_more (fun r => betB (rankV l r) (rankV l q)) (fun r => betB (rankV l r) (rankV l p)) (fun r hr => betB_trans hr h) (pupV l) hq (betB_irr _) h
  omega
theorem low_count {α : Type} (f : α → Int) (L : List α) (h : low (L.map f)) {i : Nat} {x : α} (hx : L[i]? = some x) : (L.filter fun y => decide (f y < f x)).length ≤ i := by
  have hi := (List.getElem?_eq_some_iff.1 hx).1
  have key : (L.drop i).filter (fun y => decide (f y < f x)) = [] := by
    rw [List.filter_eq_nil_iff]
    intro y hy
    obtain ⟨j, hj⟩ := List.getElem?_of_mem hy
    rw [List.getElem?_drop] at hj
    have hjl := (List.getElem?_eq_some_iff.1 hj).1
    have := low_get h (i := i) (j := i + j) (by omega) (by rw [List.length_map]; exact hjl)
    rw [List.getD_eq_getElem?_getD, List.getD_eq_getElem?_getD, List.getElem?_map, List.getElem?_map, hx, hj] at this
    simp only [Option.map_some, Option.getD_some] at this
    simp only [decide_eq_true_eq]; omega
  have e : L.filter (fun y => decide (f y < f x)) = (L.take i).filter (fun y => decide (f y < f x)) := by
    conv => lhs; rw [← List.take_append_drop i L]
    rw [List.filter_append, key, List.append_nil]
  rw [e]
  have := List.length_filter_le (fun y => decide (f y < f x)) (L.take i)
  rw [List.length_take] at this
  omega
theorem stV_place {l : List SolvedV} {i : Nat} {a p : Int} (h : (stV l)[i]? = some (a, p)) : p ∈ pupV l ∧ a = placV l p ∧ a ≤ (i : Int) + 1 := by
  have hm := (stV_mem l (a, p)).1 (List.mem_of_getElem? h)
  unfold rowsP at hm
  obtain ⟨q, hq, e⟩ := List.mem_map.1 hm
  injection e with e1 e2
  subst e2
  refine ⟨hq, e1.symm, ?_⟩
  have hl : low ((stV l).map Prod.fst) := insK_low _ _ _ (Nat.le_refl _)
  have h1 := low_count Prod.fst (stV l) hl h
  have hp : (stV l).Perm (rowsP l) := by
    have := insK_perm Prod.fst (rowsP l) (rowsP l).length (Nat.le_refl _)
    rwa [List.take_length] at this
  have h2 := (hp.filter (fun y => decide (y.1 < a))).length_eq
  have h3 : ((rowsP l).filter (fun y => decide (y.1 < a))).length = ((pupV l).filter (fun q => decide (placV l q < a))).length := by
    unfold rowsP
    rw [List.filter_map, List.length_map]
    rfl
  have h4 : ((pupV l).filter fun r => betB (rankV l r) (rankV l q)).length ≤ ((pupV l).filter (fun r => decide (placV l r < a))).length := by
    have key : ∀ P : List Int, (∀ r ∈ P, r ∈ pupV l) → (P.filter fun r => betB (rankV l r) (rankV l q)).length ≤ (P.filter (fun r => decide (placV l r < a))).length := by
      intro P
      induction P with
      | nil => intro _; simp
      | cons r P ih =>
        intro hP
        have ih := ih (fun x hx => hP x (by simp [hx]))
        rw [List.filter_cons, List.filter_cons]
        by_cases hb : betB (rankV l r) (rankV l q) = true
        · have := plac_mono (hP r (by simp)) hb
          rw [if_pos hb, if_pos (by simp only [decide_eq_true_eq]; omega)]
          simp; exact ih
        · rw [if_neg hb]
          split
          · simp; omega
          · exact ih
    exact key _ (fun r hr => hr)
  have h5 : a = 1 + (((pupV l).filter fun r => betB (rankV l r) (rankV l q)).length : Nat) := by
    rw [← e1, placV_eq]
    unfold cntB
    rw [List.take_length]
  dsimp only at h1
  omega
theorem rows_pos {l : List SolvedV} {p : Int} {j : Nat} {x : SolvedV} (hx : l[j]? = some x) (hp : x.pupil = p) (k : Nat) (hk : j < k) (hkl : k ≤ l.length) : 0 < (sums l p k).rows := by
  induction k with
  | zero => omega
  | succ k ih =>
    have hy : l[k]? = some (l[k]'(by omega)) := List.getElem?_eq_getElem (by omega)
    rcases Nat.eq_or_lt_of_le (Nat.lt_succ_iff.1 hk) with rfl | hlt
    · rw [sums_hit hx hp]; simp
    · have ih := ih hlt (by omega)
      by_cases e : (l[k]'(by omega)).pupil = p
      · rw [sums_hit hy e]; simp
      · rw [sums_miss hy e]; exact ih
theorem tot_ok {l : List SolvedV} (h : goodB l = true) {p : Int} {j : Nat} {x : SolvedV} (hx : l[j]? = some x) (hp : x.pupil = p) : totOk l p = true := by
  have := rows_pos hx hp l.length (List.getElem?_eq_some_iff.1 hx).1 (Nat.le_refl _)
  unfold totOk
  rw [h]
  unfold sumsV
  simp only [Bool.true_and, Bool.not_eq_true', beq_eq_false_iff_ne]
  omega
/-- What is known of a row of the standings. -/
theorem st_facts {l : List SolvedV} {n : Int} {i : Nat} {r : List Int} (h : (stW l)[i]? = some r) : ∃ a p, r = [a, p] ∧ totOk l p = true ∧ plcW l p = a ∧ a ≤ (i : Int) + 1 ∧ (finOk l n = true → (hasB (finV l n) p = true ↔ a ≤ n)) := by
  cases hg : goodB l
  · rw [stW_no hg] at h; cases h
  · rw [stW_yes hg] at h
    unfold stR at h
    rw [List.getElem?_map] at h
    cases hx : (stV l)[i]? with
    | none => rw [hx] at h; cases h
    | some x =>
      rw [hx] at h
      obtain ⟨a, p⟩ := x
      simp only [Option.map_some, Option.some.injEq] at h
      obtain ⟨h1, h2, h3⟩ := stV_place hx
      obtain ⟨j, y, hy, hyp⟩ := (pupV_mem hg p).1 h1
      have ht := tot_ok hg hy hyp
      refine ⟨a, p, h.symm, ht, by rw [plcW_yes ht, h2], h3, fun hf => ?_⟩
      rw [finV_yes hf]
      unfold finS
      rw [List.take_length, hasB_iff, List.mem_filter, h2]
      simp [h1]

/-! ### the winner of a heat -/
def mst (l : List SolvedV) (ht : Int) : Nat → Int
  | 0 => 0
  | k + 1 => match l[k]? with
    | some x => if x.heat = ht ∧ mst l ht k < scoreW x then scoreW x else mst l ht k
    | none => mst l ht k
def bes (l : List SolvedV) (ht w : Int) : Nat → Int
  | 0 => 0
  | k + 1 => match l[k]? with
    | some x => if x.heat = ht ∧ x.pupil = w then scoreW x else bes l ht w k
    | none => bes l ht w k
theorem mst_zero (l : List SolvedV) (ht : Int) : mst l ht 0 = 0 := rfl
theorem bes_zero (l : List SolvedV) (ht w : Int) : bes l ht w 0 = 0 := rfl
theorem mst_yes {l : List SolvedV} {ht : Int} {k : Nat} {x : SolvedV} (hx : l[k]? = some x) (h1 : x.heat = ht) (h2 : mst l ht k < scoreW x) : mst l ht (k + 1) = scoreW x := by simp only [mst, hx]; exact if_pos ⟨h1, h2⟩
theorem mst_no {l : List SolvedV} {ht : Int} {k : Nat} {x : SolvedV} (hx : l[k]? = some x) (h : ¬ (x.heat = ht ∧ mst l ht k < scoreW x)) : mst l ht (k + 1) = mst l ht k := by simp only [mst, hx]; exact if_neg h
theorem bes_yes {l : List SolvedV} {ht w : Int} {k : Nat} {x : SolvedV} (hx : l[k]? = some x) (h1 : x.heat = ht) (h2 : x.pupil = w) : bes l ht w (k + 1) = scoreW x := by simp only [bes, hx]; exact if_pos ⟨h1, h2⟩
theorem bes_no {l : List SolvedV} {ht w : Int} {k : Nat} {x : SolvedV} (hx : l[k]? = some x) (h : ¬ (x.heat = ht ∧ x.pupil = w)) : bes l ht w (k + 1) = bes l ht w k := by simp only [bes, hx]; exact if_neg h
theorem hw_best {l : List SolvedV} (h : goodB l = true) (ht : Int) (k : Nat) (hk : k ≤ l.length) : (hw l ht k = none ∧ mst l ht k = 0 ∧ ∀ (i : Nat) (x : SolvedV), i < k → l[i]? = some x → ¬ x.heat = ht) ∨ ∃ (j : Nat) (y : SolvedV), hw l ht k = some j ∧ l[j]? = some y ∧ j < k ∧ y.heat = ht ∧ mst l ht k = scoreW y := by
  induction k with
  | zero => exact .inl ⟨by unfold hw; rfl, rfl, fun i x hi => by omega⟩
  | succ k ih =>
    have hx : l[k]? = some (l[k]'(by omega)) := List.getElem?_eq_getElem (by omega)
    generalize l[k]'(by omega) = x at hx
    have hs := scoreW_in ((good_pair h).2.1 x (List.mem_of_getElem? hx))
    by_cases e : x.heat = ht
    · rcases ih (by omega) with ⟨h1, h2, h3⟩ | ⟨j, y, h1, h2, h3, h4, h5⟩
      · refine .inr ⟨k, x, hw_first hx e h1, hx, by omega, e, ?_⟩
        by_cases h0 : mst l ht k < scoreW x
        · exact mst_yes hx e h0
        · rw [mst_no hx (fun hh => h0 hh.2)]; omega
      · have h6 := hw_step hx h2 e h1
        by_cases hb : scoreW y < scoreW x ∨ (scoreW x = scoreW y ∧ x.time < y.time)
        · rw [if_pos hb] at h6
          refine .inr ⟨k, x, h6, hx, by omega, e, ?_⟩
          by_cases h0 : mst l ht k < scoreW x
          · exact mst_yes hx e h0
          · rw [mst_no hx (fun hh => h0 hh.2)]; omega
        · rw [if_neg hb] at h6
          refine .inr ⟨j, y, h6, h2, by omega, h4, ?_⟩
          rw [mst_no hx (fun hh => hb (.inl (by omega)))]; exact h5
    · have h6 := hw_other hx e
      have h7 := mst_no hx (fun hh => e hh.1)
      rcases ih (by omega) with ⟨h1, h2, h3⟩ | ⟨j, y, h1, h2, h3, h4, h5⟩
      · refine .inl ⟨h6.trans h1, h7.trans h2, fun i z hi hz => ?_⟩
        rcases Nat.eq_or_lt_of_le (Nat.lt_succ_iff.1 hi) with rfl | hlt
        · rw [hx] at hz; injection hz with hz; subst hz; exact e
        · exact h3 i z hlt hz
      · exact .inr ⟨j, y, h6.trans h1, h2, by omega, h4, h7.trans h5⟩
theorem bes_at {l : List SolvedV} (h : goodB l = true) {ht : Int} {j : Nat} {y : SolvedV} (hy : l[j]? = some y) (hh : y.heat = ht) (k : Nat) (hk : k ≤ l.length) (hj : j < k) : bes l ht y.pupil k = scoreW y := by
  induction k with
  | zero => omega
  | succ k ih =>
    have hx : l[k]? = some (l[k]'(by omega)) := List.getElem?_eq_getElem (by omega)
    generalize l[k]'(by omega) = x at hx
    rcases Nat.eq_or_lt_of_le (Nat.lt_succ_iff.1 hj) with rfl | hlt
    · exact bes_yes hy hh rfl
    · rw [bes_no hx ?_]
      · exact ih (by omega) hlt
      · rintro ⟨e1, e2⟩
        have hp := List.pairwise_iff_getElem.1 (good_pair h).2.2 j k (by omega) (by omega) hlt
        obtain ⟨_, g1⟩ := List.getElem?_eq_some_iff.1 hx
        obtain ⟨_, g2⟩ := List.getElem?_eq_some_iff.1 hy
        rw [g1, g2] at hp
        rcases ordB_iff.1 hp with h1 | ⟨_, h1⟩
        · omega
        · omega
theorem win_facts {l : List SolvedV} {ht : Int} (h : winOk l ht = true) : goodB l = true ∧ bes l ht (winV l ht) l.length = mst l ht l.length := by
  unfold winOk at h
  simp only [Bool.and_eq_true] at h
  obtain ⟨⟨hg, hh⟩, hs⟩ := h
  refine ⟨hg, ?_⟩
  have he := win_end hg hh
  rcases hw_best hg ht l.length (Nat.le_refl _) with ⟨h1, _⟩ | ⟨j, y, h1, h2, h3, h4, h5⟩
  · rw [h1] at hs; cases hs
  · rw [h1] at he
    dsimp only at he
    rw [he.1, h2, h5]
    exact bes_at hg h2 h4 _ (Nat.le_refl _) h3
theorem mst_bd {l : List SolvedV} (h : goodB l = true) (ht : Int) (k : Nat) : 0 ≤ mst l ht k ∧ mst l ht k ≤ 1000 := by
  induction k with
  | zero => rw [mst_zero]; omega
  | succ k ih =>
    cases hx : l[k]? with
    | none =>
      have : mst l ht (k + 1) = mst l ht k := by simp only [mst, hx]
      rw [this]; exact ih
    | some x =>
      have hs := scoreW_in ((good_pair h).2.1 x (List.mem_of_getElem? hx))
      by_cases e : x.heat = ht ∧ mst l ht k < scoreW x
      · rw [mst_yes hx e.1 e.2]; omega
      · rw [mst_no hx e]; exact ih
attribute [irreducible] mst bes
end Go.Proofs.Ytcbecfkckdalmaa
