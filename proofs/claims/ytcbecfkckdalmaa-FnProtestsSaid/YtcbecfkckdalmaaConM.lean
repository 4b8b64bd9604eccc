/-
  Standings after a heat; finalists: plain.
-/
import Derived.Test.YtcbecfkckdalmaaConL
namespace Go.Proofs.Ytcbecfkckdalmaa
open Go.RowKit

/-! ### valid lists, pair by pair -/
theorem ordB_iff {x y : SolvedV} : ordB x y = true ↔ x.pupil < y.pupil ∨ (x.pupil = y.pupil ∧ x.heat < y.heat) := by
  unfold ordB; simp
theorem ordB_trans {x y z : SolvedV} (h1 : ordB x y = true) (h2 : ordB y z = true) : ordB x z = true := by
  rw [ordB_iff] at *
  omega
theorem good_pair {l : List SolvedV} (h : goodB l = true) : l.length ≤ 12 ∧ (∀ x ∈ l, solvedB x = true) ∧ l.Pairwise (fun x y => ordB x y = true) := by
  have h12 := goodB_len h
  have hg : goodTo l l.length = true := by
    simp only [goodB, Bool.and_eq_true] at h; exact h.2
  have hs : ∀ (k : Nat) (x : SolvedV), l[k]? = some x → solvedB x = true := by
    intro k x hx
    have hok := goodTo_all hg (List.getElem?_eq_some_iff.1 hx).1
    cases e : solvedB x
    · rw [okRow_bad hx e] at hok; cases hok
    · rfl
  refine ⟨h12, fun x hx => by obtain ⟨k, hk⟩ := List.getElem?_of_mem hx; exact hs k x hk, ?_⟩
  rw [List.pairwise_iff_getElem]
  have hstep : ∀ (j : Nat) (hj : j + 1 < l.length), ordB (l[j]'(by omega)) (l[j + 1]'hj) = true := by
    intro j hj
    have hok := goodTo_all hg hj
    rw [okRow_succ (List.getElem?_eq_getElem (by omega)) (List.getElem?_eq_getElem hj)] at hok
    simp only [Bool.and_eq_true] at hok
    exact hok.2
  intro i j hi hj hij
  induction j with
  | zero => omega
  | succ j ih =>
    by_cases e : i = j
    · subst e; exact hstep i hj
    · exact ordB_trans (ih (by omega) (by omega)) (hstep j hj)
theorem pair_good {l : List SolvedV} (h12 : l.length ≤ 12) (hs : ∀ x ∈ l, solvedB x = true) (hp : l.Pairwise (fun x y => ordB x y = true)) : goodB l = true := by
  refine goodB_good h12 ?_
  have : ∀ k, k ≤ l.length → goodTo l k = true := by
    intro k
    induction k with
    | zero => intro _; unfold goodTo; rfl
    | succ k ih =>
      intro hk
      have hy : l[k]? = some (l[k]'(by omega)) := List.getElem?_eq_getElem (by omega)
      have hsy := hs _ (List.mem_of_getElem? hy)
      have : okRow l k = true := by
        cases k with
        | zero => rw [okRow_zero hy]; exact hsy
        | succ j =>
          rw [okRow_succ (List.getElem?_eq_getElem (by omega)) hy, hsy, Bool.true_and]
          exact (List.pairwise_iff_getElem.1 hp) j (j + 1) (by omega) (by omega) (by omega)
      simp only [goodTo, ih (by omega), this, Bool.and_self]
  exact this l.length (Nat.le_refl _)
theorem good_filter {l : List SolvedV} (h : goodB l = true) (f : SolvedV → Bool) : goodB (l.filter f) = true := by
  obtain ⟨h1, h2, h3⟩ := good_pair h
  exact pair_good (Nat.le_trans (List.length_filter_le _ _) h1) (fun x hx => h2 x (List.mem_filter.1 hx).1) (h3.filter _)

/-! ### the rows till a heat -/
def htA (l : List SolvedV) (ht : Int) (k : Nat) : List SolvedV := (l.take k).filter fun x => decide (x.heat ≤ ht)
theorem htA_zero (l : List SolvedV) (ht : Int) : htA l ht 0 = [] := by simp [htA]
theorem htA_yes {l : List SolvedV} {ht : Int} {k : Nat} {x : SolvedV} (hx : l[k]? = some x) (h : x.heat ≤ ht) : htA l ht (k + 1) = htA l ht k ++ [x] := by
  unfold htA; rw [take_snoc' hx, List.filter_append]; simp [h]
theorem htA_no {l : List SolvedV} {ht : Int} {k : Nat} {x : SolvedV} (hx : l[k]? = some x) (h : ¬ x.heat ≤ ht) : htA l ht (k + 1) = htA l ht k := by
  unfold htA; rw [take_snoc' hx, List.filter_append]; simp [h]
theorem htA_len (l : List SolvedV) (ht : Int) (k : Nat) : (htA l ht k).length ≤ k := by
  unfold htA
  have := List.length_filter_le (fun x : SolvedV => decide (x.heat ≤ ht)) (l.take k)
  have := List.length_take_le k l
  omega
theorem htA_good {l : List SolvedV} (h : goodB l = true) (ht : Int) : goodB (htA l ht l.length) = true := by
  unfold htA; rw [List.take_length]; exact good_filter h _
def phOk (l : List SolvedV) (ht : Int) : Bool := goodB l && inB ht 1 4
def phV (l : List SolvedV) (ht : Int) : List (List Int) := if phOk l ht = true then stR (htA l ht l.length) else []
theorem phV_yes {l : List SolvedV} {ht : Int} (h : phOk l ht = true) : phV l ht = stR (htA l ht l.length) := if_pos h
theorem phV_no {l : List SolvedV} {ht : Int} (h : phOk l ht = false) : phV l ht = [] := if_neg (by simp [h])
theorem phV_small (l : List SolvedV) (ht : Int) : (phV l ht).length ≤ 1000 ∧ ∀ r ∈ phV l ht, r.length ≤ 2 := by
  cases hg : phOk l ht
  · rw [phV_no hg]; simp
  · rw [phV_yes hg]
    have hgl : goodB l = true := by simp only [phOk, Bool.and_eq_true] at hg; exact hg.1
    have := stW_small (htA l ht l.length)
    rw [stW_yes (htA_good hgl ht)] at this
    exact this
attribute [irreducible] htA

/-! ### finalists -/
theorem rise_ext : ∀ (L1 L2 : List Int), rise L1 → rise L2 → (∀ x, x ∈ L1 ↔ x ∈ L2) → L1 = L2
  | [], [], _, _, _ => rfl
  | [], b :: L2, _, _, h => by have := (h b).2 (by simp); cases this
  | a :: L1, [], _, _, h => by have := (h a).1 (by simp); cases this
  | a :: L1, b :: L2, h1, h2, h => by
    obtain ⟨h1a, h1b⟩ := List.pairwise_cons.1 h1
    obtain ⟨h2a, h2b⟩ := List.pairwise_cons.1 h2
    have e : a = b := by
      rcases List.mem_cons.1 ((h a).1 (by simp)) with e | e
      · exact e
      · rcases List.mem_cons.1 ((h b).2 (by simp)) with e2 | e2
        · exact e2.symm
        · have := h2a a e; have := h1a b e2; omega
    subst e
    rw [rise_ext L1 L2 h1b h2b (fun x => ?_)]
    constructor
    · intro hx
      rcases List.mem_cons.1 ((h x).1 (List.mem_cons_of_mem _ hx)) with e | e
      · have := h1a x hx; omega
      · exact e
    · intro hx
      rcases List.mem_cons.1 ((h x).2 (List.mem_cons_of_mem _ hx)) with e | e
      · have := h2a x hx; omega
      · exact e
theorem newB_next {l : List SolvedV} {k : Nat} {y : SolvedV} (hy : l[k]? = some y) : (newB l k = true ∧ (k = 0 ∨ ∃ x, l[k - 1]? = some x ∧ x.pupil ≠ y.pupil)) ∨ (newB l k = false ∧ 0 < k ∧ ∃ x, l[k - 1]? = some x ∧ x.pupil = y.pupil) := by
  cases k with
  | zero => exact .inl ⟨newB_zero l, .inl rfl⟩
  | succ j =>
    obtain ⟨x, hx⟩ := get_of_lt l (k := j) (by have := (List.getElem?_eq_some_iff.1 hy).1; omega)
    by_cases e : x.pupil = y.pupil
    · exact .inr ⟨by rw [newB_succ hx hy]; simp [e], by omega, x, hx, e⟩
    · exact .inl ⟨by rw [newB_succ hx hy]; simp [e], .inr ⟨x, hx, e⟩⟩
theorem pupA_spec {l : List SolvedV} (h : goodB l = true) (k : Nat) (hk : k ≤ l.length) : rise (pupA l k) ∧ ∀ p, p ∈ pupA l k ↔ ∃ (j : Nat) (x : SolvedV), j < k ∧ l[j]? = some x ∧ x.pupil = p := by
  obtain ⟨_, _, hp⟩ := good_pair h
  have hle : ∀ (i j : Nat) (x y : SolvedV), i < j → l[i]? = some x → l[j]? = some y → x.pupil ≤ y.pupil := by
    intro i j x y hij hx hy
    obtain ⟨hi, ex⟩ := List.getElem?_eq_some_iff.1 hx
    obtain ⟨hj, ey⟩ := List.getElem?_eq_some_iff.1 hy
    have := (List.pairwise_iff_getElem.1 hp) i j hi hj hij
    rw [ex, ey, ordB_iff] at this
    omega
  induction k with
  | zero => exact ⟨by rw [pupA_zero]; exact rise_nil, fun p => by rw [pupA_zero]; exact ⟨fun h => (by cases h), fun ⟨j, x, hj, _⟩ => by omega⟩⟩
  | succ k ih =>
    obtain ⟨ih1, ih2⟩ := ih (by omega)
    obtain ⟨y, hy⟩ := get_of_lt l (k := k) (by omega)
    rcases newB_next hy with ⟨hn, hc⟩ | ⟨hn, h0, x, hx, e⟩
    · rw [pupA_yes hy hn]
      refine ⟨List.pairwise_append.2 ⟨ih1, List.pairwise_singleton _ _, fun a ha b hb => ?_⟩, fun p => ?_⟩
      · rw [List.mem_singleton.1 hb]
        obtain ⟨j, x, hj, hx, rfl⟩ := (ih2 a).1 ha
        have h1 := hle j k x y hj hx hy
        rcases hc with rfl | ⟨z, hz, hne⟩
        · omega
        · by_cases e : j = k - 1
          · subst e
            rw [hx] at hz
            injection hz with hz
            subst hz
            omega
          · have h2 := hle j (k - 1) x z (by omega) hx hz
            have h3 := hle (k - 1) k z y (by omega) hz hy
            omega
      · rw [List.mem_append, List.mem_singleton, ih2]
        constructor
        · rintro (⟨j, x, hj, hx, e⟩ | rfl)
          · exact ⟨j, x, by omega, hx, e⟩
          · exact ⟨k, y, by omega, hy, rfl⟩
        · rintro ⟨j, x, hj, hx, e⟩
          by_cases ej : j = k
          · subst ej; rw [hy] at hx; injection hx with hx; subst hx; exact .inr e.symm
          · exact .inl ⟨j, x, by omega, hx, e⟩
    · rw [pupA_no hy hn]
      refine ⟨ih1, fun p => ?_⟩
      rw [ih2]
      constructor
      · rintro ⟨j, z, hj, hz, e⟩
        exact ⟨j, z, by omega, hz, e⟩
      · rintro ⟨j, z, hj, hz, e2⟩
        by_cases ej : j = k
        · subst ej; rw [hy] at hz; injection hz with hz; subst hz; exact ⟨j - 1, x, by omega, hx, by rw [e, e2]⟩
        · exact ⟨j, z, by omega, hz, e2⟩
theorem pupV_rise {l : List SolvedV} (h : goodB l = true) : rise (pupV l) := (pupA_spec h l.length (Nat.le_refl _)).1
theorem pupV_mem {l : List SolvedV} (h : goodB l = true) (p : Int) : p ∈ pupV l ↔ ∃ (j : Nat) (x : SolvedV), l[j]? = some x ∧ x.pupil = p := by
  rw [pupV_eq, (pupA_spec h l.length (Nat.le_refl _)).2 p]
  constructor
  · rintro ⟨j, x, _, hx, e⟩; exact ⟨j, x, hx, e⟩
  · rintro ⟨j, x, hx, e⟩; exact ⟨j, x, (List.getElem?_eq_some_iff.1 hx).1, hx, e⟩

/-- The finalists, as the program finds them, and as the reference does. -/
def finA (R : List (Int × Int)) (n : Int) : Nat → List Int
  | 0 => []
  | k + 1 => match R[k]? with
    | some x => if x.1 ≤ n then putL (finA R n k) x.2 else finA R n k
    | none => finA R n k
theorem finA_zero (R : List (Int × Int)) (n : Int) : finA R n 0 = [] := rfl
theorem finA_yes {R : List (Int × Int)} {n : Int} {k : Nat} {a b : Int} (hx : R[k]? = some (a, b)) (h : a ≤ n) : finA R n (k + 1) = putL (finA R n k) b := by simp [finA, hx, h]
theorem finA_no {R : List (Int × Int)} {n : Int} {k : Nat} {a b : Int} (hx : R[k]? = some (a, b)) (h : ¬ a ≤ n) : finA R n (k + 1) = finA R n k := by simp [finA, hx, h]
theorem finA_len (R : List (Int × Int)) (n : Int) (k : Nat) : (finA R n k).length ≤ k := by
  induction k with
  | zero => simp [finA]
  | succ k ih =>
    simp only [finA]
    split
    · split
      · have := putL_len (finA R n k) (by assumption : Int × Int).2
        omega
      · omega
    · omega
theorem finA_spec (R : List (Int × Int)) (n : Int) (k : Nat) (hk : k ≤ R.length) : rise (finA R n k) ∧ ∀ p, p ∈ finA R n k ↔ ∃ x ∈ R.take k, x.1 ≤ n ∧ x.2 = p := by
  induction k with
  | zero => exact ⟨rise_nil, fun p => by simp [finA]⟩
  | succ k ih =>
    obtain ⟨h1, h2⟩ := ih (by omega)
    obtain ⟨⟨a, b⟩, hx⟩ := get_of_lt R (k := k) (by omega)
    by_cases h : a ≤ n
    · rw [finA_yes hx h, take_snoc' hx]
      obtain ⟨s1, s2, _, _⟩ := put_spec h1 b
      refine ⟨s1, fun p => ?_⟩
      rw [s2, h2]
      constructor
      · rintro (rfl | ⟨x, hm, r⟩)
        · exact ⟨(a, p), by simp, h, rfl⟩
        · exact ⟨x, by simp [hm], r⟩
      · rintro ⟨x, hm, r1, r2⟩
        rcases List.mem_append.1 hm with hm | hm
        · exact .inr ⟨x, hm, r1, r2⟩
        · rw [List.mem_singleton.1 hm] at r2; exact .inl r2.symm
    · rw [finA_no hx h, take_snoc' hx]
      refine ⟨h1, fun p => ?_⟩
      rw [h2]
      constructor
      · rintro ⟨x, hm, r⟩; exact ⟨x, by simp [hm], r⟩
      · rintro ⟨x, hm, r1, r2⟩
        rcases List.mem_append.1 hm with hm | hm
        · exact ⟨x, hm, r1, r2⟩
        · rw [List.mem_singleton.1 hm] at r1; exact absurd r1 h
def finS (l : List SolvedV) (n : Int) (k : Nat) : List Int := ((pupV l).take k).filter fun p => decide (placV l p ≤ n)
theorem finS_zero (l : List SolvedV) (n : Int) : finS l n 0 = [] := by simp [finS]
theorem finS_yes {l : List SolvedV} {n : Int} {k : Nat} {p : Int} (hx : (pupV l)[k]? = some p) (h : placV l p ≤ n) : finS l n (k + 1) = finS l n k ++ [p] := by
  unfold finS; rw [take_snoc' hx, List.filter_append]; simp [h]
theorem finS_no {l : List SolvedV} {n : Int} {k : Nat} {p : Int} (hx : (pupV l)[k]? = some p) (h : ¬ placV l p ≤ n) : finS l n (k + 1) = finS l n k := by
  unfold finS; rw [take_snoc' hx, List.filter_append]; simp [h]
theorem finS_len (l : List SolvedV) (n : Int) (k : Nat) : (finS l n k).length ≤ k := by
  unfold finS
  have := List.length_filter_le (fun p => decide (placV l p ≤ n)) ((pupV l).take k)
  have := List.length_take_le k (pupV l)
  omega
theorem fin_same {l : List SolvedV} (h : goodB l = true) (n : Int) : finA (stV l) n (stV l).length = finS l n (pupV l).length := by
  obtain ⟨h1, h2⟩ := finA_spec (stV l) n (stV l).length (Nat.le_refl _)
  refine rise_ext _ _ h1 ?_ (fun p => ?_)
  · unfold finS
    rw [List.take_length]
    exact (pupV_rise h).filter _
  · rw [h2, List.take_length]
    unfold finS
    rw [List.take_length, List.mem_filter]
    constructor
    · rintro ⟨x, hx, r1, rfl⟩
      rw [stV_mem] at hx
      unfold rowsP at hx
      obtain ⟨q, hq, rfl⟩ := List.mem_map.1 hx
      exact ⟨hq, by simpa using r1⟩
    · rintro ⟨hq, hn⟩
      refine ⟨(placV l p, p), ?_, by simpa using hn, rfl⟩
      rw [stV_mem]
      unfold rowsP
      exact List.mem_map.2 ⟨p, hq, rfl⟩
def finOk (l : List SolvedV) (n : Int) : Bool := goodB l && inB n 1 20
def finV (l : List SolvedV) (n : Int) : List Int := if finOk l n = true then finS l n (pupV l).length else []
theorem finV_yes {l : List SolvedV} {n : Int} (h : finOk l n = true) : finV l n = finS l n (pupV l).length := if_pos h
theorem finV_no {l : List SolvedV} {n : Int} (h : finOk l n = false) : finV l n = [] := if_neg (by simp [h])
theorem finV_len (l : List SolvedV) (n : Int) : (finV l n).length ≤ 12 := by
  cases hg : finOk l n
  · rw [finV_no hg]; simp
  · rw [finV_yes hg]
    have hgl : goodB l = true := by simp only [finOk, Bool.and_eq_true] at hg; exact hg.1
    have h1 := finS_len l n (pupV l).length
    have h2 := pupA_len l l.length
    rw [← pupV_eq] at h2
    have := goodB_len hgl
    omega
attribute [irreducible] finA finS
theorem st_at {R : List (Int × Int)} {ps : List (HdrV × List Int)} (h : ps.map Prod.snd = R.map row2) {m : Nat} {hd : HdrV} {l : List Int} (hx : ps[m]? = some (hd, l)) : ∃ a b, l = [a, b] ∧ R[m]? = some (a, b) := by
  have h1 : (ps.map Prod.snd)[m]? = some l := by rw [List.getElem?_map, hx]; rfl
  rw [h, List.getElem?_map] at h1
  cases hq : R[m]? with
  | none => rw [hq] at h1; cases h1
  | some q =>
    rw [hq] at h1
    simp only [Option.map_some, Option.some.injEq] at h1
    exact ⟨q.1, q.2, h1.symm, rfl⟩
end Go.Proofs.Ytcbecfkckdalmaa
