/-
  Plain facts behind the law of recordings.
-/
import Derived.Test.YtkcbldaondflmaaRecK
import Derived.Test.YtkcbldaondflmaaRecG
import Derived.Test.YtkcbldaondflmaaRecN
import Derived.Test.YtkcbldaondflmaaRecB
namespace Go.Proofs.Ytkcbldaondflmaa
open Go.RowKit

theorem getD_app {l m : List Int} {j : Nat} (h : j < l.length) : (l ++ m).getD j 0 = l.getD j 0 := by
  rw [List.getD_eq_getElem?_getD, List.getD_eq_getElem?_getD, List.getElem?_append_left h]
theorem dpN_pre (f : Nat → Int → Int → Int → Int) (s : Int) (row : List Int) (k m j : Nat) (hj : j ≤ k) (hk : k ≤ m) : (dpN f s row m).getD j 0 = (dpN f s row k).getD j 0 := by
  induction m with
  | zero => obtain rfl : k = 0 := by omega
            rfl
  | succ m ih =>
    rcases Nat.eq_or_lt_of_le hk with rfl | hlt
    · rfl
    · rw [dpN_succ, getD_app (by rw [dpN_len]; omega)]
      exact ih (by omega)
theorem dpN_at0 (f : Nat → Int → Int → Int → Int) (s : Int) (row : List Int) (m : Nat) : (dpN f s row m).getD 0 0 = s := by
  rw [dpN_pre f s row 0 m 0 (Nat.le_refl _) (Nat.zero_le _), dpN_zero]; rfl
theorem dpN_atS (f : Nat → Int → Int → Int → Int) (s : Int) (row : List Int) (m j : Nat) (h : j < m) : (dpN f s row m).getD (j + 1) 0 = f j (row.getD j 0) (row.getD (j + 1) 0) ((dpN f s row m).getD j 0) := by
  rw [dpN_pre f s row (j + 1) m (j + 1) (Nat.le_refl _) h, dpN_pre f s row j m j (Nat.le_refl _) (by omega), dpN_succ]
  rw [List.getD_eq_getElem?_getD, List.getElem?_append_right (by rw [dpN_len]; omega), dpN_len]
  simp
theorem move_get {a : List MoveV} {i : Nat} (h : i < a.length) : ∃ m, a[i]? = some m := ⟨_, List.getElem?_eq_getElem h⟩
def dD (a b : List MoveV) (i j : Nat) : Int := (distR a b i).getD j 0
def kK (a b : List MoveV) (i j : Nat) : Int := (keptR a b i).getD j 0
theorem evs_at {k j : Nat} (h : j < k) : (evs k).getD j 0 = 2 * (j : Int) := by
  unfold evs
  rw [List.getD_eq_getElem?_getD, List.getElem?_map, List.getElem?_range h]
  rfl
theorem dD_0j (a b : List MoveV) {j : Nat} (h : j ≤ b.length) : dD a b 0 j = 2 * (j : Int) := by unfold dD; rw [distR_zero, evs_at (by omega)]
theorem dD_i0 (a b : List MoveV) {i : Nat} (h : i ≤ a.length) : dD a b i 0 = 2 * (i : Int) := by
  cases i with
  | zero => rw [dD_0j a b (Nat.zero_le _)]
  | succ i =>
    obtain ⟨m, hm⟩ := move_get (a := a) (i := i) (by omega)
    unfold dD
    rw [distR_succ b hm, dpN_at0]; omega
theorem dD_ss {a b : List MoveV} {i j : Nat} {m n : MoveV} (hm : a[i]? = some m) (hn : b[j]? = some n) : dD a b (i + 1) (j + 1) = min (dD a b i j + costM m n) (min (dD a b i (j + 1) + 2) (dD a b (i + 1) j + 2)) := by
  have hj := (List.getElem?_eq_some_iff.1 hn).1
  unfold dD
  rw [distR_succ b hm, dpN_atS _ _ _ _ _ hj, distF_at hn]
theorem kK_0j (a b : List MoveV) (j : Nat) : kK a b 0 j = 0 := by
  unfold kK
  rw [keptR_zero, List.getD_eq_getElem?_getD, List.getElem?_replicate]
  split <;> rfl
theorem kK_i0 (a b : List MoveV) {i : Nat} (h : i ≤ a.length) : kK a b i 0 = 0 := by
  cases i with
  | zero => exact kK_0j a b 0
  | succ i =>
    obtain ⟨m, hm⟩ := move_get (a := a) (i := i) (by omega)
    unfold kK
    rw [keptR_succ b hm, dpN_at0]
theorem kK_ss {a b : List MoveV} {i j : Nat} {m n : MoveV} (hm : a[i]? = some m) (hn : b[j]? = some n) : kK a b (i + 1) (j + 1) = if sameM m n = true then max (max (kK a b i (j + 1)) (kK a b (i + 1) j)) (kK a b i j + 1) else max (kK a b i (j + 1)) (kK a b (i + 1) j) := by
  have hj := (List.getElem?_eq_some_iff.1 hn).1
  unfold kK
  rw [keptR_succ b hm, dpN_atS _ _ _ _ _ hj]
  cases hs : sameM m n
  · rw [keptF_not hn hs, if_neg (by decide)]
  · rw [keptF_same hn hs, if_pos rfl]
theorem sameM_comm (m n : MoveV) : sameM m n = sameM n m := by
  cases h : sameM m n <;> cases h2 : sameM n m
  · rfl
  · rw [(sameM_iff n m).1 h2, (sameM_iff m m).2 rfl] at h; cases h
  · rw [(sameM_iff m n).1 h, (sameM_iff n n).2 rfl] at h2; cases h2
  · rfl
theorem costM_comm (m n : MoveV) : costM m n = costM n m := by
  unfold costM
  rw [sameM_comm m n]
  have : (m.rod == n.rod) = (n.rod == m.rod) := by
    cases h : (m.rod == n.rod) <;> cases h2 : (n.rod == m.rod) <;> simp_all
  rw [this]
theorem dD_comm (a b : List MoveV) : ∀ (s i j : Nat), i + j = s → i ≤ a.length → j ≤ b.length → dD a b i j = dD b a j i := by
  intro s
  induction s using Nat.strongRecOn with
  | _ s ih =>
    intro i j hs hi hj
    cases i with
    | zero => rw [dD_0j a b hj, dD_i0 b a hj]
    | succ i =>
      cases j with
      | zero => rw [dD_i0 a b hi, dD_0j b a hi]
      | succ j =>
        obtain ⟨m, hm⟩ := move_get (a := a) (i := i) (by omega)
        obtain ⟨n, hn⟩ := move_get (a := b) (i := j) (by omega)
        rw [dD_ss hm hn, dD_ss hn hm, costM_comm n m, ih (i + j) (by omega) i j rfl (by omega) (by omega), ih (i + (j + 1)) (by omega) i (j + 1) rfl (by omega) hj, ih (i + 1 + j) (by omega) (i + 1) j rfl hi (by omega)]
        omega
theorem dist_comm (a b : List MoveV) : distV a b = distV b a := by
  have := dD_comm a b (a.length + b.length) a.length b.length rfl (Nat.le_refl _) (Nat.le_refl _)
  unfold dD at this
  unfold distV
  exact this
theorem dD_pos (a b : List MoveV) (i j : Nat) : 0 ≤ dD a b i j := (bnd_getD (distR_bd a b i) (by omega) j).1
theorem costM_zero {m n : MoveV} (h : costM m n = 0) : sameM m n = true := by
  cases hs : sameM m n
  · cases hr : (m.rod == n.rod)
    · rw [costM_not hs hr] at h; omega
    · rw [costM_rod hs hr] at h; omega
  · rfl
theorem dD_zero (a b : List MoveV) : ∀ (i j : Nat), i ≤ a.length → j ≤ b.length → (dD a b i j = 0 ↔ a.take i = b.take j) := by
  intro i
  induction i with
  | zero =>
    intro j _ hj
    rw [dD_0j a b hj]
    constructor
    · intro h; obtain rfl : j = 0 := by omega
      rfl
    · intro h
      have := congrArg List.length h
      rw [List.length_take, List.length_take] at this
      omega
  | succ i ih =>
    intro j hi hj
    cases j with
    | zero =>
      rw [dD_i0 a b hi]
      constructor
      · intro h; omega
      · intro h
        have := congrArg List.length h
        rw [List.length_take, List.length_take] at this
        omega
    | succ j =>
      obtain ⟨m, hm⟩ := move_get (a := a) (i := i) (by omega)
      obtain ⟨n, hn⟩ := move_get (a := b) (i := j) (by omega)
      have ih := ih j (by omega) (by omega)
      have p1 := dD_pos a b i j
      have p2 := dD_pos a b i (j + 1)
      have p3 := dD_pos a b (i + 1) j
      have pc := costM_bd m n
      rw [dD_ss hm hn, take_snoc' hm, take_snoc' hn]
      constructor
      · intro h
        have h1 : dD a b i j = 0 := by omega
        have h2 : costM m n = 0 := by omega
        rw [ih.1 h1, (sameM_iff m n).1 (costM_zero h2)]
      · intro h
        have hl := congrArg List.length h
        rw [List.length_append, List.length_append, List.length_take, List.length_take] at hl
        simp only [List.length_singleton] at hl
        obtain ⟨h1, h2⟩ := List.append_inj h (by rw [List.length_take, List.length_take]; omega)
        have h3 : m = n := by simpa using h2
        rw [ih.2 h1, costM_same ((sameM_iff m n).2 h3)]
        omega
theorem dist_zero (a b : List MoveV) : distV a b = 0 ↔ a = b := by
  have := dD_zero a b a.length b.length (Nat.le_refl _) (Nat.le_refl _)
  rw [List.take_length, List.take_length] at this
  unfold dD at this
  unfold distV
  exact this
theorem dD_kK (a b : List MoveV) : ∀ (i j : Nat), i ≤ a.length → j ≤ b.length → dD a b i j ≤ 2 * ((i : Int) + j - 2 * kK a b i j) ∧ kK a b i j ≤ i ∧ kK a b i j ≤ j ∧ 0 ≤ kK a b i j := by
  intro i
  induction i with
  | zero => intro j _ hj; rw [dD_0j a b hj, kK_0j]; omega
  | succ i ih =>
    intro j
    induction j with
    | zero => intro hi _; rw [dD_i0 a b hi, kK_i0 a b hi]; omega
    | succ j ihj =>
      intro hi hj
      obtain ⟨m, hm⟩ := move_get (a := a) (i := i) (by omega)
      obtain ⟨n, hn⟩ := move_get (a := b) (i := j) (by omega)
      have q1 := ih j (by omega) (by omega)
      have q2 := ih (j + 1) (by omega) hj
      have q3 := ihj hi (by omega)
      rw [dD_ss hm hn, kK_ss hm hn]
      cases hs : sameM m n
      · rw [if_neg (by decide)]; omega
      · rw [if_pos rfl, costM_same hs]; omega
theorem dist_kept (a b : List MoveV) : distV a b ≤ 2 * ((a.length : Int) + b.length - 2 * keptV a b) ∧ keptV a b ≤ a.length ∧ keptV a b ≤ b.length ∧ 0 ≤ keptV a b := by
  have := dD_kK a b a.length b.length (Nat.le_refl _) (Nat.le_refl _)
  unfold dD kK at this
  unfold distV keptV
  exact this
theorem kK_mono (a b : List MoveV) {i : Nat} (hi : i + 1 ≤ a.length) {j : Nat} (hj : j + 1 ≤ b.length) : kK a b i (j + 1) ≤ kK a b (i + 1) (j + 1) ∧ kK a b (i + 1) j ≤ kK a b (i + 1) (j + 1) := by
  obtain ⟨m, hm⟩ := move_get (a := a) (i := i) (by omega)
  obtain ⟨n, hn⟩ := move_get (a := b) (i := j) (by omega)
  rw [kK_ss hm hn]
  split <;> omega
theorem kK_up (a b : List MoveV) {j : Nat} (hj : j ≤ b.length) (i i' : Nat) (h : i ≤ i') (hi : i' ≤ a.length) : kK a b i j ≤ kK a b i' j := by
  induction i' with
  | zero => obtain rfl : i = 0 := by omega
            exact Int.le_refl _
  | succ i' ih =>
    rcases Nat.eq_or_lt_of_le h with rfl | hlt
    · exact Int.le_refl _
    · have ih := ih (by omega) (by omega)
      cases j with
      | zero => rw [kK_i0 a b (by omega), kK_i0 a b (by omega)]; exact Int.le_refl _
      | succ j => have := (kK_mono a b (i := i') hi hj).1; omega
theorem kK_right (a b : List MoveV) {i : Nat} (hi : i ≤ a.length) (j j' : Nat) (h : j ≤ j') (hj : j' ≤ b.length) : kK a b i j ≤ kK a b i j' := by
  induction j' with
  | zero => obtain rfl : j = 0 := by omega
            exact Int.le_refl _
  | succ j' ih =>
    rcases Nat.eq_or_lt_of_le h with rfl | hlt
    · exact Int.le_refl _
    · have ih := ih (by omega) (by omega)
      cases i with
      | zero => rw [kK_0j, kK_0j]; exact Int.le_refl _
      | succ i => have := (kK_mono a b (i := i) hi hj).2; omega
theorem raf_le (a b : List MoveV) : raf a b ≤ a.length ∧ raf a b ≤ b.length ∧ ∀ i, i < raf a b → ∃ x y, a[i]? = some x ∧ b[i]? = some y ∧ sameM x y = true := by
  induction a generalizing b with
  | nil => rw [raf_nil1]; exact ⟨Nat.le_refl _, Nat.zero_le _, fun i hi => by omega⟩
  | cons x a ih =>
    cases b with
    | nil => rw [raf_nil2]; exact ⟨Nat.zero_le _, Nat.le_refl _, fun i hi => by omega⟩
    | cons y b =>
      cases hs : sameM x y
      · have := raf_stop (a := x :: a) (b := y :: b) (k := 0) rfl rfl hs
        rw [List.drop_zero, List.drop_zero] at this
        rw [this]; exact ⟨Nat.zero_le _, Nat.zero_le _, fun i hi => by omega⟩
      · have := raf_step (a := x :: a) (b := y :: b) (k := 0) rfl rfl hs
        rw [List.drop_zero, List.drop_zero] at this
        simp only [Nat.zero_add, List.drop_succ_cons, List.drop_zero] at this
        obtain ⟨h1, h2, h3⟩ := ih b
        rw [this]
        refine ⟨by simp; omega, by simp; omega, fun i hi => ?_⟩
        cases i with
        | zero => exact ⟨x, y, rfl, rfl, hs⟩
        | succ i =>
          obtain ⟨x', y', g1, g2, g3⟩ := h3 i (by omega)
          exact ⟨x', y', by simpa using g1, by simpa using g2, g3⟩
theorem raf_kept (a b : List MoveV) : (raf a b : Int) ≤ keptV a b := by
  obtain ⟨h1, h2, h3⟩ := raf_le a b
  have key : ∀ p, p ≤ raf a b → (p : Int) ≤ kK a b p p := by
    intro p
    induction p with
    | zero => intro _; rw [kK_0j]; omega
    | succ p ih =>
      intro hp
      have ih := ih (by omega)
      obtain ⟨x, y, hx, hy, hs⟩ := h3 p (by omega)
      rw [kK_ss hx hy, if_pos hs]
      omega
  have k1 := key (raf a b) (Nat.le_refl _)
  have k2 := kK_up a b (j := raf a b) h2 (raf a b) a.length h1 (Nat.le_refl _)
  have k3 := kK_right a b (i := a.length) (Nat.le_refl _) (raf a b) b.length h2 (Nat.le_refl _)
  unfold kK at k1 k2 k3
  unfold keptV
  omega
theorem kK_full (a b : List MoveV) : ∀ i, i ≤ a.length → i ≤ b.length → (kK a b i i = i ↔ a.take i = b.take i) := by
  intro i
  induction i with
  | zero => intro _ _; rw [kK_0j]; simp
  | succ i ih =>
    intro hi hj
    have ih := ih (by omega) (by omega)
    obtain ⟨m, hm⟩ := move_get (a := a) (i := i) (by omega)
    obtain ⟨n, hn⟩ := move_get (a := b) (i := i) (by omega)
    have q1 := (dD_kK a b i (i + 1) (by omega) hj).2.1
    have q2 := (dD_kK a b (i + 1) i hi (by omega)).2.2.1
    have q3 := (dD_kK a b i i (by omega) (by omega)).2.1
    rw [kK_ss hm hn, take_snoc' hm, take_snoc' hn]
    constructor
    · intro h
      cases hs : sameM m n
      · rw [hs, if_neg (by decide)] at h; omega
      · rw [hs, if_pos rfl] at h
        rw [ih.1 (by omega), (sameM_iff m n).1 hs]
    · intro h
      obtain ⟨h1, h2⟩ := List.append_inj h (by rw [List.length_take, List.length_take]; omega)
      have h3 : m = n := by simpa using h2
      rw [if_pos ((sameM_iff m n).2 h3), ih.2 h1]
      omega
theorem score_full {a b : List MoveV} (ha : recB a = true) (hb : recB b = true) : scV a b = 100 ↔ a = b := by
  by_cases hz : a.length = 0 ∧ b.length = 0
  · rw [scV_zero ha hb hz.1 hz.2]
    rw [List.length_eq_zero_iff.1 hz.1, List.length_eq_zero_iff.1 hz.2]
    simp
  · rw [scV_yes ha hb hz]
    obtain ⟨_, h1, h2, h3⟩ := dist_kept a b
    constructor
    · intro h
      have hm : 0 < max (a.length : Int) (b.length : Int) := by omega
      have h4 := Int.ediv_mul_le (100 * keptV a b) (show max (a.length : Int) (b.length : Int) ≠ 0 by omega)
      rw [h] at h4
      have hl : a.length = b.length := by omega
      have hk : keptV a b = a.length := by omega
      have := (kK_full a b a.length (Nat.le_refl _) (by omega)).1 (by unfold kK; unfold keptV at hk; rw [hl] at hk ⊢; exact hk)
      rw [List.take_length, hl, List.take_length] at this
      exact this
    · intro h
      subst h
      have := (kK_full a a a.length (Nat.le_refl _) (Nat.le_refl _)).2 rfl
      have hk : keptV a a = a.length := by unfold keptV; unfold kK at this; exact this
      rw [hk, show max (a.length : Int) (a.length : Int) = a.length by omega]
      exact Int.mul_ediv_cancel _ (by omega)
theorem bestA_min (D : Nat → Int) (n : Nat) : ∀ i, i < n → D (bestA D n) ≤ D i := by
  induction n with
  | zero => intro i hi; omega
  | succ n ih =>
    intro i hi
    by_cases h : D n < D (bestA D n)
    · rw [bestA_yes h]
      rcases Nat.eq_or_lt_of_le (Nat.lt_succ_iff.1 hi) with rfl | hlt
      · exact Int.le_refl _
      · have := ih i hlt; omega
    · rw [bestA_no h]
      rcases Nat.eq_or_lt_of_le (Nat.lt_succ_iff.1 hi) with rfl | hlt
      · omega
      · exact ih i hlt
theorem br_facts {ls : List (List MoveV)} {b : List MoveV} (h : brB ls b = true) : ∃ k : Nat, brV ls b = k ∧ k < ls.length ∧ recB b = true ∧ (∀ a ∈ ls, recB a = true) ∧ ∃ best, ls[k]? = some best ∧ ∀ a ∈ ls, distV best b ≤ distV a b := by
  have h0 := h
  unfold brB at h
  simp only [Bool.and_eq_true, inB_iff, List.all_eq_true] at h
  obtain ⟨⟨h1, h2⟩, h3⟩ := h
  have hl := bestA_lt (dsA ls b) ls.length (by omega)
  refine ⟨_, brV_yes h0, hl, h2, h3, _, List.getElem?_eq_getElem hl, fun a ha => ?_⟩
  obtain ⟨i, hi⟩ := List.getElem?_of_mem ha
  have := bestA_min (dsA ls b) ls.length i (List.getElem?_eq_some_iff.1 hi).1
  rw [dsA_at (List.getElem?_eq_getElem hl), dsA_at hi] at this
  exact this
end Go.Proofs.Ytkcbldaondflmaa
