/-
  Plain facts behind the law of the sheets.
-/
import Derived.Test.YtlmcnlakgjhalaaExP
import Derived.Test.YtlmcnlakgjhalaaExL
namespace Go.Proofs.Ytlmcnlakgjhalaa
open Go.RowKit

def carK (l : List (Int × Int)) (o : Int) : Int := carP (l.getD o.toNat (0, 0))
theorem carK_at {l : List (Int × Int)} {i : Nat} {p q : Int} (h : l[i]? = some (p, q)) : carK l (i : Int) = (cols p q 4).length := by
  unfold carK
  rw [Int.toNat_natCast, List.getD_eq_getElem?_getD, h]; rfl
theorem hard_car (l : List (Int × Int)) (o o' : Int) (h : hardK l o ≤ hardK l o') : carK l o ≤ carK l o' := by
  unfold hardK at h
  unfold carK carP
  generalize l.getD o.toNat (0, 0) = x at *
  generalize l.getD o'.toNat (0, 0) = y at *
  rw [show hardX x = 10 * ((cols x.1 x.2 4).length : Int) + chainV (cols x.1 x.2 4) from hardX_at x.1 x.2, show hardX y = 10 * ((cols y.1 y.2 4).length : Int) + chainV (cols y.1 y.2 4) from hardX_at y.1 y.2] at h
  have h1 := chainV_bd x.1 x.2
  have h2 := chainV_bd y.1 y.2
  omega
def low (L : List Int) : Prop := L.Pairwise (· ≤ ·)
theorem low_get {L : List Int} (h : low L) {i j : Nat} (hij : i ≤ j) (hj : j < L.length) : L.getD i 0 ≤ L.getD j 0 := by
  rcases Nat.eq_or_lt_of_le hij with rfl | hlt
  · exact Int.le_refl _
  · have := List.pairwise_iff_getElem.1 h i j (by omega) hj hlt
    rw [List.getD_eq_getElem?_getD, List.getD_eq_getElem?_getD, List.getElem?_eq_getElem (by omega), List.getElem?_eq_getElem hj]
    exact this
theorem low_ins {L : List Int} (h : low L) (n : Int) : low (insL L (posL L n L.length) n) := by
  have hp := posL_le L n L.length
  have hhi := posL_hi L n L.length
  have hlo := posL_lo L n L.length
  generalize posL L n L.length = p at *
  have h1 : ∀ x ∈ L.take p, x ≤ n := by
    intro x hx
    obtain ⟨j, hj, hjl, rfl⟩ := mem_take_lt hx
    rcases hlo with h0 | ⟨_, h0⟩
    · omega
    · have := low_get h (i := j) (j := p - 1) (by omega) (by omega)
      omega
  have h2 : ∀ x ∈ L.drop p, n ≤ x := by
    intro x hx
    obtain ⟨j, hj, hjl, rfl⟩ := mem_drop_ge hx
    have := hhi j hj hjl
    omega
  have h3 : (L.take p ++ L.drop p).Pairwise (· ≤ ·) := by rw [List.take_append_drop]; exact h
  obtain ⟨h4, h5, h6⟩ := List.pairwise_append.1 h3
  show (insL L p n).Pairwise (· ≤ ·)
  unfold insL
  rw [List.pairwise_append]
  refine ⟨h4, ?_, ?_⟩
  · rw [List.pairwise_cons]
    exact ⟨h2, h5⟩
  · intro x hx y hy
    rcases List.mem_cons.1 hy with rfl | hy
    · exact h1 x hx
    · exact h6 x hx y hy
theorem map_ins (f : Int → Int) (L : List Int) (p : Nat) (x : Int) : (insL L p x).map f = insL (L.map f) p (f x) := by
  unfold insL
  simp [List.map_take, List.map_drop]
theorem sum_ins (L : List Int) (p : Nat) (x : Int) : (insL L p x).sum = L.sum + x := by
  have h : L.sum = (L.take p).sum + (L.drop p).sum := by rw [← List.sum_append, List.take_append_drop]
  unfold insL
  rw [h]
  simp
  omega
theorem hoA_low (l : List (Int × Int)) (k : Nat) : low ((hoA l k).map (hardK l)) := by
  induction k with
  | zero => rw [hoA_zero]; exact List.Pairwise.nil
  | succ k ih =>
    rw [hoA_succ, map_ins]
    have := low_ins ih (hardK l k)
    rwa [List.length_map] at this
theorem hoA_sum (l : List (Int × Int)) (k : Nat) (hk : k ≤ l.length) : ((hoA l k).map (carK l)).sum = sumTo carP l k := by
  induction k with
  | zero => rw [hoA_zero, sumTo_zero]; rfl
  | succ k ih =>
    rw [hoA_succ, map_ins, sum_ins, ih (by omega)]
    have hx : l[k]? = some (l[k]'(by omega)) := List.getElem?_eq_getElem (by omega)
    rw [sumTo_succ carP hx]
    congr 1
    unfold carK
    rw [Int.toNat_natCast, List.getD_eq_getElem?_getD, hx]; rfl
theorem order_facts {l : List (Int × Int)} (h : sheetB l = true) : (hoV l).length = l.length ∧ sumTo (carK l) (hoV l) (hoV l).length = carV l ∧ (∀ o ∈ hoV l, 0 ≤ o ∧ o < l.length) ∧
    (∀ (k : Nat) (o o' : Int), (hoV l)[k]? = some o → (hoV l)[k + 1]? = some o' → carK l o ≤ carK l o') := by
  rw [hoV_yes h, carV_yes h]
  refine ⟨hoA_len l _, ?_, hoA_mem l _, ?_⟩
  · rw [← hoA_sum l l.length (Nat.le_refl _)]
    unfold sumTo
    rw [List.take_of_length_le (Nat.le_refl _)]
  · intro k o o' ho ho'
    apply hard_car
    have hlt : k + 1 < ((hoA l l.length).map (hardK l)).length := by
      rw [List.length_map]
      exact (List.getElem?_eq_some_iff.1 ho').1
    have := low_get (hoA_low l l.length) (i := k) (j := k + 1) (by omega) hlt
    rwa [key_at ho, key_at ho'] at this

def NS (Y : List (Int × Int)) : Prop := ∀ (k : Nat) (x : Int × Int), Y[k]? = some x → (Y.take k).any (sim x) = false
theorem nr_zero' (l : List (Int × Int)) : nr l 0 = [] := List.eq_nil_of_length_eq_zero (by have := nr_len l 0; omega)
theorem nr_NS (l : List (Int × Int)) (k : Nat) (hk : k ≤ l.length) : NS (nr l k) := by
  induction k with
  | zero => rw [nr_zero']; intro k x h; simp at h
  | succ k ih =>
    have hx : l[k]? = some (l[k]'(by omega)) := List.getElem?_eq_getElem (by omega)
    cases h : (nr l k).any (sim (l[k]'(by omega)))
    · rw [nr_miss hx h]
      intro i x hi
      rcases Nat.lt_or_ge i (nr l k).length with hlt | hge
      · rw [List.getElem?_append_left hlt] at hi
        rw [List.take_append_of_le_length (by omega)]
        exact ih (by omega) i x hi
      · have hi' : i = (nr l k).length := by
          have := (List.getElem?_eq_some_iff.1 hi).1
          simp at this
          omega
        subst hi'
        rw [List.getElem?_append_right (Nat.le_refl _)] at hi
        simp at hi
        subst hi
        rw [List.take_append_of_le_length (Nat.le_refl _), List.take_of_length_le (Nat.le_refl _)]
        exact h
    · rw [nr_hit hx h]
      exact ih (by omega)
theorem nr_same {Y : List (Int × Int)} (h : NS Y) (k : Nat) (hk : k ≤ Y.length) : nr Y k = Y.take k := by
  induction k with
  | zero => rw [nr_zero']; rfl
  | succ k ih =>
    have hx : Y[k]? = some (Y[k]'(by omega)) := List.getElem?_eq_getElem (by omega)
    have h1 := h k _ hx
    rw [← ih (by omega)] at h1
    rw [nr_miss hx h1, ih (by omega), take_snoc' hx]
theorem nr_facts {l : List (Int × Int)} (h : sheetB l = true) : sheetB (nrV l) = true ∧ nrV (nrV l) = nrV l ∧ (nrV l).length ≤ l.length ∧ (0 < l.length ↔ 0 < (nrV l).length) := by
  have hs := sheetB_iff h
  have hl := nr_len l l.length
  have hb : sheetB (nrV l) = true := by
    rw [nrV_yes h]
    refine sheetB_good (by omega) ?_
    rw [List.all_eq_true]
    intro y hy
    have hy' := nr_sub l l.length y hy
    rw [List.take_of_length_le (Nat.le_refl _)] at hy'
    have := sheetB_mem h y hy'
    unfold exP
    rw [exB_iff]
    exact this
  refine ⟨hb, ?_, by rw [nrV_yes h]; exact hl, ?_⟩
  · rw [nrV_yes hb, nrV_yes h, nr_same (nr_NS l l.length (Nat.le_refl _)) _ (Nat.le_refl _), List.take_of_length_le (Nat.le_refl _)]
  · rw [nrV_yes h]
    constructor
    · intro hp
      have hx : l[0]? = some (l[0]'hp) := List.getElem?_eq_getElem hp
      have hm : l[0]'hp ∈ l.take l.length := by rw [List.take_of_length_le (Nat.le_refl _)]; exact List.getElem_mem hp
      obtain ⟨z, hz, _⟩ := nr_cover l l.length _ hm
      exact List.length_pos_of_mem hz
    · intro hp; omega
end Go.Proofs.Ytlmcnlakgjhalaa
