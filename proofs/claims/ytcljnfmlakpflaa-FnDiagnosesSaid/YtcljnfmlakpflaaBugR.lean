/-
  Plain facts behind the law of the diagnoses.
-/
import Derived.Test.YtcljnfmlakpflaaBugQ
namespace Go.Proofs.Ytcljnfmlakpflaa
open Go.RowKit

theorem bbA_inv (l : List (Int × Int × Int)) (k : Nat) (hk : 1 ≤ k) : (0 ≤ (bbA l k).1 ∧ (bbA l k).1 < k) ∧ (bbA l k).2 = expA (bbA l k).1 l l.length ∧ ∀ j : Nat, j < k → expA (j : Int) l l.length ≤ (bbA l k).2 := by
  induction k with
  | zero => omega
  | succ k ih =>
    rcases Nat.eq_zero_or_pos k with rfl | hp
    · rw [bbA_one]
      refine ⟨⟨Int.le_refl _, by omega⟩, rfl, fun j hj => ?_⟩
      obtain rfl : j = 0 := by omega
      exact Int.le_refl _
    · obtain ⟨h1, h2, h3⟩ := ih hp
      by_cases h : (bbA l k).2 < expA (k : Int) l l.length
      · rw [bbA_yes l k h]
        refine ⟨⟨by omega, by simp only; omega⟩, rfl, fun j hj => ?_⟩
        rcases Nat.lt_or_ge j k with hl | hg
        · have := h3 j hl; simp only; omega
        · obtain rfl : j = k := by omega
          exact Int.le_refl _
      · rw [bbA_no l k h]
        refine ⟨⟨h1.1, by omega⟩, h2, fun j hj => ?_⟩
        rcases Nat.lt_or_ge j k with hl | hg
        · exact h3 j hl
        · obtain rfl : j = k := by omega
          omega
theorem baA_mem (l : List (Int × Int × Int)) (k : Nat) (x : Int) : x ∈ baA l k ↔ ∃ j : Nat, j < k ∧ x = (j : Int) ∧ expA (j : Int) l l.length = (l.length : Int) := by
  induction k with
  | zero =>
    have : baA l 0 = [] := by unfold baA; rfl
    rw [this]
    constructor
    · intro h; cases h
    · rintro ⟨j, hj, _⟩; omega
  | succ k ih =>
    cases he : (expA (k : Int) l l.length == (l.length : Int))
    · rw [baA_no he, ih]
      have hne : ¬ expA (k : Int) l l.length = (l.length : Int) := by simpa using he
      constructor
      · rintro ⟨j, hj, h1, h2⟩; exact ⟨j, by omega, h1, h2⟩
      · rintro ⟨j, hj, h1, h2⟩
        rcases Nat.lt_or_ge j k with hl | hg
        · exact ⟨j, hl, h1, h2⟩
        · obtain rfl : j = k := by omega
          exact absurd h2 hne
    · rw [baA_yes he, List.mem_append, ih]
      have heq : expA (k : Int) l l.length = (l.length : Int) := by simpa using he
      constructor
      · rintro (⟨j, hj, h1, h2⟩ | h)
        · exact ⟨j, by omega, h1, h2⟩
        · exact ⟨k, by omega, by simpa using h, heq⟩
      · rintro ⟨j, hj, h1, h2⟩
        rcases Nat.lt_or_ge j k with hl | hg
        · exact .inl ⟨j, hl, h1, h2⟩
        · obtain rfl : j = k := by omega
          exact .inr (by simpa using h1)
theorem wr_exp {l : List (Int × Int × Int)} (h : listB l = true) (k : Nat) (hk : k ≤ l.length) : ((wrA l k).length : Int) + expA 0 l k = k := by
  induction k with
  | zero =>
    have h1 := wrA_len l 0
    have h2 := expA_bd 0 l 0
    omega
  | succ k ih =>
    have ih := ih (by omega)
    have hx : l[k]? = some (l[k]'(by omega)) := List.getElem?_eq_getElem (by omega)
    generalize l[k]'(by omega) = x at hx
    obtain ⟨p, q, r⟩ := x
    have hb := (listB_iff h).2 k p q r hx
    have hr := ansV_right p q ((taskB_iff p q).2 ⟨hb.1, hb.2.1⟩)
    by_cases he : r = p - q
    · rw [wrA_no hx he, expA_yes 0 hx (by rw [hr, he]; simp)]
      omega
    · rw [wrA_yes hx he, expA_no 0 hx (by rw [hr]; simp; omega), List.length_append]
      simp
      omega
theorem best_facts {l : List (Int × Int × Int)} (h : listB l = true) :
    (0 ≤ (bbV l).1 ∧ (bbV l).1 ≤ 5) ∧ (bbV l).2 = expA (bbV l).1 l l.length ∧ ((wrV l).length : Int) + expA 0 l l.length = l.length ∧ expA 0 l l.length ≤ (bbV l).2 ∧
    ((0 : Int) ∈ baV l ↔ (wrV l).length = 0) ∧ (0 < (baV l).length ↔ (bbV l).2 = (l.length : Int)) := by
  rw [bbV_yes h, wrV_yes h, baV_yes h]
  obtain ⟨h1, h2, h3⟩ := bbA_inv l 6 (by omega)
  have h4 := wr_exp h l.length (Nat.le_refl _)
  have h5 := h3 0 (by omega)
  refine ⟨⟨h1.1, by omega⟩, h2, h4, h5, ?_, ?_⟩
  · rw [baA_mem]
    constructor
    · rintro ⟨j, hj, hj0, he⟩
      obtain rfl : j = 0 := by omega
      simp only [Int.ofNat_zero] at he
      have he' : expA 0 l l.length = (l.length : Int) := he
      omega
    · intro h0
      refine ⟨0, by omega, rfl, ?_⟩
      show expA 0 l l.length = (l.length : Int)
      omega
  · constructor
    · intro hp
      obtain ⟨x, hx⟩ := List.exists_mem_of_length_pos hp
      obtain ⟨j, hj, _, he⟩ := (baA_mem l 6 x).1 hx
      have h6 := h3 j hj
      have h7 := (expA_bd (bbA l 6).1 l l.length).2
      omega
    · intro he
      have hm : (bbA l 6).1 ∈ baA l 6 := by
        rw [baA_mem]
        refine ⟨(bbA l 6).1.toNat, by omega, by omega, ?_⟩
        rw [show (((bbA l 6).1.toNat : Nat) : Int) = (bbA l 6).1 by omega, ← h2]
        exact he
      exact List.length_pos_of_mem hm
theorem mtA_inv {l : List (Int × Int)} (k : Nat) (hk : 1 ≤ k) (hkl : k ≤ l.length) : ∃ (i : Nat) (p q : Int), i < k ∧ (mtA l k).1 = (i : Int) ∧ l[i]? = some (p, q) ∧ (mtA l k).2 = tellV p q ∧ ∀ (j : Nat) (p' q' : Int), j < k → l[j]? = some (p', q') → tellV p' q' ≤ (mtA l k).2 := by
  induction k with
  | zero => omega
  | succ k ih =>
    have hx : l[k]? = some (l[k]'(by omega)) := List.getElem?_eq_getElem (by omega)
    generalize l[k]'(by omega) = x at hx
    obtain ⟨p, q⟩ := x
    by_cases h : (mtA l k).2 < tellV p q
    · rw [mtA_yes hx h]
      refine ⟨k, p, q, by omega, rfl, hx, rfl, fun j p' q' hj hjx => ?_⟩
      rcases Nat.lt_or_ge j k with hl | hg
      · rcases Nat.eq_zero_or_pos k with rfl | hp
        · omega
        · obtain ⟨_, _, _, _, _, _, _, h5⟩ := ih hp (by omega)
          have := h5 j p' q' hl hjx
          simp only; omega
      · obtain rfl : j = k := by omega
        rw [hx] at hjx
        injection hjx with hjx
        injection hjx with e1 e2
        subst e1 e2
        exact Int.le_refl _
    · rw [mtA_no hx h]
      have hp : 1 ≤ k := by
        rcases Nat.eq_zero_or_pos k with rfl | hp
        · rw [mtA_zero] at h
          have := tellV_pos p q
          exact absurd (show (-1 : Int) < tellV p q by omega) h
        · exact hp
      obtain ⟨i, pi, qi, h1, h2, h3, h4, h5⟩ := ih hp (by omega)
      refine ⟨i, pi, qi, by omega, h2, h3, h4, fun j p' q' hj hjx => ?_⟩
      rcases Nat.lt_or_ge j k with hl | hg
      · exact h5 j p' q' hl hjx
      · obtain rfl : j = k := by omega
        rw [hx] at hjx
        injection hjx with hjx
        injection hjx with e1 e2
        subst e1 e2
        omega
theorem mt_facts {l : List (Int × Int)} (h : mtB l = true) : (∀ (k : Nat) (p q : Int), l[k]? = some (p, q) → taskB p q = true) ∧ ∃ (i : Nat) (p q : Int), i < l.length ∧ mtW l = (i : Int) ∧ l[i]? = some (p, q) ∧ ∀ (j : Nat) (p' q' : Int), l[j]? = some (p', q') → telW p' q' ≤ telW p q := by
  have h' := h
  simp only [mtB, Bool.and_eq_true, List.all_eq_true, inB, decide_eq_true_eq] at h'
  have ht : ∀ (k : Nat) (p q : Int), l[k]? = some (p, q) → taskB p q = true := fun k p q hx => h'.2 _ (List.mem_of_getElem? hx)
  have hl : 1 ≤ l.length := by have := h'.1; omega
  obtain ⟨i, p, q, h1, h2, h3, h4, h5⟩ := mtA_inv (l := l) l.length hl (Nat.le_refl _)
  refine ⟨ht, i, p, q, h1, by rw [mtW_yes h, h2], h3, fun j p' q' hj => ?_⟩
  rw [telW_yes (ht i p q h3), telW_yes (ht j p' q' hj), ← h4]
  exact h5 j p' q' (List.getElem?_eq_some_iff.1 hj).1 hj

set_option maxHeartbeats 400000 in
theorem vHas_any (A : Option Addr) (n c : Nat) (l : List Int) (x : Int) (w : World) (hn : n = l.length) (hm : n ≤ 16777216) (h : RdI w A l) :
    Calls Try.prog 48 #[.slice A n c, .int .i64 x] w fun e w' => e = .returned (.bool (hasB l x)) ∧ w' = w := by
  subst hn
  go_enter Try.func48, Try.ntmps48
  go_wp2
  go_loop [5] (fun i => ∃ k : Nat, k ≤ l.length ∧ i = .int .i64 k ∧ Hid (∀ y ∈ l.take k, ¬ y = x)) (fun i => l.length - (intOf i).toNat)
  case atStart => exact ⟨0, by omega, rfl, Lib.hid (by simp)⟩
  case round =>
    obtain ⟨k, hk, rfl, HE⟩ := hrel
    by_cases hlt : k < l.length
    · obtain ⟨b, o, y, rfl, hx, _, hc⟩ := h.at_ hlt
      by_cases hy : y = x
      · subst hy
        have hb : hasB l y = true := (hasB_iff l y).2 (List.mem_of_getElem? hx)
        clear hx
        go_wp2
        go_ret
        exact ⟨by first | rfl | (rw [hb]; rfl), rfl⟩
      · have HE2 : Hid (∀ z ∈ l.take (k + 1), ¬ z = x) := Lib.hid (by
          intro z hz
          rw [take_snoc' hx] at hz
          rcases List.mem_append.1 hz with hz | hz
          · exact HE.out z hz
          · simp at hz; rw [hz]; exact hy)
        clear hx HE
        go_wp2
        go_round
        case rel => exact ⟨k + 1, by omega, by go_num, HE2⟩
        case measure => simp [intOf]; omega
    · have hb : hasB l x = false := (hasB_not l x).2 (fun hx => HE.out x (by rw [List.take_of_length_le (by omega)]; exact hx) rfl)
      go_wp2
      go_ret
      exact ⟨by first | rfl | (rw [hb]; rfl), rfl⟩
end Go.Proofs.Ytcljnfmlakpflaa
