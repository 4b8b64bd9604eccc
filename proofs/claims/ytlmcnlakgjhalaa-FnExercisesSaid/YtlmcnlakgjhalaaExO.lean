/-
  Plain facts behind the law of the exercises.
-/
import Derived.Test.YtlmcnlakgjhalaaExN
namespace Go.Proofs.Ytlmcnlakgjhalaa
open Go.RowKit

theorem ds_digits (d0 d1 d2 d3 d4 : Int) (h0 : 0 ≤ d0 ∧ d0 ≤ 9) (h1 : 0 ≤ d1 ∧ d1 ≤ 9) (h2 : 0 ≤ d2 ∧ d2 ≤ 9) (h3 : 0 ≤ d3 ∧ d3 ≤ 9) (h4 : 0 ≤ d4 ∧ d4 ≤ 9) :
    dsF 5 (d0 + 10 * (d1 + 10 * (d2 + 10 * (d3 + 10 * d4)))) = d0 + d1 + d2 + d3 + d4 := by
  have s : ∀ (k : Nat) (d m : Int), 0 ≤ d → d ≤ 9 → dsF (k + 1) (d + 10 * m) = d + dsF k m := by
    intro k d m ha hb
    show (d + 10 * m) % 10 + dsF k ((d + 10 * m) / 10) = _
    rw [show (d + 10 * m) % 10 = d by omega, show (d + 10 * m) / 10 = m by omega]
  rw [s 4 d0 _ h0.1 h0.2, s 3 d1 _ h1.1 h1.2, s 2 d2 _ h2.1 h2.2, s 1 d3 _ h3.1 h3.2]
  have : dsF 1 d4 = d4 := by show d4 % 10 + 0 = d4; omega
  rw [this]
  omega
theorem ds_bd (k : Nat) (n : Int) : 0 ≤ dsF k n ∧ dsF k n ≤ 9 * k := by
  induction k generalizing n with
  | zero => simp [dsF]
  | succ k ih =>
    have := ih (n / 10)
    simp only [dsF]
    push_cast
    omega
theorem cols_step (a b : Int) (k : Nat) : ((cols a b (k + 1)).length : Int) = (cols a b k).length + car a b (k + 1) := by
  have h := car_bd a b (k + 1)
  simp only [car] at h
  simp only [cols, car]
  split
  · rw [List.length_append]; simp; omega
  · omega
theorem ds_cols (a b : Int) (ha : 0 ≤ a) (ha' : a ≤ 9999) (hb : 0 ≤ b) (hb' : b ≤ 9999) : dsF 5 a + dsF 5 b - 9 * ((cols a b 4).length : Int) = dsF 5 (a + b) := by
  obtain ⟨a0, a1, a2, a3, ea, ha0, ha1, ha2, ha3, ea0, ea1, ea2, ea3⟩ : ∃ a0 a1 a2 a3 : Int, a = a0 + 10 * (a1 + 10 * (a2 + 10 * (a3 + 10 * 0))) ∧ (0 ≤ a0 ∧ a0 ≤ 9) ∧ (0 ≤ a1 ∧ a1 ≤ 9) ∧ (0 ≤ a2 ∧ a2 ≤ 9) ∧ (0 ≤ a3 ∧ a3 ≤ 9) ∧ a / 1 % 10 = a0 ∧ a / 10 % 10 = a1 ∧ a / 100 % 10 = a2 ∧ a / 1000 % 10 = a3 :=
    ⟨a / 1 % 10, a / 10 % 10, a / 100 % 10, a / 1000 % 10, by omega, by omega, by omega, by omega, by omega, rfl, rfl, rfl, rfl⟩
  obtain ⟨b0, b1, b2, b3, eb, hb0, hb1, hb2, hb3, eb0, eb1, eb2, eb3⟩ : ∃ a0 a1 a2 a3 : Int, b = a0 + 10 * (a1 + 10 * (a2 + 10 * (a3 + 10 * 0))) ∧ (0 ≤ a0 ∧ a0 ≤ 9) ∧ (0 ≤ a1 ∧ a1 ≤ 9) ∧ (0 ≤ a2 ∧ a2 ≤ 9) ∧ (0 ≤ a3 ∧ a3 ≤ 9) ∧ b / 1 % 10 = a0 ∧ b / 10 % 10 = a1 ∧ b / 100 % 10 = a2 ∧ b / 1000 % 10 = a3 :=
    ⟨b / 1 % 10, b / 10 % 10, b / 100 % 10, b / 1000 % 10, by omega, by omega, by omega, by omega, by omega, rfl, rfl, rfl, rfl⟩
  have k1 : car a b 1 = (a0 + b0 + 0) / 10 := by rw [← ea0, ← eb0]; rfl
  have k2 : car a b 2 = (a1 + b1 + car a b 1) / 10 := by rw [← ea1, ← eb1]; rfl
  have k3 : car a b 3 = (a2 + b2 + car a b 2) / 10 := by rw [← ea2, ← eb2]; rfl
  have k4 : car a b 4 = (a3 + b3 + car a b 3) / 10 := by rw [← ea3, ← eb3]; rfl
  have hl : ((cols a b 4).length : Int) = car a b 1 + car a b 2 + car a b 3 + car a b 4 := by
    rw [cols_step a b 3, cols_step a b 2, cols_step a b 1, cols_step a b 0]
    simp [cols]
  rw [hl]
  generalize car a b 1 = c1 at *
  generalize car a b 2 = c2 at *
  generalize car a b 3 = c3 at *
  generalize car a b 4 = c4 at *
  clear ea0 ea1 ea2 ea3 eb0 eb1 eb2 eb3 hl
  have es : a + b = (a0 + b0 - 10 * c1) + 10 * ((a1 + b1 + c1 - 10 * c2) + 10 * ((a2 + b2 + c2 - 10 * c3) + 10 * ((a3 + b3 + c3 - 10 * c4) + 10 * c4))) := by omega
  rw [es]
  clear es ha ha' hb hb'
  rw [ea, eb]
  rw [ds_digits a0 a1 a2 a3 0 ha0 ha1 ha2 ha3 (by omega), ds_digits b0 b1 b2 b3 0 hb0 hb1 hb2 hb3 (by omega), ds_digits _ _ _ _ _ (by omega) (by omega) (by omega) (by omega) (by omega)]
  omega

theorem chain_pos (L : List Int) : (0 ≤ chainV L ∧ chainV L ≤ L.length) ∧ (0 < chainV L ↔ 0 < L.length) := by
  have h := chn_bd L L.length
  refine ⟨⟨h.1, h.2.1⟩, ?_⟩
  constructor
  · intro hp
    have := h.2.1
    unfold chainV at hp
    omega
  · intro hp
    have : ∀ k, 1 ≤ (chn L (k + 1)).1 := by
      intro k
      induction k with
      | zero => rw [chn_first]; exact Int.le_refl _
      | succ k ih => simp only [chn] at ih ⊢; split <;> omega
    obtain ⟨k, hk⟩ : ∃ k, L.length = k + 1 := ⟨L.length - 1, by omega⟩
    unfold chainV
    rw [hk]
    have := this k
    omega
theorem partner_ok {x c : Int} (h : (partnerV x c).2 = true) : exB x (partnerV x c).1 = true ∧ ((colsR x (partnerV x c).1).length : Int) = c := by
  have hpo : partnerOk x c = true := by
    cases hp : partnerOk x c
    · rw [partnerV_no hp] at h; cases h
    · rfl
  cases hf : partnerF x c with
  | none => rw [partnerV_none hpo hf] at h; cases h
  | some k =>
    rw [partnerV_some hpo hf]
    unfold partnerF at hf
    have h1 := List.find?_some hf
    have h2 := List.mem_of_find?_eq_some hf
    have h3 := List.mem_range.1 h2
    have hx : exB x (k : Int) = true := by
      rw [exB_iff]
      simp [partnerOk, inB] at hpo
      omega
    refine ⟨hx, ?_⟩
    unfold colsR
    rw [if_pos hx]
    simpa [hit] using h1
theorem tabRow_mem (p : Int → Int → Bool) (lo a : Int) (j : Nat) : ∀ x ∈ tabRow p lo a j, x.1 = a ∧ lo ≤ x.2 ∧ x.2 < lo + j ∧ p x.1 x.2 = true := by
  induction j with
  | zero => simp [tabRow]
  | succ j ih =>
    intro x hx
    simp only [tabRow] at hx
    split at hx
    · rcases List.mem_append.1 hx with h | h
      · have := ih x h; refine ⟨this.1, this.2.1, ?_, this.2.2.2⟩; push_cast; omega
      · simp at h; subst h; exact ⟨rfl, by show lo ≤ lo + (j : Int); omega, by show lo + (j : Int) < lo + ((j + 1 : Nat) : Int); omega, by assumption⟩
    · have := ih x hx; refine ⟨this.1, this.2.1, ?_, this.2.2.2⟩; push_cast; omega
theorem tab_mem (p : Int → Int → Bool) (lo : Int) (m i : Nat) : ∀ x ∈ tab p lo m i, lo ≤ x.1 ∧ x.1 < lo + i ∧ lo ≤ x.2 ∧ x.2 < lo + m ∧ p x.1 x.2 = true := by
  induction i with
  | zero => simp [tab]
  | succ i ih =>
    intro x hx
    simp only [tab] at hx
    rcases List.mem_append.1 hx with h | h
    · have := ih x h; refine ⟨this.1, ?_, this.2.2⟩; push_cast; omega
    · have := tabRow_mem p lo _ m x h; refine ⟨by omega, by push_cast; omega, this.2⟩
theorem first_ok {c n : Int} : ∀ x ∈ firstV c n, exB x.1 x.2 = true ∧ ((colsR x.1 x.2).length : Int) = c := by
  intro x hx
  cases h : firstOk c n
  · rw [firstV_no h] at hx; cases hx
  · rw [firstV_yes h] at hx
    have := tab_mem _ _ _ _ x (List.mem_of_mem_take hx)
    have hb : exB x.1 x.2 = true := by rw [exB_iff]; push_cast at this; omega
    refine ⟨hb, ?_⟩
    unfold colsR
    rw [if_pos hb]
    simpa [carriesP] using this.2.2.2.2
end Go.Proofs.Ytlmcnlakgjhalaa
