/-
  The answer with a bug: plain, and contracts.
-/
import Derived.Test.YtcljnfmlakpflaaBugA
namespace Go.Proofs.Ytcljnfmlakpflaa
open Go.RowKit

theorem OwnI.empty (w : World) (base : Nat) (hb : base ≤ w.heap.size) : OwnI (w.alloc (.cells #[] 3)) base (.slice (some ⟨w.heap.size, 0, none⟩) 0 0) [] := World.ownsRow_lit w #[] 0 hb (by unfold maxLen; omega) rfl
theorem OwnI.one (w : World) (base : Nat) (hb : base ≤ w.heap.size) (x : Int) : OwnI (w.alloc (.cells #[.int .i64 x] 3)) base (.slice (some ⟨w.heap.size, 0, none⟩) 1 1) [x] := World.ownsRow_lit w #[.int .i64 x] 1 hb (by unfold maxLen; omega) rfl

/-! ### plain: the width -/
def wid (a : Int) : Nat := if a < 10 then 1 else if a < 100 then 2 else if a < 1000 then 3 else 4
def dig (a : Int) : Nat := if a < 1 then 0 else wid a
theorem wid_bd (a : Int) : 1 ≤ wid a ∧ wid a ≤ 4 := by unfold wid; (repeat' split) <;> omega
theorem dig_bd (a : Int) : dig a ≤ 4 := by unfold dig; have := wid_bd a; split <;> omega
theorem wid_dig (a : Int) : max (1 : Int) (dig a : Int) = (wid a : Int) := by
  have := wid_bd a
  unfold dig
  split
  · rw [show wid a = 1 by unfold wid; rw [if_pos (by omega)]]; rfl
  · omega
theorem pw0 : pw 0 = 1 := rfl
theorem pw1 : pw 1 = 10 := rfl
theorem pw2 : pw 2 = 100 := rfl
theorem pw3 : pw 3 = 1000 := rfl
theorem pw4 : pw 4 = 10000 := rfl
theorem wid_lt (a : Int) (ha : 0 ≤ a) (ha' : a ≤ 9999) (k : Nat) (hk : 1 ≤ k) (hk' : k ≤ 4) : k < wid a ↔ pw k ≤ a := by
  rcases (show k = 1 ∨ k = 2 ∨ k = 3 ∨ k = 4 by omega) with rfl | rfl | rfl | rfl
  · rw [pw1]; unfold wid; (repeat' split) <;> omega
  · rw [pw2]; unfold wid; (repeat' split) <;> omega
  · rw [pw3]; unfold wid; (repeat' split) <;> omega
  · rw [pw4]; unfold wid; (repeat' split) <;> omega
theorem wid_gt (a : Int) (ha : 0 ≤ a) (ha' : a ≤ 9999) : a < pw (wid a) := by
  unfold wid; (repeat' split)
  · rw [pw1]; omega
  · rw [pw2]; omega
  · rw [pw3]; omega
  · rw [pw4]; omega
theorem dig_lt (a : Int) (ha : 0 ≤ a) (ha' : a ≤ 9999) (k : Nat) (hk' : k ≤ 4) : k < dig a ↔ 0 < a / pw k := by
  rcases (show k = 0 ∨ k = 1 ∨ k = 2 ∨ k = 3 ∨ k = 4 by omega) with rfl | rfl | rfl | rfl | rfl
  · rw [pw0]; unfold dig wid; (repeat' split) <;> omega
  · rw [pw1]; unfold dig wid; (repeat' split) <;> omega
  · rw [pw2]; unfold dig wid; (repeat' split) <;> omega
  · rw [pw3]; unfold dig wid; (repeat' split) <;> omega
  · rw [pw4]; unfold dig wid; (repeat' split) <;> omega
theorem div_next (a : Int) (k : Nat) (hk : k ≤ 4) : a / pw k / 10 = a / pw (k + 1) := by
  rcases (show k = 0 ∨ k = 1 ∨ k = 2 ∨ k = 3 ∨ k = 4 by omega) with rfl | rfl | rfl | rfl | rfl
  all_goals (simp only [pw]; omega)

/-! ### plain: the answer -/
def ansA (bug a b : Int) : Nat → Int × Int
  | 0 => (0, 0)
  | k + 1 => ((ansA bug a b k).1 + (colV bug (a / pw k % 10 - (ansA bug a b k).2) (b / pw k % 10)).1 * pw k, (colV bug (a / pw k % 10 - (ansA bug a b k).2) (b / pw k % 10)).2)
theorem ansA_zero (bug a b : Int) : ansA bug a b 0 = (0, 0) := rfl
theorem ansA_1 (bug a b : Int) (k : Nat) : (ansA bug a b (k + 1)).1 = (ansA bug a b k).1 + (colV bug (a / pw k % 10 - (ansA bug a b k).2) (b / pw k % 10)).1 * pw k := rfl
theorem ansA_2 (bug a b : Int) (k : Nat) : (ansA bug a b (k + 1)).2 = (colV bug (a / pw k % 10 - (ansA bug a b k).2) (b / pw k % 10)).2 := rfl
theorem ansA_bd2 (bug a b : Int) (k : Nat) : 0 ≤ (ansA bug a b k).2 ∧ (ansA bug a b k).2 ≤ 1 := by
  induction k with
  | zero => simp [ansA]
  | succ k ih => rw [ansA_2]; exact (colV_bd bug _ _ (by omega) (by omega) (by omega) (by omega)).2
theorem col_at (bug a b : Int) (k : Nat) : (-1 ≤ a / pw k % 10 - (ansA bug a b k).2 ∧ a / pw k % 10 - (ansA bug a b k).2 ≤ 9) ∧ (0 ≤ b / pw k % 10 ∧ b / pw k % 10 ≤ 9) := by
  have := ansA_bd2 bug a b k
  omega
theorem colM (c p : Int) (h0 : 0 ≤ c) (h1 : c ≤ 10) (hp : 0 ≤ p) : 0 ≤ c * p ∧ c * p ≤ 10 * p := ⟨Int.mul_nonneg h0 hp, Int.mul_le_mul_of_nonneg_right h1 hp⟩
theorem ansA_bd1 (bug a b : Int) (k : Nat) : 0 ≤ (ansA bug a b k).1 ∧ (ansA bug a b k).1 ≤ 2 * pw k := by
  induction k with
  | zero => simp [ansA, pw]
  | succ k ih =>
    rw [ansA_1, pw_succ]
    have h := col_at bug a b k
    have hc := (colV_bd bug _ _ h.1.1 h.1.2 h.2.1 h.2.2).1
    have hp := pw_pos k
    have hm := colM _ (pw k) hc.1 hc.2 (by omega)
    omega
def ansV (bug a b : Int) : Int := (ansA bug a b (wid a)).1
theorem ansV_eq (bug a b : Int) : ansV bug a b = (ansA bug a b (wid a)).1 := rfl
theorem ansV_bd (bug a b : Int) : 0 ≤ ansV bug a b ∧ ansV bug a b ≤ 20000 := by
  have := ansA_bd1 bug a b (wid a)
  have := wid_bd a
  have := pw_mono (j := wid a) (k := 4) (by omega)
  rw [pw4] at this
  rw [ansV_eq]
  omega

/-! ### plain: the right way -/
theorem right_inv (a b : Int) (k : Nat) : a % pw k - b % pw k + (ansA 0 a b k).2 * pw k = (ansA 0 a b k).1 ∧ (ansA 0 a b k).1 < pw k := by
  induction k with
  | zero => simp [ansA, pw, Int.emod_one]
  | succ k ih =>
    have hp := pw_pos k
    have hb := ansA_bd2 0 a b k
    have ea : a % pw (k + 1) = a % pw k + (a / pw k % 10) * pw k := by
      rw [pw_succ]
      have h1 := Int.emod_add_mul_ediv a (pw k)
      have h2 := Int.emod_add_mul_ediv a (10 * pw k)
      have h3 := Int.emod_add_mul_ediv (a / pw k) 10
      have h4 : a / (10 * pw k) = a / pw k / 10 := by rw [Int.mul_comm, Int.ediv_ediv_of_nonneg (by omega)]
      rw [h4] at h2
      have h5 : pw k * (a / pw k) = pw k * (a / pw k % 10 + 10 * (a / pw k / 10)) := by rw [h3]
      rw [Int.mul_add] at h5
      have h6 : pw k * (10 * (a / pw k / 10)) = 10 * pw k * (a / pw k / 10) := by rw [← Int.mul_assoc, Int.mul_comm (pw k) 10]
      have h7 : (a / pw k % 10) * pw k = pw k * (a / pw k % 10) := Int.mul_comm _ _
      omega
    have eb : b % pw (k + 1) = b % pw k + (b / pw k % 10) * pw k := by
      rw [pw_succ]
      have h1 := Int.emod_add_mul_ediv b (pw k)
      have h2 := Int.emod_add_mul_ediv b (10 * pw k)
      have h3 := Int.emod_add_mul_ediv (b / pw k) 10
      have h4 : b / (10 * pw k) = b / pw k / 10 := by rw [Int.mul_comm, Int.ediv_ediv_of_nonneg (by omega)]
      rw [h4] at h2
      have h5 : pw k * (b / pw k) = pw k * (b / pw k % 10 + 10 * (b / pw k / 10)) := by rw [h3]
      rw [Int.mul_add] at h5
      have h6 : pw k * (10 * (b / pw k / 10)) = 10 * pw k * (b / pw k / 10) := by rw [← Int.mul_assoc, Int.mul_comm (pw k) 10]
      have h7 : (b / pw k % 10) * pw k = pw k * (b / pw k % 10) := Int.mul_comm _ _
      omega
    rw [ea, eb, ansA_1, ansA_2, colV_none, pw_succ]
    generalize hx : a / pw k % 10 = x
    generalize hy : b / pw k % 10 = y
    generalize (ansA 0 a b k).2 = c at *
    generalize (ansA 0 a b k).1 = r at *
    generalize pw k = p at *
    obtain ⟨h1, h2⟩ := ih
    have hx' : 0 ≤ x ∧ x ≤ 9 := by omega
    have hy' : 0 ≤ y ∧ y ≤ 9 := by omega
    split
    · have e : (x - c - y) * p = x * p - c * p - y * p := by rw [Int.sub_mul, Int.sub_mul]
      have h9 : (x - c - y) * p ≤ 9 * p := Int.mul_le_mul_of_nonneg_right (by omega) (by omega)
      simp only [Int.zero_mul]
      omega
    · have e : (x - c + 10 - y) * p = x * p - c * p + 10 * p - y * p := by rw [Int.sub_mul, Int.add_mul, Int.sub_mul]
      have h9 : (x - c + 10 - y) * p ≤ 9 * p := Int.mul_le_mul_of_nonneg_right (by omega) (by omega)
      simp only [Int.one_mul]
      omega
theorem right_way (a b : Int) (k : Nat) (ha : 0 ≤ a) (hb : 0 ≤ b) (hba : b ≤ a) (hk : a < pw k) : (ansA 0 a b k).1 = a - b ∧ (ansA 0 a b k).2 = 0 := by
  obtain ⟨h1, h2⟩ := right_inv a b k
  have hc := ansA_bd2 0 a b k
  rw [Int.emod_eq_of_lt ha hk, Int.emod_eq_of_lt hb (by omega)] at h1
  rcases (show (ansA 0 a b k).2 = 0 ∨ (ansA 0 a b k).2 = 1 by omega) with e | e
  · rw [e] at h1; omega
  · rw [e] at h1; omega
theorem ansV_right (a b : Int) (h : taskB a b = true) : ansV 0 a b = a - b := by
  obtain ⟨h1, h2⟩ := (taskB_iff a b).1 h
  exact (right_way a b (wid a) h1.1 h2.1 h2.2 (wid_gt a h1.1 h1.2)).1
attribute [irreducible] ansA ansV wid dig
end Go.Proofs.Ytcljnfmlakpflaa
