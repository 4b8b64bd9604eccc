/-
  Powers of ten: plain, and the two functions.
-/
import Derived.Test.YtcljnfmlakpflaaInts
import Derived.Test.YtcljnfmlakpflaaTyped
import Derived.StillTailTactics
namespace Go.Proofs.Ytcljnfmlakpflaa
open Go.RowKit

/-! ### plain -/
def pw : Nat → Int
  | 0 => 1
  | k + 1 => 10 * pw k
theorem pw_pos (k : Nat) : 1 ≤ pw k := by induction k with
  | zero => simp [pw]
  | succ k ih => simp [pw]; omega
theorem pw_mono {j k : Nat} (h : j ≤ k) : pw j ≤ pw k := by
  induction h with
  | refl => omega
  | step _ ih => simp only [pw]; have := pw_pos j; omega
theorem pw_le {k : Nat} (h : k ≤ 8) : pw k ≤ 100000000 := pw_mono (k := 8) h
theorem pw_succ (k : Nat) : pw (k + 1) = 10 * pw k := rfl
theorem div_bd (a p m : Int) (hp : 1 ≤ p) (h0 : 0 ≤ a) (h1 : a ≤ m) : 0 ≤ a / p ∧ a / p ≤ m :=
  ⟨Int.ediv_nonneg h0 (by omega), Int.le_trans (Int.ediv_le_self _ h0) h1⟩

/-! ### walks -/
set_option maxHeartbeats 400000 in
theorem power_any (n : Int) (w : World) (h0 : 0 ≤ n) (h8 : n ≤ 8) :
    Calls Try.prog 64 #[.int .i64 n] w fun e w' => e = .returned (.int .i64 (pw n.toNat)) ∧ w' = w := by
  go_enter Try.func64, Try.ntmps64
  go_wp2
  go_loop [0, 3] (fun i o => ∃ k : Nat, k ≤ n.toNat ∧ i = .int .i64 (n - k) ∧ o = .int .i64 (pw k)) (fun i _ => (intOf i).toNat)
  case atStart => exact ⟨0, by omega, by go_num, rfl⟩
  case round =>
    obtain ⟨k, hk, rfl, rfl⟩ := hrel
    have hp := pw_pos k
    have hp2 := pw_le (k := k) (by omega)
    by_cases hlt : 0 < n - k
    · go_wp2
      go_round
      case rel => exact ⟨k + 1, by omega, by go_num, by simp [pw]; omega⟩
      case measure => simp [intOf]; omega
    · have e : n.toNat = k := by omega
      have E := Lib.hid e
      clear e
      go_wp2
      go_ret
      exact ⟨by rw [E.out]; rfl, rfl⟩

set_option maxHeartbeats 400000 in
theorem power2_any (n : Int) (w : World) (h0 : 0 ≤ n) (h8 : n ≤ 8) :
    Calls Try.prog 62 #[.int .i64 n] w fun e w' => e = .returned (.int .i64 (pw n.toNat)) ∧ w' = w := by
  go_enter Try.func62, Try.ntmps62
  go_wp2
  go_loop [3, 4] (fun o i => ∃ k : Nat, k ≤ n.toNat ∧ i = .int .i64 k ∧ o = .int .i64 (pw k)) (fun _ i => n.toNat - (intOf i).toNat)
  case atStart => exact ⟨0, by omega, rfl, rfl⟩
  case round =>
    obtain ⟨k, hk, rfl, rfl⟩ := hrel
    have hp := pw_pos k
    have hp2 := pw_le (k := k) (by omega)
    by_cases hlt : (k : Int) < n
    · go_wp2
      go_round
      case rel => exact ⟨k + 1, by omega, by go_num, by simp [pw]⟩
      case measure => simp [intOf]; omega
    · have e : n.toNat = k := by omega
      have E := Lib.hid e
      clear e
      go_wp2
      go_ret
      exact ⟨by rw [E.out]; rfl, rfl⟩

end Go.Proofs.Ytcljnfmlakpflaa
