/-
  The columns that carry, and what is reckoned out of them: contracts of the small functions of the exercises.
-/
import Derived.Test.YtlmcnlakgjhalaaPairs
namespace Go.Proofs.Ytlmcnlakgjhalaa
open Go.RowKit

/-! ### plain -/
def pw : Nat → Int
  | 0 => 1
  | k + 1 => 10 * pw k
theorem pw_pos (k : Nat) : 1 ≤ pw k := by induction k with
  | zero => simp [pw]
  | succ k ih => simp [pw]; omega
theorem pw_mono {j k : Nat} (h : j ≤ k) : pw j ≤ pw k := by
  induction h with
  | refl => omega
  | step _ ih => simp only [pw]; have := pw_pos j; omega
theorem pw_le {k : Nat} (h : k ≤ 8) : pw k ≤ 100000000 := pw_mono (k := 8) h
theorem pw_succ (k : Nat) : pw (k + 1) = 10 * pw k := rfl
theorem div_bd (a p m : Int) (hp : 1 ≤ p) (h0 : 0 ≤ a) (h1 : a ≤ m) : 0 ≤ a / p ∧ a / p ≤ m :=
  ⟨Int.ediv_nonneg h0 (by omega), Int.le_trans (Int.ediv_le_self _ h0) h1⟩

def car (a b : Int) : Nat → Int
  | 0 => 0
  | k + 1 => (a / pw k % 10 + b / pw k % 10 + car a b k) / 10
def cols (a b : Int) : Nat → List Int
  | 0 => []
  | k + 1 => if 0 < (a / pw k % 10 + b / pw k % 10 + car a b k) / 10 then cols a b k ++ [(k : Int)] else cols a b k
theorem car_bd (a b : Int) (k : Nat) : 0 ≤ car a b k ∧ car a b k ≤ 1 := by
  induction k with
  | zero => simp [car]
  | succ k ih => simp only [car]; omega
theorem cols_len (a b : Int) (k : Nat) : (cols a b k).length ≤ k := by
  induction k with
  | zero => simp [cols]
  | succ k ih =>
    simp only [cols]
    split
    · simp; omega
    · omega

/-! ### walks -/
set_option maxHeartbeats 400000 in
theorem power_any (n : Int) (w : World) (h0 : 0 ≤ n) (h8 : n ≤ 8) :
    Calls Try.prog 59 #[.int .i64 n] w fun e w' => e = .returned (.int .i64 (pw n.toNat)) ∧ w' = w := by
  go_enter Try.func59, Try.ntmps59
  go_wp2
  go_loop [0, 3] (fun i o => ∃ k : Nat, k ≤ n.toNat ∧ i = .int .i64 (n - k) ∧ o = .int .i64 (pw k)) (fun i _ => (intOf i).toNat)
  case atStart => exact ⟨0, by omega, by go_num, rfl⟩
  case round =>
    obtain ⟨k, hk, rfl, rfl⟩ := hrel
    have hp := pw_pos k
    have hp2 := pw_le (k := k) (by omega)
    by_cases hlt : 0 < n - k
    · go_wp2
      go_round
      case rel => exact ⟨k + 1, by omega, by go_num, by simp [pw]; omega⟩
      case measure => simp [intOf]; omega
    · have e : n.toNat = k := by omega
      have E := Lib.hid e
      clear e
      go_wp2
      go_ret
      exact ⟨by rw [E.out]; rfl, rfl⟩

set_option maxHeartbeats 400000 in
theorem power2_any (n : Int) (w : World) (h0 : 0 ≤ n) (h8 : n ≤ 8) :
    Calls Try.prog 57 #[.int .i64 n] w fun e w' => e = .returned (.int .i64 (pw n.toNat)) ∧ w' = w := by
  go_enter Try.func57, Try.ntmps57
  go_wp2
  go_loop [3, 4] (fun o i => ∃ k : Nat, k ≤ n.toNat ∧ i = .int .i64 k ∧ o = .int .i64 (pw k)) (fun _ i => n.toNat - (intOf i).toNat)
  case atStart => exact ⟨0, by omega, rfl, rfl⟩
  case round =>
    obtain ⟨k, hk, rfl, rfl⟩ := hrel
    have hp := pw_pos k
    have hp2 := pw_le (k := k) (by omega)
    by_cases hlt : (k : Int) < n
    · go_wp2
      go_round
      case rel => exact ⟨k + 1, by omega, by go_num, by simp [pw]⟩
      case measure => simp [intOf]; omega
    · have e : n.toNat = k := by omega
      have E := Lib.hid e
      clear e
      go_wp2
      go_ret
      exact ⟨by rw [E.out]; rfl, rfl⟩

set_option maxHeartbeats 400000 in
theorem carry_any (a b : Int) (w : World) (ha : 0 ≤ a) (ha' : a ≤ 9999) (hb : 0 ≤ b) (hb' : b ≤ 9999) :
    Calls Try.prog 56 #[.int .i64 a, .int .i64 b] w fun e w' => ∃ A c, e = .returned (.slice A (cols a b 4).length c) ∧ OwnI w' w.heap.size (.slice A (cols a b 4).length c) (cols a b 4) ∧ Below w.heap.size w w' := by
  go_enter Try.func56, Try.ntmps56
  go_wp2
  go_loopw [5, 6, 7] (fun o c i wr => ∃ (k : Nat) (A : Option Addr) (cp : Nat), k ≤ 4 ∧ i = .int .i64 k ∧ c = .int .i64 (car a b k) ∧ o = .slice A (cols a b k).length cp ∧ OwnI wr w.heap.size (.slice A (cols a b k).length cp) (cols a b k) ∧ Below w.heap.size w wr) (fun _ _ i _ => 4 - (intOf i).toNat)
  case atStart => exact ⟨0, none, 0, by omega, rfl, rfl, rfl, OwnI.nil _ _, Below.refl _ _⟩
  case round =>
    obtain ⟨k, A, cp, hk, rfl, rfl, rfl, hown, hbl⟩ := hrel
    have hc := car_bd a b k
    have hz := hbl.size
    have hl := cols_len a b k
    by_cases hlt : k < 4
    · have hp := pw_pos k
      have hp2 := pw_le (k := k) (by omega)
      have hda := div_bd a (pw k) 9999 hp ha ha'
      have hdb := div_bd b (pw k) 9999 hp hb hb'
      by_cases hpos : 0 < (a / pw k % 10 + b / pw k % 10 + car a b k) / 10
      · have e : cols a b (k + 1) = cols a b k ++ [(k : Int)] := if_pos hpos
        have E := Lib.hid e
        clear e
        go_wp2_with fail
        go_quiet ((go_at_call 59; exact Calls.quiet_of_same (power_any _ _ (by omega) (by omega))))
        go_wp2_with (at_builtin; refine wpList_app_int rfl _ _ rfl w.heap.size _ _ rfl (hown.drewN nq) w.heap.size w (below_drewN hbl nq) k 1 1 rfl rfl (by omega) hz (Nat.le_refl _) ?_; intro A1 c1 w1 hown1 hbl1 hgr1)
        go_roundw
        case rel => exact ⟨k + 1, A1, c1, by omega, by go_num, rfl, by rw [E.out, List.length_append]; rfl, by rw [E.out]; rw [List.length_append]; exact hown1, hbl1⟩
        case measure => simp [intOf]; omega
      · have e : cols a b (k + 1) = cols a b k := if_neg hpos
        have E := Lib.hid e
        clear e
        go_wp2_with fail
        go_quiet ((go_at_call 59; exact Calls.quiet_of_same (power_any _ _ (by omega) (by omega))))
        go_wp2
        go_roundw
        case rel => exact ⟨k + 1, A, cp, by omega, by go_num, rfl, by rw [E.out], by rw [E.out]; exact hown, below_drewN hbl nq⟩
        case measure => simp [intOf]; omega
    · obtain rfl : k = 4 := by omega
      go_wp2
      go_ret
      exact ⟨A, cp, rfl, hown, hbl⟩
end Go.Proofs.Ytlmcnlakgjhalaa
