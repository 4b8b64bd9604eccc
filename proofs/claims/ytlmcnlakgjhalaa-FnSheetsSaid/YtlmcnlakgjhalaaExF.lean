/-
  HowMany and FirstOnes, of the program and of the reference: contracts.
-/
import Derived.Test.YtlmcnlakgjhalaaExE
namespace Go.Proofs.Ytlmcnlakgjhalaa
open Go.RowKit

theorem power_is (n p : Int) (w : World) (h0 : 0 ≤ n) (h8 : n ≤ 8) (h : pw n.toNat = p) :
    Calls Try.prog 59 #[.int .i64 n] w fun e w' => e = .returned (.int .i64 p) ∧ w = w' := by rw [← h]; exact (power_any n w h0 h8).mono fun _ _ ⟨a, b⟩ => ⟨a, b.symm⟩
theorem power2_is (n p : Int) (w : World) (h0 : 0 ≤ n) (h8 : n ≤ 8) (h : pw n.toNat = p) :
    Calls Try.prog 57 #[.int .i64 n] w fun e w' => e = .returned (.int .i64 p) ∧ w = w' := by rw [← h]; exact (power2_any n w h0 h8).mono fun _ _ ⟨a, b⟩ => ⟨a, b.symm⟩

def tabN (d c : Int) : Nat := if d = 1 then (tab (carriesP c) 1 9 9).length else (tab (carriesP c) 10 90 90).length
def howOk (d c : Int) : Bool := inB d 1 2 && inB c 0 2
def howV (d c : Int) : Int := if howOk d c = true then (tabN d c : Int) else 0
theorem howV_1 {c : Int} (h : howOk 1 c = true) : howV 1 c = ((tab (carriesP c) 1 9 9).length : Int) := by unfold howV tabN; rw [if_pos h, if_pos rfl]
theorem howV_2 {c : Int} (h : howOk 2 c = true) : howV 2 c = ((tab (carriesP c) 10 90 90).length : Int) := by unfold howV tabN; rw [if_pos h, if_neg (by omega)]
theorem exercisesOf_all (lo hi c : Int) (m : Nat) (w : World) (h0 : 0 ≤ lo) (h1 : lo ≤ hi) (h2 : hi ≤ 99) (hm : (hi - lo + 1).toNat = m) (hmm : m ≤ 90) :
    Calls Try.prog 58 #[.int .i64 lo, .int .i64 hi, .int .i64 c, .int .i64 10000] w fun e w' => ∃ A cc, e = .returned (.slice A (tab (carriesP c) lo m m).length cc) ∧ Below w.heap.size w w' := by
  have := exercisesOf_any lo hi c 10000 w h0 h1 h2 (by omega) (by omega)
  rw [hm] at this
  have hl := tab_len (carriesP c) lo m m
  have h9 : m * m ≤ 90 * 90 := Nat.mul_le_mul hmm hmm
  rw [List.take_of_length_le (by omega)] at this
  exact this.mono fun e w' ⟨A, cc, he, _, hb⟩ => ⟨A, cc, he, hb⟩

set_option maxHeartbeats 1600000 in
theorem howManyI_any (d c : Int) (w : World) : Calls Try.prog 17 #[.int .i64 d, .int .i64 c] w (RetN w (howV d c) (howOk d c)) := by
  cases hx : inB d 1 2
  · have e1 : howOk d c = false := by simp [howOk, hx]
    have e2 : howV d c = 0 := if_neg (by simp [e1])
    rw [e1, e2]
    go_enter Try.func17, Try.ntmps17
    go_wp2_with (first | (go_at_call 55; refine (within_any _ _ _ _).mono ?_; rintro e w' ⟨rfl, rfl⟩))
    go_ret2
    exact ⟨rfl, Below.refl _ _⟩
  cases hy : inB c 0 2
  · have e1 : howOk d c = false := by simp [howOk, hy]
    have e2 : howV d c = 0 := if_neg (by simp [e1])
    rw [e1, e2]
    go_enter Try.func17, Try.ntmps17
    go_wp2_with (first | (go_at_call 55; refine (within_any _ _ _ _).mono ?_; rintro e w' ⟨rfl, rfl⟩))
    go_ret2
    exact ⟨rfl, Below.refl _ _⟩
  have e1 : howOk d c = true := by simp [howOk, hx, hy]
  obtain ⟨h1, h2⟩ := (inB_iff _ _ _).1 hx
  rcases (show d = 1 ∨ d = 2 from by omega) with rfl | rfl
  · have e2 := howV_1 e1
    rw [e1, e2]
    have hp := fun W => exercisesOf_all 1 9 c 9 W (by omega) (by omega) (by omega) (by omega) (by omega)
    generalize (tab (carriesP c) 1 9 9).length = q at *
    have HP := Lib.hid hp
    clear hp
    go_enter Try.func17, Try.ntmps17
    go_wp2_with fail
    refine (within_any _ _ _ _).mono ?_; rintro e w' ⟨rfl, rfl⟩
    go_wp2_with fail
    refine (within_any _ _ _ _).mono ?_; rintro e w' ⟨rfl, rfl⟩
    go_wp2_with fail
    refine (power_is 0 1 _ (by omega) (by omega) rfl).mono ?_; rintro e w' ⟨rfl, rfl⟩
    go_wp2_with fail
    refine (power_is 1 10 _ (by omega) (by omega) rfl).mono ?_; rintro e w' ⟨rfl, rfl⟩
    go_wp2_with fail
    refine (HP.out _).mono ?_; rintro e w' ⟨A, cc, rfl, hb⟩
    go_wp2_with fail
    go_ret2
    exact ⟨rfl, hb⟩
  · have e2 := howV_2 e1
    rw [e1, e2]
    have hp := fun W => exercisesOf_all 10 99 c 90 W (by omega) (by omega) (by omega) (by omega) (by omega)
    generalize (tab (carriesP c) 10 90 90).length = q at *
    have HP := Lib.hid hp
    clear hp
    go_enter Try.func17, Try.ntmps17
    go_wp2_with fail
    refine (within_any _ _ _ _).mono ?_; rintro e w' ⟨rfl, rfl⟩
    go_wp2_with fail
    refine (within_any _ _ _ _).mono ?_; rintro e w' ⟨rfl, rfl⟩
    go_wp2_with fail
    refine (power_is 1 10 _ (by omega) (by omega) rfl).mono ?_; rintro e w' ⟨rfl, rfl⟩
    go_wp2_with fail
    refine (power_is 2 100 _ (by omega) (by omega) rfl).mono ?_; rintro e w' ⟨rfl, rfl⟩
    go_wp2_with fail
    refine (HP.out _).mono ?_; rintro e w' ⟨A, cc, rfl, hb⟩
    go_wp2_with fail
    go_ret2
    exact ⟨rfl, hb⟩

set_option maxHeartbeats 1600000 in
theorem howManyS_core (d c : Int) (lo : Int) (m : Nat) (w : World) (hd1 : 1 ≤ d) (hd2 : d ≤ 2) (hlo : pw (d - 1).toNat = lo) (hhi : pw d.toNat = lo + m) (h0 : 0 ≤ lo) (h1 : lo + m ≤ 100) (hx : inB d 1 2 = true) (hy : inB c 0 2 = true) :
    Calls Try.prog 16 #[.int .i64 d, .int .i64 c] w (RetN w ((cnt (carriesP c) lo m m 0 : Nat) : Int) true) := by
  have hm9 : m * m ≤ 100 * 100 := Nat.mul_le_mul (by omega) (by omega)
  have HL := Lib.hid hlo
  have HH := Lib.hid hhi
  clear hlo hhi
  go_enter Try.func16, Try.ntmps16
  go_wp2_with fail
  refine (l1In_any _ _ _ _).mono ?_; rintro e w' ⟨rfl, rfl⟩
  go_wp2_with fail
  refine (l1In_any _ _ _ _).mono ?_; rintro e w' ⟨rfl, rfl⟩
  go_wp2_with fail
  refine (power2_is _ lo _ (by omega) (by omega) HL.out).mono ?_; rintro e w' ⟨rfl, rfl⟩
  go_wp2_with fail
  refine (power2_is _ (lo + m) _ (by omega) (by omega) HH.out).mono ?_; rintro e w' ⟨rfl, rfl⟩
  go_wp2_with fail
  go_loopw [8, 9] (fun n x wr => ∃ (i : Nat), i ≤ m ∧ x = .int .i64 (lo + i) ∧ n = .int .i64 (cnt (carriesP c) lo m i 0 : Nat) ∧ Below w.heap.size w wr) (fun _ x _ => (lo + m - intOf x).toNat)
  case atStart => exact ⟨0, by omega, by go_num, by rw [cnt_zero]; rfl, Below.refl _ _⟩
  case round =>
    obtain ⟨i, hi, rfl, rfl, hb⟩ := hrel
    by_cases hlt : i < m
    · have hd0 : decide (lo + (i : Int) < lo + (m : Int)) = true := by simp; omega
      go_wp2
      obtain ⟨wo, rfl⟩ : ∃ wo : World, wo = wr := ⟨_, rfl⟩
      go_loopw [8, 10] (fun n y wr => ∃ (j : Nat), j ≤ m ∧ y = .int .i64 (lo + j) ∧ n = .int .i64 (cnt (carriesP c) lo m i j : Nat) ∧ Below w.heap.size w wr) (fun _ y _ => (lo + m - intOf y).toNat)
      case atStart => exact ⟨0, by omega, by go_num, rfl, hb⟩
      case round =>
        obtain ⟨j, hj, rfl, rfl, hb'⟩ := hrel
        clear hb
        have hql := cnt_le (carriesP c) lo m i j hlt hj
        by_cases hjm : j < m
        · have hcol := fun W => columns_any (lo + i) (lo + j) W (by omega) (by omega) (by omega) (by omega)
          cases hh : carriesP c (lo + i) (lo + j)
          · have hd : (((cols (lo + i) (lo + j) 4).length : Int) == c) = false := by simpa [carriesP] using hh
            have E := Lib.hid (cnt_miss (m := m) hh)
            clear hh
            generalize cols (lo + i) (lo + j) 4 = l at *
            have HC := Lib.hid hcol
            clear hcol
            go_wp2_with (go_at_call 53; refine (HC.out _).mono ?_; rintro e w1 ⟨A1, c1, rfl, hown1, hb1⟩)
            go_roundw
            case rel => exact ⟨j + 1, by omega, by go_num, by rw [E.out], hb'.trans (hb1.mono hb'.size)⟩
            case measure => simp [intOf]; omega
          · have hd : (((cols (lo + i) (lo + j) 4).length : Int) == c) = true := by simpa [carriesP] using hh
            have E := Lib.hid (cnt_hit (m := m) hh)
            clear hh
            generalize cols (lo + i) (lo + j) 4 = l at *
            have HC := Lib.hid hcol
            clear hcol
            go_wp2_with (go_at_call 53; refine (HC.out _).mono ?_; rintro e w1 ⟨A1, c1, rfl, hown1, hb1⟩)
            go_roundw
            case rel => exact ⟨j + 1, by omega, by go_num, by rw [E.out]; go_num, hb'.trans (hb1.mono hb'.size)⟩
            case measure => simp [intOf]; omega
        · obtain rfl : j = m := by omega
          have E := Lib.hid (cnt_next (carriesP c) lo j i)
          go_wp2
          go_roundw
          case rel => exact ⟨i + 1, by omega, by go_num, by rw [E.out], hb'⟩
          case measure => simp [intOf]; omega
    · obtain rfl : i = m := by omega
      go_wp2
      go_ret2
      exact ⟨rfl, hb⟩

set_option maxHeartbeats 400000 in
theorem howManyS_any (d c : Int) (w : World) : Calls Try.prog 16 #[.int .i64 d, .int .i64 c] w (RetN w (howV d c) (howOk d c)) := by
  cases hx : inB d 1 2
  · have e1 : howOk d c = false := by simp [howOk, hx]
    have e2 : howV d c = 0 := if_neg (by simp [e1])
    rw [e1, e2]
    go_enter Try.func16, Try.ntmps16
    go_wp2_with (first | (go_at_call 52; refine (l1In_any _ _ _ _).mono ?_; rintro e w' ⟨rfl, rfl⟩))
    go_ret2
    exact ⟨rfl, Below.refl _ _⟩
  cases hy : inB c 0 2
  · have e1 : howOk d c = false := by simp [howOk, hy]
    have e2 : howV d c = 0 := if_neg (by simp [e1])
    rw [e1, e2]
    go_enter Try.func16, Try.ntmps16
    go_wp2_with (first | (go_at_call 52; refine (l1In_any _ _ _ _).mono ?_; rintro e w' ⟨rfl, rfl⟩))
    go_ret2
    exact ⟨rfl, Below.refl _ _⟩
  have e1 : howOk d c = true := by simp [howOk, hx, hy]
  obtain ⟨h1, h2⟩ := (inB_iff _ _ _).1 hx
  rcases (show d = 1 ∨ d = 2 from by omega) with rfl | rfl
  · rw [e1, howV_1 e1, ← cnt_end]
    exact howManyS_core 1 c 1 9 w (by omega) (by omega) rfl rfl (by omega) (by omega) hx hy
  · rw [e1, howV_2 e1, ← cnt_end]
    exact howManyS_core 2 c 10 90 w (by omega) (by omega) rfl rfl (by omega) (by omega) hx hy
end Go.Proofs.Ytlmcnlakgjhalaa
