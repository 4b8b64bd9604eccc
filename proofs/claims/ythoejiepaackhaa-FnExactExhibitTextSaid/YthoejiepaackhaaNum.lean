/-
  The text of a number: plain, contracts.
-/
import Derived.Test.YthoejiepaackhaaStr
import Derived.IntWalk
import Derived.Lib.QuietBelow
namespace Go.Proofs.Ythoejiepaackhaa
open Go.RowKit

def dg (n : Nat) : ByteArray := ⟨#[48 + UInt8.ofNat n]⟩
def numF : Nat → Nat → ByteArray
  | 0, n => dg n
  | f + 1, n => if n < 10 then dg n else numF f (n / 10) ++ dg (n % 10)
theorem numF_small {n : Nat} (f : Nat) (h : n < 10) : numF f n = dg n := by
  cases f with
  | zero => rfl
  | succ f => unfold numF; exact if_pos h
theorem numF_big {n f : Nat} (h : ¬ n < 10) : numF (f + 1) n = numF f (n / 10) ++ dg (n % 10) := by
  rw [numF, if_neg h]
theorem dg_cut (n : Nat) (h : n < 10) : (⟨#[48, 49, 50, 51, 52, 53, 54, 55, 56, 57]⟩ : ByteArray).extract n (n + 1) = dg n := by
  have : ∀ m : Fin 10, (⟨#[48, 49, 50, 51, 52, 53, 54, 55, 56, 57]⟩ : ByteArray).extract m.val (m.val + 1) = dg m.val := by decide
  exact this ⟨n, h⟩
theorem str_app (a b c : ByteArray) : a ++ b ++ c = a ++ (b ++ c) := ByteArray.append_assoc
def numV (n : Nat) : ByteArray := numF 4 n
theorem dg_size (n : Nat) : (dg n).size = 1 := rfl
theorem numF_size (f n : Nat) : (numF f n).size ≤ f + 1 := by
  induction f generalizing n with
  | zero => rw [show numF 0 n = dg n from rfl, dg_size]; omega
  | succ f ih =>
    by_cases h : n < 10
    · rw [numF_small _ h, dg_size]; omega
    · rw [numF_big h, ByteArray.size_append, dg_size]; have := ih (n / 10); omega
attribute [irreducible] numF dg
set_option maxHeartbeats 1600000 in
theorem text_any (n : Nat) (w : World) (hn : n < 100000) :
    Calls Try.prog 46 #[.int .i64 n] w fun e w' => e = .returned (.string (numV n)) ∧ Below w.heap.size w w' := by
  have HR := Lib.hid (show n < 10 ^ (4 + 1) ∧ numV n = numF 4 n ++ ByteArray.empty from ⟨by omega, by unfold numV; rw [ByteArray.append_empty]⟩)
  generalize numV n = R at *
  have hcv := conv_one
  go_enter Try.func46, Try.ntmps46
  go_wp2
  go_loopw [0, 3] (fun q o wr => ∃ (m f : Nat) (s : ByteArray), m ≤ n ∧ q = .int .i64 m ∧ o = .string s ∧ s.size + f ≤ 4 ∧ Hid (m < 10 ^ (f + 1) ∧ R = numF f m ++ s) ∧ Below w.heap.size w wr) (fun q _ _ => (intOf q).toNat)
  case atStart => exact ⟨n, 4, _, Nat.le_refl _, rfl, rfl, by show 0 + 4 ≤ 4; omega, HR, Below.refl _ _⟩
  case round =>
    obtain ⟨m, f, s, hm, rfl, rfl, hsz, H, hb⟩ := hrel
    have hz := hb.size
    by_cases h10 : m < 10
    · have E := Lib.hid (show R = (⟨#[48 + UInt8.ofNat (m % 10)]⟩ : ByteArray) ++ s by rw [H.out.2, numF_small f h10, Nat.mod_eq_of_lt h10]; unfold dg; rfl)
      have d1 : ((m : Int) / 10 == 0) = true := by rw [beq_iff_eq]; omega
      clear H
      go_wp2
      go_ret
      exact ⟨by rw [E.out]; rfl, hb.alloc hz _⟩
    · have E := Lib.hid (show m / 10 < 10 ^ (f - 1 + 1) ∧ R = numF (f - 1) (m / 10) ++ ((⟨#[48 + UInt8.ofNat (m % 10)]⟩ : ByteArray) ++ s) by
        obtain ⟨h1, h2⟩ := H.out
        cases f with
        | zero => omega
        | succ f =>
          rw [Nat.add_sub_cancel]
          refine ⟨by rw [Nat.pow_succ] at h1; omega, ?_⟩
          rw [h2, numF_big h10, str_app]
          unfold dg; rfl)
      have hf : 1 ≤ f := by
        have h1 := H.out.1
        cases f with
        | zero => omega
        | succ f => omega
      have d1 : ((m : Int) / 10 == 0) = false := by rw [beq_eq_false_iff_ne]; omega
      clear H
      go_wp2
      go_roundw
      case rel => exact ⟨m / 10, f - 1, _, by omega, by go_num, rfl, by rw [ByteArray.size_append]; have : (⟨#[48 + UInt8.ofNat (m % 10)]⟩ : ByteArray).size = 1 := rfl; omega, E, hb.alloc hz _⟩
      case measure => simp [intOf]; omega
set_option maxHeartbeats 1600000 in
theorem l1Num_small (n : Nat) (w : World) (h : n < 10) :
    Calls Try.prog 45 #[.int .i64 n] w fun e w' => e = .returned (.string (dg n)) ∧ Below w.heap.size w w' := by
  have E := Lib.hid (dg_cut n h)
  have i1 : IntKind.i64.wrap ((n : Int) + 1) = (n : Int) + 1 := IntWalk.i64_in _ (by omega)
  have j1 : (n : Int) + 1 ≤ 10 := by omega
  have j2 : (0 : Int) ≤ (n : Int) := by omega
  go_enter Try.func45, Try.ntmps45
  go_wp2
  go_ret
  exact ⟨by rw [← E.out]; rfl, Below.refl _ _⟩
set_option maxHeartbeats 1600000 in
theorem l1Num_any (f : Nat) : ∀ (n : Nat) (w : World), n < 10 ^ (f + 1) → f ≤ 8 →
    Calls Try.prog 45 #[.int .i64 n] w fun e w' => e = .returned (.string (numF f n)) ∧ Below w.heap.size w w' := by
  induction f with
  | zero =>
    intro n w hn _
    rw [numF_small 0 (by omega)]
    exact l1Num_small n w (by omega)
  | succ f ih =>
    intro n w hn hf
    by_cases h : n < 10
    · rw [numF_small _ h]
      exact l1Num_small n w h
    · rw [numF_big h]
      have hp : n < 10 * 10 ^ (f + 1) := by rw [Nat.pow_succ] at hn; omega
      have hp2 : (10 : Nat) ^ (f + 1) ≤ 1000000000 := by
        have : (10 : Nat) ^ (f + 1) ≤ 10 ^ 9 := Nat.pow_le_pow_right (by omega) (by omega)
        omega
      have hn9 : n ≤ 10000000000 := by omega
      have HI := Lib.hid (fun W => ih (n / 10) W (by omega) (by omega))
      have hsz : (numF f (n / 10)).size ≤ 9 := by have := numF_size f (n / 10); omega
      have E := Lib.hid (dg_cut (n % 10) (by omega))
      clear ih hn hp hp2
      generalize numF f (n / 10) = T at *
      have d1 : decide ((n : Int) < 10) = false := decide_eq_false (by omega)
      have q1 : Int.tdiv (n : Int) 10 = ((n / 10 : Nat) : Int) := by rw [Int.tdiv_eq_ediv_of_nonneg (by omega)]; omega
      have r1 : Int.tmod (n : Int) 10 = ((n % 10 : Nat) : Int) := by rw [Int.tmod_eq_emod_of_nonneg (by omega)]; omega
      have i1 : IntKind.i64.wrap (((n % 10 : Nat) : Int) + 1) = ((n % 10 : Nat) : Int) + 1 := IntWalk.i64_in _ (by omega)
      have j1 : ((n % 10 : Nat) : Int) + 1 ≤ 10 := by omega
      have j2 : (0 : Int) ≤ ((n % 10 : Nat) : Int) := by omega
      go_enter Try.func45, Try.ntmps45
      go_wp2_with fail
      refine wp_region_quiet_below (by kernel_rfl) (by kernel_rfl) ?_
      repeat (go_big_quiet_step (((go_at_call 45; exact Calls.regrown_of (HI.out _)))))
      refine wpQuiet_nil ?_
      intro w2 hw'
      have hb2 := below_of_class hw'
      clear hw'
      go_wp2
      go_ret
      exact ⟨by rw [← E.out]; rfl, hb2⟩
end Go.Proofs.Ythoejiepaackhaa
