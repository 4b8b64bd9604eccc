/-
  Slices of strings compared, rows summed: rTexts and rSum.
-/
import Derived.Test.YthoojcmnkhhokaaCurR
import Derived.Test.YthoojcmnkhhokaaStrS
namespace Go.Proofs.Ythoojcmnkhhokaa
set_option maxRecDepth 100000
open Go.RowKit

set_option maxHeartbeats 800000 in
theorem rTexts_same (A1 A2 : Option Addr) (n c1 c2 : Nat) (l : List ByteArray) (w : World) (hn : n = l.length) (hm : n ≤ 16777216) (h1 : RdT strT w A1 l) (h2 : RdT strT w A2 l) :
    Calls Try.prog 62 #[.slice A1 n c1, .slice A2 n c2] w fun e w' => e = .returned (.bool true) ∧ Below w.heap.size w w' := by
  have e1 : (decide ((n : Int) = n)) = true := by simp
  go_enter Try.func62, Try.ntmps62
  go_wp2
  go_loopw [5] (fun i wr => ∃ k : Nat, k ≤ n ∧ i = .int .i64 k ∧ Below w.heap.size w wr) (fun i _ => n - (intOf i).toNat)
  case atStart => exact ⟨0, by omega, rfl, Below.refl _ _⟩
  case round =>
    obtain ⟨k, hk, rfl, hb⟩ := hrel
    by_cases hlt : k < n
    · obtain ⟨b1, o1, s, rfl, hx, hl1, hc1⟩ := str_at (h1.below hb (Nat.le_refl _)) (k := k) (by omega)
      obtain ⟨b2, o2, rfl, hl2, hcells⟩ := str_cells (h2.below hb (Nat.le_refl _)) (by omega)
      have hc2 := hcells k s hx
      clear hx hcells
      go_wp2_with fail
      go_quiet (fail)
      go_wp2
      go_roundw
      case rel => exact ⟨k + 1, by omega, by go_num, below_drewN hb _⟩
      case measure => simp [intOf]; omega
    · go_wp2
      go_ret
      exact ⟨rfl, hb⟩
def two (p q : Int) : Nat → Int
  | 0 => 0
  | 1 => p
  | _ => p + q
theorem two_next (p q : Int) (k : Nat) (x : Int) (hx : [p, q][k]? = some x) : two p q (k + 1) = two p q k + x := by
  match k, hx with
  | 0, hx => simp at hx; subst hx; simp [two]
  | 1, hx => simp at hx; subst hx; simp [two]
theorem two_bd (p q : Int) (hp : 0 ≤ p ∧ p ≤ 1000000) (hq : 0 ≤ q ∧ q ≤ 1000000) (k : Nat) : 0 ≤ two p q k ∧ two p q k ≤ 2000000 := by
  match k with
  | 0 => simp [two]
  | 1 => simp only [two]; omega
  | k + 2 => simp only [two]; omega
set_option maxHeartbeats 800000 in
/-- The sum of a row of two small numbers. -/
theorem rSum_two (A : Option Addr) (c : Nat) (p q : Int) (w : World) (hp : 0 ≤ p ∧ p ≤ 1000000) (hq : 0 ≤ q ∧ q ≤ 1000000) (h : RdI w A [p, q]) :
    Calls Try.prog 65 #[.slice A 2 c] w fun e w' => e = .returned (.int .i64 (p + q)) ∧ w' = w := by
  have HT := Lib.hid (fun (k : Nat) (x : Int) (hx : [p, q][k]? = some x) => two_next p q k x hx)
  have HB := Lib.hid (two_bd p q hp hq)
  have H0 : Hid (two p q 0 = 0) := Lib.hid rfl
  have H2 : two p q 2 = p + q := rfl
  have hl : [p, q].length = 2 := rfl
  generalize two p q = F at *
  generalize [p, q] = L at *
  obtain ⟨n, hn2⟩ : ∃ n : Nat, n = 2 := ⟨2, rfl⟩
  rw [← hn2] at hl H2
  have H2 := Lib.hid H2
  rw [show (2 : Nat) = n from hn2.symm]
  go_enter Try.func65, Try.ntmps65
  go_wp2
  go_loopw [3, 4] (fun m i wr => ∃ k : Nat, k ≤ n ∧ i = .int .i64 k ∧ m = .int .i64 (F k) ∧ wr = w) (fun _ i _ => n - (intOf i).toNat)
  case atStart => exact ⟨0, by omega, rfl, by rw [H0.out], rfl⟩
  case round =>
    obtain ⟨k, hk, rfl, rfl, rfl⟩ := hrel
    by_cases hlt : k < n
    · obtain ⟨b, o, x, rfl, hx, hb, hc⟩ := h.at_ (k := k) (by omega)
      have e1 := HT.out k x hx
      have e2 := HB.out k
      have e3 := HB.out (k + 1)
      rw [e1] at e3
      have i1 : IntKind.i64.wrap (F k + x) = F k + x := IntWalk.i64_in _ (by omega)
      have EE := Lib.hid e1
      clear e1 hx
      go_wp2
      go_roundw
      case rel => exact ⟨k + 1, by omega, by go_num, by first | rfl | (rw [EE.out]), by first | rfl | trivial⟩
      case measure => simp [intOf]; omega
    · obtain rfl : k = n := by omega
      go_wp2
      go_ret
      exact ⟨by first | rfl | (rw [H2.out]; rfl), rfl⟩
end Go.Proofs.Ythoojcmnkhhokaa
