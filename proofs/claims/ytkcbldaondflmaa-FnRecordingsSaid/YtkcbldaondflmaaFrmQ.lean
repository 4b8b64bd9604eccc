/-
  Two recordings alike, as the laws see it.
-/
import Derived.Test.YtkcbldaondflmaaRecC
import Derived.Test.YtkcbldaondflmaaRecB
namespace Go.Proofs.Ytkcbldaondflmaa
open Go.RowKit

set_option maxHeartbeats 2000000 in
theorem vMoves_any (A1 : Option Addr) (c1 : Nat) (a : List MoveV) (A2 : Option Addr) (c2 : Nat) (b : List MoveV) (w : World) (hn1 : a.length ≤ 16777216) (h1 : RdT moveT w A1 a) (hn2 : b.length ≤ 16777216) (h2 : RdT moveT w A2 b) :
    Calls Try.prog 37 #[.slice A1 a.length c1, .slice A2 b.length c2] w fun e w' => ∃ s : Bool, e = .returned (.bool s) ∧ (s = true ↔ a = b) ∧ Below w.heap.size w w' := by
  by_cases hL : a.length = b.length
  · have d0 : ((a.length : Int) != (b.length : Int)) = false := by simp [hL]
    have hL1 : a.length ≤ b.length := by omega
    have HL := Lib.hid hL
    clear hL
    go_enter Try.func37, Try.ntmps37
    go_wp2_with fail
    clear d0
    go_loopw [5] (fun i wr => ∃ k : Nat, k ≤ a.length ∧ i = .int .i64 k ∧ Hid (a.take k = b.take k) ∧ RdT moveT wr A1 a ∧ RdT moveT wr A2 b ∧ Below w.heap.size w wr) (fun i _ => a.length - (intOf i).toNat)
    case atStart => exact ⟨0, by omega, rfl, Lib.hid (by simp), h1, h2, Below.refl _ _⟩
    case round =>
      clear h1 h2
      obtain ⟨k, hk, rfl, E, h1, h2, hb⟩ := hrel
      by_cases hlt1 : k < a.length
      · have hd1 : decide ((k : Int) < a.length) = true := decide_eq_true (by omega)
        obtain ⟨b1, off, x0, x1, x2, rfl, hx, _, hc1, hc2, hc3⟩ := moveT_at h1 hlt1
        obtain ⟨b2, off', y0, y1, y2, rfl, hy, _, hd1', hd2', hd3'⟩ := moveT_at h2 (show k < b.length by omega)
        have heq := eq_move x0 x1 x2 y0 y1 y2
        cases hs : sameM ⟨x0, x1, x2⟩ ⟨y0, y1, y2⟩
        · have E2 := Lib.hid (show a ≠ b by
            intro e
            subst e
            rw [hx] at hy
            injection hy with hy
            rw [(sameM_iff _ _).2 hy] at hs
            cases hs)
          clear E hx hy
          go_wp2_with fail
          go_quiet (fail)
          go_wp2
          go_ret
          exact ⟨false, rfl, ⟨(fun h => by cases h), fun h => absurd h E2.out⟩, below_drewN hb _⟩
        · have E2 := Lib.hid (show a.take (k + 1) = b.take (k + 1) by
            rw [List.take_add_one, List.take_add_one, hx, hy, E.out, (sameM_iff _ _).1 hs])
          clear E hx hy
          go_wp2_with fail
          go_quiet (fail)
          go_wp2
          go_roundw
          case rel => exact ⟨k + 1, by omega, by go_num, E2, h1, h2, below_drewN hb _⟩
          case measure => simp [intOf]; omega
      · have hd1 : decide ((k : Int) < a.length) = false := decide_eq_false (by omega)
        have E2 := Lib.hid (show a = b by
          have h9 := E.out
          rw [List.take_of_length_le (by omega), List.take_of_length_le (by have := HL.out; omega)] at h9
          exact h9)
        clear E
        go_wp2
        go_ret
        exact ⟨true, rfl, ⟨fun _ => E2.out, fun _ => rfl⟩, hb⟩
  · have d0 : ((a.length : Int) != (b.length : Int)) = true := by simp; omega
    have E2 := Lib.hid (show a ≠ b by intro e; exact hL (by rw [e]))
    clear hL
    go_enter Try.func37, Try.ntmps37
    go_wp2
    go_ret
    exact ⟨false, rfl, ⟨(fun h => by cases h), fun h => absurd h E2.out⟩, Below.refl _ _⟩
end Go.Proofs.Ytkcbldaondflmaa
