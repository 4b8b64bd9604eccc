/-
  Whether a number is in a list: the reference's contract.
-/
import Derived.Test.YthoojcmnkhhokaaPut
namespace Go.Proofs.Ythoojcmnkhhokaa
set_option maxRecDepth 100000
open Go.RowKit

set_option maxHeartbeats 800000 in
theorem l1Has_any (A : Option Addr) (c : Nat) (l : List Int) (n : Int) (w : World) (hn : l.length ≤ 16777216) (h : RdI w A l) :
    Calls Try.prog 89 #[.slice A l.length c, .int .i64 n] w fun e w' => e = .returned (.bool (hasB l n)) ∧ w = w' := by
  go_enter Try.func89, Try.ntmps89
  go_wp2
  go_loop [5] (fun i => ∃ k : Nat, k ≤ l.length ∧ i = .int .i64 k ∧ Hid (hasB (l.take k) n = false)) (fun i => l.length - (intOf i).toNat)
  case atStart => exact ⟨0, by omega, rfl, Lib.hid rfl⟩
  case round =>
    obtain ⟨k, hk, rfl, E⟩ := hrel
    by_cases hlt : k < l.length
    · obtain ⟨b, off, x, rfl, hx, _, hc⟩ := h.at_ hlt
      by_cases hxn : x = n
      · subst hxn
        have E2 := Lib.hid (show hasB l x = true from (hasB_iff _ _).2 (List.mem_of_getElem? hx))
        have hq : (x == x) = true := by simp
        clear hx E
        go_wp2
        go_ret
        exact ⟨by rw [E2.out]; rfl, rfl⟩
      · have E2 := Lib.hid (show hasB (l.take (k + 1)) n = false by
          have h1 : n ∉ l.take k := (hasB_not _ _).1 E.out
          rw [take_snoc' hx]
          have : n ∉ l.take k ++ [x] := by
            rw [List.mem_append, List.mem_singleton]
            rintro (h | h)
            · exact h1 h
            · exact hxn h.symm
          exact (hasB_not _ _).2 this)
        have hq : (x == n) = false := by simp [hxn]
        clear hx E
        go_wp2
        go_round
        case rel => exact ⟨k + 1, by omega, by go_num, E2⟩
        case measure => simp [intOf]; omega
    · have E2 := Lib.hid (show hasB l n = false by have := E.out; rwa [List.take_of_length_le (by omega)] at this)
      clear E
      go_wp2
      go_ret
      exact ⟨by rw [E2.out]; rfl, rfl⟩
end Go.Proofs.Ythoojcmnkhhokaa
