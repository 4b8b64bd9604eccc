/-
  An exhibit put into a case: contracts.
-/
import Derived.Test.YthoejiepaackhaaMusE
import Derived.Test.YthoejiepaackhaaSpread
import Derived.Test.YthoejiepaackhaaField
import Derived.Lib.QuietBelow
namespace Go.Proofs.Ythoejiepaackhaa
open Go.RowKit

set_option maxHeartbeats 1600000 in
theorem exhibitAt_any (A : Option Addr) (c : Nat) (l : List ExhibitV) (id : Int) (w : World) (hn : l.length ≤ 16777216) (h : RdT exhibitT w A l) :
    Calls Try.prog 56 #[.slice A l.length c, .int .i64 id] w fun e w' => e = .returned (.int .i64 (idxV l id)) ∧ Below w.heap.size w w' := by
  have HH := Lib.hid (fun k x (h1 : findA l id k = true) (hx : l[k]? = some x) (hh : x.id_ = id) => idxV_hit h1 hx hh)
  have HN := Lib.hid (fun (h1 : findA l id l.length = true) => idxV_none h1)
  have HZ := Lib.hid (findA_zero l id)
  have HS := Lib.hid (fun k x (h1 : findA l id k = true) (hx : l[k]? = some x) (hh : ¬ x.id_ = id) => findA_succ h1 hx hh)
  generalize idxV l id = R at *
  go_enter Try.func56, Try.ntmps56
  go_wp2
  go_loopw [9] (fun i wr => ∃ k : Nat, k ≤ l.length ∧ i = .int .i64 k ∧ Hid (findA l id k = true) ∧ Below w.heap.size w wr) (fun i _ => l.length - (intOf i).toNat)
  case atStart => exact ⟨0, by omega, rfl, HZ, Below.refl _ _⟩
  case round =>
    obtain ⟨k, hk, rfl, E, hb⟩ := hrel
    have hz := hb.size
    by_cases hlt : k < l.length
    · obtain ⟨b, off, id_, land, made, upper, lower, rods, case_, rfl, hx, hlb, hc0, hc1, hc2, hc3, hc4, hc5, hc6⟩ := exhibitT_at (h.below hb (Nat.le_refl _)) hlt
      by_cases hh : id_ = id
      · have E2 := Lib.hid (HH.out k _ E.out hx hh)
        have d1 : (id_ == id) = true := by rw [beq_iff_eq]; exact hh
        clear hx hh E
        go_wp2
        go_ret
        exact ⟨by rw [E2.out]; rfl, hb.alloc hz _⟩
      · have E2 := Lib.hid (HS.out k _ E.out hx hh)
        have d1 : (id_ == id) = false := by rw [beq_eq_false_iff_ne]; exact hh
        clear hx hh E
        go_wp2
        go_roundw
        case rel => exact ⟨k + 1, by omega, by go_num, E2, hb.alloc hz _⟩
        case measure => simp [intOf]; omega
    · have E2 := Lib.hid (HN.out (by have := E.out; rwa [show k = l.length by omega] at this))
      clear E
      go_wp2
      go_ret
      exact ⟨by rw [E2.out]; rfl, hb⟩
def fiV (l : List ExhibitV) (id : Int) : Int := if goodB l = true then idxV l id else -1
theorem fiV_yes {l : List ExhibitV} {id : Int} (h : goodB l = true) : fiV l id = idxV l id := if_pos h
theorem fiV_no {l : List ExhibitV} {id : Int} (h : goodB l = false) : fiV l id = -1 := if_neg (by simp [h])
set_option maxHeartbeats 1600000 in
theorem l22Find_any (A : Option Addr) (c : Nat) (l : List ExhibitV) (id : Int) (w : World) (hn : l.length ≤ 16777216) (h : RdT exhibitT w A l) (hok : ∀ x ∈ l, x.ok) :
    Calls Try.prog 55 #[.slice A l.length c, .int .i64 id] w fun e w' => e = .returned (.int .i64 (fiV l id)) ∧ Below w.heap.size w w' := by
  have hG := Lib.hid (fun W g => l22Good_any A c l W hn g hok)
  cases gg : goodB l
  · rw [gg] at hG
    rw [fiV_no gg]
    clear gg
    go_enter Try.func55, Try.ntmps55
    go_wp2
    go_loopw [5] (fun i wr => i = .int .i64 0 ∧ Below w.heap.size w wr) (fun _ _ => 0)
    case atStart => exact ⟨rfl, Below.refl _ _⟩
    case round =>
      obtain ⟨rfl, hb⟩ := hrel
      by_cases hlt : 0 < l.length
      · have dk1 : decide (0 < l.length) = true := decide_eq_true hlt
        have dk2 : decide ((0 : Int) < (l.length : Int)) = true := decide_eq_true (by omega)
        go_wp2_with fail
        refine (hG.out _ (h.below hb (Nat.le_refl _))).mono ?_
        rintro e w1 ⟨rfl, hb1⟩
        go_wp2
        go_ret
        exact ⟨rfl, hb.trans (hb1.mono hb.size)⟩
      · have dk1 : decide (0 < l.length) = false := decide_eq_false hlt
        have dk2 : decide ((0 : Int) < (l.length : Int)) = false := decide_eq_false (by omega)
        go_wp2
        go_ret
        exact ⟨rfl, hb⟩
  rw [gg] at hG
  rw [fiV_yes gg]
  clear gg
  have HH := Lib.hid (fun k x (h1 : findA l id k = true) (hx : l[k]? = some x) (hh : x.id_ = id) => idxV_hit h1 hx hh)
  have HN := Lib.hid (fun (h1 : findA l id l.length = true) => idxV_none h1)
  have HZ := Lib.hid (findA_zero l id)
  have HS := Lib.hid (fun k x (h1 : findA l id k = true) (hx : l[k]? = some x) (hh : ¬ x.id_ = id) => findA_succ h1 hx hh)
  generalize idxV l id = R at *
  go_enter Try.func55, Try.ntmps55
  go_wp2
  go_loopw [5] (fun i wr => ∃ k : Nat, k ≤ l.length ∧ i = .int .i64 k ∧ Hid (findA l id k = true) ∧ Below w.heap.size w wr) (fun i _ => l.length - (intOf i).toNat)
  case atStart => exact ⟨0, by omega, rfl, HZ, Below.refl _ _⟩
  case round =>
    obtain ⟨k, hk, rfl, E, hb⟩ := hrel
    have hz := hb.size
    by_cases hlt : k < l.length
    · have dk1 : decide (k < l.length) = true := decide_eq_true hlt
      have dk2 : decide ((k : Int) < (l.length : Int)) = true := decide_eq_true (by omega)
      go_wp2_with fail
      refine (hG.out _ (h.below hb (Nat.le_refl _))).mono ?_
      rintro e w1 ⟨rfl, hb1⟩
      have hbN := hb.trans (hb1.mono hz)
      obtain ⟨b, off, id_, land, made, upper, lower, rods, case_, rfl, hx, hlb, hc0, hc1, hc2, hc3, hc4, hc5, hc6⟩ := exhibitT_at (h.below hbN (Nat.le_refl _)) hlt
      by_cases hh : id_ = id
      · have E2 := Lib.hid (HH.out k _ E.out hx hh)
        have d1 : (id_ == id) = true := by rw [beq_iff_eq]; exact hh
        clear hx hh E
        go_wp2
        go_ret
        exact ⟨by rw [E2.out]; rfl, hbN⟩
      · have E2 := Lib.hid (HS.out k _ E.out hx hh)
        have d1 : (id_ == id) = false := by rw [beq_eq_false_iff_ne]; exact hh
        clear hx hh E
        go_wp2
        go_roundw
        case rel => exact ⟨k + 1, by omega, by go_num, E2, hbN⟩
        case measure => simp [intOf]; omega
    · have E2 := Lib.hid (HN.out (by have := E.out; rwa [show k = l.length by omega] at this))
      have dk1 : decide (k < l.length) = false := decide_eq_false hlt
      have dk2 : decide ((k : Int) < (l.length : Int)) = false := decide_eq_false (by omega)
      clear E
      go_wp2
      go_ret
      exact ⟨by rw [E2.out]; rfl, hb⟩
end Go.Proofs.Ythoejiepaackhaa
