/-
  MoveDistance, of the program and of the reference: contracts.
-/
import Derived.Test.YtkcbldaondflmaaRecI
import Derived.Test.YtkcbldaondflmaaRecJ
namespace Go.Proofs.Ytkcbldaondflmaa
open Go.RowKit

def mdV (a b : List MoveV) : Int := if (recB a && recB b) = true then distV a b else 0
theorem mdV_no1 {a b : List MoveV} (h : recB a = false) : mdV a b = 0 := by simp [mdV, h]
theorem mdV_no2 {a b : List MoveV} (h : recB b = false) : mdV a b = 0 := by simp [mdV, h]
theorem mdV_yes {a b : List MoveV} (h : recB a = true) (h' : recB b = true) : mdV a b = distV a b := by simp [mdV, h, h']
attribute [irreducible] mdV

set_option maxHeartbeats 1600000 in
theorem moveDistanceI_any (A1 : Option Addr) (c1 : Nat) (l1 : List MoveV) (A2 : Option Addr) (c2 : Nat) (l2 : List MoveV) (w : World) (hn1 : l1.length ≤ 16777216) (h1 : RdT moveT w A1 l1) (hn2 : l2.length ≤ 16777216) (h2 : RdT moveT w A2 l2) :
    Calls Try.prog 27 #[.slice A1 l1.length c1, .slice A2 l2.length c2] w (RetN w (mdV l1 l2) (recB l1 && recB l2)) := by
  cases hm1 : recB l1
  · rw [mdV_no1 hm1]
    go_enter Try.func27, Try.ntmps27
    go_wp2_with (go_at_call 43; refine (areRecorded_any A1 _ l1 _ hn1 h1).mono ?_; rintro e w2 ⟨rfl, hb2⟩; rw [hm1])
    go_ret2
    exact ⟨rfl, hb2⟩
  cases hm2 : recB l2
  · rw [mdV_no2 hm2]
    go_enter Try.func27, Try.ntmps27
    go_wp2_with fail
    refine (areRecorded_any A1 _ l1 _ hn1 h1).mono ?_
    rintro e w1 ⟨rfl, hb1⟩
    rw [hm1]
    go_wp2_with fail
    refine (areRecorded_any A2 _ l2 _ hn2 (h2.below hb1 (Nat.le_refl _))).mono ?_
    rintro e w2 ⟨rfl, hb2'⟩
    rw [hm2]
    have hb2 := hb1.trans (hb2'.mono hb1.size)
    clear hb1 hb2'
    go_wp2
    go_ret2
    exact ⟨rfl, hb2⟩
  · rw [mdV_yes hm1 hm2]
    have hL1 := (recB_iff hm1).1
    have hL2 := (recB_iff hm2).1
    go_enter Try.func27, Try.ntmps27
    go_wp2_with fail
    refine (areRecorded_any A1 _ l1 _ hn1 h1).mono ?_
    rintro e w1 ⟨rfl, hb1⟩
    rw [hm1]
    go_wp2_with fail
    refine (areRecorded_any A2 _ l2 _ hn2 (h2.below hb1 (Nat.le_refl _))).mono ?_
    rintro e w2 ⟨rfl, hb2'⟩
    rw [hm2]
    have hb2 := hb1.trans (hb2'.mono hb1.size)
    clear hb1 hb2'
    go_wp2_with (go_at_call 49; refine (moveDistance_any A1 _ l1 A2 _ l2 _ hL1 (h1.below hb2 (Nat.le_refl _)) hL2 (h2.below hb2 (Nat.le_refl _))).mono ?_; rintro e w3 ⟨rfl, hb3⟩)
    go_ret2
    exact ⟨rfl, hb2.trans (hb3.mono hb2.size)⟩
set_option maxHeartbeats 1600000 in
theorem moveDistanceS_any (A1 : Option Addr) (c1 : Nat) (l1 : List MoveV) (A2 : Option Addr) (c2 : Nat) (l2 : List MoveV) (w : World) (hn1 : l1.length ≤ 16777216) (h1 : RdT moveT w A1 l1) (hn2 : l2.length ≤ 16777216) (h2 : RdT moveT w A2 l2) :
    Calls Try.prog 26 #[.slice A1 l1.length c1, .slice A2 l2.length c2] w (RetN w (mdV l1 l2) (recB l1 && recB l2)) := by
  cases hm1 : recB l1
  · rw [mdV_no1 hm1]
    go_enter Try.func26, Try.ntmps26
    go_wp2_with (go_at_call 41; refine (l19Both_any A1 A2 _ _ l1 l2 _ hn1 hn2 h1 h2).mono ?_; rintro e w2 ⟨rfl, hb2⟩; rw [hm1])
    go_ret2
    exact ⟨rfl, hb2⟩
  cases hm2 : recB l2
  · rw [mdV_no2 hm2]
    go_enter Try.func26, Try.ntmps26
    go_wp2_with (go_at_call 41; refine (l19Both_any A1 A2 _ _ l1 l2 _ hn1 hn2 h1 h2).mono ?_; rintro e w2 ⟨rfl, hb2⟩; rw [hm1, hm2])
    go_ret2
    exact ⟨rfl, hb2⟩
  · rw [mdV_yes hm1 hm2]
    have hL1 := (recB_iff hm1).1
    have hL2 := (recB_iff hm2).1
    go_enter Try.func26, Try.ntmps26
    go_wp2_with (first | (go_at_call 41; refine (l19Both_any A1 A2 _ _ l1 l2 _ hn1 hn2 h1 h2).mono ?_; rintro e w2 ⟨rfl, hb2⟩; rw [hm1, hm2]) | (go_at_call 48; refine (l19Distance_any A1 _ l1 A2 _ l2 _ hL1 (h1.below hb2 (Nat.le_refl _)) hL2 (h2.below hb2 (Nat.le_refl _))).mono ?_; rintro e w3 ⟨rfl, hb3⟩))
    go_ret2
    exact ⟨rfl, hb2.trans (hb3.mono hb2.size)⟩
end Go.Proofs.Ytkcbldaondflmaa
