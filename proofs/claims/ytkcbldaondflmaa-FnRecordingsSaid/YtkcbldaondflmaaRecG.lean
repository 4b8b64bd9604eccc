/-
  RecordingScore, of the program and of the reference: contracts.
-/
import Derived.Test.YtkcbldaondflmaaRecE
namespace Go.Proofs.Ytkcbldaondflmaa
open Go.RowKit

def scV (a b : List MoveV) : Int := if (recB a && recB b) = true then (if a.length = 0 ∧ b.length = 0 then 100 else 100 * keptV a b / max (a.length : Int) (b.length : Int)) else 0
theorem scV_no1 {a b : List MoveV} (h : recB a = false) : scV a b = 0 := by simp [scV, h]
theorem scV_no2 {a b : List MoveV} (h : recB b = false) : scV a b = 0 := by simp [scV, h]
theorem scV_zero {a b : List MoveV} (h : recB a = true) (h' : recB b = true) (hz : a.length = 0) (hz' : b.length = 0) : scV a b = 100 := by
  unfold scV; rw [if_pos (by simp [h, h']), if_pos ⟨hz, hz'⟩]
theorem scV_yes {a b : List MoveV} (h : recB a = true) (h' : recB b = true) (hz : ¬ (a.length = 0 ∧ b.length = 0)) : scV a b = 100 * keptV a b / max (a.length : Int) (b.length : Int) := by
  unfold scV; rw [if_pos (by simp [h, h']), if_neg hz]
attribute [irreducible] scV

set_option maxHeartbeats 1600000 in
theorem recordingScoreI_any (A1 : Option Addr) (c1 : Nat) (l1 : List MoveV) (A2 : Option Addr) (c2 : Nat) (l2 : List MoveV) (w : World) (hn1 : l1.length ≤ 16777216) (h1 : RdT moveT w A1 l1) (hn2 : l2.length ≤ 16777216) (h2 : RdT moveT w A2 l2) :
    Calls Try.prog 19 #[.slice A1 l1.length c1, .slice A2 l2.length c2] w (RetN w (scV l1 l2) (recB l1 && recB l2)) := by
  cases hm1 : recB l1
  · rw [scV_no1 hm1]
    go_enter Try.func19, Try.ntmps19
    go_wp2_with (go_at_call 43; refine (areRecorded_any A1 _ l1 _ hn1 h1).mono ?_; rintro e w2 ⟨rfl, hb2⟩; rw [hm1])
    go_ret2
    exact ⟨rfl, hb2⟩
  cases hm2 : recB l2
  · rw [scV_no2 hm2]
    go_enter Try.func19, Try.ntmps19
    go_wp2_with fail
    refine (areRecorded_any A1 _ l1 _ hn1 h1).mono ?_
    rintro e w1 ⟨rfl, hb1⟩
    rw [hm1]
    go_wp2_with fail
    refine (areRecorded_any A2 _ l2 _ hn2 (h2.below hb1 (Nat.le_refl _))).mono ?_
    rintro e w2 ⟨rfl, hb2'⟩
    rw [hm2]
    have hb2 := hb1.trans (hb2'.mono hb1.size)
    clear hb1 hb2'
    go_wp2
    go_ret2
    exact ⟨rfl, hb2⟩
  · have hL1 := (recB_iff hm1).1
    have hL2 := (recB_iff hm2).1
    by_cases hz : l1.length = 0 ∧ l2.length = 0
    · rw [scV_zero hm1 hm2 hz.1 hz.2]
      obtain rfl : l1 = [] := List.eq_nil_of_length_eq_zero hz.1
      obtain rfl : l2 = [] := List.eq_nil_of_length_eq_zero hz.2
      clear hz hL1 hL2
      go_enter Try.func19, Try.ntmps19
      go_wp2_with fail
      refine (areRecorded_any A1 _ ([] : List MoveV) _ hn1 h1).mono ?_
      rintro e w1 ⟨rfl, hb1⟩
      rw [hm1]
      go_wp2_with fail
      refine (areRecorded_any A2 _ ([] : List MoveV) _ hn2 (h2.below hb1 (Nat.le_refl _))).mono ?_
      rintro e w2 ⟨rfl, hb2'⟩
      rw [hm2]
      have hb2 := hb1.trans (hb2'.mono hb1.size)
      clear hb1 hb2'
      go_wp2
      go_ret2
      exact ⟨rfl, hb2⟩
    · rw [scV_yes hm1 hm2 hz]
      have hkv := keptV_bd l1 l2
      have g1 : ((l1.length : Int) + (l2.length : Int) == 0) = false := by simp; omega
      obtain ⟨M, hM⟩ : ∃ M : Int, max (l1.length : Int) (l2.length : Int) = M := ⟨_, rfl⟩
      have hM0 : 1 ≤ M ∧ M ≤ 12 := by omega
      obtain ⟨V, hV⟩ : ∃ V : Int, keptV l1 l2 = V := ⟨_, rfl⟩
      rw [hV] at hkv
      rw [hM, hV]
      have HM := Lib.hid hM
      have HV := Lib.hid hV
      clear hM hV
      rcases Int.lt_or_le (l1.length : Int) (l2.length : Int) with hlt | hlt
      · have hMe : (l2.length : Int) = M := by have := HM.out; omega
        go_enter Try.func19, Try.ntmps19
        go_wp2_with fail
        refine (areRecorded_any A1 _ l1 _ hn1 h1).mono ?_
        rintro e w1 ⟨rfl, hb1⟩
        rw [hm1]
        go_wp2_with fail
        refine (areRecorded_any A2 _ l2 _ hn2 (h2.below hb1 (Nat.le_refl _))).mono ?_
        rintro e w2 ⟨rfl, hb2'⟩
        rw [hm2]
        have hb2 := hb1.trans (hb2'.mono hb1.size)
        clear hb1 hb2'
        go_wp2_with (go_at_call 46; refine (keptMoves_any A1 _ l1 A2 _ l2 _ hL1 (h1.below hb2 (Nat.le_refl _)) hL2 (h2.below hb2 (Nat.le_refl _))).mono ?_; rintro e w3 ⟨rfl, hb3⟩; rw [HV.out])
        go_ret2
        exact ⟨by rw [← hMe]; rfl, hb2.trans (hb3.mono hb2.size)⟩
      · have hMe : (l1.length : Int) = M := by have := HM.out; omega
        have hlt' : ¬ (l1.length : Int) < (l2.length : Int) := by omega
        go_enter Try.func19, Try.ntmps19
        go_wp2_with fail
        refine (areRecorded_any A1 _ l1 _ hn1 h1).mono ?_
        rintro e w1 ⟨rfl, hb1⟩
        rw [hm1]
        go_wp2_with fail
        refine (areRecorded_any A2 _ l2 _ hn2 (h2.below hb1 (Nat.le_refl _))).mono ?_
        rintro e w2 ⟨rfl, hb2'⟩
        rw [hm2]
        have hb2 := hb1.trans (hb2'.mono hb1.size)
        clear hb1 hb2'
        go_wp2_with (go_at_call 46; refine (keptMoves_any A1 _ l1 A2 _ l2 _ hL1 (h1.below hb2 (Nat.le_refl _)) hL2 (h2.below hb2 (Nat.le_refl _))).mono ?_; rintro e w3 ⟨rfl, hb3⟩; rw [HV.out])
        go_ret2
        exact ⟨by rw [← hMe]; rfl, hb2.trans (hb3.mono hb2.size)⟩
set_option maxHeartbeats 1600000 in
theorem recordingScoreS_any (A1 : Option Addr) (c1 : Nat) (l1 : List MoveV) (A2 : Option Addr) (c2 : Nat) (l2 : List MoveV) (w : World) (hn1 : l1.length ≤ 16777216) (h1 : RdT moveT w A1 l1) (hn2 : l2.length ≤ 16777216) (h2 : RdT moveT w A2 l2) :
    Calls Try.prog 18 #[.slice A1 l1.length c1, .slice A2 l2.length c2] w (RetN w (scV l1 l2) (recB l1 && recB l2)) := by
  cases hm1 : recB l1
  · rw [scV_no1 hm1]
    go_enter Try.func18, Try.ntmps18
    go_wp2_with (go_at_call 41; refine (l19Both_any A1 A2 _ _ l1 l2 _ hn1 hn2 h1 h2).mono ?_; rintro e w2 ⟨rfl, hb2⟩; rw [hm1])
    go_ret2
    exact ⟨rfl, hb2⟩
  cases hm2 : recB l2
  · rw [scV_no2 hm2]
    go_enter Try.func18, Try.ntmps18
    go_wp2_with (go_at_call 41; refine (l19Both_any A1 A2 _ _ l1 l2 _ hn1 hn2 h1 h2).mono ?_; rintro e w2 ⟨rfl, hb2⟩; rw [hm1, hm2])
    go_ret2
    exact ⟨rfl, hb2⟩
  · have hL1 := (recB_iff hm1).1
    have hL2 := (recB_iff hm2).1
    by_cases hz : l1.length = 0 ∧ l2.length = 0
    · rw [scV_zero hm1 hm2 hz.1 hz.2]
      obtain rfl : l1 = [] := List.eq_nil_of_length_eq_zero hz.1
      obtain rfl : l2 = [] := List.eq_nil_of_length_eq_zero hz.2
      clear hz hL1 hL2
      go_enter Try.func18, Try.ntmps18
      go_wp2_with (go_at_call 41; refine (l19Both_any A1 A2 _ _ ([] : List MoveV) ([] : List MoveV) _ hn1 hn2 h1 h2).mono ?_; rintro e w2 ⟨rfl, hb2⟩; rw [hm1])
      go_ret2
      exact ⟨rfl, hb2⟩
    · rw [scV_yes hm1 hm2 hz]
      have hkv := keptV_bd l1 l2
      have g1 : ((l1.length : Int) + (l2.length : Int) == 0) = false := by simp; omega
      obtain ⟨M, hM⟩ : ∃ M : Int, max (l1.length : Int) (l2.length : Int) = M := ⟨_, rfl⟩
      have hM0 : 1 ≤ M ∧ M ≤ 12 := by omega
      obtain ⟨V, hV⟩ : ∃ V : Int, keptV l1 l2 = V := ⟨_, rfl⟩
      rw [hV] at hkv
      rw [hM, hV]
      have HM := Lib.hid hM
      have HV := Lib.hid hV
      clear hM hV
      rcases Int.lt_or_le (l1.length : Int) (l2.length : Int) with hlt | hlt
      · have hMe : (l2.length : Int) = M := by have := HM.out; omega
        clear hMe
        go_enter Try.func18, Try.ntmps18
        go_wp2_with (first | (go_at_call 41; refine (l19Both_any A1 A2 _ _ l1 l2 _ hn1 hn2 h1 h2).mono ?_; rintro e w2 ⟨rfl, hb2⟩; rw [hm1, hm2]) | (go_at_call 47; refine (l1Most_any _ _ _).mono ?_; rintro e w' ⟨rfl, rfl⟩; rw [HM.out]) | (go_at_call 45; refine (l19Kept_any A1 _ l1 A2 _ l2 _ hL1 (h1.below hb2 (Nat.le_refl _)) hL2 (h2.below hb2 (Nat.le_refl _))).mono ?_; rintro e w3 ⟨rfl, hb3⟩; rw [HV.out]))
        go_ret2
        exact ⟨rfl, hb2.trans (hb3.mono hb2.size)⟩
      · have hMe : (l1.length : Int) = M := by have := HM.out; omega
        have hlt' : ¬ (l1.length : Int) < (l2.length : Int) := by omega
        clear hMe
        go_enter Try.func18, Try.ntmps18
        go_wp2_with (first | (go_at_call 41; refine (l19Both_any A1 A2 _ _ l1 l2 _ hn1 hn2 h1 h2).mono ?_; rintro e w2 ⟨rfl, hb2⟩; rw [hm1, hm2]) | (go_at_call 47; refine (l1Most_any _ _ _).mono ?_; rintro e w' ⟨rfl, rfl⟩; rw [HM.out]) | (go_at_call 45; refine (l19Kept_any A1 _ l1 A2 _ l2 _ hL1 (h1.below hb2 (Nat.le_refl _)) hL2 (h2.below hb2 (Nat.le_refl _))).mono ?_; rintro e w3 ⟨rfl, hb3⟩; rw [HV.out]))
        go_ret2
        exact ⟨rfl, hb2.trans (hb3.mono hb2.size)⟩
end Go.Proofs.Ytkcbldaondflmaa
