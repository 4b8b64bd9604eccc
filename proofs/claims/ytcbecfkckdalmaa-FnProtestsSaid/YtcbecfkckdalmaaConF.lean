/-
  TotalOf, of the program and of the reference: contracts.
-/
import Derived.Test.YtcbecfkckdalmaaConE
namespace Go.Proofs.Ytcbecfkckdalmaa
open Go.RowKit

def totOk (l : List SolvedV) (p : Int) : Bool := goodB l && !((((sumsV l p).rows : Nat) : Int) == 0)
def totV (l : List SolvedV) (p : Int) : Int := if totOk l p = true then (sumsV l p).total else 0
theorem totV_yes {l : List SolvedV} {p : Int} (h : totOk l p = true) : totV l p = (sumsV l p).total := if_pos h
theorem totV_no {l : List SolvedV} {p : Int} (h : totOk l p = false) : totV l p = 0 := if_neg (by simp [h])

set_option maxHeartbeats 1600000 in
theorem totalOfI_any (A : Option Addr) (c : Nat) (l : List SolvedV) (p : Int) (w : World) (hn : l.length ≤ 16777216) (h : RdT solvedT w A l) :
    Calls Try.prog 29 #[.slice A l.length c, .int .i64 p] w (RetN w (totV l p) (totOk l p)) := by
  have hR := fun W (g : RdT solvedT W A l) => rankedOf_any A c l p W hn g
  cases hg : goodB l
  · have e : totOk l p = false := by simp [totOk, hg]
    rw [totV_no e, e]
    clear e
    generalize sumsV l p = s at *
    have HR := Lib.hid hR
    clear hR
    go_enter Try.func29, Try.ntmps29
    go_wp2_with fail
    refine (HR.out _ h).mono ?_
    rintro e w1 ⟨rfl, hb1⟩
    go_wp2_with fail
    refine (areSolvedI_any A c l _ hn ((h.below hb1 (Nat.le_refl _)).below ((Below.refl _ _).alloc (Nat.le_refl _) _) (Nat.le_refl _))).mono ?_
    rintro e w2 ⟨rfl, hb2⟩
    have hbx := (box_cells hb2).2
    go_wp2_with fail
    go_ret2
    exact ⟨rfl, (hb1.alloc hb1.size _).trans (hb2.mono (by have := hb1.size; simp; omega))⟩
  cases hr : ((((sumsV l p).rows : Nat) : Int) == 0)
  · have e : totOk l p = true := by simp only [totOk, hg, hr]; rfl
    rw [totV_yes e, e]
    clear e
    generalize sumsV l p = s at *
    have HR := Lib.hid hR
    clear hR
    go_enter Try.func29, Try.ntmps29
    go_wp2_with fail
    refine (HR.out _ h).mono ?_
    rintro e w1 ⟨rfl, hb1⟩
    go_wp2_with fail
    refine (areSolvedI_any A c l _ hn ((h.below hb1 (Nat.le_refl _)).below ((Below.refl _ _).alloc (Nat.le_refl _) _) (Nat.le_refl _))).mono ?_
    rintro e w2 ⟨rfl, hb2⟩
    have hbx := (box_cells hb2).2
    go_wp2_with fail
    go_ret2
    exact ⟨rfl, (hb1.alloc hb1.size _).trans (hb2.mono (by have := hb1.size; simp; omega))⟩
  · have e : totOk l p = false := by simp only [totOk, hg, hr]; rfl
    rw [totV_no e, e]
    clear e
    generalize sumsV l p = s at *
    have HR := Lib.hid hR
    clear hR
    go_enter Try.func29, Try.ntmps29
    go_wp2_with fail
    refine (HR.out _ h).mono ?_
    rintro e w1 ⟨rfl, hb1⟩
    go_wp2_with fail
    refine (areSolvedI_any A c l _ hn ((h.below hb1 (Nat.le_refl _)).below ((Below.refl _ _).alloc (Nat.le_refl _) _) (Nat.le_refl _))).mono ?_
    rintro e w2 ⟨rfl, hb2⟩
    have hbx := (box_cells hb2).2
    go_wp2_with fail
    go_ret2
    exact ⟨rfl, (hb1.alloc hb1.size _).trans (hb2.mono (by have := hb1.size; simp; omega))⟩

set_option maxHeartbeats 1600000 in
theorem totalOfS_any (A : Option Addr) (c : Nat) (l : List SolvedV) (p : Int) (w : World) (hn : l.length ≤ 16777216) (h : RdT solvedT w A l) :
    Calls Try.prog 28 #[.slice A l.length c, .int .i64 p] w (RetN w (totV l p) (totOk l p)) := by
  have hR := fun W (g : RdT solvedT W A l) => l18Sums_any A c l p W hn g
  cases hg : goodB l
  · have e : totOk l p = false := by simp [totOk, hg]
    rw [totV_no e, e]
    clear e
    generalize sumsV l p = s at *
    have HR := Lib.hid hR
    clear hR
    go_enter Try.func28, Try.ntmps28
    go_wp2_with fail
    refine (HR.out _ h).mono ?_
    rintro e w1 ⟨rfl, hb1⟩
    go_wp2_with fail
    refine (l18Good_any A c l _ hn (h.below hb1 (Nat.le_refl _))).mono ?_
    rintro e w2 ⟨rfl, hb2⟩
    go_wp2_with fail
    go_ret2
    exact ⟨rfl, hb1.trans (hb2.mono hb1.size)⟩
  cases hr : ((((sumsV l p).rows : Nat) : Int) == 0)
  · have e : totOk l p = true := by simp only [totOk, hg, hr]; rfl
    rw [totV_yes e, e]
    clear e
    generalize sumsV l p = s at *
    have HR := Lib.hid hR
    clear hR
    go_enter Try.func28, Try.ntmps28
    go_wp2_with fail
    refine (HR.out _ h).mono ?_
    rintro e w1 ⟨rfl, hb1⟩
    go_wp2_with fail
    refine (l18Good_any A c l _ hn (h.below hb1 (Nat.le_refl _))).mono ?_
    rintro e w2 ⟨rfl, hb2⟩
    go_wp2_with fail
    go_ret2
    exact ⟨rfl, hb1.trans (hb2.mono hb1.size)⟩
  · have e : totOk l p = false := by simp only [totOk, hg, hr]; rfl
    rw [totV_no e, e]
    clear e
    generalize sumsV l p = s at *
    have HR := Lib.hid hR
    clear hR
    go_enter Try.func28, Try.ntmps28
    go_wp2_with fail
    refine (HR.out _ h).mono ?_
    rintro e w1 ⟨rfl, hb1⟩
    go_wp2_with fail
    refine (l18Good_any A c l _ hn (h.below hb1 (Nat.le_refl _))).mono ?_
    rintro e w2 ⟨rfl, hb2⟩
    go_wp2_with fail
    go_ret2
    exact ⟨rfl, hb1.trans (hb2.mono hb1.size)⟩
end Go.Proofs.Ytcbecfkckdalmaa
