/-
  PlaceOf, of the program and of the reference: contracts.
-/
import Derived.Test.YtcbecfkckdalmaaConH
import Derived.Deep.RegionHeld3
namespace Go.Proofs.Ytcbecfkckdalmaa
open Go.RowKit
attribute [local go_sem ↓] Go.wp_at_zero Go.wp_at_succ

def plcW (l : List SolvedV) (p : Int) : Int := if totOk l p = true then placV l p else 0
theorem plcW_yes {l : List SolvedV} {p : Int} (h : totOk l p = true) : plcW l p = placV l p := if_pos h
theorem plcW_no {l : List SolvedV} {p : Int} (h : totOk l p = false) : plcW l p = 0 := if_neg (by simp [h])
theorem goodB_len {l : List SolvedV} (h : goodB l = true) : l.length ≤ 12 := by simp only [goodB, Bool.and_eq_true, decide_eq_true_eq] at h; exact h.1
attribute [irreducible] plcW

set_option maxHeartbeats 1600000 in
theorem placeOfI_any (A : Option Addr) (c : Nat) (l : List SolvedV) (p : Int) (w : World) (hn : l.length ≤ 16777216) (h : RdT solvedT w A l) :
    Calls Try.prog 37 #[.slice A l.length c, .int .i64 p] w (RetN w (plcW l p) (totOk l p)) := by
  have hR := fun W (g : RdT solvedT W A l) => rankedOf_any A c l p W hn g
  cases hg : goodB l
  · have e : totOk l p = false := by simp [totOk, hg]
    rw [plcW_no e, e]
    clear e
    generalize sumsV l p = s at *
    have HR := Lib.hid hR
    clear hR
    go_enter Try.func37, Try.ntmps37
    go_wp2_with fail
    refine (HR.out _ h).mono ?_
    rintro e w1 ⟨rfl, hb1⟩
    go_wp2_with fail
    refine (areSolvedI_any A c l _ hn ((h.below hb1 (Nat.le_refl _)).below ((Below.refl _ _).alloc (Nat.le_refl _) _) (Nat.le_refl _))).mono ?_
    rintro e w2 ⟨rfl, hb2⟩
    have hbx := (box_cells hb2).2
    go_wp2_with fail
    go_ret2
    exact ⟨rfl, (hb1.alloc hb1.size _).trans (hb2.mono (by have := hb1.size; simp; omega))⟩
  cases hr : ((((sumsV l p).rows : Nat) : Int) == 0)
  · have e : totOk l p = true := by simp only [totOk, hg, hr]; rfl
    have hl12 := goodB_len hg
    have hV := placV_eq' l p
    have hpl := pupA_len l l.length
    rw [← pupV_eq] at hpl
    rw [plcW_yes e, e]
    rw [rankV_eq l p] at hV
    have HA := Lib.hid (fun W g => allRanked_any A c l W (by omega) g)
    have hal : ((pupV l).map (rankV l)).length ≤ 1000000 := by rw [List.length_map]; omega
    have HP := Lib.hid (fun A' c' t u v n W g => placeOf_any A' c' ((pupV l).map (rankV l)) p t u v n W hal g)
    have HV := Lib.hid hV
    clear e hV hpl hal
    generalize placV l p = V at *
    generalize (pupV l).map (rankV l) = all at *
    generalize sumsV l p = s at *
    have HR := Lib.hid hR
    clear hR
    go_enter Try.func37, Try.ntmps37
    go_wp2_with fail
    refine (HR.out _ h).mono ?_
    rintro e w1 ⟨rfl, hb1⟩
    go_wp2_with fail
    refine (areSolvedI_any A c l _ hn ((h.below hb1 (Nat.le_refl _)).below ((Below.refl _ _).alloc (Nat.le_refl _) _) (Nat.le_refl _))).mono ?_
    rintro e w2 ⟨rfl, hb2⟩
    have hz1 := hb1.size
    have hbw : Below w.heap.size w w2 := (hb1.alloc hz1 _).trans (hb2.mono (by simp; omega))
    have hbx := (box_cells hb2).2
    have b0 : w2.cell? ⟨w1.heap.size, 0, none⟩ = some (.int .i64 p) := hbx 0
    have b1 : w2.cell? ⟨w1.heap.size, 1, none⟩ = some (.int .i64 s.total) := hbx 1
    have b2 : w2.cell? ⟨w1.heap.size, 2, none⟩ = some (.int .i64 s.time) := hbx 2
    have b3 : w2.cell? ⟨w1.heap.size, 3, none⟩ = some (.int .i64 s.wrong) := hbx 3
    have b4 : w2.cell? ⟨w1.heap.size, 4, none⟩ = some (.int .i64 s.rows) := hbx 4
    have hlt : w1.heap.size < w2.heap.size := World.block_lt_of_cell? _ _ b0
    rw [hg]
    clear hbx hb2
    have hrl := h.below hbw (Nat.le_refl _)
    go_wp2_with fail
    go_region_held3 (fun wx => wx.cell? ⟨w1.heap.size, 0, none⟩ = some (.int .i64 p) ∧ wx.cell? ⟨w1.heap.size, 1, none⟩ = some (.int .i64 s.total) ∧ wx.cell? ⟨w1.heap.size, 2, none⟩ = some (.int .i64 s.time) ∧ wx.cell? ⟨w1.heap.size, 3, none⟩ = some (.int .i64 s.wrong) ∧ wx.cell? ⟨w1.heap.size, 4, none⟩ = some (.int .i64 s.rows)) (((try dsimp only); (repeat' apply And.intro)) <;> assumption) (first
      | (go_at_call 76; refine (HA.out _ (by exact hrl)).mono ?_; rintro e w3 ⟨A3, c3, rfl, ho3, hb3⟩; have t0 := (hb3.cell (p := ⟨w1.heap.size, 0, none⟩) hlt).trans b0; have t1 := (hb3.cell (p := ⟨w1.heap.size, 1, none⟩) hlt).trans b1; have t2 := (hb3.cell (p := ⟨w1.heap.size, 2, none⟩) hlt).trans b2; have t3 := (hb3.cell (p := ⟨w1.heap.size, 3, none⟩) hlt).trans b3; have t4 := (hb3.cell (p := ⟨w1.heap.size, 4, none⟩) hlt).trans b4; have hz3 := hb3.size)
      | (go_at_call 78; refine (HP.out A3 c3 _ _ _ _ _ (by exact ho3.rd)).mono ?_; rintro e w4 ⟨rfl, hb4⟩; have v0 := (hb4.cell (p := ⟨w1.heap.size, 0, none⟩) (World.block_lt_of_cell? _ _ t0)).trans t0; have v1 := (hb4.cell (p := ⟨w1.heap.size, 1, none⟩) (World.block_lt_of_cell? _ _ t1)).trans t1; have v2 := (hb4.cell (p := ⟨w1.heap.size, 2, none⟩) (World.block_lt_of_cell? _ _ t2)).trans t2; have v3 := (hb4.cell (p := ⟨w1.heap.size, 3, none⟩) (World.block_lt_of_cell? _ _ t3)).trans t3; have v4 := (hb4.cell (p := ⟨w1.heap.size, 4, none⟩) (World.block_lt_of_cell? _ _ t4)).trans t4))
    go_wp2
    go_ret2
    have hb23 : Below w2.heap.size w2 w3 := (Below.refl _ _).drew.trans hb3
    exact ⟨by rw [HV.out]; rfl, hbw.trans ((hb23.trans (hb4.mono hb23.size)).mono hbw.size)⟩
  · have e : totOk l p = false := by simp only [totOk, hg, hr]; rfl
    rw [plcW_no e, e]
    clear e
    generalize sumsV l p = s at *
    have HR := Lib.hid hR
    clear hR
    go_enter Try.func37, Try.ntmps37
    go_wp2_with fail
    refine (HR.out _ h).mono ?_
    rintro e w1 ⟨rfl, hb1⟩
    go_wp2_with fail
    refine (areSolvedI_any A c l _ hn ((h.below hb1 (Nat.le_refl _)).below ((Below.refl _ _).alloc (Nat.le_refl _) _) (Nat.le_refl _))).mono ?_
    rintro e w2 ⟨rfl, hb2⟩
    have hbx := (box_cells hb2).2
    go_wp2_with fail
    go_ret2
    exact ⟨rfl, (hb1.alloc hb1.size _).trans (hb2.mono (by have := hb1.size; simp; omega))⟩

set_option maxHeartbeats 1600000 in
theorem placeOfS_any (A : Option Addr) (c : Nat) (l : List SolvedV) (p : Int) (w : World) (hn : l.length ≤ 16777216) (h : RdT solvedT w A l) :
    Calls Try.prog 36 #[.slice A l.length c, .int .i64 p] w (RetN w (plcW l p) (totOk l p)) := by
  have hR := fun W (g : RdT solvedT W A l) => l18Sums_any A c l p W hn g
  cases hg : goodB l
  · have e : totOk l p = false := by simp [totOk, hg]
    rw [plcW_no e, e]
    clear e
    generalize sumsV l p = s at *
    have HR := Lib.hid hR
    clear hR
    go_enter Try.func36, Try.ntmps36
    go_wp2_with fail
    refine (HR.out _ h).mono ?_
    rintro e w1 ⟨rfl, hb1⟩
    go_wp2_with fail
    refine (l18Good_any A c l _ hn (h.below hb1 (Nat.le_refl _))).mono ?_
    rintro e w2 ⟨rfl, hb2⟩
    go_wp2_with fail
    go_ret2
    exact ⟨rfl, hb1.trans (hb2.mono hb1.size)⟩
  cases hr : ((((sumsV l p).rows : Nat) : Int) == 0)
  · have e : totOk l p = true := by simp only [totOk, hg, hr]; rfl
    have hl12 := goodB_len hg
    rw [plcW_yes e, e]
    have HP := Lib.hid (fun W g => l18Place_any A c l p W (by omega) g)
    clear e
    generalize placV l p = V at *
    generalize sumsV l p = s at *
    have HR := Lib.hid hR
    clear hR
    go_enter Try.func36, Try.ntmps36
    go_wp2_with fail
    refine (HR.out _ h).mono ?_
    rintro e w1 ⟨rfl, hb1⟩
    go_wp2_with fail
    refine (l18Good_any A c l _ hn (h.below hb1 (Nat.le_refl _))).mono ?_
    rintro e w2 ⟨rfl, hb2⟩
    rw [hg]
    have hbw := hb1.trans (hb2.mono hb1.size)
    go_wp2_with fail
    refine (HP.out _ (h.below hbw (Nat.le_refl _))).mono ?_
    rintro e w3 ⟨rfl, hb3⟩
    go_wp2
    go_ret2
    exact ⟨rfl, hbw.trans (hb3.mono hbw.size)⟩
  · have e : totOk l p = false := by simp only [totOk, hg, hr]; rfl
    rw [plcW_no e, e]
    clear e
    generalize sumsV l p = s at *
    have HR := Lib.hid hR
    clear hR
    go_enter Try.func36, Try.ntmps36
    go_wp2_with fail
    refine (HR.out _ h).mono ?_
    rintro e w1 ⟨rfl, hb1⟩
    go_wp2_with fail
    refine (l18Good_any A c l _ hn (h.below hb1 (Nat.le_refl _))).mono ?_
    rintro e w2 ⟨rfl, hb2⟩
    go_wp2_with fail
    go_ret2
    exact ⟨rfl, hb1.trans (hb2.mono hb1.size)⟩
end Go.Proofs.Ytcbecfkckdalmaa
