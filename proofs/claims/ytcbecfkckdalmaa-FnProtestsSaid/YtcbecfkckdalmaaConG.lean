/-
  HeatWinner, of the program and of the reference: contracts.
-/
import Derived.Test.YtcbecfkckdalmaaConF
namespace Go.Proofs.Ytcbecfkckdalmaa
open Go.RowKit

theorem cell_box_old {w : World} {a : Addr} {v : Value} (h : w.cell? a = some v) (o : Obj) : (w.alloc o).cell? a = some v := (World.cell?_alloc_lt w o a (World.block_lt_of_cell? w a h)).trans h
theorem cell_box_new (w : World) (cs : Array Value) (t : TypeId) (i : Nat) (v : Value) (h : cs[i]? = some v) : (w.alloc (.cells cs t)).cell? ⟨w.heap.size, i, none⟩ = some v := (cell_of_row _ _ i cs t (0, 0) (heap_alloc_new w _)).trans h

/-- The place of the best row of a heat among the first k. -/
def hw (l : List SolvedV) (ht : Int) : Nat → Option Nat
  | 0 => none
  | k + 1 => match l[k]? with
    | none => hw l ht k
    | some x => if x.heat = ht then
        match hw l ht k with
        | none => some k
        | some j => match l[j]? with
          | none => some j
          | some y => if scoreW y < scoreW x ∨ (scoreW x = scoreW y ∧ x.time < y.time) then some k else some j
      else hw l ht k
def bestI : Option Nat → Int
  | none => -1
  | some j => j
theorem hw_other {l : List SolvedV} {ht : Int} {k : Nat} {x : SolvedV} (hx : l[k]? = some x) (h : ¬ x.heat = ht) : hw l ht (k + 1) = hw l ht k := by simp [hw, hx, h]
theorem hw_first {l : List SolvedV} {ht : Int} {k : Nat} {x : SolvedV} (hx : l[k]? = some x) (h : x.heat = ht) (hb : hw l ht k = none) : hw l ht (k + 1) = some k := by simp [hw, hx, h, hb]
theorem hw_step {l : List SolvedV} {ht : Int} {k j : Nat} {x y : SolvedV} (hx : l[k]? = some x) (hy : l[j]? = some y) (h : x.heat = ht) (hb : hw l ht k = some j) :
    hw l ht (k + 1) = if scoreW y < scoreW x ∨ (scoreW x = scoreW y ∧ x.time < y.time) then some k else some j := by simp [hw, hx, h, hb, hy]
theorem hw_lt {l : List SolvedV} {ht : Int} {k j : Nat} (h : hw l ht k = some j) : j < k := by
  induction k generalizing j with
  | zero => simp [hw] at h
  | succ k ih =>
    simp only [hw] at h
    split at h
    · have := ih h; omega
    · split at h
      · split at h
        · injection h with h; omega
        · rename_i j' hj'
          have := ih hj'
          split at h
          · injection h with h; omega
          · split at h <;> (injection h with h; omega)
      · have := ih h; omega
def winOk (l : List SolvedV) (ht : Int) : Bool := goodB l && inB ht 1 4 && (hw l ht l.length).isSome
def winV (l : List SolvedV) (ht : Int) : Int := if winOk l ht = true then (match hw l ht l.length with | some j => ((l[j]?).map SolvedV.pupil).getD 0 | none => 0) else 0
theorem winV_no {l : List SolvedV} {ht : Int} (h : winOk l ht = false) : winV l ht = 0 := if_neg (by simp [h])
theorem win_end {l : List SolvedV} {ht : Int} (hg : goodB l = true) (hh : inB ht 1 4 = true) : match hw l ht l.length with
    | none => winV l ht = 0 ∧ winOk l ht = false
    | some j => winV l ht = ((l[j]?).map SolvedV.pupil).getD 0 ∧ winOk l ht = true := by
  split
  · rename_i e
    have h : winOk l ht = false := by simp [winOk, e]
    exact ⟨winV_no h, h⟩
  · rename_i j e
    have h : winOk l ht = true := by simp [winOk, e, hg, hh]
    exact ⟨by unfold winV; rw [if_pos h, e], h⟩
attribute [irreducible] hw winV

set_option maxHeartbeats 8000000 in
theorem heatWinnerI_any (A : Option Addr) (c : Nat) (l : List SolvedV) (ht : Int) (w : World) (hn : l.length ≤ 16777216) (h : RdT solvedT w A l) :
    Calls Try.prog 27 #[.slice A l.length c, .int .i64 ht] w (RetN w (winV l ht) (winOk l ht)) := by
  cases hg : goodB l
  · rw [winV_no (by simp [winOk, hg]), show winOk l ht = false by simp [winOk, hg]]
    go_enter Try.func27, Try.ntmps27
    go_wp2_with (first | (go_at_call 24; refine (areSolvedI_any A c l _ hn h).mono ?_; rintro e w1 ⟨rfl, hb1⟩) | (go_at_call 65; refine (isHeat_any _ _).mono ?_; rintro e w' ⟨rfl, rfl⟩))
    go_ret2
    exact ⟨rfl, hb1⟩
  cases hh : inB ht 1 4
  · rw [winV_no (by simp [winOk, hh]), show winOk l ht = false by simp [winOk, hh]]
    go_enter Try.func27, Try.ntmps27
    go_wp2_with (first | (go_at_call 24; refine (areSolvedI_any A c l _ hn h).mono ?_; rintro e w1 ⟨rfl, hb1⟩) | (go_at_call 65; refine (isHeat_any _ _).mono ?_; rintro e w' ⟨rfl, rfl⟩))
    go_ret2
    exact ⟨rfl, hb1⟩
  have hend := win_end hg hh
  have hz0 : hw l ht 0 = none := by unfold hw; rfl
  have HE := Lib.hid hend
  clear hend
  go_enter Try.func27, Try.ntmps27
  go_wp2_with (first | (go_at_call 24; refine (areSolvedI_any A c l _ hn h).mono ?_; rintro e w1 ⟨rfl, hb1⟩) | (go_at_call 65; refine (isHeat_any _ _).mono ?_; rintro e w' ⟨rfl, rfl⟩))
  go_loopw [6, 19] (fun m i wr => ∃ k : Nat, k ≤ l.length ∧ i = .int .i64 k ∧ m = .int .i64 (bestI (hw l ht k)) ∧ Below w.heap.size w wr) (fun _ i _ => l.length - (intOf i).toNat)
  case atStart => exact ⟨0, by omega, rfl, by rw [hz0]; rfl, hb1⟩
  case round =>
    obtain ⟨k, hk, rfl, rfl, hb⟩ := hrel
    clear hz0
    have hz := hb.size
    have hr := h.below hb (Nat.le_refl _)
    by_cases hlt : k < l.length
    · obtain ⟨b, off, rfl, hlb, hcells⟩ := solvedT_cells hr (by omega)
      obtain ⟨⟨p, h', r, q, t⟩, hx⟩ := get_of_lt l hlt
      obtain ⟨hc0, hc1, hc2, hc3, hc4⟩ := hcells k p h' r q t hx
      by_cases hht : h' = ht
      · have hhe : (h' != ht) = false := by simp [hht]
        cases hbest : hw l ht k with
        | none =>
          have E := Lib.hid (hw_first hx hht hbest)
          have hd0 : decide (bestI none < 0) = true := rfl
          have hd0' : decide ((-1 : Int) < 0) = true := rfl
          clear hx hcells hht hbest
          have hbi : bestI none = -1 := rfl
          rw [hbi]
          go_wp2_with fail
          have hx0 := cell_regrown (w := wr.alloc (.cells #[.int .i64 p, .int .i64 h', .int .i64 r, .int .i64 q, .int .i64 t] 25)) (cell_box_new wr #[.int .i64 p, .int .i64 h', .int .i64 r, .int .i64 q, .int .i64 t] 25 0 _ rfl)
          have hx1 := cell_regrown (w := wr.alloc (.cells #[.int .i64 p, .int .i64 h', .int .i64 r, .int .i64 q, .int .i64 t] 25)) (cell_box_new wr #[.int .i64 p, .int .i64 h', .int .i64 r, .int .i64 q, .int .i64 t] 25 1 _ rfl)
          have hx2 := cell_regrown (w := wr.alloc (.cells #[.int .i64 p, .int .i64 h', .int .i64 r, .int .i64 q, .int .i64 t] 25)) (cell_box_new wr #[.int .i64 p, .int .i64 h', .int .i64 r, .int .i64 q, .int .i64 t] 25 2 _ rfl)
          have hx3 := cell_regrown (w := wr.alloc (.cells #[.int .i64 p, .int .i64 h', .int .i64 r, .int .i64 q, .int .i64 t] 25)) (cell_box_new wr #[.int .i64 p, .int .i64 h', .int .i64 r, .int .i64 q, .int .i64 t] 25 3 _ rfl)
          have hx4 := cell_regrown (w := wr.alloc (.cells #[.int .i64 p, .int .i64 h', .int .i64 r, .int .i64 q, .int .i64 t] 25)) (cell_box_new wr #[.int .i64 p, .int .i64 h', .int .i64 r, .int .i64 q, .int .i64 t] 25 4 _ rfl)
          refine wp_region_quiet_below (by kernel_rfl) (by kernel_rfl) ?_
          repeat (go_big_quiet_step (((go_at_call 68; exact Calls.regrown_of (scoreOf_any _ _ _ _ _ _)))))
          refine wpQuiet_nil ?_
          intro w2 hw'
          have hb2 := below_of_class hw'
          clear hw'
          go_wp2
          go_roundw
          case rel => exact ⟨k + 1, by omega, by go_num, by rw [E.out]; rfl, (hb.alloc hz _).trans (hb2.mono (by simp; omega))⟩
          case measure => simp [intOf]; omega
        | some j =>
          have hjk := hw_lt hbest
          obtain ⟨⟨p2, h2, r2, q2, t2⟩, hy⟩ := get_of_lt l (k := j) (by omega)
          obtain ⟨hd0, hd1, hd2, hd3, hd4⟩ := hcells j p2 h2 r2 q2 t2 hy
          have hbi : bestI (some j) = j := rfl
          rw [hbi]
          have hneg : decide ((j : Int) < 0) = false := decide_eq_false (by omega)
          have hstep := hw_step hx hy hht hbest
          clear hx hy hcells hht hbest
          generalize hsx : scoreW ⟨p, h', r, q, t⟩ = sx at *
          generalize hsy : scoreW ⟨p2, h2, r2, q2, t2⟩ = sy at *
          have HSX := Lib.hid hsx
          have HSY := Lib.hid hsy
          clear hsx hsy
          have arms1 := fun W => (scoreOf_any p h' r q t W)
          rw [HSX.out] at arms1
          have arms2 := fun W => (scoreOf_any p2 h2 r2 q2 t2 W)
          rw [HSY.out] at arms2
          have HA1 := Lib.hid arms1
          have HA2 := Lib.hid arms2
          clear arms1 arms2
          rcases Int.lt_trichotomy sx sy with hs | hs | hs
          · rw [if_neg (by simp only []; omega)] at hstep
            have E := Lib.hid hstep
            clear hstep
            have hg1 : decide (sy < sx) = false := decide_eq_false (by omega)
            have hg2 : (sx == sy) = false := by simp; omega
            go_wp2_with fail
            have hx0 := cell_regrown (w := wr.alloc (.cells #[.int .i64 p, .int .i64 h', .int .i64 r, .int .i64 q, .int .i64 t] 25)) (cell_box_new wr #[.int .i64 p, .int .i64 h', .int .i64 r, .int .i64 q, .int .i64 t] 25 0 _ rfl)
            have hx1 := cell_regrown (w := wr.alloc (.cells #[.int .i64 p, .int .i64 h', .int .i64 r, .int .i64 q, .int .i64 t] 25)) (cell_box_new wr #[.int .i64 p, .int .i64 h', .int .i64 r, .int .i64 q, .int .i64 t] 25 1 _ rfl)
            have hx2 := cell_regrown (w := wr.alloc (.cells #[.int .i64 p, .int .i64 h', .int .i64 r, .int .i64 q, .int .i64 t] 25)) (cell_box_new wr #[.int .i64 p, .int .i64 h', .int .i64 r, .int .i64 q, .int .i64 t] 25 2 _ rfl)
            have hx3 := cell_regrown (w := wr.alloc (.cells #[.int .i64 p, .int .i64 h', .int .i64 r, .int .i64 q, .int .i64 t] 25)) (cell_box_new wr #[.int .i64 p, .int .i64 h', .int .i64 r, .int .i64 q, .int .i64 t] 25 3 _ rfl)
            have hx4 := cell_regrown (w := wr.alloc (.cells #[.int .i64 p, .int .i64 h', .int .i64 r, .int .i64 q, .int .i64 t] 25)) (cell_box_new wr #[.int .i64 p, .int .i64 h', .int .i64 r, .int .i64 q, .int .i64 t] 25 4 _ rfl)
            have hy0 := cell_regrown (cell_box_old hd0 (.cells #[.int .i64 p, .int .i64 h', .int .i64 r, .int .i64 q, .int .i64 t] 25))
            have hy1 := cell_regrown (cell_box_old hd1 (.cells #[.int .i64 p, .int .i64 h', .int .i64 r, .int .i64 q, .int .i64 t] 25))
            have hy2 := cell_regrown (cell_box_old hd2 (.cells #[.int .i64 p, .int .i64 h', .int .i64 r, .int .i64 q, .int .i64 t] 25))
            have hy3 := cell_regrown (cell_box_old hd3 (.cells #[.int .i64 p, .int .i64 h', .int .i64 r, .int .i64 q, .int .i64 t] 25))
            have hy4 := cell_regrown (cell_box_old hd4 (.cells #[.int .i64 p, .int .i64 h', .int .i64 r, .int .i64 q, .int .i64 t] 25))
            refine wp_region_quiet_below (by kernel_rfl) (by kernel_rfl) ?_
            repeat (go_big_quiet_step (((first | (go_at_call 68; with_reducible exact Calls.regrown_of (HA1.out _)) | (go_at_call 68; with_reducible exact Calls.regrown_of (HA2.out _))))))
            refine wpQuiet_nil ?_
            intro w2 hw'
            have hb2 := below_of_class hw'
            clear hw'
            go_wp2
            go_roundw
            case rel => exact ⟨k + 1, by omega, by go_num, by rw [E.out]; rfl, (hb.alloc hz _).trans (hb2.mono (by simp; omega))⟩
            case measure => simp [intOf]; omega
          · subst hs
            have hg1 : decide (sx < sx) = false := decide_eq_false (by omega)
            have hg2 : (sx == sx) = true := by simp
            by_cases htt : t < t2
            · rw [if_pos (Or.inr ⟨rfl, htt⟩)] at hstep
              have E := Lib.hid hstep
              clear hstep
              have hg3 : decide (t < t2) = true := decide_eq_true htt
              go_wp2_with fail
              have hx0 := cell_regrown (w := wr.alloc (.cells #[.int .i64 p, .int .i64 h', .int .i64 r, .int .i64 q, .int .i64 t] 25)) (cell_box_new wr #[.int .i64 p, .int .i64 h', .int .i64 r, .int .i64 q, .int .i64 t] 25 0 _ rfl)
              have hx1 := cell_regrown (w := wr.alloc (.cells #[.int .i64 p, .int .i64 h', .int .i64 r, .int .i64 q, .int .i64 t] 25)) (cell_box_new wr #[.int .i64 p, .int .i64 h', .int .i64 r, .int .i64 q, .int .i64 t] 25 1 _ rfl)
              have hx2 := cell_regrown (w := wr.alloc (.cells #[.int .i64 p, .int .i64 h', .int .i64 r, .int .i64 q, .int .i64 t] 25)) (cell_box_new wr #[.int .i64 p, .int .i64 h', .int .i64 r, .int .i64 q, .int .i64 t] 25 2 _ rfl)
              have hx3 := cell_regrown (w := wr.alloc (.cells #[.int .i64 p, .int .i64 h', .int .i64 r, .int .i64 q, .int .i64 t] 25)) (cell_box_new wr #[.int .i64 p, .int .i64 h', .int .i64 r, .int .i64 q, .int .i64 t] 25 3 _ rfl)
              have hx4 := cell_regrown (w := wr.alloc (.cells #[.int .i64 p, .int .i64 h', .int .i64 r, .int .i64 q, .int .i64 t] 25)) (cell_box_new wr #[.int .i64 p, .int .i64 h', .int .i64 r, .int .i64 q, .int .i64 t] 25 4 _ rfl)
              have hy0 := cell_regrown (cell_box_old hd0 (.cells #[.int .i64 p, .int .i64 h', .int .i64 r, .int .i64 q, .int .i64 t] 25))
              have hy1 := cell_regrown (cell_box_old hd1 (.cells #[.int .i64 p, .int .i64 h', .int .i64 r, .int .i64 q, .int .i64 t] 25))
              have hy2 := cell_regrown (cell_box_old hd2 (.cells #[.int .i64 p, .int .i64 h', .int .i64 r, .int .i64 q, .int .i64 t] 25))
              have hy3 := cell_regrown (cell_box_old hd3 (.cells #[.int .i64 p, .int .i64 h', .int .i64 r, .int .i64 q, .int .i64 t] 25))
              have hy4 := cell_regrown (cell_box_old hd4 (.cells #[.int .i64 p, .int .i64 h', .int .i64 r, .int .i64 q, .int .i64 t] 25))
              refine wp_region_quiet_below (by kernel_rfl) (by kernel_rfl) ?_
              repeat (go_big_quiet_step (((first | (go_at_call 68; with_reducible exact Calls.regrown_of (HA1.out _)) | (go_at_call 68; with_reducible exact Calls.regrown_of (HA2.out _))))))
              refine wpQuiet_nil ?_
              intro w2 hw'
              have hb2 := below_of_class hw'
              clear hw'
              go_wp2
              go_roundw
              case rel => exact ⟨k + 1, by omega, by go_num, by rw [E.out]; rfl, (hb.alloc hz _).trans (hb2.mono (by simp; omega))⟩
              case measure => simp [intOf]; omega
            · rw [if_neg (by simp only []; omega)] at hstep
              have E := Lib.hid hstep
              clear hstep
              have hg3 : decide (t < t2) = false := decide_eq_false htt
              go_wp2_with fail
              have hx0 := cell_regrown (w := wr.alloc (.cells #[.int .i64 p, .int .i64 h', .int .i64 r, .int .i64 q, .int .i64 t] 25)) (cell_box_new wr #[.int .i64 p, .int .i64 h', .int .i64 r, .int .i64 q, .int .i64 t] 25 0 _ rfl)
              have hx1 := cell_regrown (w := wr.alloc (.cells #[.int .i64 p, .int .i64 h', .int .i64 r, .int .i64 q, .int .i64 t] 25)) (cell_box_new wr #[.int .i64 p, .int .i64 h', .int .i64 r, .int .i64 q, .int .i64 t] 25 1 _ rfl)
              have hx2 := cell_regrown (w := wr.alloc (.cells #[.int .i64 p, .int .i64 h', .int .i64 r, .int .i64 q, .int .i64 t] 25)) (cell_box_new wr #[.int .i64 p, .int .i64 h', .int .i64 r, .int .i64 q, .int .i64 t] 25 2 _ rfl)
              have hx3 := cell_regrown (w := wr.alloc (.cells #[.int .i64 p, .int .i64 h', .int .i64 r, .int .i64 q, .int .i64 t] 25)) (cell_box_new wr #[.int .i64 p, .int .i64 h', .int .i64 r, .int .i64 q, .int .i64 t] 25 3 _ rfl)
              have hx4 := cell_regrown (w := wr.alloc (.cells #[.int .i64 p, .int .i64 h', .int .i64 r, .int .i64 q, .int .i64 t] 25)) (cell_box_new wr #[.int .i64 p, .int .i64 h', .int .i64 r, .int .i64 q, .int .i64 t] 25 4 _ rfl)
              have hy0 := cell_regrown (cell_box_old hd0 (.cells #[.int .i64 p, .int .i64 h', .int .i64 r, .int .i64 q, .int .i64 t] 25))
              have hy1 := cell_regrown (cell_box_old hd1 (.cells #[.int .i64 p, .int .i64 h', .int .i64 r, .int .i64 q, .int .i64 t] 25))
              have hy2 := cell_regrown (cell_box_old hd2 (.cells #[.int .i64 p, .int .i64 h', .int .i64 r, .int .i64 q, .int .i64 t] 25))
              have hy3 := cell_regrown (cell_box_old hd3 (.cells #[.int .i64 p, .int .i64 h', .int .i64 r, .int .i64 q, .int .i64 t] 25))
              have hy4 := cell_regrown (cell_box_old hd4 (.cells #[.int .i64 p, .int .i64 h', .int .i64 r, .int .i64 q, .int .i64 t] 25))
              refine wp_region_quiet_below (by kernel_rfl) (by kernel_rfl) ?_
              repeat (go_big_quiet_step (((first | (go_at_call 68; with_reducible exact Calls.regrown_of (HA1.out _)) | (go_at_call 68; with_reducible exact Calls.regrown_of (HA2.out _))))))
              refine wpQuiet_nil ?_
              intro w2 hw'
              have hb2 := below_of_class hw'
              clear hw'
              go_wp2
              go_roundw
              case rel => exact ⟨k + 1, by omega, by go_num, by rw [E.out]; rfl, (hb.alloc hz _).trans (hb2.mono (by simp; omega))⟩
              case measure => simp [intOf]; omega
          · rw [if_pos (by simp only []; omega)] at hstep
            have E := Lib.hid hstep
            clear hstep
            have hg1 : decide (sy < sx) = true := decide_eq_true (by omega)
            go_wp2_with fail
            have hx0 := cell_regrown (w := wr.alloc (.cells #[.int .i64 p, .int .i64 h', .int .i64 r, .int .i64 q, .int .i64 t] 25)) (cell_box_new wr #[.int .i64 p, .int .i64 h', .int .i64 r, .int .i64 q, .int .i64 t] 25 0 _ rfl)
            have hx1 := cell_regrown (w := wr.alloc (.cells #[.int .i64 p, .int .i64 h', .int .i64 r, .int .i64 q, .int .i64 t] 25)) (cell_box_new wr #[.int .i64 p, .int .i64 h', .int .i64 r, .int .i64 q, .int .i64 t] 25 1 _ rfl)
            have hx2 := cell_regrown (w := wr.alloc (.cells #[.int .i64 p, .int .i64 h', .int .i64 r, .int .i64 q, .int .i64 t] 25)) (cell_box_new wr #[.int .i64 p, .int .i64 h', .int .i64 r, .int .i64 q, .int .i64 t] 25 2 _ rfl)
            have hx3 := cell_regrown (w := wr.alloc (.cells #[.int .i64 p, .int .i64 h', .int .i64 r, .int .i64 q, .int .i64 t] 25)) (cell_box_new wr #[.int .i64 p, .int .i64 h', .int .i64 r, .int .i64 q, .int .i64 t] 25 3 _ rfl)
            have hx4 := cell_regrown (w := wr.alloc (.cells #[.int .i64 p, .int .i64 h', .int .i64 r, .int .i64 q, .int .i64 t] 25)) (cell_box_new wr #[.int .i64 p, .int .i64 h', .int .i64 r, .int .i64 q, .int .i64 t] 25 4 _ rfl)
            have hy0 := cell_regrown (cell_box_old hd0 (.cells #[.int .i64 p, .int .i64 h', .int .i64 r, .int .i64 q, .int .i64 t] 25))
            have hy1 := cell_regrown (cell_box_old hd1 (.cells #[.int .i64 p, .int .i64 h', .int .i64 r, .int .i64 q, .int .i64 t] 25))
            have hy2 := cell_regrown (cell_box_old hd2 (.cells #[.int .i64 p, .int .i64 h', .int .i64 r, .int .i64 q, .int .i64 t] 25))
            have hy3 := cell_regrown (cell_box_old hd3 (.cells #[.int .i64 p, .int .i64 h', .int .i64 r, .int .i64 q, .int .i64 t] 25))
            have hy4 := cell_regrown (cell_box_old hd4 (.cells #[.int .i64 p, .int .i64 h', .int .i64 r, .int .i64 q, .int .i64 t] 25))
            refine wp_region_quiet_below (by kernel_rfl) (by kernel_rfl) ?_
            repeat (go_big_quiet_step (((first | (go_at_call 68; with_reducible exact Calls.regrown_of (HA1.out _)) | (go_at_call 68; with_reducible exact Calls.regrown_of (HA2.out _))))))
            refine wpQuiet_nil ?_
            intro w2 hw'
            have hb2 := below_of_class hw'
            clear hw'
            go_wp2
            go_roundw
            case rel => exact ⟨k + 1, by omega, by go_num, by rw [E.out]; rfl, (hb.alloc hz _).trans (hb2.mono (by simp; omega))⟩
            case measure => simp [intOf]; omega
      · have E := Lib.hid (hw_other hx hht)
        have hhe : (h' != ht) = true := by simp [hht]
        clear hx hcells hht
        go_wp2
        go_roundw
        case rel => exact ⟨k + 1, by omega, by go_num, by rw [E.out], hb.alloc hz _⟩
        case measure => simp [intOf]; omega
    · obtain rfl : k = l.length := by omega
      cases hbest : hw l ht l.length with
      | none =>
        have E := HE.out
        rw [hbest] at E
        have E1 := Lib.hid E.1
        have E2 := Lib.hid E.2
        clear E
        have hbi : bestI none = -1 := rfl
        rw [hbi]
        clear hbest
        go_wp2
        go_ret2
        unfold RetN
        rw [E1.out, E2.out]
        exact ⟨rfl, hb⟩
      | some j =>
        have hjk := hw_lt hbest
        obtain ⟨b, off, rfl, hlb, hcells⟩ := solvedT_cells hr (by omega)
        obtain ⟨⟨p2, h2, r2, q2, t2⟩, hy⟩ := get_of_lt l (k := j) (by omega)
        obtain ⟨hd0, hd1, hd2, hd3, hd4⟩ := hcells j p2 h2 r2 q2 t2 hy
        have E := HE.out
        rw [hbest] at E
        have E1 := Lib.hid E.1
        have E2 := Lib.hid E.2
        clear E
        have e3 : ((l[j]?).map SolvedV.pupil).getD 0 = p2 := by rw [hy]; rfl
        have E3 := Lib.hid e3
        have hbi : bestI (some j) = j := rfl
        rw [hbi]
        clear hbest hcells hy e3
        go_wp2
        go_ret2
        unfold RetN
        rw [E1.out, E2.out, E3.out]
        exact ⟨rfl, hb⟩

set_option maxHeartbeats 8000000 in
theorem heatWinnerS_any (A : Option Addr) (c : Nat) (l : List SolvedV) (ht : Int) (w : World) (hn : l.length ≤ 16777216) (h : RdT solvedT w A l) :
    Calls Try.prog 26 #[.slice A l.length c, .int .i64 ht] w (RetN w (winV l ht) (winOk l ht)) := by
  cases hg : goodB l
  · rw [winV_no (by simp [winOk, hg]), show winOk l ht = false by simp [winOk, hg]]
    go_enter Try.func26, Try.ntmps26
    go_wp2_with (first | (go_at_call 69; refine (l18Good_any A c l _ hn h).mono ?_; rintro e w1 ⟨rfl, hb1⟩) | (go_at_call 71; refine (l18Heat_any _ _).mono ?_; rintro e w' ⟨rfl, rfl⟩))
    go_ret2
    exact ⟨rfl, hb1⟩
  cases hh : inB ht 1 4
  · rw [winV_no (by simp [winOk, hh]), show winOk l ht = false by simp [winOk, hh]]
    go_enter Try.func26, Try.ntmps26
    go_wp2_with (first | (go_at_call 69; refine (l18Good_any A c l _ hn h).mono ?_; rintro e w1 ⟨rfl, hb1⟩) | (go_at_call 71; refine (l18Heat_any _ _).mono ?_; rintro e w' ⟨rfl, rfl⟩))
    go_ret2
    exact ⟨rfl, hb1⟩
  have hend := win_end hg hh
  have hz0 : hw l ht 0 = none := by unfold hw; rfl
  have HE := Lib.hid hend
  clear hend
  go_enter Try.func26, Try.ntmps26
  go_wp2_with (first | (go_at_call 69; refine (l18Good_any A c l _ hn h).mono ?_; rintro e w1 ⟨rfl, hb1⟩) | (go_at_call 71; refine (l18Heat_any _ _).mono ?_; rintro e w' ⟨rfl, rfl⟩))
  go_loopw [6, 7] (fun m i wr => ∃ k : Nat, k ≤ l.length ∧ i = .int .i64 k ∧ m = .int .i64 (bestI (hw l ht k)) ∧ Below w.heap.size w wr) (fun _ i _ => l.length - (intOf i).toNat)
  case atStart => exact ⟨0, by omega, rfl, by rw [hz0]; rfl, hb1⟩
  case round =>
    obtain ⟨k, hk, rfl, rfl, hb⟩ := hrel
    clear hz0
    have hz := hb.size
    have hr := h.below hb (Nat.le_refl _)
    by_cases hlt : k < l.length
    · obtain ⟨b, off, rfl, hlb, hcells⟩ := solvedT_cells hr (by omega)
      obtain ⟨⟨p, h', r, q, t⟩, hx⟩ := get_of_lt l hlt
      obtain ⟨hc0, hc1, hc2, hc3, hc4⟩ := hcells k p h' r q t hx
      by_cases hht : h' = ht
      · have hhe : (h' != ht) = false := by simp [hht]
        cases hbest : hw l ht k with
        | none =>
          have E := Lib.hid (hw_first hx hht hbest)
          have hd0 : decide (bestI none < 0) = true := rfl
          have hd0' : decide ((-1 : Int) < 0) = true := rfl
          clear hx hcells hht hbest
          have hbi : bestI none = -1 := rfl
          rw [hbi]
          go_wp2_with fail
          have hx0 := cell_regrown hc0
          have hx1 := cell_regrown hc1
          have hx2 := cell_regrown hc2
          have hx3 := cell_regrown hc3
          have hx4 := cell_regrown hc4
          refine wp_region_quiet_below (by kernel_rfl) (by kernel_rfl) ?_
          repeat (go_big_quiet_step (((go_at_call 67; exact Calls.regrown_of (l18Score_any _ _ _ _ _ _)))))
          refine wpQuiet_nil ?_
          intro w2 hw'
          have hb2 := below_of_class hw'
          clear hw'
          go_wp2
          go_roundw
          case rel => exact ⟨k + 1, by omega, by go_num, by rw [E.out]; rfl, hb.trans (hb2.mono hz)⟩
          case measure => simp [intOf]; omega
        | some j =>
          have hjk := hw_lt hbest
          obtain ⟨⟨p2, h2, r2, q2, t2⟩, hy⟩ := get_of_lt l (k := j) (by omega)
          obtain ⟨hd0, hd1, hd2, hd3, hd4⟩ := hcells j p2 h2 r2 q2 t2 hy
          have hbi : bestI (some j) = j := rfl
          rw [hbi]
          have hneg : decide ((j : Int) < 0) = false := decide_eq_false (by omega)
          have hstep := hw_step hx hy hht hbest
          clear hx hy hcells hht hbest
          generalize hsx : scoreW ⟨p, h', r, q, t⟩ = sx at *
          generalize hsy : scoreW ⟨p2, h2, r2, q2, t2⟩ = sy at *
          have HSX := Lib.hid hsx
          have HSY := Lib.hid hsy
          clear hsx hsy
          have arms1 := fun W => (l18Score_any p h' r q t W)
          rw [HSX.out] at arms1
          have arms2 := fun W => (l18Score_any p2 h2 r2 q2 t2 W)
          rw [HSY.out] at arms2
          have HA1 := Lib.hid arms1
          have HA2 := Lib.hid arms2
          clear arms1 arms2
          rcases Int.lt_trichotomy sx sy with hs | hs | hs
          · rw [if_neg (by simp only []; omega)] at hstep
            have E := Lib.hid hstep
            clear hstep
            have hg1 : decide (sy < sx) = false := decide_eq_false (by omega)
            have hg2 : (sx == sy) = false := by simp; omega
            go_wp2_with fail
            have hx0 := cell_regrown hc0
            have hx1 := cell_regrown hc1
            have hx2 := cell_regrown hc2
            have hx3 := cell_regrown hc3
            have hx4 := cell_regrown hc4
            have hy0 := cell_regrown hd0
            have hy1 := cell_regrown hd1
            have hy2 := cell_regrown hd2
            have hy3 := cell_regrown hd3
            have hy4 := cell_regrown hd4
            refine wp_region_quiet_below (by kernel_rfl) (by kernel_rfl) ?_
            repeat (go_big_quiet_step (((first | (go_at_call 67; with_reducible exact Calls.regrown_of (HA1.out _)) | (go_at_call 67; with_reducible exact Calls.regrown_of (HA2.out _))))))
            refine wpQuiet_nil ?_
            intro w2 hw'
            have hb2 := below_of_class hw'
            clear hw'
            go_wp2
            go_roundw
            case rel => exact ⟨k + 1, by omega, by go_num, by rw [E.out]; rfl, hb.trans (hb2.mono hz)⟩
            case measure => simp [intOf]; omega
          · subst hs
            have hg1 : decide (sx < sx) = false := decide_eq_false (by omega)
            have hg2 : (sx == sx) = true := by simp
            by_cases htt : t < t2
            · rw [if_pos (Or.inr ⟨rfl, htt⟩)] at hstep
              have E := Lib.hid hstep
              clear hstep
              have hg3 : decide (t < t2) = true := decide_eq_true htt
              go_wp2_with fail
              have hx0 := cell_regrown hc0
              have hx1 := cell_regrown hc1
              have hx2 := cell_regrown hc2
              have hx3 := cell_regrown hc3
              have hx4 := cell_regrown hc4
              have hy0 := cell_regrown hd0
              have hy1 := cell_regrown hd1
              have hy2 := cell_regrown hd2
              have hy3 := cell_regrown hd3
              have hy4 := cell_regrown hd4
              refine wp_region_quiet_below (by kernel_rfl) (by kernel_rfl) ?_
              repeat (go_big_quiet_step (((first | (go_at_call 67; with_reducible exact Calls.regrown_of (HA1.out _)) | (go_at_call 67; with_reducible exact Calls.regrown_of (HA2.out _))))))
              refine wpQuiet_nil ?_
              intro w2 hw'
              have hb2 := below_of_class hw'
              clear hw'
              go_wp2
              go_roundw
              case rel => exact ⟨k + 1, by omega, by go_num, by rw [E.out]; rfl, hb.trans (hb2.mono hz)⟩
              case measure => simp [intOf]; omega
            · rw [if_neg (by simp only []; omega)] at hstep
              have E := Lib.hid hstep
              clear hstep
              have hg3 : decide (t < t2) = false := decide_eq_false htt
              go_wp2_with fail
              have hx0 := cell_regrown hc0
              have hx1 := cell_regrown hc1
              have hx2 := cell_regrown hc2
              have hx3 := cell_regrown hc3
              have hx4 := cell_regrown hc4
              have hy0 := cell_regrown hd0
              have hy1 := cell_regrown hd1
              have hy2 := cell_regrown hd2
              have hy3 := cell_regrown hd3
              have hy4 := cell_regrown hd4
              refine wp_region_quiet_below (by kernel_rfl) (by kernel_rfl) ?_
              repeat (go_big_quiet_step (((first | (go_at_call 67; with_reducible exact Calls.regrown_of (HA1.out _)) | (go_at_call 67; with_reducible exact Calls.regrown_of (HA2.out _))))))
              refine wpQuiet_nil ?_
              intro w2 hw'
              have hb2 := below_of_class hw'
              clear hw'
              go_wp2
              go_roundw
              case rel => exact ⟨k + 1, by omega, by go_num, by rw [E.out]; rfl, hb.trans (hb2.mono hz)⟩
              case measure => simp [intOf]; omega
          · rw [if_pos (by simp only []; omega)] at hstep
            have E := Lib.hid hstep
            clear hstep
            have hg1 : decide (sy < sx) = true := decide_eq_true (by omega)
            go_wp2_with fail
            have hx0 := cell_regrown hc0
            have hx1 := cell_regrown hc1
            have hx2 := cell_regrown hc2
            have hx3 := cell_regrown hc3
            have hx4 := cell_regrown hc4
            have hy0 := cell_regrown hd0
            have hy1 := cell_regrown hd1
            have hy2 := cell_regrown hd2
            have hy3 := cell_regrown hd3
            have hy4 := cell_regrown hd4
            refine wp_region_quiet_below (by kernel_rfl) (by kernel_rfl) ?_
            repeat (go_big_quiet_step (((first | (go_at_call 67; with_reducible exact Calls.regrown_of (HA1.out _)) | (go_at_call 67; with_reducible exact Calls.regrown_of (HA2.out _))))))
            refine wpQuiet_nil ?_
            intro w2 hw'
            have hb2 := below_of_class hw'
            clear hw'
            go_wp2
            go_roundw
            case rel => exact ⟨k + 1, by omega, by go_num, by rw [E.out]; rfl, hb.trans (hb2.mono hz)⟩
            case measure => simp [intOf]; omega
      · have E := Lib.hid (hw_other hx hht)
        have hhe : (h' != ht) = true := by simp [hht]
        clear hx hcells hht
        go_wp2
        go_roundw
        case rel => exact ⟨k + 1, by omega, by go_num, by rw [E.out], hb⟩
        case measure => simp [intOf]; omega
    · obtain rfl : k = l.length := by omega
      cases hbest : hw l ht l.length with
      | none =>
        have E := HE.out
        rw [hbest] at E
        have E1 := Lib.hid E.1
        have E2 := Lib.hid E.2
        clear E
        have hbi : bestI none = -1 := rfl
        rw [hbi]
        clear hbest
        go_wp2
        go_ret2
        unfold RetN
        rw [E1.out, E2.out]
        exact ⟨rfl, hb⟩
      | some j =>
        have hjk := hw_lt hbest
        obtain ⟨b, off, rfl, hlb, hcells⟩ := solvedT_cells hr (by omega)
        obtain ⟨⟨p2, h2, r2, q2, t2⟩, hy⟩ := get_of_lt l (k := j) (by omega)
        obtain ⟨hd0, hd1, hd2, hd3, hd4⟩ := hcells j p2 h2 r2 q2 t2 hy
        have E := HE.out
        rw [hbest] at E
        have E1 := Lib.hid E.1
        have E2 := Lib.hid E.2
        clear E
        have e3 : ((l[j]?).map SolvedV.pupil).getD 0 = p2 := by rw [hy]; rfl
        have E3 := Lib.hid e3
        have hbi : bestI (some j) = j := rfl
        rw [hbi]
        clear hbest hcells hy e3
        go_wp2
        go_ret2
        unfold RetN
        rw [E1.out, E2.out, E3.out]
        exact ⟨rfl, hb⟩
end Go.Proofs.Ytcbecfkckdalmaa
