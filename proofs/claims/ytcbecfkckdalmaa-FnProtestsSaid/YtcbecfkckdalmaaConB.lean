/-
  Rows of a contest: the test: contracts.
-/
import Derived.Test.YtcbecfkckdalmaaConA
namespace Go.Proofs.Ytcbecfkckdalmaa
open Go.RowKit

/-- Two rows that follow one another are in order. -/
def ordB (x y : SolvedV) : Bool := decide (x.pupil < y.pupil) || (decide (x.pupil = y.pupil) && decide (x.heat < y.heat))
def okRow (l : List SolvedV) : Nat → Bool
  | 0 => match l[0]? with
    | none => true
    | some y => solvedB y
  | j + 1 => match l[j]?, l[j + 1]? with
    | some x, some y => solvedB y && ordB x y
    | _, _ => true
def goodTo (l : List SolvedV) : Nat → Bool
  | 0 => true
  | k + 1 => goodTo l k && okRow l k
def goodB (l : List SolvedV) : Bool := decide (l.length ≤ 12) && goodTo l l.length
theorem okRow_zero {l : List SolvedV} {y : SolvedV} (hy : l[0]? = some y) : okRow l 0 = solvedB y := by simp [okRow, hy]
theorem okRow_succ {l : List SolvedV} {j : Nat} {x y : SolvedV} (hx : l[j]? = some x) (hy : l[j + 1]? = some y) : okRow l (j + 1) = (solvedB y && ordB x y) := by simp [okRow, hx, hy]
theorem okRow_bad {l : List SolvedV} {k : Nat} {y : SolvedV} (hy : l[k]? = some y) (h : solvedB y = false) : okRow l k = false := by
  cases k with
  | zero => rw [okRow_zero hy, h]
  | succ j =>
    obtain ⟨x, hx⟩ := get_of_lt l (k := j) (by have := (List.getElem?_eq_some_iff.1 hy).1; omega)
    rw [okRow_succ hx hy, h]; rfl
theorem goodTo_bad {l : List SolvedV} {k m : Nat} (hk : okRow l k = false) (hm : k < m) : goodTo l m = false := by
  induction m with
  | zero => omega
  | succ m ih =>
    simp only [goodTo]
    by_cases e : k = m
    · rw [← e, hk]; simp
    · rw [ih (by omega)]; rfl
theorem goodTo_all {l : List SolvedV} {m : Nat} (h : goodTo l m = true) {k : Nat} (hk : k < m) : okRow l k = true := by
  cases e : okRow l k
  · rw [goodTo_bad e hk] at h; cases h
  · rfl
theorem goodB_long {l : List SolvedV} (h : ¬ l.length ≤ 12) : goodB l = false := by simp [goodB, h]
theorem goodB_bad {l : List SolvedV} {k : Nat} (hk : okRow l k = false) (hm : k < l.length) : goodB l = false := by simp [goodB, goodTo_bad hk hm]
theorem goodB_good {l : List SolvedV} (h1 : l.length ≤ 12) (h2 : goodTo l l.length = true) : goodB l = true := by simp [goodB, h1, h2]
theorem ordB_lt {x y : SolvedV} (h : x.pupil < y.pupil) : ordB x y = true := by simp [ordB, h]
theorem ordB_eq {x y : SolvedV} (h : x.pupil = y.pupil) (h2 : x.heat < y.heat) : ordB x y = true := by simp [ordB, h, h2]
theorem ordB_gt {x y : SolvedV} (h : y.pupil < x.pupil) : ordB x y = false := by simp [ordB]; omega
theorem ordB_ge {x y : SolvedV} (h : x.pupil = y.pupil) (h2 : y.heat ≤ x.heat) : ordB x y = false := by simp [ordB, h]; omega
attribute [irreducible] goodTo goodB okRow ordB

set_option maxHeartbeats 4000000 in
theorem areSolvedI_any (A : Option Addr) (c : Nat) (l : List SolvedV) (w : World) (hn : l.length ≤ 16777216) (h : RdT solvedT w A l) :
    Calls Try.prog 24 #[.slice A l.length c] w fun e w' => e = .returned (.bool (goodB l)) ∧ Below w.heap.size w w' := by
  by_cases h12 : l.length ≤ 12
  · have hd : decide ((12 : Int) < l.length) = false := decide_eq_false (by omega)
    have hg0 : goodTo l 0 = true := by unfold goodTo; rfl
    go_enter Try.func24, Try.ntmps24
    go_wp2
    go_loopw [10] (fun i wr => ∃ k : Nat, k ≤ l.length ∧ i = .int .i64 k ∧ Hid (goodTo l k = true) ∧ RdT solvedT wr A l ∧ Below w.heap.size w wr) (fun i _ => l.length - (intOf i).toNat)
    case atStart => exact ⟨0, by omega, rfl, Lib.hid hg0, h, Below.refl _ _⟩
    case round =>
      obtain ⟨k, hk, rfl, hall, hr, hb⟩ := hrel
      clear h hg0
      have hz := hb.size
      by_cases hlt : k < l.length
      · obtain ⟨b, off, rfl, hl1, hcells⟩ := solvedT_cells hr (by omega)
        obtain ⟨⟨p, h', r, q, t⟩, hy⟩ := get_of_lt l hlt
        obtain ⟨hc0, hc1, hc2, hc3, hc4⟩ := hcells k p h' r q t hy
        cases hg : solvedB ⟨p, h', r, q, t⟩
        · have E := Lib.hid (goodB_bad (okRow_bad hy hg) hlt)
          clear hy hcells
          go_wp2_with (go_at_call 18; refine (isSolved_any _ _ _ _ _ _).mono ?_; rintro e w' ⟨rfl, hb2⟩)
          go_ret
          exact ⟨by rw [E.out]; rfl, (hb.alloc hz _).trans (hb2.mono (by simp; omega))⟩
        · cases k with
          | zero =>
            have hall' := Lib.hid (show goodTo l 1 = true by unfold goodTo; rw [hall.out, okRow_zero hy, hg]; rfl)
            have hd0 : decide ((0 : Int) < ((0 : Nat) : Int)) = false := rfl
            have hc0' : wr.cell? ⟨b, off, none⟩ = some (.int .i64 p) := by simpa using hc0
            have hc1' : wr.cell? ⟨b, off + 1, none⟩ = some (.int .i64 h') := by simpa using hc1
            have hc2' : wr.cell? ⟨b, off + 2, none⟩ = some (.int .i64 r) := by simpa using hc2
            have hc3' : wr.cell? ⟨b, off + 3, none⟩ = some (.int .i64 q) := by simpa using hc3
            have hc4' : wr.cell? ⟨b, off + 4, none⟩ = some (.int .i64 t) := by simpa using hc4
            clear hy hcells hc0 hc1 hc2 hc3 hc4
            go_wp2_with (go_at_call 18; refine (isSolved_any _ _ _ _ _ _).mono ?_; rintro e w2 ⟨rfl, hb2⟩; have hcc := fun o => (box_cells hb2).1 b o hl1; have hbx := (box_cells hb2).2)
            go_quiet (fail)
            go_wp2
            go_roundw
            case rel => exact ⟨1, by omega, by go_num, hall', hr.below ((Below.refl _ _).alloc (Nat.le_refl _) _ |>.trans (below_drewN (hb2.mono (by simp)) _)) (Nat.le_refl _), (hb.alloc hz _).trans (below_drewN (hb2.mono (by simp; omega)) _)⟩
            case measure => simp [intOf]; omega
          | succ j =>
            obtain ⟨⟨p0, h0, r0, q0, t0⟩, hx⟩ := get_of_lt l (k := j) (by omega)
            obtain ⟨hd0, hd1, hd2, hd3, hd4⟩ := hcells j p0 h0 r0 q0 t0 hx
            have hrow := okRow_succ hx hy
            rw [hg, Bool.true_and] at hrow
            clear hx hy hcells
            have hds : decide ((0 : Int) < (j : Int) + 1) = true := decide_eq_true (by omega)
            rcases Int.lt_trichotomy p0 p with hp | hp | hp
            · have hall' := Lib.hid (show goodTo l (j + 1 + 1) = true by unfold goodTo; rw [hall.out, hrow, ordB_lt (by simpa using hp)]; rfl)
              clear hrow
              have hdp : decide (p < p0) = false := decide_eq_false (by omega)
              have hdq : (p0 == p) = false := by simp; omega
              go_wp2_with (go_at_call 18; refine (isSolved_any _ _ _ _ _ _).mono ?_; rintro e w2 ⟨rfl, hb2⟩; have hcc := fun o => (box_cells hb2).1 b o hl1; have hbx := (box_cells hb2).2)
              go_quiet (fail)
              go_wp2
              go_roundw
              case rel => exact ⟨j + 1 + 1, by omega, by go_num, hall', hr.below ((Below.refl _ _).alloc (Nat.le_refl _) _ |>.trans (below_drewN (hb2.mono (by simp)) _)) (Nat.le_refl _), (hb.alloc hz _).trans (below_drewN (hb2.mono (by simp; omega)) _)⟩
              case measure => simp [intOf]; omega
            · subst hp
              have hdp : decide (p0 < p0) = false := by simp
              by_cases hh : h0 < h'
              · have hrow2 := hrow.trans (ordB_eq (x := ⟨p0, h0, r0, q0, t0⟩) (y := ⟨p0, h', r, q, t⟩) rfl hh)
                have hall' := Lib.hid (show goodTo l (j + 1 + 1) = true by unfold goodTo; rw [hall.out, hrow2]; rfl)
                clear hrow2
                clear hrow
                have hdh : decide (h' ≤ h0) = false := decide_eq_false (by omega)
                go_wp2_with (go_at_call 18; refine (isSolved_any _ _ _ _ _ _).mono ?_; rintro e w2 ⟨rfl, hb2⟩; have hcc := fun o => (box_cells hb2).1 b o hl1; have hbx := (box_cells hb2).2)
                go_quiet (fail)
                go_wp2
                go_roundw
                case rel => exact ⟨j + 1 + 1, by omega, by go_num, hall', hr.below ((Below.refl _ _).alloc (Nat.le_refl _) _ |>.trans (below_drewN (hb2.mono (by simp)) _)) (Nat.le_refl _), (hb.alloc hz _).trans (below_drewN (hb2.mono (by simp; omega)) _)⟩
                case measure => simp [intOf]; omega
              · have E := Lib.hid (goodB_bad (hrow.trans (ordB_ge rfl (by simp; omega))) hlt)
                clear hrow
                have hdh : decide (h' ≤ h0) = true := decide_eq_true (by omega)
                go_wp2_with (go_at_call 18; refine (isSolved_any _ _ _ _ _ _).mono ?_; rintro e w2 ⟨rfl, hb2⟩; have hcc := fun o => (box_cells hb2).1 b o hl1; have hbx := (box_cells hb2).2)
                go_quiet (fail)
                go_wp2
                go_ret
                exact ⟨by rw [E.out]; rfl, (hb.alloc hz _).trans (below_drewN (hb2.mono (by simp; omega)) _)⟩
            · have E := Lib.hid (goodB_bad (hrow.trans (ordB_gt (by simpa using hp))) hlt)
              have hdp : decide (p < p0) = true := decide_eq_true (by omega)
              clear hrow
              go_wp2_with (go_at_call 18; refine (isSolved_any _ _ _ _ _ _).mono ?_; rintro e w2 ⟨rfl, hb2⟩; have hcc := fun o => (box_cells hb2).1 b o hl1; have hbx := (box_cells hb2).2)
              go_quiet (fail)
              go_wp2
              go_ret
              exact ⟨by rw [E.out]; rfl, (hb.alloc hz _).trans (below_drewN (hb2.mono (by simp; omega)) _)⟩
      · obtain rfl : k = l.length := by omega
        have E := Lib.hid (goodB_good h12 hall.out)
        clear hall
        go_wp2
        go_ret
        exact ⟨by rw [E.out]; rfl, hb⟩
  · rw [goodB_long h12]
    have hd : decide ((12 : Int) < l.length) = true := decide_eq_true (by omega)
    go_enter Try.func24, Try.ntmps24
    go_wp2
    go_ret
    exact ⟨rfl, Below.refl _ _⟩

set_option maxHeartbeats 4000000 in
theorem l18Good_any (A : Option Addr) (c : Nat) (l : List SolvedV) (w : World) (hn : l.length ≤ 16777216) (h : RdT solvedT w A l) :
    Calls Try.prog 69 #[.slice A l.length c] w fun e w' => e = .returned (.bool (goodB l)) ∧ Below w.heap.size w w' := by
  have hg0 : goodTo l 0 = true := by unfold goodTo; rfl
  go_enter Try.func69, Try.ntmps69
  go_wp2
  go_loopw [3] (fun i wr => ∃ k : Nat, k ≤ l.length ∧ i = .int .i64 k ∧ Hid (goodTo l k = true) ∧ RdT solvedT wr A l ∧ Below w.heap.size w wr) (fun i _ => l.length - (intOf i).toNat)
  case atStart => exact ⟨0, by omega, rfl, Lib.hid hg0, h, Below.refl _ _⟩
  case round =>
    obtain ⟨k, hk, rfl, hall, hr, hb⟩ := hrel
    clear h hg0
    have hz := hb.size
    by_cases hlt : k < l.length
    · obtain ⟨b, off, rfl, hl1, hcells⟩ := solvedT_cells hr (by omega)
      obtain ⟨⟨p, h', r, q, t⟩, hy⟩ := get_of_lt l hlt
      obtain ⟨hc0, hc1, hc2, hc3, hc4⟩ := hcells k p h' r q t hy
      cases hg : solvedB ⟨p, h', r, q, t⟩
      · have E := Lib.hid (goodB_bad (okRow_bad hy hg) hlt)
        clear hy hcells
        have hq0 := cell_regrown hc0
        have hq1 := cell_regrown hc1
        have hq2 := cell_regrown hc2
        have hq3 := cell_regrown hc3
        have hq4 := cell_regrown hc4
        go_wp2_with fail
        refine wp_region_quiet_below (by kernel_rfl) (by kernel_rfl) ?_
        repeat (go_big_quiet_step (((go_at_call 63; exact Calls.regrown_of (l18One_any _ _ _ _ _ _)))))
        refine wpQuiet_nil ?_
        intro w2 hw'
        have hb2 := below_of_class hw'
        clear hw'
        go_wp2
        go_ret
        exact ⟨by rw [E.out]; rfl, hb.trans (hb2.mono hz)⟩
      · cases k with
        | zero =>
          have hall' := Lib.hid (show goodTo l 1 = true by unfold goodTo; rw [hall.out, okRow_zero hy, hg]; rfl)
          have hd0 : decide ((0 : Int) < ((0 : Nat) : Int)) = false := rfl
          have hq0 := cell_regrown (show wr.cell? ⟨b, off, none⟩ = some (.int .i64 p) by simpa using hc0)
          have hq1 := cell_regrown (show wr.cell? ⟨b, off + 1, none⟩ = some (.int .i64 h') by simpa using hc1)
          have hq2 := cell_regrown (show wr.cell? ⟨b, off + 2, none⟩ = some (.int .i64 r) by simpa using hc2)
          have hq3 := cell_regrown (show wr.cell? ⟨b, off + 3, none⟩ = some (.int .i64 q) by simpa using hc3)
          have hq4 := cell_regrown (show wr.cell? ⟨b, off + 4, none⟩ = some (.int .i64 t) by simpa using hc4)
          clear hy hcells hc0 hc1 hc2 hc3 hc4
          go_wp2_with fail
          refine wp_region_quiet_below (by kernel_rfl) (by kernel_rfl) ?_
          repeat (go_big_quiet_step (((go_at_call 63; exact Calls.regrown_of (l18One_any _ _ _ _ _ _)))))
          refine wpQuiet_nil ?_
          intro w2 hw'
          have hb2 := below_of_class hw'
          clear hw'
          go_wp2
          go_roundw
          case rel => exact ⟨1, by omega, by go_num, hall', hr.below hb2 (Nat.le_refl _), hb.trans (hb2.mono hz)⟩
          case measure => simp [intOf]; omega
        | succ j =>
          obtain ⟨⟨p0, h0, r0, q0, t0⟩, hx⟩ := get_of_lt l (k := j) (by omega)
          obtain ⟨hd0, hd1, _, _, _⟩ := hcells j p0 h0 r0 q0 t0 hx
          have hrow := okRow_succ hx hy
          rw [hg, Bool.true_and] at hrow
          clear hx hy hcells
          have hds : decide ((0 : Int) < (j : Int) + 1) = true := decide_eq_true (by omega)
          have hq0 := cell_regrown hc0
          have hq1 := cell_regrown hc1
          have hq2 := cell_regrown hc2
          have hq3 := cell_regrown hc3
          have hq4 := cell_regrown hc4
          have hr0 := cell_regrown hd0
          have hr1 := cell_regrown hd1
          rcases Int.lt_trichotomy p0 p with hp | hp | hp
          · have hall' := Lib.hid (show goodTo l (j + 1 + 1) = true by unfold goodTo; rw [hall.out, hrow, ordB_lt (by simpa using hp)]; rfl)
            clear hrow
            have hdp : decide (p < p0) = false := decide_eq_false (by omega)
            have hdq : (p0 == p) = false := by simp; omega
            go_wp2_with fail
            refine wp_region_quiet_below (by kernel_rfl) (by kernel_rfl) ?_
            repeat (go_big_quiet_step (((go_at_call 63; exact Calls.regrown_of (l18One_any _ _ _ _ _ _)))))
            refine wpQuiet_nil ?_
            intro w2 hw'
            have hb2 := below_of_class hw'
            clear hw'
            go_wp2
            go_roundw
            case rel => exact ⟨j + 1 + 1, by omega, by go_num, hall', hr.below hb2 (Nat.le_refl _), hb.trans (hb2.mono hz)⟩
            case measure => simp [intOf]; omega
          · subst hp
            have hdp : decide (p0 < p0) = false := by simp
            by_cases hh : h0 < h'
            · have hrow2 := hrow.trans (ordB_eq (x := ⟨p0, h0, r0, q0, t0⟩) (y := ⟨p0, h', r, q, t⟩) rfl hh)
              have hall' := Lib.hid (show goodTo l (j + 1 + 1) = true by unfold goodTo; rw [hall.out, hrow2]; rfl)
              clear hrow2 hrow
              have hdh : decide (h' ≤ h0) = false := decide_eq_false (by omega)
              go_wp2_with fail
              refine wp_region_quiet_below (by kernel_rfl) (by kernel_rfl) ?_
              repeat (go_big_quiet_step (((go_at_call 63; exact Calls.regrown_of (l18One_any _ _ _ _ _ _)))))
              refine wpQuiet_nil ?_
              intro w2 hw'
              have hb2 := below_of_class hw'
              clear hw'
              go_wp2
              go_roundw
              case rel => exact ⟨j + 1 + 1, by omega, by go_num, hall', hr.below hb2 (Nat.le_refl _), hb.trans (hb2.mono hz)⟩
              case measure => simp [intOf]; omega
            · have E := Lib.hid (goodB_bad (hrow.trans (ordB_ge rfl (by simp; omega))) hlt)
              clear hrow
              have hdh : decide (h' ≤ h0) = true := decide_eq_true (by omega)
              go_wp2_with fail
              refine wp_region_quiet_below (by kernel_rfl) (by kernel_rfl) ?_
              repeat (go_big_quiet_step (((go_at_call 63; exact Calls.regrown_of (l18One_any _ _ _ _ _ _)))))
              refine wpQuiet_nil ?_
              intro w2 hw'
              have hb2 := below_of_class hw'
              clear hw'
              go_wp2
              go_ret
              exact ⟨by rw [E.out]; rfl, hb.trans (hb2.mono hz)⟩
          · have E := Lib.hid (goodB_bad (hrow.trans (ordB_gt (by simpa using hp))) hlt)
            clear hrow
            have hdp : decide (p < p0) = true := decide_eq_true (by omega)
            go_wp2_with fail
            refine wp_region_quiet_below (by kernel_rfl) (by kernel_rfl) ?_
            repeat (go_big_quiet_step (((go_at_call 63; exact Calls.regrown_of (l18One_any _ _ _ _ _ _)))))
            refine wpQuiet_nil ?_
            intro w2 hw'
            have hb2 := below_of_class hw'
            clear hw'
            go_wp2
            go_ret
            exact ⟨by rw [E.out]; rfl, hb.trans (hb2.mono hz)⟩
    · obtain rfl : k = l.length := by omega
      have e : goodB l = decide ((l.length : Int) ≤ 12) := by
        by_cases h12 : l.length ≤ 12
        · rw [goodB_good h12 hall.out]; exact (decide_eq_true (by omega)).symm
        · rw [goodB_long h12]; exact (decide_eq_false (by omega)).symm
      have E := Lib.hid e
      clear hall e
      go_wp2
      go_ret
      exact ⟨by rw [E.out]; rfl, hb⟩
end Go.Proofs.Ytcbecfkckdalmaa
