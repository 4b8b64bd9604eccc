/-
  Loads of cases, valid lists of exhibits: plain, contracts.
-/
import Derived.Test.YthoejiepaackhaaMusA
import Derived.Test.YthoejiepaackhaaList0
import Derived.Test.YthoejiepaackhaaGap
namespace Go.Proofs.Ythoejiepaackhaa
open Go.RowKit

/-! ### plain -/
/-- The rods in a case, as the machine adds them. -/
def ldA (l : List ExhibitV) (b : Int) : Nat → Int
  | 0 => 0
  | k + 1 => match l[k]? with
    | some x => if x.case_ = b then wrap64 (ldA l b k + x.rods) else ldA l b k
    | none => ldA l b k
theorem ldA_zero (l : List ExhibitV) (b : Int) : ldA l b 0 = 0 := rfl
theorem ldA_hit {l : List ExhibitV} {b : Int} {k : Nat} {x : ExhibitV} (hx : l[k]? = some x) (h : x.case_ = b) : ldA l b (k + 1) = wrap64 (ldA l b k + x.rods) := by simp [ldA, hx, h]
theorem ldA_miss {l : List ExhibitV} {b : Int} {k : Nat} {x : ExhibitV} (hx : l[k]? = some x) (h : ¬ x.case_ = b) : ldA l b (k + 1) = ldA l b k := by simp [ldA, hx, h]
def okRow (l : List ExhibitV) : Nat → Bool
  | 0 => match l[0]? with
    | none => true
    | some y => exhB y
  | j + 1 => match l[j]?, l[j + 1]? with
    | some x, some y => exhB y && decide (x.id_ < y.id_)
    | _, _ => true
def rowsTo (l : List ExhibitV) : Nat → Bool
  | 0 => true
  | k + 1 => rowsTo l k && okRow l k
def loadsB (l : List ExhibitV) : Bool := (List.range 9).all fun b => decide (ldA l ((b : Int) + 1) l.length ≤ 60)
def goodB (l : List ExhibitV) : Bool := decide (l.length ≤ 10) && rowsTo l l.length && loadsB l
theorem okRow_zero {l : List ExhibitV} {y : ExhibitV} (hy : l[0]? = some y) : okRow l 0 = exhB y := by simp [okRow, hy]
theorem okRow_succ {l : List ExhibitV} {j : Nat} {x y : ExhibitV} (hx : l[j]? = some x) (hy : l[j + 1]? = some y) : okRow l (j + 1) = (exhB y && decide (x.id_ < y.id_)) := by simp [okRow, hx, hy]
theorem okRow_bad {l : List ExhibitV} {k : Nat} {y : ExhibitV} (hy : l[k]? = some y) (h : exhB y = false) : okRow l k = false := by
  cases k with
  | zero => rw [okRow_zero hy, h]
  | succ j =>
    obtain ⟨x, hx⟩ := get_of_lt l (k := j) (by have := (List.getElem?_eq_some_iff.1 hy).1; omega)
    rw [okRow_succ hx hy, h]; rfl
theorem okRow_yes {l : List ExhibitV} {k : Nat} {y : ExhibitV} (hy : l[k]? = some y) (h : okRow l k = true) : exhB y = true := by
  cases e : exhB y
  · rw [okRow_bad hy e] at h; cases h
  · rfl
theorem rowsTo_bad {l : List ExhibitV} {k m : Nat} (hk : okRow l k = false) (hm : k < m) : rowsTo l m = false := by
  induction m with
  | zero => omega
  | succ m ih =>
    simp only [rowsTo]
    by_cases e : k = m
    · rw [← e, hk]; simp
    · rw [ih (by omega)]; rfl
theorem rowsTo_all {l : List ExhibitV} {m : Nat} (h : rowsTo l m = true) {k : Nat} (hk : k < m) : okRow l k = true := by
  cases e : okRow l k
  · rw [rowsTo_bad e hk] at h; cases h
  · rfl
theorem rowsTo_zero (l : List ExhibitV) : rowsTo l 0 = true := rfl
theorem rowsTo_succ {l : List ExhibitV} {k : Nat} (h : rowsTo l k = true) (h2 : okRow l k = true) : rowsTo l (k + 1) = true := by simp [rowsTo, h, h2]
theorem rows_exh {l : List ExhibitV} {m : Nat} (h : rowsTo l m = true) {k : Nat} {x : ExhibitV} (hk : k < m) (hx : l[k]? = some x) : exhB x = true := okRow_yes hx (rowsTo_all h hk)
theorem ldA_bd {l : List ExhibitV} (b : Int) {m : Nat} (h : rowsTo l m = true) (hm : m ≤ 1000) (k : Nat) (hk : k ≤ m) : 0 ≤ ldA l b k ∧ ldA l b k ≤ 31 * (k : Int) := by
  induction k with
  | zero => rw [ldA_zero]; omega
  | succ k ih =>
    have ih := ih (by omega)
    by_cases hkl : k < l.length
    · obtain ⟨x, hx⟩ := get_of_lt l hkl
      have hr := exhB_iff (rows_exh h (by omega) hx)
      by_cases hc : x.case_ = b
      · rw [ldA_hit hx hc, IntWalk.wrap64_in _ ⟨by omega, by omega⟩]; omega
      · rw [ldA_miss hx hc]; omega
    · have : ldA l b (k + 1) = ldA l b k := by simp [ldA, List.getElem?_eq_none (show l.length ≤ k by omega)]
      rw [this]; omega
theorem ldA_hit' {l : List ExhibitV} {b : Int} {m : Nat} (h : rowsTo l m = true) (hm : m ≤ 1000) {k : Nat} {x : ExhibitV} (hk : k < m) (hx : l[k]? = some x) (hc : x.case_ = b) : ldA l b (k + 1) = ldA l b k + x.rods := by
  have hr := exhB_iff (rows_exh h hk hx)
  have := ldA_bd b h hm k (by omega)
  rw [ldA_hit hx hc, IntWalk.wrap64_in _ ⟨by omega, by omega⟩]
theorem goodB_long {l : List ExhibitV} (h : ¬ l.length ≤ 10) : goodB l = false := by simp [goodB, h]
theorem goodB_bad {l : List ExhibitV} {k : Nat} (hk : okRow l k = false) (hm : k < l.length) : goodB l = false := by simp [goodB, rowsTo_bad hk hm]
theorem goodB_rows {l : List ExhibitV} (h1 : l.length ≤ 10) (h2 : rowsTo l l.length = true) : goodB l = loadsB l := by simp [goodB, h1, h2]
theorem goodB_iff {l : List ExhibitV} (h : goodB l = true) : l.length ≤ 10 ∧ rowsTo l l.length = true ∧ loadsB l = true := by simpa [goodB, and_assoc] using h
theorem loadsB_iff {l : List ExhibitV} : loadsB l = true ↔ ∀ b : Nat, b < 9 → ldA l ((b : Int) + 1) l.length ≤ 60 := by simp [loadsB]
/-- A case with too many rods. -/
theorem goodB_load {l : List ExhibitV} {k : Nat} {x : ExhibitV} (hx : l[k]? = some x) (hc : 0 < x.case_) (h : 60 < ldA l x.case_ l.length) : goodB l = false := by
  cases hg : goodB l
  · rfl
  · obtain ⟨h1, h2, h3⟩ := goodB_iff hg
    have hkl := (List.getElem?_eq_some_iff.1 hx).1
    have hr := exhB_iff (rows_exh h2 hkl hx)
    have := loadsB_iff.1 h3 (x.case_.toNat - 1) (by omega)
    rw [show (((x.case_.toNat - 1 : Nat) : Int) + 1) = x.case_ by omega] at this
    omega
theorem ldA_pos {l : List ExhibitV} {b : Int} (k : Nat) (h : ldA l b k ≠ 0) : ∃ j x, j < k ∧ l[j]? = some x ∧ x.case_ = b := by
  induction k with
  | zero => exact absurd (ldA_zero l b) h
  | succ k ih =>
    by_cases hkl : k < l.length
    · obtain ⟨x, hx⟩ := get_of_lt l hkl
      by_cases hc : x.case_ = b
      · exact ⟨k, x, by omega, hx, hc⟩
      · rw [ldA_miss hx hc] at h
        obtain ⟨j, y, hj, r⟩ := ih h
        exact ⟨j, y, by omega, r⟩
    · have e : ldA l b (k + 1) = ldA l b k := by simp [ldA, List.getElem?_eq_none (show l.length ≤ k by omega)]
      rw [e] at h
      obtain ⟨j, y, hj, r⟩ := ih h
      exact ⟨j, y, by omega, r⟩
/-- The reference's test of the loads, row by row. -/
def lokTo (l : List ExhibitV) : Nat → Bool
  | 0 => true
  | k + 1 => lokTo l k && match l[k]? with
    | some x => decide (x.case_ ≤ 0) || decide (ldA l x.case_ l.length ≤ 60)
    | none => true
theorem lokTo_zero (l : List ExhibitV) : lokTo l 0 = true := rfl
theorem lokTo_store {l : List ExhibitV} {k : Nat} {x : ExhibitV} (h : lokTo l k = true) (hx : l[k]? = some x) (hc : x.case_ ≤ 0) : lokTo l (k + 1) = true := by simp [lokTo, h, hx, hc]
theorem lokTo_case {l : List ExhibitV} {k : Nat} {x : ExhibitV} (h : lokTo l k = true) (hx : l[k]? = some x) (hc : ldA l x.case_ l.length ≤ 60) : lokTo l (k + 1) = true := by simp [lokTo, h, hx, hc]
theorem lokTo_at {l : List ExhibitV} {m : Nat} (h : lokTo l m = true) {j : Nat} {x : ExhibitV} (hj : j < m) (hx : l[j]? = some x) : x.case_ ≤ 0 ∨ ldA l x.case_ l.length ≤ 60 := by
  induction m with
  | zero => omega
  | succ m ih =>
    simp only [lokTo, Bool.and_eq_true] at h
    by_cases e : j = m
    · subst e
      have h2 := h.2
      rw [hx] at h2
      simpa using h2
    · exact ih h.1 (by omega)
theorem loads_lok {l : List ExhibitV} (h : lokTo l l.length = true) : loadsB l = true := by
  rw [loadsB_iff]
  intro b hb
  by_cases h0 : ldA l ((b : Int) + 1) l.length = 0
  · omega
  · obtain ⟨j, x, hj, hx, hc⟩ := ldA_pos _ h0
    rcases lokTo_at h hj hx with h1 | h1
    · omega
    · rw [hc] at h1; exact h1
theorem goodB_spec {l : List ExhibitV} (h1 : rowsTo l l.length = true) (h2 : lokTo l l.length = true) : goodB l = decide ((l.length : Int) ≤ 10) := by
  unfold goodB
  rw [h1, loads_lok h2, Bool.and_true, Bool.and_true]
  simp; omega
/-- The loads of the nine cases behind k rows. -/
def loadsL (l : List ExhibitV) (k : Nat) : List Int := (List.range 9).map fun (b : Nat) => ldA l ((b : Int) + 1) k
theorem loadsL_len (l : List ExhibitV) (k : Nat) : (loadsL l k).length = 9 := by simp [loadsL]
theorem loadsL_zero (l : List ExhibitV) : loadsL l 0 = List.replicate 9 0 := by simp [loadsL, ldA_zero, List.map_const']
theorem loadsL_at (l : List ExhibitV) (k b : Nat) (h : b < 9) : (loadsL l k)[b]? = some (ldA l ((b : Int) + 1) k) := by simp [loadsL, h]
theorem loadsL_hit {l : List ExhibitV} {m : Nat} (h : rowsTo l m = true) (hm : m ≤ 1000) {k : Nat} {x : ExhibitV} (hk : k < m) (hx : l[k]? = some x) (b : Nat) (hb : b < 9) (hc : x.case_ = (b : Int) + 1) :
    loadsL l (k + 1) = (loadsL l k).set b (ldA l ((b : Int) + 1) k + x.rods) := by
  apply List.ext_getElem?
  intro j
  rw [List.getElem?_set, loadsL_len]
  by_cases hj : j < 9
  · rw [loadsL_at l _ j hj, loadsL_at l _ j hj]
    by_cases e : b = j
    · subst e
      rw [if_pos rfl, if_pos hb, ldA_hit' h hm hk hx hc]
    · rw [if_neg e, ldA_miss hx (by omega)]
  · rw [List.getElem?_eq_none (by rw [loadsL_len]; omega), List.getElem?_eq_none (by rw [loadsL_len]; omega), if_neg (by omega)]
theorem loadsL_store {l : List ExhibitV} {k : Nat} {x : ExhibitV} (hx : l[k]? = some x) (hc : x.case_ ≤ 0) : loadsL l (k + 1) = loadsL l k := by
  apply List.ext_getElem?
  intro j
  by_cases hj : j < 9
  · rw [loadsL_at l _ j hj, loadsL_at l _ j hj, ldA_miss hx (by omega)]
  · rw [List.getElem?_eq_none (by rw [loadsL_len]; omega), List.getElem?_eq_none (by rw [loadsL_len]; omega)]
theorem loads_within {l : List ExhibitV} (h : rowsTo l l.length = true) (hm : l.length ≤ 1000) : ((loadsL l l.length).all fun n => inB n 0 60) = loadsB l := by
  rw [Bool.eq_iff_iff, loadsB_iff, List.all_eq_true]
  constructor
  · intro hh b hb
    have := hh _ (List.mem_of_getElem? (loadsL_at l l.length b hb))
    exact ((inB_iff _ _ _).1 this).2
  · intro hh n hn
    simp only [loadsL, List.mem_map, List.mem_range] at hn
    obtain ⟨b, hb, rfl⟩ := hn
    exact (inB_iff _ _ _).2 ⟨(ldA_bd _ h hm _ (Nat.le_refl _)).1, hh b hb⟩
attribute [irreducible] ldA okRow rowsTo loadsB goodB lokTo loadsL

theorem RdT.regrown {α : Type} {T : Ty α} {w : World} {A : Option Addr} {l : List α} (h : RdT T w A l) (d : Nat) (os : Array Obj) : RdT T (Sort.grow (redrawn w d) os) A l := h.below (below_regrown w d os) (Nat.le_refl _)

/-! ### contracts -/
set_option maxHeartbeats 800000 in
theorem allWithin_any (A : Option Addr) (c : Nat) (l : List Int) (lo hi : Int) (w : World) (hn : l.length ≤ 16777216) (h : RdI w A l) :
    Calls Try.prog 48 #[.slice A l.length c, .int .i64 lo, .int .i64 hi] w fun e w' => e = .returned (.bool (l.all fun n => inB n lo hi)) ∧ w = w' := by
  obtain ⟨R, hR⟩ : ∃ R : Bool, R = l.all fun n => inB n lo hi := ⟨_, rfl⟩
  rw [← hR]
  have HR := Lib.hid hR
  clear hR
  go_enter Try.func48, Try.ntmps48
  go_wp2
  go_loop [11] (fun i => ∃ k : Nat, k ≤ l.length ∧ i = .int .i64 k ∧ Hid ((l.take k).all (fun n => inB n lo hi) = true)) (fun i => l.length - (intOf i).toNat)
  case atStart => exact ⟨0, by omega, rfl, Lib.hid (by simp)⟩
  case round =>
    obtain ⟨k, hk, rfl, hall⟩ := hrel
    by_cases hlt : k < l.length
    · obtain ⟨b, off, x, rfl, hx, _, hc⟩ := h.at_ hlt
      cases hg : inB x lo hi
      · have E := Lib.hid (HR.out.trans (all_bad (fun n => inB n lo hi) hx hg))
        clear hx hall
        go_wp2_with (go_at_call 43; refine (within_any _ _ _ _).mono ?_; rintro e w' ⟨rfl, rfl⟩; rw [hg])
        go_ret
        exact ⟨by rw [E.out]; rfl, rfl⟩
      · have hall' := Lib.hid (show (l.take (k + 1)).all (fun n => inB n lo hi) = true by rw [all_succ (fun n => inB n lo hi) hx, hall.out, Bool.true_and]; exact hg)
        clear hx hall
        go_wp2_with (go_at_call 43; refine (within_any _ _ _ _).mono ?_; rintro e w' ⟨rfl, rfl⟩; rw [hg])
        go_round
        case rel => exact ⟨k + 1, by omega, by go_num, hall'⟩
        case measure => simp [intOf]; omega
    · have E := Lib.hid (show R = true from HR.out.trans ((all_take l (fun n => inB n lo hi) k (by omega)).symm.trans hall.out))
      clear hall
      go_wp2
      go_ret
      exact ⟨by rw [E.out]; rfl, rfl⟩

set_option maxHeartbeats 800000 in
theorem l22Load_any (A : Option Addr) (c : Nat) (l : List ExhibitV) (b : Int) (w : World) (hn : l.length ≤ 16777216) (h : RdT exhibitT w A l) :
    Calls Try.prog 53 #[.slice A l.length c, .int .i64 b] w fun e w' => e = .returned (.int .i64 (ldA l b l.length)) ∧ Below w.heap.size w w' := by
  go_enter Try.func53, Try.ntmps53
  go_wp2
  go_loop [5, 6] (fun s i => ∃ k : Nat, k ≤ l.length ∧ i = .int .i64 k ∧ s = .int .i64 (ldA l b k)) (fun _ i => l.length - (intOf i).toNat)
  case atStart => exact ⟨0, by omega, rfl, by rw [ldA_zero]⟩
  case round =>
    obtain ⟨k, hk, rfl, rfl⟩ := hrel
    by_cases hlt : k < l.length
    · obtain ⟨bb, off, id_, land, made, upper, lower, rods, case_, rfl, hx, hlb, hc0, hc1, hc2, hc3, hc4, hc5, hc6⟩ := exhibitT_at h hlt
      by_cases hc : case_ = b
      · have E := Lib.hid (ldA_hit hx hc)
        have g : (case_ == b) = true := by simp [hc]
        clear hx hc
        go_wp2
        go_round
        case rel => exact ⟨k + 1, by omega, by go_num, by rw [E.out]⟩
        case measure => simp [intOf]; omega
      · have E := Lib.hid (ldA_miss hx hc)
        have g : (case_ == b) = false := by simp [hc]
        clear hx hc
        go_wp2
        go_round
        case rel => exact ⟨k + 1, by omega, by go_num, by rw [E.out]⟩
        case measure => simp [intOf]; omega
    · obtain rfl : k = l.length := by omega
      go_wp2
      go_ret
      exact ⟨rfl, Below.refl _ _⟩

set_option maxRecDepth 100000 in
set_option maxHeartbeats 8000000 in
theorem l22Good_any (A : Option Addr) (c : Nat) (l : List ExhibitV) (w : World) (hn : l.length ≤ 16777216) (h : RdT exhibitT w A l) (hok : ∀ x ∈ l, x.ok) :
    Calls Try.prog 47 #[.slice A l.length c] w fun e w' => e = .returned (.bool (goodB l)) ∧ Below w.heap.size w w' := by
  have HL0 := fun b W (g : RdT exhibitT W A l) => l22Load_any A c l b W hn g
  go_enter Try.func47, Try.ntmps47
  go_wp2
  go_loopw [3] (fun i wr => ∃ k : Nat, k ≤ l.length ∧ i = .int .i64 k ∧ Hid (rowsTo l k = true) ∧ Hid (lokTo l k = true) ∧ Below w.heap.size w wr) (fun i _ => l.length - (intOf i).toNat)
  case atStart => exact ⟨0, by omega, rfl, Lib.hid (rowsTo_zero l), Lib.hid (lokTo_zero l), Below.refl _ _⟩
  case round =>
    obtain ⟨k, hk, rfl, hall, hlok, hb⟩ := hrel
    have hz := hb.size
    have hr := h.below hb (Nat.le_refl _)
    by_cases hlt : k < l.length
    · obtain ⟨b, off, rfl, hl1, hcells⟩ := exhibitT_cells hr (by omega)
      obtain ⟨⟨id_, land, made, upper, lower, rods, case_⟩, hy⟩ := get_of_lt l hlt
      obtain ⟨hc0, hc1, hc2, hc3, hc4, hc5, hc6⟩ := hcells k id_ land made upper lower rods case_ hy
      have HO := fun W => l22One_any ⟨id_, land, made, upper, lower, rods, case_⟩ W (hok _ (List.mem_of_getElem? hy))
      have HL := fun W g => HL0 case_ W g
      clear HL0
      cases hg : exhB ⟨id_, land, made, upper, lower, rods, case_⟩
      · rw [hg] at HO
        have E := Lib.hid (goodB_bad (okRow_bad hy hg) hlt)
        clear hy hcells

        have q0 := cell_regrown hc0
        have q1 := cell_regrown hc1
        have q2 := cell_regrown hc2
        have q3 := cell_regrown hc3
        have q4 := cell_regrown hc4
        have q5 := cell_regrown hc5
        have q6 := cell_regrown hc6
        go_wp2_with fail
        refine wp_region_quiet_below (by kernel_rfl) (by kernel_rfl) ?_
        repeat (go_big_quiet_step ((first | (go_at_call 40; exact Calls.regrown_of (HO _)) | (go_at_call 53; exact Calls.regrown_of (HL _ (hr.regrown _ _))))))
        refine wpQuiet_nil ?_
        intro w2 hw'
        have hb2 := below_of_class hw'
        clear hw'
        go_wp2
        go_ret
        exact ⟨by rw [E.out]; rfl, hb.trans (hb2.mono hz)⟩
      rw [hg] at HO
      have hei := exhB_iff hg
      have hload : case_ ≤ 0 ∨ (0 < case_ ∧ 60 < ldA l case_ l.length) ∨ (0 < case_ ∧ ldA l case_ l.length ≤ 60) := by omega
      cases k with
      | zero =>
        have hd0 : decide ((0 : Int) < ((0 : Nat) : Int)) = false := rfl
        have hd00 : decide ((0 : Int) < 0) = false := rfl
        rcases hload with hst | ⟨hst, hld⟩ | ⟨hst, hld⟩
        · have hall' := Lib.hid (rowsTo_succ hall.out ((okRow_zero hy).trans hg))
          have hlok' := Lib.hid (lokTo_store hlok.out hy hst)
          have d1 : decide (0 < case_) = false := decide_eq_false (by omega)
          have q0 := cell_regrown (show wr.cell? ⟨b, off, none⟩ = some (.int .i64 id_) by simpa using hc0)
          have q1 := cell_regrown (show wr.cell? ⟨b, off + 1, none⟩ = some (.string land) by simpa using hc1)
          have q2 := cell_regrown (show wr.cell? ⟨b, off + 2, none⟩ = some (.int .i64 made) by simpa using hc2)
          have q3 := cell_regrown (show wr.cell? ⟨b, off + 3, none⟩ = some (.int .i64 upper) by simpa using hc3)
          have q4 := cell_regrown (show wr.cell? ⟨b, off + 4, none⟩ = some (.int .i64 lower) by simpa using hc4)
          have q5 := cell_regrown (show wr.cell? ⟨b, off + 5, none⟩ = some (.int .i64 rods) by simpa using hc5)
          have q6 := cell_regrown (show wr.cell? ⟨b, off + 6, none⟩ = some (.int .i64 case_) by simpa using hc6)
          clear hc0 hc1 hc2 hc3 hc4 hc5 hc6
          clear hy hcells hall hlok
          go_wp2_with fail
          refine wp_region_quiet_below (by kernel_rfl) (by kernel_rfl) ?_
          repeat (go_big_quiet_step ((first | (go_at_call 40; exact Calls.regrown_of (HO _)) | (go_at_call 53; exact Calls.regrown_of (HL _ (hr.regrown _ _))))))
          refine wpQuiet_nil ?_
          intro w2 hw'
          have hb2 := below_of_class hw'
          clear hw'
          go_wp2
          go_roundw
          case rel => exact ⟨1, by omega, by go_num, hall', hlok', hb.trans (hb2.mono hz)⟩
          case measure => simp [intOf]; omega
        · have hall' := Lib.hid (rowsTo_succ hall.out ((okRow_zero hy).trans hg))
          have E := Lib.hid (goodB_load hy hst hld)
          have d1 : decide (0 < case_) = true := decide_eq_true hst
          have d2 : decide (60 < ldA l case_ l.length) = true := decide_eq_true hld
          have q0 := cell_regrown (show wr.cell? ⟨b, off, none⟩ = some (.int .i64 id_) by simpa using hc0)
          have q1 := cell_regrown (show wr.cell? ⟨b, off + 1, none⟩ = some (.string land) by simpa using hc1)
          have q2 := cell_regrown (show wr.cell? ⟨b, off + 2, none⟩ = some (.int .i64 made) by simpa using hc2)
          have q3 := cell_regrown (show wr.cell? ⟨b, off + 3, none⟩ = some (.int .i64 upper) by simpa using hc3)
          have q4 := cell_regrown (show wr.cell? ⟨b, off + 4, none⟩ = some (.int .i64 lower) by simpa using hc4)
          have q5 := cell_regrown (show wr.cell? ⟨b, off + 5, none⟩ = some (.int .i64 rods) by simpa using hc5)
          have q6 := cell_regrown (show wr.cell? ⟨b, off + 6, none⟩ = some (.int .i64 case_) by simpa using hc6)
          clear hc0 hc1 hc2 hc3 hc4 hc5 hc6
          clear hy hcells hall hlok
          go_wp2_with fail
          refine wp_region_quiet_below (by kernel_rfl) (by kernel_rfl) ?_
          repeat (go_big_quiet_step ((first | (go_at_call 40; exact Calls.regrown_of (HO _)) | (go_at_call 53; exact Calls.regrown_of (HL _ (hr.regrown _ _))))))
          refine wpQuiet_nil ?_
          intro w2 hw'
          have hb2 := below_of_class hw'
          clear hw'
          go_wp2
          go_ret
          exact ⟨by rw [E.out]; rfl, hb.trans (hb2.mono hz)⟩
        · have hall' := Lib.hid (rowsTo_succ hall.out ((okRow_zero hy).trans hg))
          have hlok' := Lib.hid (lokTo_case hlok.out hy hld)
          have d1 : decide (0 < case_) = true := decide_eq_true hst
          have d2 : decide (60 < ldA l case_ l.length) = false := decide_eq_false (by omega)
          have q0 := cell_regrown (show wr.cell? ⟨b, off, none⟩ = some (.int .i64 id_) by simpa using hc0)
          have q1 := cell_regrown (show wr.cell? ⟨b, off + 1, none⟩ = some (.string land) by simpa using hc1)
          have q2 := cell_regrown (show wr.cell? ⟨b, off + 2, none⟩ = some (.int .i64 made) by simpa using hc2)
          have q3 := cell_regrown (show wr.cell? ⟨b, off + 3, none⟩ = some (.int .i64 upper) by simpa using hc3)
          have q4 := cell_regrown (show wr.cell? ⟨b, off + 4, none⟩ = some (.int .i64 lower) by simpa using hc4)
          have q5 := cell_regrown (show wr.cell? ⟨b, off + 5, none⟩ = some (.int .i64 rods) by simpa using hc5)
          have q6 := cell_regrown (show wr.cell? ⟨b, off + 6, none⟩ = some (.int .i64 case_) by simpa using hc6)
          clear hc0 hc1 hc2 hc3 hc4 hc5 hc6
          clear hy hcells hall hlok
          go_wp2_with fail
          refine wp_region_quiet_below (by kernel_rfl) (by kernel_rfl) ?_
          repeat (go_big_quiet_step ((first | (go_at_call 40; exact Calls.regrown_of (HO _)) | (go_at_call 53; exact Calls.regrown_of (HL _ (hr.regrown _ _))))))
          refine wpQuiet_nil ?_
          intro w2 hw'
          have hb2 := below_of_class hw'
          clear hw'
          go_wp2
          go_roundw
          case rel => exact ⟨1, by omega, by go_num, hall', hlok', hb.trans (hb2.mono hz)⟩
          case measure => simp [intOf]; omega
      | succ j =>
        obtain ⟨⟨i0, n0, m0, u0, v0, r0, c0⟩, hx⟩ := get_of_lt l (k := j) (by omega)
        obtain ⟨hd0, _⟩ := hcells j i0 n0 m0 u0 v0 r0 c0 hx
        have hds : decide ((0 : Int) < (j : Int) + 1) = true := decide_eq_true (by omega)
        by_cases hid : i0 < id_
        · have dge : decide (id_ ≤ i0) = false := decide_eq_false (by omega)
          rcases hload with hst | ⟨hst, hld⟩ | ⟨hst, hld⟩
          · have hall' := Lib.hid (rowsTo_succ hall.out ((okRow_succ hx hy).trans (by rw [hg, Bool.true_and]; exact decide_eq_true hid)))
            have hlok' := Lib.hid (lokTo_store hlok.out hy hst)
            have d1 : decide (0 < case_) = false := decide_eq_false (by omega)
            have q0 := cell_regrown hc0
            have q1 := cell_regrown hc1
            have q2 := cell_regrown hc2
            have q3 := cell_regrown hc3
            have q4 := cell_regrown hc4
            have q5 := cell_regrown hc5
            have q6 := cell_regrown hc6
            have hr0 := cell_regrown hd0
            have gw : IntKind.i64.wrap ((j : Int) + 1 - 1) = (j : Int) := by rw [show (j : Int) + 1 - 1 = j by omega]; exact IntWalk.i64_in _ (by omega)
            have gw2 : IntKind.i64.wrap (j : Int) = (j : Int) := IntWalk.i64_in _ (by omega)
            have gj : (0 : Int) ≤ (j : Int) := by omega
            have gl : (j : Int) < (l.length : Int) := by omega
            have gl1 : (j : Int) + 1 < (l.length : Int) := by omega
            have gt : (j : Int).toNat = j := by omega
            clear hx hy hcells hall hlok
            go_wp2_with fail
            refine wp_region_quiet_below (by kernel_rfl) (by kernel_rfl) ?_
            repeat (go_big_quiet_step ((first | (go_at_call 40; exact Calls.regrown_of (HO _)) | (go_at_call 53; exact Calls.regrown_of (HL _ (hr.regrown _ _))))))
            refine wpQuiet_nil ?_
            intro w2 hw'
            have hb2 := below_of_class hw'
            clear hw'
            go_wp2
            go_roundw
            case rel => exact ⟨j + 1 + 1, by omega, by go_num, hall', hlok', hb.trans (hb2.mono hz)⟩
            case measure => simp [intOf]; omega
          · have hall' := Lib.hid (rowsTo_succ hall.out ((okRow_succ hx hy).trans (by rw [hg, Bool.true_and]; exact decide_eq_true hid)))
            have E := Lib.hid (goodB_load hy hst hld)
            have d1 : decide (0 < case_) = true := decide_eq_true hst
            have d2 : decide (60 < ldA l case_ l.length) = true := decide_eq_true hld
            have q0 := cell_regrown hc0
            have q1 := cell_regrown hc1
            have q2 := cell_regrown hc2
            have q3 := cell_regrown hc3
            have q4 := cell_regrown hc4
            have q5 := cell_regrown hc5
            have q6 := cell_regrown hc6
            have hr0 := cell_regrown hd0
            have gw : IntKind.i64.wrap ((j : Int) + 1 - 1) = (j : Int) := by rw [show (j : Int) + 1 - 1 = j by omega]; exact IntWalk.i64_in _ (by omega)
            have gw2 : IntKind.i64.wrap (j : Int) = (j : Int) := IntWalk.i64_in _ (by omega)
            have gj : (0 : Int) ≤ (j : Int) := by omega
            have gl : (j : Int) < (l.length : Int) := by omega
            have gl1 : (j : Int) + 1 < (l.length : Int) := by omega
            have gt : (j : Int).toNat = j := by omega
            clear hx hy hcells hall hlok
            go_wp2_with fail
            refine wp_region_quiet_below (by kernel_rfl) (by kernel_rfl) ?_
            repeat (go_big_quiet_step ((first | (go_at_call 40; exact Calls.regrown_of (HO _)) | (go_at_call 53; exact Calls.regrown_of (HL _ (hr.regrown _ _))))))
            refine wpQuiet_nil ?_
            intro w2 hw'
            have hb2 := below_of_class hw'
            clear hw'
            go_wp2
            go_ret
            exact ⟨by rw [E.out]; rfl, hb.trans (hb2.mono hz)⟩
          · have hall' := Lib.hid (rowsTo_succ hall.out ((okRow_succ hx hy).trans (by rw [hg, Bool.true_and]; exact decide_eq_true hid)))
            have hlok' := Lib.hid (lokTo_case hlok.out hy hld)
            have d1 : decide (0 < case_) = true := decide_eq_true hst
            have d2 : decide (60 < ldA l case_ l.length) = false := decide_eq_false (by omega)
            have q0 := cell_regrown hc0
            have q1 := cell_regrown hc1
            have q2 := cell_regrown hc2
            have q3 := cell_regrown hc3
            have q4 := cell_regrown hc4
            have q5 := cell_regrown hc5
            have q6 := cell_regrown hc6
            have hr0 := cell_regrown hd0
            have gw : IntKind.i64.wrap ((j : Int) + 1 - 1) = (j : Int) := by rw [show (j : Int) + 1 - 1 = j by omega]; exact IntWalk.i64_in _ (by omega)
            have gw2 : IntKind.i64.wrap (j : Int) = (j : Int) := IntWalk.i64_in _ (by omega)
            have gj : (0 : Int) ≤ (j : Int) := by omega
            have gl : (j : Int) < (l.length : Int) := by omega
            have gl1 : (j : Int) + 1 < (l.length : Int) := by omega
            have gt : (j : Int).toNat = j := by omega
            clear hx hy hcells hall hlok
            go_wp2_with fail
            refine wp_region_quiet_below (by kernel_rfl) (by kernel_rfl) ?_
            repeat (go_big_quiet_step ((first | (go_at_call 40; exact Calls.regrown_of (HO _)) | (go_at_call 53; exact Calls.regrown_of (HL _ (hr.regrown _ _))))))
            refine wpQuiet_nil ?_
            intro w2 hw'
            have hb2 := below_of_class hw'
            clear hw'
            go_wp2
            go_roundw
            case rel => exact ⟨j + 1 + 1, by omega, by go_num, hall', hlok', hb.trans (hb2.mono hz)⟩
            case measure => simp [intOf]; omega
        · have dge : decide (id_ ≤ i0) = true := decide_eq_true (by omega)
          have E := Lib.hid (goodB_bad ((okRow_succ hx hy).trans (by rw [hg, Bool.true_and]; exact decide_eq_false hid)) hlt)
          clear hload
          have q0 := cell_regrown hc0
          have q1 := cell_regrown hc1
          have q2 := cell_regrown hc2
          have q3 := cell_regrown hc3
          have q4 := cell_regrown hc4
          have q5 := cell_regrown hc5
          have q6 := cell_regrown hc6
          have hr0 := cell_regrown hd0
          have gw : IntKind.i64.wrap ((j : Int) + 1 - 1) = (j : Int) := by rw [show (j : Int) + 1 - 1 = j by omega]; exact IntWalk.i64_in _ (by omega)
          have gw2 : IntKind.i64.wrap (j : Int) = (j : Int) := IntWalk.i64_in _ (by omega)
          have gj : (0 : Int) ≤ (j : Int) := by omega
          have gl : (j : Int) < (l.length : Int) := by omega
          have gl1 : (j : Int) + 1 < (l.length : Int) := by omega
          have gt : (j : Int).toNat = j := by omega
          clear hx hy hcells hall hlok
          go_wp2_with fail
          refine wp_region_quiet_below (by kernel_rfl) (by kernel_rfl) ?_
          repeat (go_big_quiet_step ((first | (go_at_call 40; exact Calls.regrown_of (HO _)) | (go_at_call 53; exact Calls.regrown_of (HL _ (hr.regrown _ _))))))
          refine wpQuiet_nil ?_
          intro w2 hw'
          have hb2 := below_of_class hw'
          clear hw'
          go_wp2
          go_ret
          exact ⟨by rw [E.out]; rfl, hb.trans (hb2.mono hz)⟩
    · obtain rfl : k = l.length := by omega
      have E := Lib.hid (goodB_spec hall.out hlok.out)
      clear hall hlok HL0
      go_wp2
      go_ret
      exact ⟨by rw [E.out]; rfl, hb⟩
end Go.Proofs.Ythoejiepaackhaa

