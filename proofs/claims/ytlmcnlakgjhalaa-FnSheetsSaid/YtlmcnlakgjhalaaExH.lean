/-
  Sheets: the test, the total, the carries: contracts.
-/
import Derived.Test.YtlmcnlakgjhalaaExG
namespace Go.Proofs.Ytlmcnlakgjhalaa
open Go.RowKit

/-! ### plain: tests and sums along a list -/
theorem all_succ {α : Type} {l : List α} {k : Nat} {x : α} (p : α → Bool) (hx : l[k]? = some x) : (l.take (k + 1)).all p = ((l.take k).all p && p x) := by
  rw [take_snoc' hx, List.all_append]; simp
theorem all_bad {α : Type} {l : List α} {k : Nat} {x : α} (p : α → Bool) (hx : l[k]? = some x) (h : p x = false) : l.all p = false := by
  rw [List.all_eq_false]
  exact ⟨x, List.mem_of_getElem? hx, by simp [h]⟩
theorem all_take {α : Type} (l : List α) (p : α → Bool) (k : Nat) (hk : l.length ≤ k) : (l.take k).all p = l.all p := by rw [List.take_of_length_le hk]
theorem all_get {α : Type} {l : List α} {p : α → Bool} (h : l.all p = true) {k : Nat} {x : α} (hx : l[k]? = some x) : p x = true := List.all_eq_true.1 h x (List.mem_of_getElem? hx)
def sumTo {α : Type} (f : α → Int) (l : List α) (k : Nat) : Int := ((l.take k).map f).sum
theorem sumTo_zero {α : Type} (f : α → Int) (l : List α) : sumTo f l 0 = 0 := by simp [sumTo]
theorem sumTo_succ {α : Type} (f : α → Int) {l : List α} {k : Nat} {x : α} (hx : l[k]? = some x) : sumTo f l (k + 1) = sumTo f l k + f x := by
  unfold sumTo
  rw [take_snoc' hx, List.map_append, List.sum_append]; simp
theorem sumTo_bd {α : Type} (f : α → Int) (B : Nat) (l : List α) (h : ∀ x ∈ l, 0 ≤ f x ∧ f x ≤ B) (k : Nat) : 0 ≤ sumTo f l k ∧ sumTo f l k ≤ B * k := by
  induction k with
  | zero => simp [sumTo]
  | succ k ih =>
    by_cases hk : k < l.length
    · obtain ⟨x, hx⟩ := get_of_lt l hk
      have := h x (List.mem_of_getElem? hx)
      rw [sumTo_succ f hx]
      have e : ((k + 1 : Nat) : Int) = (k : Int) + 1 := by omega
      rw [e, Int.mul_add]
      omega
    · have e : sumTo f l (k + 1) = sumTo f l k := by unfold sumTo; rw [List.take_of_length_le (by omega), List.take_of_length_le (by omega)]
      rw [e]
      have e : ((k + 1 : Nat) : Int) = (k : Int) + 1 := by omega
      rw [e, Int.mul_add]
      omega
attribute [irreducible] sumTo

def exP (x : Int × Int) : Bool := exB x.1 x.2
def sheetB (l : List (Int × Int)) : Bool := decide (l.length ≤ 12) && l.all exP
theorem sheetB_long {l : List (Int × Int)} (h : ¬ l.length ≤ 12) : sheetB l = false := by simp [sheetB, h]
theorem sheetB_bad {l : List (Int × Int)} (h : l.all exP = false) : sheetB l = false := by simp [sheetB, h]
theorem sheetB_good {l : List (Int × Int)} (h1 : l.length ≤ 12) (h2 : l.all exP = true) : sheetB l = true := by simp [sheetB, h1, h2]
theorem sheetB_iff {l : List (Int × Int)} (h : sheetB l = true) : l.length ≤ 12 ∧ ∀ (k : Nat) (x y : Int), l[k]? = some (x, y) → (0 ≤ x ∧ x ≤ 9999) ∧ (0 ≤ y ∧ y ≤ 9999) := by
  simp only [sheetB, Bool.and_eq_true, decide_eq_true_eq] at h
  exact ⟨h.1, fun k x y hx => (exB_iff _ _).1 (all_get h.2 hx)⟩
theorem sheetB_mem {l : List (Int × Int)} (h : sheetB l = true) (x : Int × Int) (hx : x ∈ l) : (0 ≤ x.1 ∧ x.1 ≤ 9999) ∧ (0 ≤ x.2 ∧ x.2 ≤ 9999) := by
  obtain ⟨k, hk⟩ := List.getElem?_of_mem hx
  exact (sheetB_iff h).2 k x.1 x.2 hk

set_option maxHeartbeats 800000 in
theorem isSheet_any (A : Option Addr) (c : Nat) (l : List (Int × Int)) (w : World) (hn : l.length ≤ 16777216) (h : RdT pairT w A l) :
    Calls Try.prog 66 #[.slice A l.length c] w fun e w' => e = .returned (.bool (sheetB l)) ∧ Below w.heap.size w w' := by
  by_cases h12 : l.length ≤ 12
  · have hd : decide ((12 : Int) < l.length) = false := by simp; omega
    go_enter Try.func66, Try.ntmps66
    go_wp2
    go_loopw [10] (fun i wr => ∃ k : Nat, k ≤ l.length ∧ i = .int .i64 k ∧ Hid ((l.take k).all exP = true) ∧ RdT pairT wr A l ∧ Below w.heap.size w wr) (fun i _ => l.length - (intOf i).toNat)
    case atStart => exact ⟨0, by omega, rfl, Lib.hid (by simp), h, Below.refl _ _⟩
    case round =>
      obtain ⟨k, hk, rfl, hall, hr, hb⟩ := hrel
      have hz := hb.size
      by_cases hlt : k < l.length
      · obtain ⟨b, off, p, q, rfl, hx, _, hc1, hc2⟩ := pair_at hr hlt
        cases hg : exB p q
        · have E := Lib.hid (sheetB_bad (all_bad exP hx hg))
          clear hx
          go_wp2_with (go_at_call 61; refine (isExercise_any _ _ _).mono ?_; rintro e w' ⟨rfl, rfl⟩)
          go_ret
          exact ⟨by rw [E.out]; rfl, hb.alloc hz _⟩
        · have hall' := Lib.hid (show (l.take (k + 1)).all exP = true by rw [all_succ exP hx, hall.out]; exact hg)
          clear hx hall
          go_wp2_with (go_at_call 61; refine (isExercise_any _ _ _).mono ?_; rintro e w' ⟨rfl, rfl⟩)
          go_roundw
          case rel => exact ⟨k + 1, by omega, by go_num, hall', hr.below ((Below.refl _ _).alloc (Nat.le_refl _) _) (Nat.le_refl _), hb.alloc hz _⟩
          case measure => simp [intOf]; omega
      · have E := Lib.hid (sheetB_good h12 (by rw [← all_take l exP k (by omega)]; exact hall.out))
        clear hall
        go_wp2
        go_ret
        exact ⟨by rw [E.out]; rfl, hb⟩
  · rw [sheetB_long h12]
    have hd : decide ((12 : Int) < l.length) = true := by simp; omega
    go_enter Try.func66, Try.ntmps66
    go_wp2
    go_ret
    exact ⟨rfl, Below.refl _ _⟩

set_option maxHeartbeats 800000 in
theorem l20Sheet_any (A : Option Addr) (c : Nat) (l : List (Int × Int)) (w : World) (hn : l.length ≤ 16777216) (h : RdT pairT w A l) :
    Calls Try.prog 64 #[.slice A l.length c] w fun e w' => e = .returned (.bool (sheetB l)) ∧ Below w.heap.size w w' := by
  go_enter Try.func64, Try.ntmps64
  go_wp2
  go_loopw [3] (fun i wr => ∃ k : Nat, k ≤ l.length ∧ i = .int .i64 k ∧ Hid ((l.take k).all exP = true) ∧ RdT pairT wr A l ∧ Below w.heap.size w wr) (fun i _ => l.length - (intOf i).toNat)
  case atStart => exact ⟨0, by omega, rfl, Lib.hid (by simp), h, Below.refl _ _⟩
  case round =>
    obtain ⟨k, hk, rfl, hall, hr, hb⟩ := hrel
    by_cases hlt : k < l.length
    · obtain ⟨b, off, p, q, rfl, hx, _, hc1, hc2⟩ := pair_at hr hlt
      cases hg : exB p q
      · have E := Lib.hid (sheetB_bad (all_bad exP hx hg))
        clear hx
        go_wp2_with fail
        go_quiet ((go_at_call 60; exact Calls.quiet_of_same (same_symm (l20Good_any _ _ _))))
        go_wp2
        go_ret
        exact ⟨by rw [E.out]; rfl, below_drewN hb _⟩
      · have hall' := Lib.hid (show (l.take (k + 1)).all exP = true by rw [all_succ exP hx, hall.out]; exact hg)
        clear hx hall
        go_wp2_with fail
        go_quiet ((go_at_call 60; exact Calls.quiet_of_same (same_symm (l20Good_any _ _ _))))
        go_wp2
        go_roundw
        case rel => exact ⟨k + 1, by omega, by go_num, hall', hr, below_drewN hb _⟩
        case measure => simp [intOf]; omega
    · have e : sheetB l = decide ((l.length : Int) ≤ 12) := by
        unfold sheetB
        rw [← all_take l exP k (by omega), hall.out, Bool.and_true]
        simp; omega
      have E := Lib.hid e
      clear hall e
      go_wp2
      go_ret
      exact ⟨by rw [E.out]; rfl, hb⟩

/-! ### the total -/
def addP (x : Int × Int) : Int := x.1 + x.2
def totV (l : List (Int × Int)) : Int := if sheetB l = true then sumTo addP l l.length else 0
theorem totV_yes {l : List (Int × Int)} (h : sheetB l = true) : totV l = sumTo addP l l.length := if_pos h
theorem totV_no {l : List (Int × Int)} (h : sheetB l = false) : totV l = 0 := if_neg (by simp [h])

set_option maxHeartbeats 800000 in
theorem sheetTotalI_any (A : Option Addr) (c : Nat) (l : List (Int × Int)) (w : World) (hn : l.length ≤ 16777216) (h : RdT pairT w A l) :
    Calls Try.prog 28 #[.slice A l.length c] w (RetN w (totV l) (sheetB l)) := by
  cases hs : sheetB l
  · rw [totV_no hs]
    go_enter Try.func28, Try.ntmps28
    go_wp2_with (go_at_call 66; refine (isSheet_any A _ l _ hn h).mono ?_; rintro e w1 ⟨rfl, hb1⟩)
    go_ret2
    exact ⟨rfl, hb1⟩
  · rw [totV_yes hs]
    obtain ⟨h12, hbd⟩ := sheetB_iff hs
    have hsb := sumTo_bd addP 20000 l (fun x hx => by have := sheetB_mem hs x hx; unfold addP; omega)
    go_enter Try.func28, Try.ntmps28
    go_wp2_with (go_at_call 66; refine (isSheet_any A _ l _ hn h).mono ?_; rintro e w1 ⟨rfl, hb1⟩)
    go_loopw [4, 12] (fun t i wr => ∃ k : Nat, k ≤ l.length ∧ i = .int .i64 k ∧ t = .int .i64 (sumTo addP l k) ∧ RdT pairT wr A l ∧ Below w.heap.size w wr) (fun _ i _ => l.length - (intOf i).toNat)
    case atStart => exact ⟨0, by omega, rfl, by rw [sumTo_zero], h.below hb1 (Nat.le_refl _), hb1⟩
    case round =>
      obtain ⟨k, hk, rfl, rfl, hr, hb⟩ := hrel
      have hz := hb.size
      have hsk := hsb k
      by_cases hlt : k < l.length
      · obtain ⟨b, off, p, q, rfl, hx, _, hc1, hc2⟩ := pair_at hr hlt
        have hpq := hbd k p q hx
        have E := Lib.hid (sumTo_succ addP hx)
        clear hx
        go_wp2
        go_roundw
        case rel => exact ⟨k + 1, by omega, by go_num, by rw [E.out]; rfl, hr.below ((Below.refl _ _).alloc (Nat.le_refl _) _) (Nat.le_refl _), hb.alloc hz _⟩
        case measure => simp [intOf]; omega
      · obtain rfl : k = l.length := by omega
        go_wp2
        go_ret2
        exact ⟨rfl, hb⟩

set_option maxHeartbeats 800000 in
theorem sheetTotalS_any (A : Option Addr) (c : Nat) (l : List (Int × Int)) (w : World) (hn : l.length ≤ 16777216) (h : RdT pairT w A l) :
    Calls Try.prog 26 #[.slice A l.length c] w (RetN w (totV l) (sheetB l)) := by
  cases hs : sheetB l
  · rw [totV_no hs]
    go_enter Try.func26, Try.ntmps26
    go_wp2_with (go_at_call 64; refine (l20Sheet_any A _ l _ hn h).mono ?_; rintro e w1 ⟨rfl, hb1⟩)
    go_ret2
    exact ⟨rfl, hb1⟩
  · rw [totV_yes hs]
    obtain ⟨h12, hbd⟩ := sheetB_iff hs
    have hsb := sumTo_bd addP 20000 l (fun x hx => by have := sheetB_mem hs x hx; unfold addP; omega)
    go_enter Try.func26, Try.ntmps26
    go_wp2_with (go_at_call 64; refine (l20Sheet_any A _ l _ hn h).mono ?_; rintro e w1 ⟨rfl, hb1⟩)
    go_loopw [4, 5] (fun t i wr => ∃ k : Nat, k ≤ l.length ∧ i = .int .i64 k ∧ t = .int .i64 (sumTo addP l k) ∧ RdT pairT wr A l ∧ Below w.heap.size w wr) (fun _ i _ => l.length - (intOf i).toNat)
    case atStart => exact ⟨0, by omega, rfl, by rw [sumTo_zero], h.below hb1 (Nat.le_refl _), hb1⟩
    case round =>
      obtain ⟨k, hk, rfl, rfl, hr, hb⟩ := hrel
      have hsk := hsb k
      by_cases hlt : k < l.length
      · obtain ⟨b, off, p, q, rfl, hx, _, hc1, hc2⟩ := pair_at hr hlt
        have hpq := hbd k p q hx
        have E := Lib.hid (sumTo_succ addP hx)
        clear hx
        go_wp2_with fail
        go_quiet (fail)
        go_wp2
        go_roundw
        case rel => exact ⟨k + 1, by omega, by go_num, by rw [E.out]; unfold addP; go_num, hr, below_drewN hb _⟩
        case measure => simp [intOf]; omega
      · obtain rfl : k = l.length := by omega
        go_wp2
        go_ret2
        exact ⟨rfl, hb⟩
end Go.Proofs.Ytlmcnlakgjhalaa
