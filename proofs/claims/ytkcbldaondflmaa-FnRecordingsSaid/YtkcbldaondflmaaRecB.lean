/-
  How many moves at the beginning are the same: plain, and contracts.
-/
import Derived.Test.YtkcbldaondflmaaRecA
namespace Go.Proofs.Ytkcbldaondflmaa
open Go.RowKit

/-- A call that returns a number, and whether there is one. -/
def RetN (w : World) (n : Int) (ok : Bool) (e : Ending) (w' : World) : Prop :=
  e = .returned (.tuple #[.int .i64 n, .bool ok]) ∧ Below w.heap.size w w'
theorem drop_get {α : Type} {l : List α} {k : Nat} {x : α} (h : l[k]? = some x) : l.drop k = x :: l.drop (k + 1) := by
  obtain ⟨hk, e⟩ := List.getElem?_eq_some_iff.1 h
  rw [List.drop_eq_getElem_cons hk, e]
def raf : List MoveV → List MoveV → Nat
  | x :: xs, y :: ys => if sameM x y = true then 1 + raf xs ys else 0
  | _, _ => 0
theorem raf_nil1 (b : List MoveV) : raf [] b = 0 := by simp [raf]
theorem raf_nil2 (a : List MoveV) : raf a [] = 0 := by cases a <;> simp [raf]
theorem raf_step {a b : List MoveV} {k : Nat} {x y : MoveV} (hx : a[k]? = some x) (hy : b[k]? = some y) (h : sameM x y = true) : raf (a.drop k) (b.drop k) = 1 + raf (a.drop (k + 1)) (b.drop (k + 1)) := by
  rw [drop_get hx, drop_get hy]; simp [raf, h]
theorem raf_stop {a b : List MoveV} {k : Nat} {x y : MoveV} (hx : a[k]? = some x) (hy : b[k]? = some y) (h : sameM x y = false) : raf (a.drop k) (b.drop k) = 0 := by
  rw [drop_get hx, drop_get hy]; simp [raf, h]
theorem raf_end1 {a b : List MoveV} {k : Nat} (h : a.length ≤ k) : raf (a.drop k) (b.drop k) = 0 := by rw [List.drop_of_length_le h, raf_nil1]
theorem raf_end2 {a b : List MoveV} {k : Nat} (h : b.length ≤ k) : raf (a.drop k) (b.drop k) = 0 := by rw [List.drop_of_length_le h, raf_nil2]
def rafV (a b : List MoveV) : Int := if (recB a && recB b) = true then (raf a b : Int) else 0
theorem rafV_no1 {a b : List MoveV} (h : recB a = false) : rafV a b = 0 := by simp [rafV, h]
theorem rafV_no2 {a b : List MoveV} (h : recB b = false) : rafV a b = 0 := by simp [rafV, h]
theorem rafV_yes {a b : List MoveV} (h : recB a = true) (h' : recB b = true) : rafV a b = (raf a b : Int) := by simp [rafV, h, h']
attribute [irreducible] raf rafV

set_option maxHeartbeats 1600000 in
theorem rightAtFirstI_any (A1 : Option Addr) (c1 : Nat) (l1 : List MoveV) (A2 : Option Addr) (c2 : Nat) (l2 : List MoveV) (w : World) (hn1 : l1.length ≤ 16777216) (h1 : RdT moveT w A1 l1) (hn2 : l2.length ≤ 16777216) (h2 : RdT moveT w A2 l2) :
    Calls Try.prog 14 #[.slice A1 l1.length c1, .slice A2 l2.length c2] w (RetN w (rafV l1 l2) (recB l1 && recB l2)) := by
  cases hm1 : recB l1
  · rw [rafV_no1 hm1]
    go_enter Try.func14, Try.ntmps14
    go_wp2_with (go_at_call 43; refine (areRecorded_any A1 _ l1 _ hn1 h1).mono ?_; rintro e w2 ⟨rfl, hb2⟩; rw [hm1])
    go_ret2
    exact ⟨rfl, hb2⟩
  cases hm2 : recB l2
  · rw [rafV_no2 hm2]
    go_enter Try.func14, Try.ntmps14
    go_wp2_with fail
    refine (areRecorded_any A1 _ l1 _ hn1 h1).mono ?_
    rintro e w1 ⟨rfl, hb1⟩
    rw [hm1]
    go_wp2_with fail
    refine (areRecorded_any A2 _ l2 _ hn2 (h2.below hb1 (Nat.le_refl _))).mono ?_
    rintro e w2 ⟨rfl, hb2'⟩
    rw [hm2]
    have hb2 := hb1.trans (hb2'.mono hb1.size)
    clear hb1 hb2'
    go_wp2
    go_ret2
    exact ⟨rfl, hb2⟩
  · rw [rafV_yes hm1 hm2]
    go_enter Try.func14, Try.ntmps14
    go_wp2_with fail
    refine (areRecorded_any A1 _ l1 _ hn1 h1).mono ?_
    rintro e w1 ⟨rfl, hb1⟩
    rw [hm1]
    go_wp2_with fail
    refine (areRecorded_any A2 _ l2 _ hn2 (h2.below hb1 (Nat.le_refl _))).mono ?_
    rintro e w2 ⟨rfl, hb2'⟩
    rw [hm2]
    have hb2 := hb1.trans (hb2'.mono hb1.size)
    clear hb1 hb2'
    go_wp2
    go_loopw [6] (fun n wr => ∃ k : Nat, k ≤ l1.length ∧ n = .int .i64 k ∧ Hid (raf l1 l2 = k + raf (l1.drop k) (l2.drop k)) ∧ RdT moveT wr A1 l1 ∧ RdT moveT wr A2 l2 ∧ Below w.heap.size w wr) (fun n _ => l1.length - (intOf n).toNat)
    case atStart => exact ⟨0, by omega, rfl, Lib.hid (by simp), h1.below hb2 (Nat.le_refl _), h2.below hb2 (Nat.le_refl _), hb2⟩
    case round =>
      clear hm1 hm2 h1 h2 hb2
      obtain ⟨k, hk, rfl, E, h1, h2, hb⟩ := hrel
      have hz := hb.size
      by_cases hlt1 : k < l1.length
      · have hd1 : decide ((k : Int) < l1.length) = true := decide_eq_true (by omega)
        by_cases hlt2 : k < l2.length
        · have hd2 : decide ((k : Int) < l2.length) = true := decide_eq_true (by omega)
          obtain ⟨b, off, x0, x1, x2, rfl, hx, _, hc1, hc2, hc3⟩ := moveT_at h1 hlt1
          obtain ⟨b', off', y0, y1, y2, rfl, hy, _, hd1', hd2', hd3'⟩ := moveT_at h2 hlt2
          have heq := eq_move x0 x1 x2 y0 y1 y2
          cases hs : sameM ⟨x0, x1, x2⟩ ⟨y0, y1, y2⟩
          · have E2 := Lib.hid (show raf l1 l2 = k by rw [E.out, raf_stop hx hy hs]; rfl)
            clear E hx hy
            go_wp2_with fail
            go_quiet (fail)
            go_wp2
            go_ret2
            refine ⟨?_, below_drewN hb _⟩
            rw [E2.out]; rfl
          · have E2 := Lib.hid (show raf l1 l2 = (k + 1 : Nat) + raf (l1.drop (k + 1)) (l2.drop (k + 1)) by rw [E.out, raf_step hx hy hs]; omega)
            clear E hx hy
            go_wp2_with fail
            go_quiet (fail)
            go_wp2
            go_roundw
            case rel => exact ⟨k + 1, by omega, by go_num, E2, h1, h2, below_drewN hb _⟩
            case measure => simp [intOf]; omega
        · have hd2 : decide ((k : Int) < l2.length) = false := decide_eq_false (by omega)
          have E2 := Lib.hid (show raf l1 l2 = k by rw [E.out, raf_end2 (by omega)]; rfl)
          clear E
          go_wp2_with fail
          go_quiet (fail)
          go_wp2
          go_ret2
          refine ⟨?_, below_drewN hb _⟩
          rw [E2.out]; rfl
      · have hd1 : decide ((k : Int) < l1.length) = false := decide_eq_false (by omega)
        have E2 := Lib.hid (show raf l1 l2 = k by rw [E.out, raf_end1 (by omega)]; rfl)
        clear E
        go_wp2_with fail
        go_quiet (fail)
        go_wp2
        go_ret2
        refine ⟨?_, below_drewN hb _⟩
        rw [E2.out]; rfl
set_option maxHeartbeats 1600000 in
theorem rightAtFirstS_any (A1 : Option Addr) (c1 : Nat) (l1 : List MoveV) (A2 : Option Addr) (c2 : Nat) (l2 : List MoveV) (w : World) (hn1 : l1.length ≤ 16777216) (h1 : RdT moveT w A1 l1) (hn2 : l2.length ≤ 16777216) (h2 : RdT moveT w A2 l2) :
    Calls Try.prog 12 #[.slice A1 l1.length c1, .slice A2 l2.length c2] w (RetN w (rafV l1 l2) (recB l1 && recB l2)) := by
  cases hm1 : recB l1
  · rw [rafV_no1 hm1]
    go_enter Try.func12, Try.ntmps12
    go_wp2_with (go_at_call 41; refine (l19Both_any A1 A2 _ _ l1 l2 _ hn1 hn2 h1 h2).mono ?_; rintro e w2 ⟨rfl, hb2⟩; rw [hm1])
    go_ret2
    exact ⟨rfl, hb2⟩
  cases hm2 : recB l2
  · rw [rafV_no2 hm2]
    go_enter Try.func12, Try.ntmps12
    go_wp2_with (go_at_call 41; refine (l19Both_any A1 A2 _ _ l1 l2 _ hn1 hn2 h1 h2).mono ?_; rintro e w2 ⟨rfl, hb2⟩; rw [hm1, hm2])
    go_ret2
    exact ⟨rfl, hb2⟩
  · rw [rafV_yes hm1 hm2]
    go_enter Try.func12, Try.ntmps12
    go_wp2_with (go_at_call 41; refine (l19Both_any A1 A2 _ _ l1 l2 _ hn1 hn2 h1 h2).mono ?_; rintro e w2 ⟨rfl, hb2⟩; rw [hm1, hm2])
    go_wp2
    go_loopw [6] (fun n wr => ∃ k : Nat, k ≤ l1.length ∧ n = .int .i64 k ∧ Hid (raf l1 l2 = k + raf (l1.drop k) (l2.drop k)) ∧ RdT moveT wr A1 l1 ∧ RdT moveT wr A2 l2 ∧ Below w.heap.size w wr) (fun n _ => l1.length - (intOf n).toNat)
    case atStart => exact ⟨0, by omega, rfl, Lib.hid (by simp), h1.below hb2 (Nat.le_refl _), h2.below hb2 (Nat.le_refl _), hb2⟩
    case round =>
      clear hm1 hm2 h1 h2 hb2
      obtain ⟨k, hk, rfl, E, h1, h2, hb⟩ := hrel
      have hz := hb.size
      by_cases hlt1 : k < l1.length
      · have hd1 : decide ((k : Int) < l1.length) = true := decide_eq_true (by omega)
        by_cases hlt2 : k < l2.length
        · have hd2 : decide ((k : Int) < l2.length) = true := decide_eq_true (by omega)
          obtain ⟨b, off, x0, x1, x2, rfl, hx, _, hc1, hc2, hc3⟩ := moveT_at h1 hlt1
          obtain ⟨b', off', y0, y1, y2, rfl, hy, _, hd1', hd2', hd3'⟩ := moveT_at h2 hlt2
          have heq := eq_move x0 x1 x2 y0 y1 y2
          cases hs : sameM ⟨x0, x1, x2⟩ ⟨y0, y1, y2⟩
          · have E2 := Lib.hid (show raf l1 l2 = k by rw [E.out, raf_stop hx hy hs]; rfl)
            clear E hx hy
            go_wp2_with fail
            go_quiet (fail)
            go_wp2
            go_ret2
            refine ⟨?_, below_drewN hb _⟩
            rw [E2.out]; rfl
          · have E2 := Lib.hid (show raf l1 l2 = (k + 1 : Nat) + raf (l1.drop (k + 1)) (l2.drop (k + 1)) by rw [E.out, raf_step hx hy hs]; omega)
            clear E hx hy
            go_wp2_with fail
            go_quiet (fail)
            go_wp2
            go_roundw
            case rel => exact ⟨k + 1, by omega, by go_num, E2, h1, h2, below_drewN hb _⟩
            case measure => simp [intOf]; omega
        · have hd2 : decide ((k : Int) < l2.length) = false := decide_eq_false (by omega)
          have E2 := Lib.hid (show raf l1 l2 = k by rw [E.out, raf_end2 (by omega)]; rfl)
          clear E
          go_wp2_with fail
          go_quiet (fail)
          go_wp2
          go_ret2
          refine ⟨?_, below_drewN hb _⟩
          rw [E2.out]; rfl
      · have hd1 : decide ((k : Int) < l1.length) = false := decide_eq_false (by omega)
        have E2 := Lib.hid (show raf l1 l2 = k by rw [E.out, raf_end1 (by omega)]; rfl)
        clear E
        go_wp2_with fail
        go_quiet (fail)
        go_wp2
        go_ret2
        refine ⟨?_, below_drewN hb _⟩
        rw [E2.out]; rfl
end Go.Proofs.Ytkcbldaondflmaa
