/-
  Frames: standard, number, own copy, digit of a number, the moves of a rod: contracts of the reference's functions.
-/
import Derived.Test.YtkcbldaondflmaaFrmA
import Derived.Test.YtkcbldaondflmaaStaB
import Derived.Test.YtkcbldaondflmaaSpreadR
import Derived.Test.YtkcbldaondflmaaMove
import Derived.Test.YtkcbldaondflmaaRecH
namespace Go.Proofs.Ytkcbldaondflmaa
open Go.RowKit

def stdR (r : Int × Int) : Bool := !decide (1 < r.1) && !decide (4 < r.2)
def stdF (up lo : Int) (R : List (Int × Int)) : Bool := R.all stdR && goodF up lo R
theorem stdF_bad {up lo : Int} {R : List (Int × Int)} (h : R.all stdR = false) : stdF up lo R = false := by simp [stdF, h]
theorem stdF_all {up lo : Int} {R : List (Int × Int)} (h : R.all stdR = true) : stdF up lo R = goodF up lo R := by simp [stdF, h]
theorem stdF_len {up lo : Int} {R : List (Int × Int)} (h : stdF up lo R = true) : 1 ≤ R.length ∧ R.length ≤ 8 := by
  simp only [stdF, Bool.and_eq_true] at h
  exact goodF_len h.2
set_option maxRecDepth 100000 in
set_option maxHeartbeats 4000000 in
theorem l2Standard_any (up lo : Int) (A : Option Addr) (c : Nat) (R : List (Int × Int)) (w : World) (hn : R.length ≤ 1000) (h : RdT rodT w A R) :
    Calls Try.prog 76 #[.agg #[.int .i64 up, .int .i64 lo, .slice A R.length c]] w fun e w' => e = .returned (.bool (stdF up lo R)) ∧ Below w.heap.size w w' := by
  obtain ⟨wb, hwb⟩ : ∃ wb : World, wb = w.alloc (.cells #[.int .i64 up, .int .i64 lo, .slice A R.length c] 71) := ⟨_, rfl⟩
  obtain ⟨tb, htb⟩ : ∃ tb : Nat, tb = w.heap.size := ⟨_, rfl⟩
  have BT : Blk wb tb 71 #[.int .i64 up, .int .i64 lo, .slice A R.length c] := by rw [hwb, htb]; exact Blk.new w _ _
  have hb0 : Below w.heap.size w wb := by rw [hwb]; exact (Below.refl _ _).alloc (Nat.le_refl _) _
  have h := h.below hb0 (Nat.le_refl _)
  have b0 := BT.cell 0
  have b1 := BT.cell 1
  have b2 := BT.cell 2
  have K := l2Good_any up lo A c R wb hn h
  go_enter Try.func76, Try.ntmps76
  go_upto_region 1 with fail
  rw [← hwb, ← htb]
  clear hwb htb
  go_wp2_with fail
  go_loopw [3] (fun i wr => ∃ k : Nat, k ≤ R.length ∧ i = .int .i64 k ∧ Hid ((R.take k).all stdR = true) ∧ wr = wb) (fun i _ => R.length - (intOf i).toNat)
  case atStart => exact ⟨0, by omega, rfl, Lib.hid (by simp), rfl⟩
  case round =>
    obtain ⟨k, hk, rfl, hall, rfl⟩ := hrel
    by_cases hlt : k < R.length
    · obtain ⟨b, off, p, q, rfl, hx, hlb, e0, e1⟩ := rod_at h hlt
      have j1 : (k : Int) < (R.length : Int) := by omega
      by_cases g1 : 1 < p
      · have E := Lib.hid (stdF_bad (up := up) (lo := lo) (all_bad stdR hx (show stdR (p, q) = false by simp [stdR, g1])))
        have d1 : decide (1 < p) = true := decide_eq_true g1
        clear hx g1
        go_wp2
        go_ret
        exact ⟨by rw [E.out]; rfl, hb0⟩
      · have d1 : decide (1 < p) = false := decide_eq_false g1
        by_cases g2 : 4 < q
        · have E := Lib.hid (stdF_bad (up := up) (lo := lo) (all_bad stdR hx (show stdR (p, q) = false by simp [stdR, g2])))
          have d2 : decide (4 < q) = true := decide_eq_true g2
          clear hx g1 g2
          go_wp2
          go_ret
          exact ⟨by rw [E.out]; rfl, hb0⟩
        · have hall' := Lib.hid (show (R.take (k + 1)).all stdR = true by rw [all_succ stdR hx, hall.out]; simp [stdR, g1, g2])
          have d2 : decide (4 < q) = false := decide_eq_false g2
          clear hx hall g1 g2
          go_wp2
          go_roundw
          case rel => exact ⟨k + 1, by omega, by go_num, hall', by first | rfl | trivial⟩
          case measure => first | (simp [intOf]; done) | (simp [intOf]; omega)
    · have hall2 : R.all stdR = true := by rw [← all_take R stdR k (by omega)]; exact hall.out
      have EG := Lib.hid (stdF_all (up := up) (lo := lo) hall2)
      clear hall hall2
      have d1 : decide (k < R.length) = false := decide_eq_false hlt
      go_wp2_with fail
      refine K.mono ?_
      rintro e w2 ⟨rfl, hb2⟩
      go_wp2_with fail
      go_ret
      exact ⟨by rw [EG.out]; rfl, hb0.trans (hb2.mono hb0.size)⟩
def numW (R : List (Int × Int)) : Nat → Int
  | 0 => 0
  | k + 1 => match R[k]? with
    | some r => wrap64 (wrap64 (10 * numW R k) + valW r.1 r.2)
    | none => numW R k
theorem numW_zero (R : List (Int × Int)) : numW R 0 = 0 := rfl
theorem numW_succ {R : List (Int × Int)} {k : Nat} {p q : Int} (hx : R[k]? = some (p, q)) : numW R (k + 1) = wrap64 (wrap64 (10 * numW R k) + valW p q) := by simp [numW, hx]
attribute [irreducible] numW
set_option maxRecDepth 100000 in
set_option maxHeartbeats 4000000 in
theorem l2Number_any (up lo : Int) (A : Option Addr) (c : Nat) (R : List (Int × Int)) (w : World) (hn : R.length ≤ 1000) (h : RdT rodT w A R) :
    Calls Try.prog 77 #[.agg #[.int .i64 up, .int .i64 lo, .slice A R.length c]] w fun e w' => e = .returned (.int .i64 (numW R R.length)) ∧ Below w.heap.size w w' := by
  obtain ⟨wb, hwb⟩ : ∃ wb : World, wb = w.alloc (.cells #[.int .i64 up, .int .i64 lo, .slice A R.length c] 71) := ⟨_, rfl⟩
  obtain ⟨tb, htb⟩ : ∃ tb : Nat, tb = w.heap.size := ⟨_, rfl⟩
  have BT : Blk wb tb 71 #[.int .i64 up, .int .i64 lo, .slice A R.length c] := by rw [hwb, htb]; exact Blk.new w _ _
  have hb0 : Below w.heap.size w wb := by rw [hwb]; exact (Below.refl _ _).alloc (Nat.le_refl _) _
  have h := h.below hb0 (Nat.le_refl _)
  have N0 := Lib.hid (numW_zero R)
  have N1 := Lib.hid (fun k p q hx => @numW_succ R k p q hx)
  generalize numW R = F at *
  go_enter Try.func77, Try.ntmps77
  go_upto_region 1 with fail
  rw [← hwb, ← htb]
  clear hwb htb
  go_wp2_with fail
  go_loopw [3, 4] (fun n i wr => ∃ k : Nat, k ≤ R.length ∧ i = .int .i64 k ∧ n = .int .i64 (F k) ∧ Below wb.heap.size wb wr) (fun _ i _ => R.length - (intOf i).toNat)
  case atStart => exact ⟨0, by omega, rfl, by rw [N0.out], Below.refl _ _⟩
  case round =>
    obtain ⟨k, hk, rfl, rfl, hb⟩ := hrel
    have b2 := (BT.below hb BT.lt).cell 2
    by_cases hlt : k < R.length
    · obtain ⟨b, off, p, q, rfl, hx, hlb, e0, e1⟩ := rod_at (h.below hb (Nat.le_refl _)) hlt
      have j1 : (k : Int) < (R.length : Int) := by omega
      have EN := Lib.hid (N1.out k p q hx)
      clear hx
      go_wp2_with fail
      refine (l2Value_any p q _).mono ?_
      rintro e w2 ⟨rfl, hb2⟩
      go_wp2_with fail
      go_roundw
      case rel => exact ⟨k + 1, by omega, by go_num, by rw [EN.out], hb.trans (hb2.mono hb.size)⟩
      case measure => first | (simp [intOf]; done) | (simp [intOf]; omega)
    · obtain rfl : k = R.length := by omega
      go_wp2
      go_ret
      exact ⟨rfl, hb0.trans (hb.mono hb0.size)⟩
end Go.Proofs.Ytkcbldaondflmaa
