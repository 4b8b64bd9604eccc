/-
  The chain, the partner, and the tables of exercises: contracts of the program and of the reference.
-/
import Derived.Test.YtlmcnlakgjhalaaExC
namespace Go.Proofs.Ytlmcnlakgjhalaa
open Go.RowKit

/-- A call that returns a number, and whether there is one. -/
def RetN (w : World) (n : Int) (ok : Bool) (e : Ending) (w' : World) : Prop := e = .returned (.tuple #[.int .i64 n, .bool ok]) ∧ Below w.heap.size w w'

def chainR (a b : Int) : Int := if exB a b = true then chainV (cols a b 4) else 0
set_option maxHeartbeats 400000 in
theorem chainOfI_any (a b : Int) (w : World) : Calls Try.prog 24 #[.int .i64 a, .int .i64 b] w (RetN w (chainR a b) (exB a b)) := by
  cases hx : exB a b
  · have e : chainR a b = 0 := if_neg (by simp [hx])
    rw [e]
    go_enter Try.func24, Try.ntmps24
    go_wp2_with (go_at_call 61; refine (isExercise_any _ _ _).mono ?_; rintro e w' ⟨rfl, rfl⟩)
    go_ret2
    exact ⟨rfl, Below.refl _ _⟩
  · have e : chainR a b = chainV (cols a b 4) := if_pos hx
    rw [e]
    obtain ⟨⟨ha, ha'⟩, hb, hb'⟩ := (exB_iff _ _).1 hx
    have hcol := fun W => carry_any a b W ha ha' hb hb'
    have hbd := cols_bd a b 4
    have hll := cols_len a b 4
    generalize cols a b 4 = l at *
    have HC := Lib.hid hcol
    clear hcol
    go_enter Try.func24, Try.ntmps24
    go_wp2_with (first | (go_at_call 61; refine (isExercise_any _ _ _).mono ?_; rintro e w' ⟨rfl, rfl⟩) | (go_at_call 56; refine (HC.out _).mono ?_; rintro e w1 ⟨A, c, rfl, hown, hbl⟩) | (go_at_call 63; refine (chainOf_any A c l _ hll (fun k x hx => by have := hbd k x hx; omega) hown.rd).mono ?_; rintro e w2 ⟨rfl, hb2⟩))
    go_ret2
    exact ⟨rfl, hbl.trans (hb2.mono hbl.size)⟩
set_option maxHeartbeats 400000 in
theorem chainOfS_any (a b : Int) (w : World) : Calls Try.prog 23 #[.int .i64 a, .int .i64 b] w (RetN w (chainR a b) (exB a b)) := by
  cases hx : exB a b
  · have e : chainR a b = 0 := if_neg (by simp [hx])
    rw [e]
    go_enter Try.func23, Try.ntmps23
    go_wp2_with (go_at_call 60; refine (l20Good_any _ _ _).mono ?_; rintro e w' ⟨rfl, rfl⟩)
    go_ret2
    exact ⟨rfl, Below.refl _ _⟩
  · have e : chainR a b = chainV (cols a b 4) := if_pos hx
    rw [e]
    obtain ⟨⟨ha, ha'⟩, hb, hb'⟩ := (exB_iff _ _).1 hx
    go_enter Try.func23, Try.ntmps23
    go_wp2_with (first | (go_at_call 60; refine (l20Good_any _ _ _).mono ?_; rintro e w' ⟨rfl, rfl⟩) | (go_at_call 62; refine (l20Chain_any a b _ ha ha' hb hb').mono ?_; rintro e w1 ⟨rfl, hbl⟩))
    go_ret2
    exact ⟨rfl, hbl⟩

/-! ### the partner -/
def hit (a c : Int) (b : Nat) : Bool := decide (((cols a b 4).length : Int) = c)
def partnerF (a c : Int) : Option Nat := (List.range 10000).find? (hit a c)
def partnerOk (a c : Int) : Bool := inB a 0 9999 && inB c 0 4
def partnerV (a c : Int) : Int × Bool := if partnerOk a c = true then (match partnerF a c with | some b => ((b : Int), true) | none => (0, false)) else (0, false)
theorem partnerV_no {a c : Int} (h : partnerOk a c = false) : partnerV a c = (0, false) := if_neg (by simp [h])
theorem partnerV_some {a c : Int} {k : Nat} (h : partnerOk a c = true) (hf : partnerF a c = some k) : partnerV a c = ((k : Int), true) := by unfold partnerV; rw [if_pos h, hf]
theorem partnerV_none {a c : Int} (h : partnerOk a c = true) (hf : partnerF a c = none) : partnerV a c = (0, false) := by unfold partnerV; rw [if_pos h, hf]
theorem partner_some {a c : Int} {k : Nat} (hk : k < 10000) (h : ∀ j, j < k → hit a c j = false) (hh : hit a c k = true) : partnerF a c = some k := by
  unfold partnerF
  rw [List.find?_range_eq_some]
  exact ⟨hh, List.mem_range.2 hk, fun j hj => by simp [h j hj]⟩
theorem partner_none {a c : Int} (h : ∀ j, j < 10000 → hit a c j = false) : partnerF a c = none := by
  unfold partnerF
  rw [List.find?_eq_none]
  intro x hx
  simp [h x (List.mem_range.1 hx)]

attribute [irreducible] partnerF partnerV

set_option maxHeartbeats 800000 in
theorem partnerI_any (a c : Int) (w : World) : Calls Try.prog 15 #[.int .i64 a, .int .i64 c] w (RetN w (partnerV a c).1 (partnerV a c).2) := by
  cases hx : inB a 0 9999
  · rw [partnerV_no (by simp [partnerOk, hx])]
    go_enter Try.func15, Try.ntmps15
    go_wp2_with (first | (go_at_call 54; refine (isFactor_any _ _).mono ?_; rintro e w' ⟨rfl, rfl⟩) | (go_at_call 55; refine (within_any _ _ _ _).mono ?_; rintro e w' ⟨rfl, rfl⟩))
    go_ret2
    exact ⟨rfl, Below.refl _ _⟩
  cases hy : inB c 0 4
  · rw [partnerV_no (by simp [partnerOk, hx, hy])]
    go_enter Try.func15, Try.ntmps15
    go_wp2_with (first | (go_at_call 54; refine (isFactor_any _ _).mono ?_; rintro e w' ⟨rfl, rfl⟩) | (go_at_call 55; refine (within_any _ _ _ _).mono ?_; rintro e w' ⟨rfl, rfl⟩))
    go_ret2
    exact ⟨rfl, Below.refl _ _⟩
  · have hp : partnerOk a c = true := by simp [partnerOk, hx, hy]
    obtain ⟨ha, ha'⟩ := (inB_iff _ _ _).1 hx
    obtain ⟨hc, hc'⟩ := (inB_iff _ _ _).1 hy
    have HP := Lib.hid hp
    clear hp
    go_enter Try.func15, Try.ntmps15
    go_wp2_with (first | (go_at_call 54; refine (isFactor_any _ _).mono ?_; rintro e w' ⟨rfl, rfl⟩) | (go_at_call 55; refine (within_any _ _ _ _).mono ?_; rintro e w' ⟨rfl, rfl⟩))
    go_loopw [6] (fun i wr => ∃ k : Nat, k ≤ 10000 ∧ i = .int .i64 k ∧ Hid (∀ j, j < k → hit a c j = false) ∧ Below w.heap.size w wr) (fun i _ => 10000 - (intOf i).toNat)
    case atStart => exact ⟨0, by omega, rfl, fun j hj => by omega, Below.refl _ _⟩
    case round =>
      obtain ⟨k, hk, rfl, hno, hb⟩ := hrel
      by_cases hlt : k < 10000
      · have hcol := fun W => carry_any a (k : Int) W ha ha' (by omega) (by omega)
        have hll := cols_len a k 4
        cases hh : hit a c k
        · have hd : (((cols a k 4).length : Int) == c) = false := by simpa [hit] using hh
          have hno' := Lib.hid (fun j (hj : j < k + 1) => by
            by_cases e : j = k
            · rw [e]; exact hh
            · exact hno.out j (by omega) : ∀ j, j < k + 1 → hit a c j = false)
          generalize cols a k 4 = l at *
          have HC := Lib.hid hcol
          clear hcol hh hno
          go_wp2_with (go_at_call 56; refine (HC.out _).mono ?_; rintro e w1 ⟨A, cc, rfl, hown, hbl⟩)
          go_roundw
          case rel => exact ⟨k + 1, by omega, by go_num, hno', hb.trans (hbl.mono hb.size)⟩
          case measure => simp [intOf]; omega
        · have hd : (((cols a k 4).length : Int) == c) = true := by simpa [hit] using hh
          have E := Lib.hid (partnerV_some HP.out (partner_some hlt hno.out hh))
          generalize cols a k 4 = l at *
          have HC := Lib.hid hcol
          clear hcol hh hno
          go_wp2_with (go_at_call 56; refine (HC.out _).mono ?_; rintro e w1 ⟨A, cc, rfl, hown, hbl⟩)
          go_ret2
          unfold RetN
          rw [E.out]
          exact ⟨rfl, hb.trans (hbl.mono hb.size)⟩
      · obtain rfl : k = 10000 := by omega
        have E := Lib.hid (partnerV_none HP.out (partner_none hno.out))
        clear hno
        go_wp2
        go_ret2
        unfold RetN
        rw [E.out]
        exact ⟨rfl, hb⟩
set_option maxHeartbeats 800000 in
theorem partnerS_any (a c : Int) (w : World) : Calls Try.prog 14 #[.int .i64 a, .int .i64 c] w (RetN w (partnerV a c).1 (partnerV a c).2) := by
  cases hx : inB a 0 9999
  · rw [partnerV_no (by simp [partnerOk, hx])]
    go_enter Try.func14, Try.ntmps14
    go_wp2_with (first | (go_at_call 51; refine (l9Factor_any _ _).mono ?_; rintro e w' ⟨rfl, rfl⟩) | (go_at_call 52; refine (l1In_any _ _ _ _).mono ?_; rintro e w' ⟨rfl, rfl⟩))
    go_ret2
    exact ⟨rfl, Below.refl _ _⟩
  cases hy : inB c 0 4
  · rw [partnerV_no (by simp [partnerOk, hx, hy])]
    go_enter Try.func14, Try.ntmps14
    go_wp2_with (first | (go_at_call 51; refine (l9Factor_any _ _).mono ?_; rintro e w' ⟨rfl, rfl⟩) | (go_at_call 52; refine (l1In_any _ _ _ _).mono ?_; rintro e w' ⟨rfl, rfl⟩))
    go_ret2
    exact ⟨rfl, Below.refl _ _⟩
  · have hp : partnerOk a c = true := by simp [partnerOk, hx, hy]
    obtain ⟨ha, ha'⟩ := (inB_iff _ _ _).1 hx
    obtain ⟨hc, hc'⟩ := (inB_iff _ _ _).1 hy
    have HP := Lib.hid hp
    clear hp
    go_enter Try.func14, Try.ntmps14
    go_wp2_with (first | (go_at_call 51; refine (l9Factor_any _ _).mono ?_; rintro e w' ⟨rfl, rfl⟩) | (go_at_call 52; refine (l1In_any _ _ _ _).mono ?_; rintro e w' ⟨rfl, rfl⟩))
    go_loopw [6] (fun i wr => ∃ k : Nat, k ≤ 10000 ∧ i = .int .i64 k ∧ Hid (∀ j, j < k → hit a c j = false) ∧ Below w.heap.size w wr) (fun i _ => 10000 - (intOf i).toNat)
    case atStart => exact ⟨0, by omega, rfl, fun j hj => by omega, Below.refl _ _⟩
    case round =>
      obtain ⟨k, hk, rfl, hno, hb⟩ := hrel
      by_cases hlt : k < 10000
      · have hcol := fun W => columns_any a (k : Int) W ha ha' (by omega) (by omega)
        have hll := cols_len a k 4
        cases hh : hit a c k
        · have hd : (((cols a k 4).length : Int) == c) = false := by simpa [hit] using hh
          have hno' := Lib.hid (fun j (hj : j < k + 1) => by
            by_cases e : j = k
            · rw [e]; exact hh
            · exact hno.out j (by omega) : ∀ j, j < k + 1 → hit a c j = false)
          generalize cols a k 4 = l at *
          have HC := Lib.hid hcol
          clear hcol hh hno
          go_wp2_with (go_at_call 53; refine (HC.out _).mono ?_; rintro e w1 ⟨A, cc, rfl, hown, hbl⟩)
          go_roundw
          case rel => exact ⟨k + 1, by omega, by go_num, hno', hb.trans (hbl.mono hb.size)⟩
          case measure => simp [intOf]; omega
        · have hd : (((cols a k 4).length : Int) == c) = true := by simpa [hit] using hh
          have E := Lib.hid (partnerV_some HP.out (partner_some hlt hno.out hh))
          generalize cols a k 4 = l at *
          have HC := Lib.hid hcol
          clear hcol hh hno
          go_wp2_with (go_at_call 53; refine (HC.out _).mono ?_; rintro e w1 ⟨A, cc, rfl, hown, hbl⟩)
          go_ret2
          unfold RetN
          rw [E.out]
          exact ⟨rfl, hb.trans (hbl.mono hb.size)⟩
      · obtain rfl : k = 10000 := by omega
        have E := Lib.hid (partnerV_none HP.out (partner_none hno.out))
        clear hno
        go_wp2
        go_ret2
        unfold RetN
        rw [E.out]
        exact ⟨rfl, hb⟩
end Go.Proofs.Ytlmcnlakgjhalaa
