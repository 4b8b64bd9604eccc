/-
  FirstOnes, of the program and of the reference: contracts.
-/
import Derived.Test.YtlmcnlakgjhalaaExF
namespace Go.Proofs.Ytlmcnlakgjhalaa
open Go.RowKit

/-- A call that returns a slice of pairs of its own, and whether there is one. -/
def RetP (w : World) (l : List (Int × Int)) (ok : Bool) (e : Ending) (w' : World) : Prop :=
  ∃ A c, e = .returned (.tuple #[.slice A l.length c, .bool ok]) ∧ OwnT pairT w' w.heap.size (.slice A l.length c) l ∧ Below w.heap.size w w'
theorem OwnP.empty (w : World) (base : Nat) (hb : base ≤ w.heap.size) : OwnT pairT (w.alloc (.cells #[] 45)) base (.slice (some ⟨w.heap.size, 0, none⟩) 0 0) [] := World.ownsRow_lit w #[] 0 hb (by unfold maxLen; omega) rfl

def firstOk (c n : Int) : Bool := inB c 0 2 && inB n 0 12
def firstV (c n : Int) : List (Int × Int) := if firstOk c n = true then (tab (carriesP c) 10 90 90).take n.toNat else []
theorem firstV_yes {c n : Int} (h : firstOk c n = true) : firstV c n = (tab (carriesP c) 10 90 90).take n.toNat := if_pos h
theorem firstV_no {c n : Int} (h : firstOk c n = false) : firstV c n = [] := if_neg (by simp [h])

theorem firstV_len (c n : Int) : (firstV c n).length ≤ 12 := by
  cases h : firstOk c n
  · rw [firstV_no h]; simp
  · rw [firstV_yes h]
    simp only [firstOk, Bool.and_eq_true] at h
    have := (inB_iff _ _ _).1 h.2
    rw [List.length_take]
    omega
attribute [irreducible] firstV

set_option maxHeartbeats 800000 in
theorem firstOnesI_any (c n : Int) (w : World) : Calls Try.prog 31 #[.int .i64 c, .int .i64 n] w (RetP w (firstV c n) (firstOk c n)) := by
  cases hx : inB c 0 2
  · have e1 : firstOk c n = false := by simp [firstOk, hx]
    rw [firstV_no e1, e1]
    go_enter Try.func31, Try.ntmps31
    go_wp2_with (first | (go_at_call 55; refine (within_any _ _ _ _).mono ?_; rintro e w' ⟨rfl, rfl⟩))
    go_ret2
    exact ⟨none, 0, rfl, OwnT.nil _ _, Below.refl _ _⟩
  cases hy : inB n 0 12
  · have e1 : firstOk c n = false := by simp [firstOk, hy]
    rw [firstV_no e1, e1]
    go_enter Try.func31, Try.ntmps31
    go_wp2_with (first | (go_at_call 55; refine (within_any _ _ _ _).mono ?_; rintro e w' ⟨rfl, rfl⟩))
    go_ret2
    exact ⟨none, 0, rfl, OwnT.nil _ _, Below.refl _ _⟩
  have e1 : firstOk c n = true := by simp [firstOk, hx, hy]
  obtain ⟨h1, h2⟩ := (inB_iff _ _ _).1 hy
  rw [firstV_yes e1, e1]
  have hp := fun W => exercisesOf_any 10 99 c n W (by omega) (by omega) (by omega) h1 (by omega)
  rw [show ((99 : Int) - 10 + 1).toNat = 90 from rfl] at hp
  generalize (tab (carriesP c) 10 90 90).take n.toNat = l at *
  have HP := Lib.hid hp
  clear hp
  go_enter Try.func31, Try.ntmps31
  go_wp2_with (first | (go_at_call 55; refine (within_any _ _ _ _).mono ?_; rintro e w' ⟨rfl, rfl⟩) | (go_at_call 58; refine (HP.out _).mono ?_; rintro e w1 ⟨A, cc, rfl, hown, hb⟩))
  go_ret2
  exact ⟨A, cc, rfl, hown, hb⟩

set_option maxHeartbeats 1600000 in
theorem firstOnesS_any (c n : Int) (w : World) : Calls Try.prog 30 #[.int .i64 c, .int .i64 n] w (RetP w (firstV c n) (firstOk c n)) := by
  cases hx : inB c 0 2
  · have e1 : firstOk c n = false := by simp [firstOk, hx]
    rw [firstV_no e1, e1]
    go_enter Try.func30, Try.ntmps30
    go_wp2_with (first | (go_at_call 52; refine (l1In_any _ _ _ _).mono ?_; rintro e w' ⟨rfl, rfl⟩))
    go_ret2
    exact ⟨_, 0, rfl, OwnP.empty _ _ (Nat.le_refl _), (Below.refl _ _).alloc (Nat.le_refl _) _⟩
  cases hy : inB n 0 12
  · have e1 : firstOk c n = false := by simp [firstOk, hy]
    rw [firstV_no e1, e1]
    go_enter Try.func30, Try.ntmps30
    go_wp2_with (first | (go_at_call 52; refine (l1In_any _ _ _ _).mono ?_; rintro e w' ⟨rfl, rfl⟩))
    go_ret2
    exact ⟨_, 0, rfl, OwnP.empty _ _ (Nat.le_refl _), (Below.refl _ _).alloc (Nat.le_refl _) _⟩
  have e1 : firstOk c n = true := by simp [firstOk, hx, hy]
  obtain ⟨h1, h2⟩ := (inB_iff _ _ _).1 hy
  rw [firstV_yes e1, e1, ← gath_end]
  obtain ⟨q, rfl⟩ := Int.eq_ofNat_of_zero_le h1
  rw [Int.toNat_natCast]
  go_enter Try.func30, Try.ntmps30
  go_wp2_with (first | (go_at_call 52; refine (l1In_any _ _ _ _).mono ?_; rintro e w' ⟨rfl, rfl⟩))
  go_loopw [6, 7] (fun o x wr => ∃ (i : Nat) (A : Option Addr) (cc : Nat), i ≤ 90 ∧ x = .int .i64 (10 + i) ∧ o = .slice A (gath (carriesP c) 10 90 i 0 q).length cc ∧ OwnT pairT wr w.heap.size (.slice A (gath (carriesP c) 10 90 i 0 q).length cc) (gath (carriesP c) 10 90 i 0 q) ∧ Below w.heap.size w wr) (fun _ x _ => (100 - intOf x).toNat)
  case atStart => exact ⟨0, _, 0, by omega, rfl, by rw [gath_zero]; rfl, by rw [gath_zero]; exact OwnP.empty _ _ (Nat.le_refl _), (Below.refl _ _).alloc (Nat.le_refl _) _⟩
  case round =>
    obtain ⟨i, A, cc, hi, rfl, rfl, hown, hb⟩ := hrel
    by_cases hlt : i < 90
    · have hd0 : decide (10 + (i : Int) ≤ 99) = true := by simp; omega
      go_wp2
      obtain ⟨wo, rfl⟩ : ∃ wo : World, wo = wr := ⟨_, rfl⟩
      go_loopw [6, 8] (fun o y wr => ∃ (j : Nat) (A : Option Addr) (cc : Nat), j ≤ 90 ∧ y = .int .i64 (10 + j) ∧ o = .slice A (gath (carriesP c) 10 90 i j q).length cc ∧ OwnT pairT wr w.heap.size (.slice A (gath (carriesP c) 10 90 i j q).length cc) (gath (carriesP c) 10 90 i j q) ∧ Below w.heap.size w wr) (fun _ y _ => (100 - intOf y).toNat)
      case atStart => exact ⟨0, A, cc, by omega, rfl, rfl, hown, hb⟩
      case round =>
        obtain ⟨j, A', cc', hj, rfl, rfl, hown', hb'⟩ := hrel
        clear hown hb
        have hql := gath_len (carriesP c) 10 90 i j q
        have hz := hb'.size
        by_cases hjm : j < 90
        · by_cases hfull : (gath (carriesP c) 10 90 i j q).length < q
          · have hcol := fun W => columns_any (10 + i) (10 + j) W (by omega) (by omega) (by omega) (by omega)
            cases hh : carriesP c (10 + i) (10 + j)
            · have hd : (((cols (10 + i) (10 + j) 4).length : Int) == c) = false := by simpa [carriesP] using hh
              have E := Lib.hid (gath_miss (m := 90) (most := q) hh)
              clear hh
              generalize cols (10 + i) (10 + j) 4 = l at *
              have HC := Lib.hid hcol
              clear hcol
              go_wp2_with (go_at_call 53; refine (HC.out _).mono ?_; rintro e w1 ⟨A1, c1, rfl, hown1, hb1⟩)
              go_roundw
              case rel => exact ⟨j + 1, A', cc', by omega, by go_num, by rw [E.out], by rw [E.out]; exact hown'.below hb1 (Nat.le_refl _), hb'.trans (hb1.mono hb'.size)⟩
              case measure => simp [intOf]; omega
            · have hd : (((cols (10 + i) (10 + j) 4).length : Int) == c) = true := by simpa [carriesP] using hh
              have E := Lib.hid (gath_hit (m := 90) (most := q) hh hfull)
              clear hh
              generalize cols (10 + i) (10 + j) 4 = l at *
              have HC := Lib.hid hcol
              clear hcol
              go_wp2_with (first | (go_at_call 53; refine (HC.out _).mono ?_; rintro e w1 ⟨A1, c1, rfl, hown1, hb1⟩; have hown2 := hown'.below hb1 (Nat.le_refl _); have hb2 := hb'.trans (hb1.mono hb'.size); have hz2 := hb2.size) | (at_builtin; refine wpList_appT pairT rfl _ _ rfl w.heap.size _ _ rfl hown2 w.heap.size hb2 (10 + i, 10 + j) _ rfl 1 1 rfl rfl (by omega) hz2 (Nat.le_refl _) ?_; intro A3 c3 w3 hown3 hb3 hgr3))
              go_roundw
              case rel => exact ⟨j + 1, A3, c3, by omega, by go_num, by rw [E.out, List.length_append]; rfl, by rw [E.out]; rw [List.length_append]; exact hown3, hb3⟩
              case measure => simp [intOf]; omega
          · have E := Lib.hid ((gath_next (carriesP c) 10 90 i q).trans (gath_full (j := j) (by omega) (by omega)).symm)
            go_wp2
            go_roundw
            case rel => exact ⟨i + 1, A', cc', by omega, by go_num, by rw [E.out], by rw [E.out]; exact hown', hb'⟩
            case measure => simp [intOf]; omega
        · obtain rfl : j = 90 := by omega
          have E := Lib.hid (gath_next (carriesP c) 10 90 i q)
          go_wp2
          go_roundw
          case rel => exact ⟨i + 1, A', cc', by omega, by go_num, by rw [E.out], by rw [E.out]; exact hown', hb'⟩
          case measure => simp [intOf]; omega
    · obtain rfl : i = 90 := by omega
      go_wp2
      go_ret2
      exact ⟨A, cc, rfl, hown, hb⟩
end Go.Proofs.Ytlmcnlakgjhalaa
