/-
  The tables of exercises: HowMany and FirstOnes, of the program and of the reference.
-/
import Derived.Test.YtlmcnlakgjhalaaExD
namespace Go.Proofs.Ytlmcnlakgjhalaa
open Go.RowKit

/-! ### plain: a table of pairs, row by row -/
def tabRow (p : Int → Int → Bool) (lo a : Int) : Nat → List (Int × Int)
  | 0 => []
  | j + 1 => if p a (lo + j) then tabRow p lo a j ++ [(a, lo + j)] else tabRow p lo a j
def tab (p : Int → Int → Bool) (lo : Int) (m : Nat) : Nat → List (Int × Int)
  | 0 => []
  | i + 1 => tab p lo m i ++ tabRow p lo (lo + i) m
theorem tabRow_len (p : Int → Int → Bool) (lo a : Int) (j : Nat) : (tabRow p lo a j).length ≤ j := by
  induction j with
  | zero => simp [tabRow]
  | succ j ih =>
    simp only [tabRow]
    split
    · simp; omega
    · omega
theorem tab_len (p : Int → Int → Bool) (lo : Int) (m i : Nat) : (tab p lo m i).length ≤ i * m := by
  induction i with
  | zero => simp [tab]
  | succ i ih =>
    simp only [tab, List.length_append]
    have := tabRow_len p lo (lo + i) m
    rw [Nat.add_mul, Nat.one_mul]
    omega
theorem tabRow_prefix (p : Int → Int → Bool) (lo a : Int) {j m : Nat} (h : j ≤ m) : ∃ Z, tabRow p lo a m = tabRow p lo a j ++ Z := by
  induction h with
  | refl => exact ⟨[], by simp⟩
  | @step m _ ih =>
    obtain ⟨Z, hZ⟩ := ih
    simp only [tabRow]
    split
    · exact ⟨Z ++ [(a, lo + m)], by rw [hZ, List.append_assoc]⟩
    · exact ⟨Z, hZ⟩
/-- What is gathered at the place (i, j), of at most so many. -/
def gath (p : Int → Int → Bool) (lo : Int) (m i j most : Nat) : List (Int × Int) := (tab p lo m i ++ tabRow p lo (lo + i) j).take most
theorem gath_len (p : Int → Int → Bool) (lo : Int) (m i j most : Nat) : (gath p lo m i j most).length ≤ most := by simp [gath]; omega
theorem gath_hit {p : Int → Int → Bool} {lo : Int} {m i j most : Nat} (h : p (lo + i) (lo + j) = true) (hl : (gath p lo m i j most).length < most) : gath p lo m i (j + 1) most = gath p lo m i j most ++ [(lo + i, lo + j)] := by
  unfold gath at *
  have e : tabRow p lo (lo + i) (j + 1) = tabRow p lo (lo + i) j ++ [(lo + i, lo + j)] := if_pos h
  rw [e, ← List.append_assoc]
  rw [List.length_take] at hl
  rw [List.take_of_length_le (by rw [List.length_append, List.length_singleton]; omega), List.take_of_length_le (by omega)]
theorem gath_miss {p : Int → Int → Bool} {lo : Int} {m i j most : Nat} (h : p (lo + i) (lo + j) = false) : gath p lo m i (j + 1) most = gath p lo m i j most := by
  unfold gath
  have e : tabRow p lo (lo + i) (j + 1) = tabRow p lo (lo + i) j := if_neg (by simp [h])
  rw [e]
theorem gath_next (p : Int → Int → Bool) (lo : Int) (m i most : Nat) : gath p lo m (i + 1) 0 most = gath p lo m i m most := by simp [gath, tab, tabRow]
theorem gath_full {p : Int → Int → Bool} {lo : Int} {m i j most : Nat} (hj : j ≤ m) (hl : most ≤ (gath p lo m i j most).length) : gath p lo m i j most = gath p lo m i m most := by
  unfold gath at *
  obtain ⟨Z, hZ⟩ := tabRow_prefix p lo (lo + i) hj
  rw [hZ, ← List.append_assoc]
  rw [List.length_take] at hl
  exact (List.take_append_of_le_length (l₁ := tab p lo m i ++ tabRow p lo (lo + i) j) (by omega)).symm
theorem gath_zero (p : Int → Int → Bool) (lo : Int) (m most : Nat) : gath p lo m 0 0 most = [] := by simp [gath, tab, tabRow]
theorem gath_end (p : Int → Int → Bool) (lo : Int) (m most : Nat) : gath p lo m m 0 most = (tab p lo m m).take most := by simp [gath, tabRow]

/-- So many columns carry. -/
def carriesP (c a b : Int) : Bool := decide (((cols a b 4).length : Int) = c)

set_option maxHeartbeats 1600000 in
theorem exercisesOf_any (lo hi c most : Int) (w : World) (h0 : 0 ≤ lo) (h1 : lo ≤ hi) (h2 : hi ≤ 99) (h3 : 0 ≤ most) (h4 : most ≤ 10000) :
    Calls Try.prog 58 #[.int .i64 lo, .int .i64 hi, .int .i64 c, .int .i64 most] w fun e w' => ∃ A cc, e = .returned (.slice A ((tab (carriesP c) lo (hi - lo + 1).toNat (hi - lo + 1).toNat).take most.toNat).length cc) ∧
      OwnT pairT w' w.heap.size (.slice A ((tab (carriesP c) lo (hi - lo + 1).toNat (hi - lo + 1).toNat).take most.toNat).length cc) ((tab (carriesP c) lo (hi - lo + 1).toNat (hi - lo + 1).toNat).take most.toNat) ∧ Below w.heap.size w w' := by
  obtain ⟨m, hm⟩ : ∃ m : Nat, (m : Int) = hi - lo + 1 := ⟨(hi - lo + 1).toNat, by omega⟩
  obtain ⟨q, rfl⟩ := Int.eq_ofNat_of_zero_le h3
  rw [← hm, Int.toNat_natCast, Int.toNat_natCast]
  obtain rfl : hi = lo + m - 1 := by omega
  clear hm
  go_enter Try.func58, Try.ntmps58
  go_wp2
  go_loopw [9, 10] (fun o x wr => ∃ (i : Nat) (A : Option Addr) (cc : Nat), i ≤ m ∧ x = .int .i64 (lo + i) ∧ o = .slice A (gath (carriesP c) lo m i 0 q).length cc ∧ OwnT pairT wr w.heap.size (.slice A (gath (carriesP c) lo m i 0 q).length cc) (gath (carriesP c) lo m i 0 q) ∧ Below w.heap.size w wr) (fun _ x _ => (lo + m - intOf x).toNat)
  case atStart => exact ⟨0, none, 0, by omega, by go_num, by rw [gath_zero]; rfl, by rw [gath_zero]; exact OwnT.nil _ _, Below.refl _ _⟩
  case round =>
    obtain ⟨i, A, cc, hi, rfl, rfl, hown, hb⟩ := hrel
    by_cases hlt : i < m
    · have hd0 : decide (lo + (i : Int) ≤ lo + (m : Int) - 1) = true := by simp; omega
      go_wp2
      obtain ⟨wo, rfl⟩ : ∃ wo : World, wo = wr := ⟨_, rfl⟩
      go_loopw [9, 11] (fun o y wr => ∃ (j : Nat) (A : Option Addr) (cc : Nat), j ≤ m ∧ y = .int .i64 (lo + j) ∧ o = .slice A (gath (carriesP c) lo m i j q).length cc ∧ OwnT pairT wr w.heap.size (.slice A (gath (carriesP c) lo m i j q).length cc) (gath (carriesP c) lo m i j q) ∧ Below w.heap.size w wr) (fun _ y _ => (lo + m - intOf y).toNat)
      case atStart => exact ⟨0, A, cc, by omega, by go_num, rfl, hown, hb⟩
      case round =>
        obtain ⟨j, A', cc', hj, rfl, rfl, hown', hb'⟩ := hrel
        clear hown hb
        have hql := gath_len (carriesP c) lo m i j q
        have hz := hb'.size
        by_cases hjm : j < m
        · by_cases hfull : (gath (carriesP c) lo m i j q).length < q
          · have hcol := fun W => carry_any (lo + i) (lo + j) W (by omega) (by omega) (by omega) (by omega)
            cases hh : carriesP c (lo + i) (lo + j)
            · have hd : (((cols (lo + i) (lo + j) 4).length : Int) == c) = false := by simpa [carriesP] using hh
              have E := Lib.hid (gath_miss (m := m) (most := q) hh)
              clear hh
              generalize cols (lo + i) (lo + j) 4 = l at *
              have HC := Lib.hid hcol
              clear hcol
              go_wp2_with (go_at_call 56; refine (HC.out _).mono ?_; rintro e w1 ⟨A1, c1, rfl, hown1, hb1⟩)
              go_roundw
              case rel => exact ⟨j + 1, A', cc', by omega, by go_num, by rw [E.out], by rw [E.out]; exact hown'.below hb1 (Nat.le_refl _), hb'.trans (hb1.mono hb'.size)⟩
              case measure => simp [intOf]; omega
            · have hd : (((cols (lo + i) (lo + j) 4).length : Int) == c) = true := by simpa [carriesP] using hh
              have E := Lib.hid (gath_hit (m := m) (most := q) hh hfull)
              clear hh
              generalize cols (lo + i) (lo + j) 4 = l at *
              have HC := Lib.hid hcol
              clear hcol
              go_wp2_with (first | (go_at_call 56; refine (HC.out _).mono ?_; rintro e w1 ⟨A1, c1, rfl, hown1, hb1⟩; have hown2 := hown'.below hb1 (Nat.le_refl _); have hb2 := hb'.trans (hb1.mono hb'.size); have hz2 := hb2.size) | (at_builtin; refine wpList_appT pairT rfl _ _ rfl w.heap.size _ _ rfl hown2 w.heap.size hb2 (lo + i, lo + j) _ rfl 1 1 rfl rfl (by omega) hz2 (Nat.le_refl _) ?_; intro A3 c3 w3 hown3 hb3 hgr3))
              go_roundw
              case rel => exact ⟨j + 1, A3, c3, by omega, by go_num, by rw [E.out, List.length_append]; rfl, by rw [E.out]; rw [List.length_append]; exact hown3, hb3⟩
              case measure => simp [intOf]; omega
          · have E := Lib.hid ((gath_next (carriesP c) lo m i q).trans (gath_full (j := j) (by omega) (by omega)).symm)
            go_wp2
            go_roundw
            case rel => exact ⟨i + 1, A', cc', by omega, by go_num, by rw [E.out], by rw [E.out]; exact hown', hb'⟩
            case measure => simp [intOf]; omega
        · obtain rfl : j = m := by omega
          have E := Lib.hid (gath_next (carriesP c) lo j i q)
          go_wp2
          go_roundw
          case rel => exact ⟨i + 1, A', cc', by omega, by go_num, by rw [E.out], by rw [E.out]; exact hown', hb'⟩
          case measure => simp [intOf]; omega
    · obtain rfl : i = m := by omega
      rw [gath_end] at hown
      have E := Lib.hid (gath_end (carriesP c) lo i q)
      go_wp2
      go_ret
      exact ⟨A, cc, by rw [← E.out]; rfl, hown, hb⟩
/-! ### the reference's count -/
def cnt (p : Int → Int → Bool) (lo : Int) (m i j : Nat) : Nat := (tab p lo m i).length + (tabRow p lo (lo + i) j).length
theorem cnt_hit {p : Int → Int → Bool} {lo : Int} {m i j : Nat} (h : p (lo + i) (lo + j) = true) : cnt p lo m i (j + 1) = cnt p lo m i j + 1 := by
  unfold cnt
  rw [show tabRow p lo (lo + i) (j + 1) = tabRow p lo (lo + i) j ++ [(lo + i, lo + j)] from if_pos h, List.length_append]
  rfl
theorem cnt_miss {p : Int → Int → Bool} {lo : Int} {m i j : Nat} (h : p (lo + i) (lo + j) = false) : cnt p lo m i (j + 1) = cnt p lo m i j := by
  unfold cnt
  rw [show tabRow p lo (lo + i) (j + 1) = tabRow p lo (lo + i) j from if_neg (by simp [h])]
theorem cnt_next (p : Int → Int → Bool) (lo : Int) (m i : Nat) : cnt p lo m (i + 1) 0 = cnt p lo m i m := by simp [cnt, tab, tabRow]
theorem cnt_le (p : Int → Int → Bool) (lo : Int) (m i j : Nat) (hi : i < m) (hj : j ≤ m) : cnt p lo m i j ≤ m * m := by
  unfold cnt
  have h1 := tab_len p lo m i
  have h2 := tabRow_len p lo (lo + i) j
  have h3 : (i + 1) * m ≤ m * m := Nat.mul_le_mul_right _ hi
  rw [Nat.add_mul] at h3
  omega
theorem cnt_le0 (p : Int → Int → Bool) (lo : Int) (m i : Nat) (hi : i ≤ m) : cnt p lo m i 0 ≤ m * m := by
  unfold cnt
  have h1 := tab_len p lo m i
  have h3 : i * m ≤ m * m := Nat.mul_le_mul_right _ hi
  simp [tabRow]
  omega

theorem cnt_zero (p : Int → Int → Bool) (lo : Int) (m : Nat) : cnt p lo m 0 0 = 0 := by simp [cnt, tab, tabRow]
theorem cnt_end (p : Int → Int → Bool) (lo : Int) (m : Nat) : cnt p lo m m 0 = (tab p lo m m).length := by simp [cnt, tabRow]
attribute [irreducible] tab tabRow cnt gath

end Go.Proofs.Ytlmcnlakgjhalaa
