/-
  BeadsShown, CaseLoad, of the program and of the reference: contracts.
-/
import Derived.Test.YthoejiepaackhaaMusC
namespace Go.Proofs.Ythoejiepaackhaa
open Go.RowKit

def bdX (x : ExhibitV) : Int := if 0 < x.case_ then (x.upper + x.lower) * x.rods else 0
theorem bdX_in {x : ExhibitV} (h : 0 < x.case_) : bdX x = (x.upper + x.lower) * x.rods := if_pos h
theorem bdX_out {x : ExhibitV} (h : ¬ 0 < x.case_) : bdX x = 0 := if_neg h
theorem bdX_bd {x : ExhibitV} (h : exhB x = true) : 0 ≤ bdX x ∧ bdX x ≤ 400 := by
  have hi := exhB_iff h
  unfold bdX
  split
  · have h1 : 0 ≤ (x.upper + x.lower) * x.rods := Int.mul_nonneg (by omega) (by omega)
    have h2 : (x.upper + x.lower) * x.rods ≤ 12 * 31 := Int.mul_le_mul (by omega) (by omega) (by omega) (by omega)
    omega
  · omega
def bsV (l : List ExhibitV) : Int := if goodB l = true then sumTo bdX l l.length else 0
theorem bsV_no {l : List ExhibitV} (h : goodB l = false) : bsV l = 0 := by simp [bsV, h]
theorem bsV_yes {l : List ExhibitV} (h : goodB l = true) : bsV l = sumTo bdX l l.length := by simp [bsV, h]
theorem good_mem {l : List ExhibitV} (h : goodB l = true) (x : ExhibitV) (hx : x ∈ l) : exhB x = true := by
  obtain ⟨k, hk⟩ := List.getElem?_of_mem hx
  exact rows_exh (goodB_iff h).2.1 (List.getElem?_eq_some_iff.1 hk).1 hk
attribute [irreducible] bsV

set_option maxHeartbeats 1600000 in
theorem beadsShownI_any (A : Option Addr) (c : Nat) (l : List ExhibitV) (w : World) (hn : l.length ≤ 16777216) (h : RdT exhibitT w A l) (hok : ∀ x ∈ l, x.ok) :
    Calls Try.prog 26 #[.slice A l.length c] w (RetN w (bsV l) (goodB l)) := by
  cases hs : goodB l
  · rw [bsV_no hs]
    go_enter Try.func26, Try.ntmps26
    go_wp2_with (go_at_call 23; refine (areExhibits_any A c l _ hn h hok).mono ?_; rintro e w1 ⟨rfl, hb1⟩; rw [hs])
    go_ret2
    exact ⟨rfl, hb1⟩
  · rw [bsV_yes hs]
    have hL := (goodB_iff hs).1
    have hsb := sumTo_bd bdX 400 l (fun x hx => by have := bdX_bd (good_mem hs x hx); omega)
    have hmem := good_mem hs
    go_enter Try.func26, Try.ntmps26
    go_wp2_with (go_at_call 23; refine (areExhibits_any A c l _ hn h hok).mono ?_; rintro e w1 ⟨rfl, hb1⟩; rw [hs])
    go_loopw [4, 12] (fun t i wr => ∃ k : Nat, k ≤ l.length ∧ i = .int .i64 k ∧ t = .int .i64 (sumTo bdX l k) ∧ Below w.heap.size w wr) (fun _ i _ => l.length - (intOf i).toNat)
    case atStart => exact ⟨0, by omega, rfl, by rw [sumTo_zero], hb1⟩
    case round =>
      obtain ⟨k, hk, rfl, rfl, hb⟩ := hrel
      have hz := hb.size
      have hr := h.below hb (Nat.le_refl _)
      have hsk := hsb k
      by_cases hlt : k < l.length
      · obtain ⟨b, off, id_, land, made, upper, lower, rods, case_, rfl, hx, _, hc0, hc1, hc2, hc3, hc4, hc5, hc6⟩ := exhibitT_at hr hlt
        have hei := exhB_iff (hmem _ (List.mem_of_getElem? hx))
        have hbd := bdX_bd (hmem _ (List.mem_of_getElem? hx))
        have E := Lib.hid (sumTo_succ bdX hx)
        dsimp only at hei
        clear hsb hmem hx
        by_cases hc : 0 < case_
        · have d1 : decide (0 < case_) = true := decide_eq_true hc
          rw [bdX_in (x := ⟨id_, land, made, upper, lower, rods, case_⟩) hc] at hbd
          have E2 := Lib.hid (E.out.trans (by rw [bdX_in (x := ⟨id_, land, made, upper, lower, rods, case_⟩) hc]))
          dsimp only at hbd
          clear E
          go_wp2
          go_roundw
          case rel => exact ⟨k + 1, by omega, by go_num, by rw [E2.out], hb.alloc hz _⟩
          case measure => simp [intOf]; omega
        · have d1 : decide (0 < case_) = false := decide_eq_false hc
          have E2 := Lib.hid (E.out.trans (by rw [bdX_out (x := ⟨id_, land, made, upper, lower, rods, case_⟩) hc, Int.add_zero]))
          clear E
          go_wp2
          go_roundw
          case rel => exact ⟨k + 1, by omega, by go_num, by rw [E2.out], hb.alloc hz _⟩
          case measure => simp [intOf]; omega
      · obtain rfl : k = l.length := by omega
        go_wp2
        go_ret2
        exact ⟨rfl, hb⟩
set_option maxHeartbeats 1600000 in
theorem beadsShownS_any (A : Option Addr) (c : Nat) (l : List ExhibitV) (w : World) (hn : l.length ≤ 16777216) (h : RdT exhibitT w A l) (hok : ∀ x ∈ l, x.ok) :
    Calls Try.prog 25 #[.slice A l.length c] w (RetN w (bsV l) (goodB l)) := by
  cases hs : goodB l
  · rw [bsV_no hs]
    go_enter Try.func25, Try.ntmps25
    go_wp2_with (go_at_call 47; refine (l22Good_any A c l _ hn h hok).mono ?_; rintro e w1 ⟨rfl, hb1⟩; rw [hs])
    go_ret2
    exact ⟨rfl, hb1⟩
  · rw [bsV_yes hs]
    have hL := (goodB_iff hs).1
    have hsb := sumTo_bd bdX 400 l (fun x hx => by have := bdX_bd (good_mem hs x hx); omega)
    have hmem := good_mem hs
    go_enter Try.func25, Try.ntmps25
    go_wp2_with (go_at_call 47; refine (l22Good_any A c l _ hn h hok).mono ?_; rintro e w1 ⟨rfl, hb1⟩; rw [hs])
    go_loopw [4, 5] (fun t i wr => ∃ k : Nat, k ≤ l.length ∧ i = .int .i64 k ∧ t = .int .i64 (sumTo bdX l k) ∧ Below w.heap.size w wr) (fun _ i _ => l.length - (intOf i).toNat)
    case atStart => exact ⟨0, by omega, rfl, by rw [sumTo_zero], hb1⟩
    case round =>
      obtain ⟨k, hk, rfl, rfl, hb⟩ := hrel
      have hz := hb.size
      have hr := h.below hb (Nat.le_refl _)
      have hsk := hsb k
      by_cases hlt : k < l.length
      · obtain ⟨b, off, id_, land, made, upper, lower, rods, case_, rfl, hx, _, hc0, hc1, hc2, hc3, hc4, hc5, hc6⟩ := exhibitT_at hr hlt
        have hei := exhB_iff (hmem _ (List.mem_of_getElem? hx))
        have hbd := bdX_bd (hmem _ (List.mem_of_getElem? hx))
        have E := Lib.hid (sumTo_succ bdX hx)
        dsimp only at hei
        clear hsb hmem hx
        by_cases hc : 0 < case_
        · have d1 : decide (0 < case_) = true := decide_eq_true hc
          rw [bdX_in (x := ⟨id_, land, made, upper, lower, rods, case_⟩) hc] at hbd
          have E2 := Lib.hid (E.out.trans (by rw [bdX_in (x := ⟨id_, land, made, upper, lower, rods, case_⟩) hc]))
          dsimp only at hbd
          clear E
          go_wp2
          go_roundw
          case rel => exact ⟨k + 1, by omega, by go_num, by rw [E2.out], hb.alloc hz _⟩
          case measure => simp [intOf]; omega
        · have d1 : decide (0 < case_) = false := decide_eq_false hc
          have E2 := Lib.hid (E.out.trans (by rw [bdX_out (x := ⟨id_, land, made, upper, lower, rods, case_⟩) hc, Int.add_zero]))
          clear E
          go_wp2
          go_roundw
          case rel => exact ⟨k + 1, by omega, by go_num, by rw [E2.out], hb.alloc hz _⟩
          case measure => simp [intOf]; omega
      · obtain rfl : k = l.length := by omega
        go_wp2
        go_ret2
        exact ⟨rfl, hb⟩

/-! ### CaseLoad -/
def clV (l : List ExhibitV) : List Int := if goodB l = true then loadsL l l.length else []
theorem clV_no {l : List ExhibitV} (h : goodB l = false) : clV l = [] := by simp [clV, h]
theorem clV_yes {l : List ExhibitV} (h : goodB l = true) : clV l = loadsL l l.length := by simp [clV, h]
theorem clV_len (l : List ExhibitV) : (clV l).length ≤ 9 := by
  cases h : goodB l
  · rw [clV_no h]; simp
  · rw [clV_yes h, loadsL_len]; exact Nat.le_refl _
theorem OwnI.empty (w : World) (base : Nat) (hb : base ≤ w.heap.size) : OwnI (w.alloc (.cells #[] 3)) base (.slice (some ⟨w.heap.size, 0, none⟩) 0 0) [] := World.ownsRow_lit w #[] 0 hb (by unfold maxLen; omega) rfl
set_option maxHeartbeats 1600000 in
theorem caseLoadI_any (A : Option Addr) (c : Nat) (l : List ExhibitV) (w : World) (hn : l.length ≤ 16777216) (h : RdT exhibitT w A l) (hok : ∀ x ∈ l, x.ok) :
    Calls Try.prog 30 #[.slice A l.length c] w (RetI w (clV l) (goodB l)) := by
  cases hs : goodB l
  · rw [clV_no hs]
    go_enter Try.func30, Try.ntmps30
    go_wp2_with (go_at_call 23; refine (areExhibits_any A c l _ hn h hok).mono ?_; rintro e w1 ⟨rfl, hb1⟩; rw [hs])
    go_ret2
    exact ⟨none, 0, rfl, OwnI.nil _ _, hb1⟩
  · rw [clV_yes hs]
    have hL := goodB_iff hs
    go_enter Try.func30, Try.ntmps30
    go_wp2_with (go_at_call 23; refine (areExhibits_any A c l _ hn h hok).mono ?_; rintro e w1 ⟨rfl, hb1⟩; rw [hs])
    go_wp2_with (go_at_call 49; refine (caseLoad_any A c l _ (by omega) (h.below hb1 (Nat.le_refl _)) hL.2.1).mono ?_; rintro e w2 ⟨A2, c2, rfl, ho2, hb2⟩)
    go_ret2
    exact ⟨A2, c2, rfl, ho2.mono hb1.size, hb1.trans (hb2.mono hb1.size)⟩
def ldT (l : List ExhibitV) (k : Nat) : List Int := (List.range k).map fun (b : Nat) => ldA l ((b : Int) + 1) l.length
theorem ldT_zero (l : List ExhibitV) : ldT l 0 = [] := rfl
theorem ldT_succ (l : List ExhibitV) (k : Nat) : ldT l (k + 1) = ldT l k ++ [ldA l ((k : Int) + 1) l.length] := by simp [ldT, List.range_succ]
theorem ldT_len (l : List ExhibitV) (k : Nat) : (ldT l k).length = k := by simp [ldT]
theorem ldT_nine (l : List ExhibitV) : ldT l 9 = loadsL l l.length := by unfold loadsL; rfl
attribute [irreducible] ldT
set_option maxHeartbeats 1600000 in
theorem caseLoadS_any (A : Option Addr) (c : Nat) (l : List ExhibitV) (w : World) (hn : l.length ≤ 16777216) (h : RdT exhibitT w A l) (hok : ∀ x ∈ l, x.ok) :
    Calls Try.prog 29 #[.slice A l.length c] w (RetI w (clV l) (goodB l)) := by
  have hG := fun W (g : RdT exhibitT W A l) => l22Good_any A c l W hn g hok
  cases hs : goodB l
  · rw [clV_no hs]
    rw [hs] at hG
    go_enter Try.func29, Try.ntmps29
    go_wp2_with fail
    refine (hG _ (h.below ((Below.refl _ _).alloc (Nat.le_refl _) _) (Nat.le_refl _))).mono ?_
    rintro e w1 ⟨rfl, hb1⟩
    have hb0 : Below w.heap.size w w1 := ((Below.refl _ _).alloc (Nat.le_refl _) _).trans (hb1.mono (by simp))
    have ho := (OwnI.empty w w.heap.size (Nat.le_refl _)).below hb1 (Nat.le_refl _)
    go_wp2
    go_ret2
    exact ⟨_, 0, rfl, ho, hb0⟩
  · rw [clV_yes hs, ← ldT_nine]
    rw [hs] at hG
    have HL := fun b W (g : RdT exhibitT W A l) => l22Load_any A c l b W hn g
    go_enter Try.func29, Try.ntmps29
    go_wp2_with fail
    refine (hG _ (h.below ((Below.refl _ _).alloc (Nat.le_refl _) _) (Nat.le_refl _))).mono ?_
    rintro e w1 ⟨rfl, hb1⟩
    have hb0 : Below w.heap.size w w1 := ((Below.refl _ _).alloc (Nat.le_refl _) _).trans (hb1.mono (by simp))
    have ho := (OwnI.empty w w.heap.size (Nat.le_refl _)).below hb1 (Nat.le_refl _)
    clear hG hb1
    go_wp2
    go_loopw [4, 5] (fun o i wr => ∃ (k : Nat) (A' : Option Addr) (c' : Nat), k ≤ 9 ∧ i = .int .i64 ((k : Int) + 1) ∧ o = .slice A' (ldT l k).length c' ∧ OwnI wr w.heap.size (.slice A' (ldT l k).length c') (ldT l k) ∧ Below w.heap.size w wr) (fun _ i _ => 10 - (intOf i).toNat)
    case atStart => exact ⟨0, _, 0, by omega, rfl, by rw [ldT_zero]; rfl, by rw [ldT_zero]; exact ho, hb0⟩
    case round =>
      obtain ⟨k, A', c', hk, rfl, rfl, hown, hb⟩ := hrel
      clear ho hb0
      have hz := hb.size
      have hr := h.below hb (Nat.le_refl _)
      have hll := Nat.le_of_eq (ldT_len l k)
      by_cases hlt : k < 9
      · have g1 : decide ((k : Int) + 1 ≤ 9) = true := decide_eq_true (by omega)
        have E := Lib.hid (ldT_succ l k)
        have HLk := fun W g => HL ((k : Int) + 1) W g
        clear HL
        generalize ldA l ((k : Int) + 1) l.length = v at *
        go_wp2_with fail
        refine (HLk _ hr).mono ?_
        rintro e w2 ⟨rfl, hb2⟩
        have hown2 := hown.below hb2 (Nat.le_refl _)
        have hbB := hb.trans (hb2.mono hz)
        have hzB := hbB.size
        go_wp2_with (at_builtin; refine wpList_app_int rfl _ _ rfl w.heap.size _ _ rfl hown2 w.heap.size w hbB v 1 1 rfl rfl (by omega) hzB (Nat.le_refl _) ?_; intro A3 c3 w3 hown3 hb3 hgr3)
        go_roundw
        case rel => exact ⟨k + 1, A3, c3, by omega, by go_num, by rw [E.out, List.length_append]; rfl, by rw [E.out]; rw [List.length_append]; exact hown3, hb3⟩
        case measure => simp [intOf]; omega
      · obtain rfl : k = 9 := by omega
        have g1 : decide (((9 : Nat) : Int) + 1 ≤ 9) = false := rfl
        go_wp2
        go_ret2
        exact ⟨A', c', rfl, hown, hb⟩
end Go.Proofs.Ythoejiepaackhaa
