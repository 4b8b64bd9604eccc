/-
  A number put into a rising list: the contract.
-/
import Derived.Test.YtcbecfkckdalmaaPut
namespace Go.Proofs.Ytcbecfkckdalmaa
open Go.RowKit

set_option maxRecDepth 100000 in
set_option maxHeartbeats 4000000 in
theorem putInt_any (base : Nat) (A : Option Addr) (c : Nat) (L : List Int) (n : Int) (w : World) (hL : L.length ≤ 1000000) (hbase : base ≤ w.heap.size) (h : OwnI w base (.slice A L.length c) L) :
    Calls Try.prog 81 #[.slice A L.length c, .int .i64 n] w fun e w' => ∃ A' c', e = .returned (.slice A' (putL L n).length c') ∧ OwnI w' base (.slice A' (putL L n).length c') (putL L n) ∧ Below base w w' := by
  have hP : putL L n = putAt L n (posL L n L.length) := rfl
  generalize putL L n = R at *
  go_enter Try.func81, Try.ntmps81
  go_wp2
  go_loop [5] (fun i => ∃ k : Nat, k ≤ L.length ∧ i = .int .i64 k ∧ Hid (R = putAt L n (posL L n k))) (fun i => (intOf i).toNat)
  case atStart => exact ⟨L.length, Nat.le_refl _, rfl, Lib.hid hP⟩
  case round =>
    obtain ⟨k, hk, rfl, E⟩ := hrel
    clear hP
    by_cases hk0 : k = 0
    · have E2 := Lib.hid (show R = insL L k n by rw [E.out, hk0, posL_zero, putAt_zero])
      have hk1 : k ≤ 0 := by omega
      clear E hk0
      go_wp2_with (at_builtin; refine wpList_app_int rfl _ _ rfl base _ _ rfl h base w (Below.refl _ _) 0 1 1 rfl rfl (by omega) hbase (Nat.le_refl _) ?_; intro A1 c1 w1 hown1 hb1 hgr1)
      obtain ⟨g, rfl, hg, hgl⟩ := hown1.head (by simp)
      have hcl := hown1.cap.2.1
      have HO := Lib.hid hown1
      clear hown1 hgr1 h
      have j1 : IntKind.i64.wrap ((k : Int) + 1) = (k : Int) + 1 := IntWalk.i64_in _ (by omega)
      have j2 : (0 : Int) ≤ (k : Int) + 1 := by omega
      have j3 : (k : Int) + 1 ≤ (L.length : Int) + 1 := by omega
      have j4 : (L.length : Int) + 1 ≤ (c1 : Int) := by omega
      have j5 : (0 : Int) ≤ (k : Int) := by omega
      have j6 : (k : Int) ≤ (L.length : Int) + 1 := by omega
      have j7 : ((k : Int) + 1).toNat = k + 1 := by omega
      have j8 : (k : Int).toNat = k := by omega
      go_still_tail 7, (by kernel_rfl)
      change wpList _ _ _ _ _ w1.drew
      clear j1 j2 j3 j5 j6 j7 j8
      refine wpList_insI rfl _ _ rfl base g _ _ k L 0 (show OwnI w1.drew base _ _ from HO.out) (by omega) _ _ _ _ _ _ rfl rfl (by omega) (by omega) (fun hh => ⟨if_neg (by omega), if_neg (by omega)⟩) ?_
      intro w2 y hcell hfro HSet HG
      clear j4
      go_wp2
      all_goals
        go_ret
        obtain ⟨ho, hgr⟩ := HSet.out n
        have hlr : R.length = L.length + 1 := by rw [E2.out, length_insL]
        refine ⟨_, _, by rw [hlr]; rfl, by rw [hlr, E2.out]; first | exact ho | (rw [show k + 1 = c1 by omega]; exact ho), ?_⟩
        exact (hb1.drew.grown HG.out (by show base ≤ w1.heap.size; omega) (fun k hk => by cases hk; exact hg)).grown hgr (by have := HG.out.size; have : w1.heap.size ≤ w2.heap.size := this; omega) (fun k hk => by cases hk; exact hg)
    · obtain ⟨m, rfl⟩ : ∃ m, k = m + 1 := ⟨k - 1, by omega⟩
      clear hk0
      obtain ⟨b, off, x, rfl, hx, _, hc⟩ := h.rd.at_ (k := m) (by omega)
      have hxd : L.getD m 0 = x := by simp [List.getD_eq_getElem?_getD, hx]
      rcases Int.lt_trichotomy n x with hlt | hlt | hlt
      · have E2 := Lib.hid (show R = putAt L n (posL L n m) by rw [E.out, posL_down (by rw [hxd]; exact hlt)])
        have hd : decide (n < x) = true := decide_eq_true hlt
        clear E hx hxd
        go_wp2
        go_round
        case rel => exact ⟨m, by omega, by first | rfl | go_num, E2⟩
        case measure => simp [intOf] <;> omega
      · have E2 := Lib.hid (show R = L by rw [E.out, posL_stop (by rw [hxd]; omega), putAt_has (by rw [hxd]; exact hlt.symm)])
        have hd : decide (n < x) = false := decide_eq_false (by omega)
        have hq : (x == n) = true := by simp [hlt]
        clear E hx hxd
        go_wp2
        go_ret
        have E3 := E2.out
        subst E3
        exact ⟨_, _, rfl, h, Below.refl _ _⟩
      · have E2 := Lib.hid (show R = insL L (m + 1) n by rw [E.out, posL_stop (by rw [hxd]; omega), putAt_new (by rw [hxd]; omega)])
        have hd : decide (n < x) = false := decide_eq_false (by omega)
        have hq : (x == n) = false := by simp; omega
        clear E hx hxd
        go_wp2_with (at_builtin; refine wpList_app_int rfl _ _ rfl base _ _ rfl h base w (Below.refl _ _) 0 1 1 rfl rfl (by omega) hbase (Nat.le_refl _) ?_; intro A1 c1 w1 hown1 hb1 hgr1)
        obtain ⟨g, rfl, hg, hgl⟩ := hown1.head (by simp)
        have hcl := hown1.cap.2.1
        have HO := Lib.hid hown1
        clear hown1 hgr1 h hc hq hd hlt
        have j1 : IntKind.i64.wrap ((m + 1 : Int) + 1) = (m + 1 : Int) + 1 := IntWalk.i64_in _ (by omega)
        have j2 : (0 : Int) ≤ (m + 1 : Int) + 1 := by omega
        have j3 : (m + 1 : Int) + 1 ≤ (L.length : Int) + 1 := by omega
        have j4 : (L.length : Int) + 1 ≤ (c1 : Int) := by omega
        have j5 : (0 : Int) ≤ (m + 1 : Int) := by omega
        have j6 : (m + 1 : Int) ≤ (L.length : Int) + 1 := by omega
        have j7 : ((m + 1 : Int) + 1).toNat = m + 1 + 1 := by omega
        have j8 : (m + 1 : Int).toNat = m + 1 := by omega
        go_still_tail 7, (by kernel_rfl)
        change wpList _ _ _ _ _ w1.drew
        clear j1 j2 j3 j5 j6 j7 j8
        refine wpList_insI rfl _ _ rfl base g _ _ (m + 1) L 0 (show OwnI w1.drew base _ _ from HO.out) (by omega) _ _ _ _ _ _ rfl rfl (by omega) (by omega) (fun hh => ⟨if_neg (by omega), if_neg (by omega)⟩) ?_
        intro w2 y hcell hfro HSet HG
        clear j4
        go_wp2
        all_goals
          go_ret
          obtain ⟨ho, hgr⟩ := HSet.out n
          have hlr : R.length = L.length + 1 := by rw [E2.out, length_insL]
          refine ⟨_, _, by rw [hlr]; rfl, by rw [hlr, E2.out]; first | exact ho | (rw [show m + 1 + 1 = c1 by omega]; exact ho), ?_⟩
          exact (hb1.drew.grown HG.out (by show base ≤ w1.heap.size; omega) (fun k hk => by cases hk; exact hg)).grown hgr (by have := HG.out.size; have : w1.heap.size ≤ w2.heap.size := this; omega) (fun k hk => by cases hk; exact hg)
end Go.Proofs.Ytcbecfkckdalmaa
