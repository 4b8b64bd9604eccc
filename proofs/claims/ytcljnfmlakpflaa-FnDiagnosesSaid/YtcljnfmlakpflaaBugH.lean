/-
  The most telling task of a list: contracts.
-/
import Derived.Test.YtcljnfmlakpflaaBugG
import Derived.Test.YtcljnfmlakpflaaPairs0
import Derived.Test.YtcljnfmlakpflaaList
namespace Go.Proofs.Ytcljnfmlakpflaa
open Go.RowKit

def tskP (x : Int × Int) : Bool := taskB x.1 x.2
theorem tskP_at (p q : Int) : tskP (p, q) = taskB p q := rfl
def mtB (l : List (Int × Int)) : Bool := inB l.length 1 10 && l.all tskP
theorem mtB_len {l : List (Int × Int)} (h : inB l.length 1 10 = false) : mtB l = false := by simp [mtB, h]
theorem mtB_bad {l : List (Int × Int)} (h : l.all tskP = false) : mtB l = false := by simp [mtB, h]
theorem mtB_good {l : List (Int × Int)} (h1 : inB l.length 1 10 = true) (h2 : l.all tskP = true) : mtB l = true := by simp [mtB, h1, h2]
/-- The best so far, and how telling it is. -/
def mtA (l : List (Int × Int)) : Nat → Int × Int
  | 0 => (0, -1)
  | k + 1 => match l[k]? with
    | some x => if (mtA l k).2 < tellV x.1 x.2 then ((k : Int), tellV x.1 x.2) else mtA l k
    | none => mtA l k
theorem mtA_zero (l : List (Int × Int)) : mtA l 0 = (0, -1) := rfl
theorem mtA_yes {l : List (Int × Int)} {k : Nat} {p q : Int} (hx : l[k]? = some (p, q)) (h : (mtA l k).2 < tellV p q) : mtA l (k + 1) = ((k : Int), tellV p q) := by simp [mtA, hx, h]
theorem mtA_no {l : List (Int × Int)} {k : Nat} {p q : Int} (hx : l[k]? = some (p, q)) (h : ¬ (mtA l k).2 < tellV p q) : mtA l (k + 1) = mtA l k := by simp [mtA, hx, h]
theorem mtA_lo (l : List (Int × Int)) (k : Nat) : -1 ≤ (mtA l k).2 ∧ (mtA l k).2 ≤ 6 := by
  induction k with
  | zero => simp [mtA]
  | succ k ih =>
    unfold mtA
    split
    · split
      · have := tellV_bd (‹Int × Int›).1 (‹Int × Int›).2
        simp only; omega
      · exact ih
    · exact ih
def mtW (l : List (Int × Int)) : Int := if mtB l = true then (mtA l l.length).1 else 0
theorem mtW_no {l : List (Int × Int)} (h : mtB l = false) : mtW l = 0 := by simp [mtW, h]
theorem mtW_yes {l : List (Int × Int)} (h : mtB l = true) : mtW l = (mtA l l.length).1 := by simp [mtW, h]
attribute [irreducible] mtW

set_option maxHeartbeats 1600000 in
theorem mostTellingI_any (A : Option Addr) (c : Nat) (l : List (Int × Int)) (w : World) (hn : l.length ≤ 16777216) (h : RdT pairT w A l) :
    Calls Try.prog 38 #[.slice A l.length c] w (RetN w (mtW l) (mtB l)) := by
  cases hg0 : inB l.length 1 10
  · have h0 := mtB_len hg0
    rw [mtW_no h0, h0]
    go_enter Try.func38, Try.ntmps38
    go_wp2_with (go_at_call 73; refine (within_any _ _ _ _).mono ?_; rintro e w' ⟨rfl, rfl⟩; rw [hg0])
    go_ret2
    exact ⟨rfl, Below.refl _ _⟩
  · have e0 := mtA_zero l
    go_enter Try.func38, Try.ntmps38
    go_wp2_with (go_at_call 73; refine (within_any _ _ _ _).mono ?_; rintro e w' ⟨rfl, rfl⟩; rw [hg0])
    go_loopw [4, 5, 15] (fun b m i wr => ∃ k : Nat, k ≤ l.length ∧ i = .int .i64 k ∧ b = .int .i64 (mtA l k).1 ∧ m = .int .i64 (mtA l k).2 ∧ Hid ((l.take k).all tskP = true) ∧ Below w.heap.size w wr) (fun _ _ i _ => l.length - (intOf i).toNat)
    case atStart => exact ⟨0, by omega, rfl, by rw [e0], by rw [e0], Lib.hid (by simp), Below.refl _ _⟩
    case round =>
      obtain ⟨k, hk, rfl, rfl, rfl, hall, hb⟩ := hrel
      have hz := hb.size
      have hr := h.below hb (Nat.le_refl _)
      clear e0
      by_cases hlt : k < l.length
      · obtain ⟨b, off, p, q, rfl, hx, _, hc1, hc2⟩ := pair_at hr hlt
        have hap := tskP_at p q
        cases ht : taskB p q
        · have hg : tskP (p, q) = false := by rw [hap, ht]
          have hbad := mtB_bad (all_bad tskP hx hg)
          have E := Lib.hid hbad
          have E2 := Lib.hid (mtW_no hbad)
          clear hx hap hbad hg
          go_wp2_with (go_at_call 54; refine (isTask_any _ _ _).mono ?_; rintro e w' ⟨rfl, rfl⟩; rw [ht])
          go_ret2
          exact ⟨by rw [E.out, E2.out]; rfl, hb.alloc hz _⟩
        · have hg : tskP (p, q) = true := by rw [hap, ht]
          have hall' := Lib.hid (show (l.take (k + 1)).all tskP = true by rw [all_succ tskP hx, hall.out, hg]; rfl)
          have hti := (taskB_iff _ _).1 ht
          have HT := fun W => tellingOf_any p q W hti.1.1 hti.1.2 hti.2.1 (by omega)
          have hml := mtA_lo l k
          by_cases hh : (mtA l k).2 < tellV p q
          · have g2 : decide ((mtA l k).2 < tellV p q) = true := decide_eq_true hh
            have E := Lib.hid (mtA_yes hx hh)
            clear hh hx hap hg
            go_wp2_with (first | (go_at_call 54; refine (isTask_any _ _ _).mono ?_; rintro e w' ⟨rfl, rfl⟩; rw [ht]) | (go_at_call 68; refine (HT _).mono ?_; rintro e w2 ⟨rfl, hb2⟩))
            go_roundw
            case rel => exact ⟨k + 1, by omega, by go_num, by rw [E.out], by rw [E.out], hall', (hb.alloc hz _).trans (hb2.mono (by simp; omega))⟩
            case measure => simp [intOf]; omega
          · have g2 : decide ((mtA l k).2 < tellV p q) = false := decide_eq_false hh
            have E := Lib.hid (mtA_no hx hh)
            clear hh hx hap hg
            go_wp2_with (first | (go_at_call 54; refine (isTask_any _ _ _).mono ?_; rintro e w' ⟨rfl, rfl⟩; rw [ht]) | (go_at_call 68; refine (HT _).mono ?_; rintro e w2 ⟨rfl, hb2⟩))
            go_roundw
            case rel => exact ⟨k + 1, by omega, by go_num, by rw [E.out], by rw [E.out], hall', (hb.alloc hz _).trans (hb2.mono (by simp; omega))⟩
            case measure => simp [intOf]; omega
      · obtain rfl : k = l.length := by omega
        have hgood := mtB_good hg0 (by rw [← all_take l tskP _ (Nat.le_refl _)]; exact hall.out)
        have E := Lib.hid hgood
        have E2 := Lib.hid (mtW_yes hgood)
        clear hall hgood
        go_wp2
        go_ret2
        exact ⟨by rw [E.out, E2.out]; rfl, hb⟩

set_option maxHeartbeats 1600000 in
theorem mostTellingS_any (A : Option Addr) (c : Nat) (l : List (Int × Int)) (w : World) (hn : l.length ≤ 16777216) (h : RdT pairT w A l) :
    Calls Try.prog 36 #[.slice A l.length c] w (RetN w (mtW l) (mtB l)) := by
  cases hg0 : inB l.length 1 10
  · have h0 := mtB_len hg0
    rw [mtW_no h0, h0]
    go_enter Try.func36, Try.ntmps36
    go_wp2_with (go_at_call 69; refine (l1In_any _ _ _ _).mono ?_; rintro e w' ⟨rfl, rfl⟩; rw [hg0])
    go_ret2
    exact ⟨rfl, Below.refl _ _⟩
  · have e0 := mtA_zero l
    have hin := (inB_iff _ _ _).1 hg0
    go_enter Try.func36, Try.ntmps36
    go_wp2_with (go_at_call 69; refine (l1In_any _ _ _ _).mono ?_; rintro e w' ⟨rfl, rfl⟩; rw [hg0])
    go_loopw [4, 5, 6] (fun b m i wr => ∃ (k : Nat) (mm : Int), k ≤ l.length ∧ i = .int .i64 k ∧ b = .int .i64 (mtA l k).1 ∧ m = .int .i64 mm ∧ mm ≤ 6 ∧ 0 ≤ mm ∧ Hid (mm = max 0 (mtA l k).2) ∧ Hid ((l.take k).all tskP = true) ∧ Below w.heap.size w wr) (fun _ _ i _ => l.length - (intOf i).toNat)
    case atStart => exact ⟨0, 0, by omega, rfl, by rw [e0], rfl, by omega, by omega, Lib.hid (by rw [e0]; rfl), Lib.hid (by simp), Below.refl _ _⟩
    case round =>
      obtain ⟨k, mm, hk, rfl, rfl, rfl, hm6, hm0, hmm, hall, hb⟩ := hrel
      have hz := hb.size
      have hr := h.below hb (Nat.le_refl _)
      clear e0
      by_cases hlt : k < l.length
      · obtain ⟨b, off, p, q, rfl, hx, hlb, hc1, hc2⟩ := pair_at hr hlt
        have hap := tskP_at p q
        have HI := fun W => l16Task_any p q W
        cases ht : taskB p q
        · rw [ht] at HI
          have hg : tskP (p, q) = false := by rw [hap, ht]
          have hbad := mtB_bad (all_bad tskP hx hg)
          have E := Lib.hid hbad
          have E2 := Lib.hid (mtW_no hbad)
          clear hx hap hbad hg
          go_wp2_with fail
          go_quiet ((go_at_call 51; exact Calls.quiet_of_same (same_symm (HI _))))
          go_wp2
          go_ret2
          exact ⟨by rw [E.out, E2.out]; rfl, below_drewN hb _⟩
        · rw [ht] at HI
          have hg : tskP (p, q) = true := by rw [hap, ht]
          have hall' := Lib.hid (show (l.take (k + 1)).all tskP = true by rw [all_succ tskP hx, hall.out, hg]; rfl)
          have hti := (taskB_iff _ _).1 ht
          have HT := fun W => l16Telling_any p q W hti.1.1 hti.1.2 hti.2.1 (by omega)
          have hml := mtA_lo l k
          have htp := tellV_pos p q
          have htd := tellV_bd p q
          by_cases hh : (mtA l k).2 < tellV p q
          · have g2 : decide (mm < tellV p q) = true := decide_eq_true (by have := hmm.out; omega)
            have E := Lib.hid (mtA_yes hx hh)
            clear hh hx hap hg
            generalize tellV p q = T at *
            go_wp2_with fail
            go_quiet ((go_at_call 51; exact Calls.quiet_of_same (same_symm (HI _))))
            go_wp2_with fail
            obtain ⟨wq, hwq⟩ : ∃ wq : World, wq = wr.drewN nq := ⟨_, rfl⟩
            have hbq : Below w.heap.size w wq := by rw [hwq]; exact below_drewN hb nq
            have hq1 := cell_regrown (show wq.cell? ⟨b, off + k * 2, none⟩ = some (.int .i64 p) by rw [hwq]; exact hc1)
            have hq2 := cell_regrown (show wq.cell? ⟨b, off + k * 2 + 1, none⟩ = some (.int .i64 q) by rw [hwq]; exact hc2)
            have hzq := hbq.size
            rw [← hwq]
            clear hwq hc1 hc2
            refine wp_region_quiet_below (by kernel_rfl) (by kernel_rfl) ?_
            repeat (go_big_quiet_step (((go_at_call 67; exact Calls.regrown_of (HT _)))))
            refine wpQuiet_nil ?_
            intro w2 hw'
            have hb2 := below_of_class hw'
            clear hw'
            go_wp2
            go_roundw
            case rel => exact ⟨k + 1, T, by omega, by go_num, by rw [E.out], rfl, by omega, by omega, Lib.hid (by rw [E.out]; show T = max 0 T; omega), hall', hbq.trans (hb2.mono hzq)⟩
            case measure => simp [intOf]; omega
          · have g2 : decide (mm < tellV p q) = false := decide_eq_false (by have := hmm.out; omega)
            have E := Lib.hid (mtA_no hx hh)
            clear hh hx hap hg
            generalize tellV p q = T at *
            go_wp2_with fail
            go_quiet ((go_at_call 51; exact Calls.quiet_of_same (same_symm (HI _))))
            go_wp2_with fail
            obtain ⟨wq, hwq⟩ : ∃ wq : World, wq = wr.drewN nq := ⟨_, rfl⟩
            have hbq : Below w.heap.size w wq := by rw [hwq]; exact below_drewN hb nq
            have hq1 := cell_regrown (show wq.cell? ⟨b, off + k * 2, none⟩ = some (.int .i64 p) by rw [hwq]; exact hc1)
            have hq2 := cell_regrown (show wq.cell? ⟨b, off + k * 2 + 1, none⟩ = some (.int .i64 q) by rw [hwq]; exact hc2)
            have hzq := hbq.size
            rw [← hwq]
            clear hwq hc1 hc2
            refine wp_region_quiet_below (by kernel_rfl) (by kernel_rfl) ?_
            repeat (go_big_quiet_step (((go_at_call 67; exact Calls.regrown_of (HT _)))))
            refine wpQuiet_nil ?_
            intro w2 hw'
            have hb2 := below_of_class hw'
            clear hw'
            go_wp2
            go_roundw
            case rel => exact ⟨k + 1, mm, by omega, by go_num, by rw [E.out], rfl, by omega, by omega, Lib.hid (by rw [E.out]; exact hmm.out), hall', hbq.trans (hb2.mono hzq)⟩
            case measure => simp [intOf]; omega
      · obtain rfl : k = l.length := by omega
        have hgood := mtB_good hg0 (by rw [← all_take l tskP _ (Nat.le_refl _)]; exact hall.out)
        have E := Lib.hid hgood
        have E2 := Lib.hid (mtW_yes hgood)
        clear hall hgood
        go_wp2
        go_ret2
        exact ⟨by rw [E.out, E2.out]; rfl, hb⟩
end Go.Proofs.Ytcljnfmlakpflaa
