/-
  AnswerWith, AllAnswers, BorrowColumns, of the program and of the reference: contracts.
-/
import Derived.Test.YtcljnfmlakpflaaBugC
namespace Go.Proofs.Ytcljnfmlakpflaa
open Go.RowKit

/-- A call that returns a number, and whether there is one. -/
def RetN (w : World) (n : Int) (ok : Bool) (e : Ending) (w' : World) : Prop :=
  e = .returned (.tuple #[.int .i64 n, .bool ok]) ∧ Below w.heap.size w w'
def ansW (bug a b : Int) : Int := if (inB bug 0 5 && taskB a b) = true then ansV bug a b else 0
theorem ansW_no1 {bug a b : Int} (h : inB bug 0 5 = false) : ansW bug a b = 0 := by simp [ansW, h]
theorem ansW_no2 {bug a b : Int} (h : taskB a b = false) : ansW bug a b = 0 := by simp [ansW, h]
theorem ansW_yes {bug a b : Int} (h : inB bug 0 5 = true) (h' : taskB a b = true) : ansW bug a b = ansV bug a b := by simp [ansW, h, h']
/-- The answers with the first k bugs. -/
def allA (a b : Int) : Nat → List Int
  | 0 => []
  | k + 1 => allA a b k ++ [ansV k a b]
theorem allA_succ (a b : Int) (k : Nat) : allA a b (k + 1) = allA a b k ++ [ansV k a b] := rfl
theorem allA_len (a b : Int) (k : Nat) : (allA a b k).length = k := by
  induction k with
  | zero => rfl
  | succ k ih => rw [allA_succ, List.length_append, ih]; rfl
def allW (a b : Int) : List Int := if taskB a b = true then allA a b 6 else []
theorem allW_no {a b : Int} (h : taskB a b = false) : allW a b = [] := by simp [allW, h]
theorem allW_yes {a b : Int} (h : taskB a b = true) : allW a b = allA a b 6 := by simp [allW, h]
theorem allW_len (a b : Int) : (allW a b).length ≤ 6 := by
  cases h : taskB a b
  · rw [allW_no h]; simp
  · rw [allW_yes h, allA_len]; omega
/-- The columns of the first k in which is borrowed. -/
def borC (a b : Int) : Nat → List Int
  | 0 => []
  | k + 1 => if 0 < (ansA 0 a b (k + 1)).2 then borC a b k ++ [(k : Int)] else borC a b k
theorem borC_succ (a b : Int) (k : Nat) : borC a b (k + 1) = if 0 < (ansA 0 a b (k + 1)).2 then borC a b k ++ [(k : Int)] else borC a b k := rfl
theorem borC_len (a b : Int) (k : Nat) : (borC a b k).length ≤ k := by
  induction k with
  | zero => simp [borC]
  | succ k ih =>
    rw [borC_succ]
    split
    · simp; omega
    · omega
theorem borC_top (a b : Int) (h : taskB a b = true) (k : Nat) (hk : wid a ≤ k) : borC a b k = borC a b (wid a) := by
  induction hk with
  | refl => rfl
  | step hk ih =>
    rename_i m
    obtain ⟨h1, h2⟩ := (taskB_iff a b).1 h
    have hg := wid_gt a h1.1 h1.2
    have hm := pw_mono (j := wid a) (k := m + 1) (by have : wid a ≤ m := hk; omega)
    rw [borC_succ, (right_way a b (m + 1) h1.1 h2.1 h2.2 (by omega)).2, if_neg (by omega), ih]
def borW (a b : Int) : List Int := if taskB a b = true then borC a b (wid a) else []
theorem borW_no {a b : Int} (h : taskB a b = false) : borW a b = [] := by simp [borW, h]
theorem borW_yes {a b : Int} (h : taskB a b = true) : borW a b = borC a b (wid a) := by simp [borW, h]
theorem borW_four {a b : Int} (h : taskB a b = true) : borW a b = borC a b 4 := by rw [borW_yes h, borC_top a b h 4 (wid_bd a).2]
theorem borW_len (a b : Int) : (borW a b).length ≤ 4 := by
  cases h : taskB a b
  · rw [borW_no h]; simp
  · rw [borW_four h]; exact borC_len a b 4
attribute [irreducible] ansW allA allW borC borW

set_option maxHeartbeats 800000 in
theorem answerWithI_any (bug : Int) (a : Int) (b : Int) (w : World) :
    Calls Try.prog 15 #[.int .i64 bug, .int .i64 a, .int .i64 b] w (RetN w (ansW bug a b) (inB bug 0 5 && taskB a b)) := by
  cases h1 : inB bug 0 5
  · rw [ansW_no1 h1]
    go_enter Try.func15, Try.ntmps15
    go_wp2_with (go_at_call 53; refine (isBug_any _ _).mono ?_; rintro e w' ⟨rfl, rfl⟩; rw [h1])
    go_ret2
    exact ⟨rfl, Below.refl _ _⟩
  cases h2 : taskB a b
  · rw [ansW_no2 h2]
    go_enter Try.func15, Try.ntmps15
    go_wp2_with (first | (go_at_call 53; refine (isBug_any _ _).mono ?_; rintro e w' ⟨rfl, rfl⟩; rw [h1]) | (go_at_call 54; refine (isTask_any _ _ _).mono ?_; rintro e w' ⟨rfl, rfl⟩; rw [h2]))
    go_ret2
    exact ⟨rfl, Below.refl _ _⟩
  · rw [ansW_yes h1 h2]
    have hb := (inB_iff _ _ _).1 h1
    have ht := (taskB_iff _ _).1 h2
    go_enter Try.func15, Try.ntmps15
    go_wp2_with (first | (go_at_call 53; refine (isBug_any _ _).mono ?_; rintro e w' ⟨rfl, rfl⟩; rw [h1]) | (go_at_call 54; refine (isTask_any _ _ _).mono ?_; rintro e w' ⟨rfl, rfl⟩; rw [h2]) | (go_at_call 55; refine (answerWith_any _ _ _ _ hb.1 hb.2 ht.1.1 ht.1.2 ht.2.1 (by omega)).mono ?_; rintro e w1 ⟨rfl, hb1⟩))
    go_ret2
    exact ⟨rfl, hb1⟩
set_option maxHeartbeats 800000 in
theorem answerWithS_any (bug : Int) (a : Int) (b : Int) (w : World) :
    Calls Try.prog 14 #[.int .i64 bug, .int .i64 a, .int .i64 b] w (RetN w (ansW bug a b) (inB bug 0 5 && taskB a b)) := by
  cases h1 : inB bug 0 5
  · rw [ansW_no1 h1]
    go_enter Try.func14, Try.ntmps14
    go_wp2_with (go_at_call 50; refine (l16Bug_any _ _).mono ?_; rintro e w' ⟨rfl, rfl⟩; rw [h1])
    go_ret2
    exact ⟨rfl, Below.refl _ _⟩
  cases h2 : taskB a b
  · rw [ansW_no2 h2]
    go_enter Try.func14, Try.ntmps14
    go_wp2_with (first | (go_at_call 50; refine (l16Bug_any _ _).mono ?_; rintro e w' ⟨rfl, rfl⟩; rw [h1]) | (go_at_call 51; refine (l16Task_any _ _ _).mono ?_; rintro e w' ⟨rfl, rfl⟩; rw [h2]))
    go_ret2
    exact ⟨rfl, Below.refl _ _⟩
  · rw [ansW_yes h1 h2]
    have hb := (inB_iff _ _ _).1 h1
    have ht := (taskB_iff _ _).1 h2
    go_enter Try.func14, Try.ntmps14
    go_wp2_with (first | (go_at_call 50; refine (l16Bug_any _ _).mono ?_; rintro e w' ⟨rfl, rfl⟩; rw [h1]) | (go_at_call 51; refine (l16Task_any _ _ _).mono ?_; rintro e w' ⟨rfl, rfl⟩; rw [h2]) | (go_at_call 52; refine (l16Answer_any _ _ _ _ hb.1 hb.2 ht.1.1 ht.1.2 ht.2.1 (by omega)).mono ?_; rintro e w1 ⟨rfl, hb1⟩))
    go_ret2
    exact ⟨rfl, hb1⟩
set_option maxHeartbeats 800000 in
theorem allAnswers_any (a b : Int) (w : World) (ha : 0 ≤ a) (ha' : a ≤ 9999) (hb : 0 ≤ b) (hb' : b ≤ 9999) :
    Calls Try.prog 66 #[.int .i64 a, .int .i64 b] w fun e w' => ∃ A c, e = .returned (.slice A (allA a b 6).length c) ∧ OwnI w' w.heap.size (.slice A (allA a b 6).length c) (allA a b 6) ∧ Below w.heap.size w w' := by
  have h0 : allA a b 0 = [] := by unfold allA; rfl
  go_enter Try.func66, Try.ntmps66
  go_wp2
  go_loopw [5, 6] (fun o i wr => ∃ (k : Nat) (A : Option Addr) (cp : Nat), k ≤ 6 ∧ i = .int .i64 k ∧ o = .slice A (allA a b k).length cp ∧ OwnI wr w.heap.size (.slice A (allA a b k).length cp) (allA a b k) ∧ Below w.heap.size w wr) (fun _ i _ => 6 - (intOf i).toNat)
  case atStart => exact ⟨0, none, 0, by omega, rfl, by rw [h0]; rfl, by rw [h0]; exact OwnI.nil _ _, Below.refl _ _⟩
  case round =>
    obtain ⟨k, A, cp, hk, rfl, rfl, hown, hbl⟩ := hrel
    clear h0
    have hz := hbl.size
    have hl := Nat.le_of_eq (allA_len a b k)
    by_cases hlt : k < 6
    · have g1 : decide ((k : Int) ≤ 5) = true := decide_eq_true (by omega)
      have E := Lib.hid (allA_succ a b k)
      have hc := fun W => answerWith_any (k : Int) a b W (by omega) (by omega) ha ha' hb hb'
      generalize ansV (k : Int) a b = v at *
      go_wp2_with fail
      refine (hc _).mono ?_
      rintro e w1 ⟨rfl, hb1⟩
      have hown1 := hown.below hb1 (Nat.le_refl _)
      have hbl1 := hbl.trans (hb1.mono hz)
      have hz1 := hbl1.size
      go_wp2_with (at_builtin; refine wpList_app_int rfl _ _ rfl w.heap.size _ _ rfl hown1 w.heap.size w hbl1 v 1 1 rfl rfl (by omega) hz1 (Nat.le_refl _) ?_; intro A1 c1 w2 hown2 hbl2 hgr2)
      go_roundw
      case rel => exact ⟨k + 1, A1, c1, by omega, by go_num, by rw [E.out, List.length_append]; rfl, by rw [E.out]; rw [List.length_append]; exact hown2, hbl2⟩
      case measure => simp [intOf]; omega
    · obtain rfl : k = 6 := by omega
      go_wp2
      go_ret
      exact ⟨A, cp, rfl, hown, hbl⟩
set_option maxHeartbeats 800000 in
theorem l16All_any (a b : Int) (w : World) (ha : 0 ≤ a) (ha' : a ≤ 9999) (hb : 0 ≤ b) (hb' : b ≤ 9999) :
    Calls Try.prog 65 #[.int .i64 a, .int .i64 b] w fun e w' => ∃ A c, e = .returned (.slice A (allA a b 6).length c) ∧ OwnI w' w.heap.size (.slice A (allA a b 6).length c) (allA a b 6) ∧ Below w.heap.size w w' := by
  have h0 : allA a b 0 = [] := by unfold allA; rfl
  go_enter Try.func65, Try.ntmps65
  go_wp2
  go_loopw [5, 6] (fun o i wr => ∃ (k : Nat) (A : Option Addr) (cp : Nat), k ≤ 6 ∧ i = .int .i64 k ∧ o = .slice A (allA a b k).length cp ∧ OwnI wr w.heap.size (.slice A (allA a b k).length cp) (allA a b k) ∧ Below w.heap.size w wr) (fun _ i _ => 6 - (intOf i).toNat)
  case atStart => exact ⟨0, _, 0, by omega, rfl, by rw [h0]; rfl, by rw [h0]; exact OwnI.empty _ _ (Nat.le_refl _), (Below.refl _ _).alloc (Nat.le_refl _) _⟩
  case round =>
    obtain ⟨k, A, cp, hk, rfl, rfl, hown, hbl⟩ := hrel
    clear h0
    have hz := hbl.size
    have hl := Nat.le_of_eq (allA_len a b k)
    by_cases hlt : k < 6
    · have g1 : decide ((k : Int) ≤ 5) = true := decide_eq_true (by omega)
      have E := Lib.hid (allA_succ a b k)
      have hc := fun W => l16Answer_any (k : Int) a b W (by omega) (by omega) ha ha' hb hb'
      generalize ansV (k : Int) a b = v at *
      go_wp2_with fail
      refine (hc _).mono ?_
      rintro e w1 ⟨rfl, hb1⟩
      have hown1 := hown.below hb1 (Nat.le_refl _)
      have hbl1 := hbl.trans (hb1.mono hz)
      have hz1 := hbl1.size
      go_wp2_with (at_builtin; refine wpList_app_int rfl _ _ rfl w.heap.size _ _ rfl hown1 w.heap.size w hbl1 v 1 1 rfl rfl (by omega) hz1 (Nat.le_refl _) ?_; intro A1 c1 w2 hown2 hbl2 hgr2)
      go_roundw
      case rel => exact ⟨k + 1, A1, c1, by omega, by go_num, by rw [E.out, List.length_append]; rfl, by rw [E.out]; rw [List.length_append]; exact hown2, hbl2⟩
      case measure => simp [intOf]; omega
    · obtain rfl : k = 6 := by omega
      go_wp2
      go_ret
      exact ⟨A, cp, rfl, hown, hbl⟩
set_option maxHeartbeats 800000 in
theorem allAnswersI_any (a : Int) (b : Int) (w : World) :
    Calls Try.prog 28 #[.int .i64 a, .int .i64 b] w (RetI w (allW a b) (taskB a b)) := by
  cases h2 : taskB a b
  · rw [allW_no h2]
    go_enter Try.func28, Try.ntmps28
    go_wp2_with (go_at_call 54; refine (isTask_any _ _ _).mono ?_; rintro e w' ⟨rfl, rfl⟩; rw [h2])
    go_ret2
    exact ⟨none, 0, rfl, OwnI.nil _ _, Below.refl _ _⟩
  · rw [allW_yes h2]
    have ht := (taskB_iff _ _).1 h2
    go_enter Try.func28, Try.ntmps28
    go_wp2_with (first | (go_at_call 54; refine (isTask_any _ _ _).mono ?_; rintro e w' ⟨rfl, rfl⟩; rw [h2]) | (go_at_call 66; refine (allAnswers_any _ _ _ ht.1.1 ht.1.2 ht.2.1 (by omega)).mono ?_; rintro e w1 ⟨A, c, rfl, hown, hb1⟩))
    go_ret2
    exact ⟨A, c, rfl, hown, hb1⟩
set_option maxHeartbeats 800000 in
theorem allAnswersS_any (a : Int) (b : Int) (w : World) :
    Calls Try.prog 27 #[.int .i64 a, .int .i64 b] w (RetI w (allW a b) (taskB a b)) := by
  cases h2 : taskB a b
  · rw [allW_no h2]
    go_enter Try.func27, Try.ntmps27
    go_wp2_with (go_at_call 51; refine (l16Task_any _ _ _).mono ?_; rintro e w' ⟨rfl, rfl⟩; rw [h2])
    go_ret2
    exact ⟨_, 0, rfl, OwnI.empty _ _ (Nat.le_refl _), (Below.refl _ _).alloc (Nat.le_refl _) _⟩
  · rw [allW_yes h2]
    have ht := (taskB_iff _ _).1 h2
    go_enter Try.func27, Try.ntmps27
    go_wp2_with (first | (go_at_call 51; refine (l16Task_any _ _ _).mono ?_; rintro e w' ⟨rfl, rfl⟩; rw [h2]) | (go_at_call 65; refine (l16All_any _ _ _ ht.1.1 ht.1.2 ht.2.1 (by omega)).mono ?_; rintro e w1 ⟨A, c, rfl, hown, hb1⟩))
    go_ret2
    exact ⟨A, c, rfl, hown, hb1⟩
set_option maxHeartbeats 1600000 in
theorem borrowColumnsI_any (a : Int) (b : Int) (w : World) :
    Calls Try.prog 26 #[.int .i64 a, .int .i64 b] w (RetI w (borW a b) (taskB a b)) := by
  cases h2 : taskB a b
  · rw [borW_no h2]
    go_enter Try.func26, Try.ntmps26
    go_wp2_with (go_at_call 54; refine (isTask_any _ _ _).mono ?_; rintro e w' ⟨rfl, rfl⟩; rw [h2])
    go_ret2
    exact ⟨none, 0, rfl, OwnI.nil _ _, Below.refl _ _⟩
  · rw [borW_four h2]
    have ht := (taskB_iff _ _).1 h2
    have h0 := ansA_zero 0 a b
    have hc0 : borC a b 0 = [] := by unfold borC; rfl
    have hwb := wid_bd a
    go_enter Try.func26, Try.ntmps26
    go_wp2_with (go_at_call 54; refine (isTask_any _ _ _).mono ?_; rintro e w' ⟨rfl, rfl⟩; rw [h2])
    go_loopw [6, 7, 8] (fun o c i wr => ∃ (k : Nat) (A : Option Addr) (cp : Nat), k ≤ 4 ∧ c = .int .i64 (ansA 0 a b k).2 ∧ i = .int .i64 k ∧ o = .slice A (borC a b k).length cp ∧ OwnI wr w.heap.size (.slice A (borC a b k).length cp) (borC a b k) ∧ Below w.heap.size w wr) (fun _ _ i _ => 4 - (intOf i).toNat)
    case atStart => exact ⟨0, none, 0, by omega, by rw [h0], rfl, by rw [hc0]; rfl, by rw [hc0]; exact OwnI.nil _ _, Below.refl _ _⟩
    case round =>
      obtain ⟨k, A, cp, hk, rfl, rfl, rfl, hown, hbl⟩ := hrel
      clear h0 hc0
      have hz := hbl.size
      have hp := pw_pos k
      have hp2 := pw_mono (j := k) (k := 4) (by omega)
      rw [pw4] at hp2
      have hda := div_bd a (pw k) 9999 hp ht.1.1 ht.1.2
      have hdb := div_bd b (pw k) 9999 hp ht.2.1 (by omega)
      have hc2 := ansA_bd2 0 a b k
      have hcol := col_at 0 a b k
      have hcv := colV_bd 0 _ _ hcol.1.1 hcol.1.2 hcol.2.1 hcol.2.2
      have hcc := fun W => column_any 0 _ _ W (by omega) (by omega) hcol.1.1 hcol.1.2 hcol.2.1 hcol.2.2
      have hl := borC_len a b k
      by_cases hlt : k < 4
      · have g1 : decide ((k : Int) < 4) = true := decide_eq_true (by omega)
        have e2 := Lib.hid (ansA_2 0 a b k)
        have hs := borC_succ a b k
        rw [ansA_2] at hs
        generalize hcvg : colV 0 (a / pw k % 10 - (ansA 0 a b k).2) (b / pw k % 10) = cv at *
        clear hcvg
        by_cases hpos : 0 < cv.2
        · rw [if_pos hpos] at hs
          have E := Lib.hid hs
          clear hs
          have g2 : decide (0 < cv.2) = true := decide_eq_true hpos
          go_wp2_with fail
          go_quiet ((first | (go_at_call 64; exact Calls.quiet_of_same (power_any _ _ (by omega) (by omega))) | (go_at_call 63; exact Calls.quiet_of_same (same_symm (hcc _)))))
          go_wp2_with (at_builtin; refine wpList_app_int rfl _ _ rfl w.heap.size _ _ rfl (hown.drewN nq) w.heap.size w (below_drewN hbl nq) k 1 1 rfl rfl (by omega) hz (Nat.le_refl _) ?_; intro A1 c1 w2 hown2 hbl2 hgr2)
          go_roundw
          case rel => exact ⟨k + 1, A1, c1, by omega, by rw [e2.out], by go_num, by rw [E.out, List.length_append]; rfl, by rw [E.out]; rw [List.length_append]; exact hown2, hbl2⟩
          case measure => simp [intOf]; omega
        · rw [if_neg hpos] at hs
          have E := Lib.hid hs
          clear hs
          have g2 : decide (0 < cv.2) = false := decide_eq_false hpos
          go_wp2_with fail
          go_quiet ((first | (go_at_call 64; exact Calls.quiet_of_same (power_any _ _ (by omega) (by omega))) | (go_at_call 63; exact Calls.quiet_of_same (same_symm (hcc _)))))
          go_wp2
          go_roundw
          case rel => exact ⟨k + 1, A, cp, by omega, by rw [e2.out], by go_num, by rw [E.out], by rw [E.out]; exact hown, below_drewN hbl _⟩
          case measure => simp [intOf]; omega
      · obtain rfl : k = 4 := by omega
        clear hcc hcv hcol
        go_wp2
        go_ret2
        exact ⟨A, cp, rfl, hown, hbl⟩
set_option maxHeartbeats 1600000 in
theorem borrowColumnsS_any (a : Int) (b : Int) (w : World) :
    Calls Try.prog 25 #[.int .i64 a, .int .i64 b] w (RetI w (borW a b) (taskB a b)) := by
  cases h2 : taskB a b
  · rw [borW_no h2]
    go_enter Try.func25, Try.ntmps25
    go_wp2_with (go_at_call 51; refine (l16Task_any _ _ _).mono ?_; rintro e w' ⟨rfl, rfl⟩; rw [h2])
    go_ret2
    exact ⟨_, 0, rfl, OwnI.empty _ _ (Nat.le_refl _), (Below.refl _ _).alloc (Nat.le_refl _) _⟩
  · rw [borW_yes h2]
    have ht := (taskB_iff _ _).1 h2
    have h0 := ansA_zero 0 a b
    have hc0 : borC a b 0 = [] := by unfold borC; rfl
    have hwb := wid_bd a
    go_enter Try.func25, Try.ntmps25
    go_wp2_with (go_at_call 51; refine (l16Task_any _ _ _).mono ?_; rintro e w' ⟨rfl, rfl⟩; rw [h2])
    go_loopw [6, 7, 8] (fun o c i wr => ∃ (k : Nat) (A : Option Addr) (cp : Nat), k ≤ wid a ∧ c = .int .i64 (ansA 0 a b k).2 ∧ i = .int .i64 k ∧ o = .slice A (borC a b k).length cp ∧ OwnI wr w.heap.size (.slice A (borC a b k).length cp) (borC a b k) ∧ Below w.heap.size w wr) (fun _ _ i _ => wid a - (intOf i).toNat)
    case atStart => exact ⟨0, _, 0, by omega, by rw [h0], rfl, by rw [hc0]; rfl, by rw [hc0]; exact OwnI.empty _ _ (Nat.le_refl _), (Below.refl _ _).alloc (Nat.le_refl _) _⟩
    case round =>
      obtain ⟨k, A, cp, hk, rfl, rfl, rfl, hown, hbl⟩ := hrel
      clear h0 hc0
      have hz := hbl.size
      have hp := pw_pos k
      have hp2 := pw_mono (j := k) (k := 4) (by omega)
      rw [pw4] at hp2
      have hda := div_bd a (pw k) 9999 hp ht.1.1 ht.1.2
      have hdb := div_bd b (pw k) 9999 hp ht.2.1 (by omega)
      have hc2 := ansA_bd2 0 a b k
      have hcol := col_at 0 a b k
      have hcv := colV_bd 0 _ _ hcol.1.1 hcol.1.2 hcol.2.1 hcol.2.2
      have hcc := fun W => l16Column_any 0 _ _ W (by omega) (by omega) hcol.1.1 hcol.1.2 hcol.2.1 hcol.2.2
      have hl := borC_len a b k
      by_cases hlt : k < wid a
      · have g1 : decide ((k : Int) < (wid a : Int)) = true := decide_eq_true (by omega)
        have e2 := Lib.hid (ansA_2 0 a b k)
        have hs := borC_succ a b k
        rw [ansA_2] at hs
        generalize hcvg : colV 0 (a / pw k % 10 - (ansA 0 a b k).2) (b / pw k % 10) = cv at *
        clear hcvg
        by_cases hpos : 0 < cv.2
        · rw [if_pos hpos] at hs
          have E := Lib.hid hs
          clear hs
          have g2 : decide (0 < cv.2) = true := decide_eq_true hpos
          go_wp2_with (go_at_call 60; refine (l16Width_any _ _ ht.1.1 ht.1.2).mono ?_; rintro e w1 ⟨rfl, hb1⟩)
          go_quiet ((first | (go_at_call 62; exact Calls.quiet_of_same (power2_any _ _ (by omega) (by omega))) | (go_at_call 61; exact Calls.quiet_of_same (same_symm (hcc _)))))
          go_wp2_with (at_builtin; refine wpList_app_int rfl _ _ rfl w.heap.size _ _ rfl ((hown.below hb1 (Nat.le_refl _)).drewN nq) w.heap.size w (below_drewN (hbl.trans (hb1.mono hz)) nq) k 1 1 rfl rfl (by omega) (Nat.le_trans hz hb1.size) (Nat.le_refl _) ?_; intro A1 c1 w2 hown2 hbl2 hgr2)
          go_roundw
          case rel => exact ⟨k + 1, A1, c1, by omega, by rw [e2.out], by go_num, by rw [E.out, List.length_append]; rfl, by rw [E.out]; rw [List.length_append]; exact hown2, hbl2⟩
          case measure => simp [intOf]; omega
        · rw [if_neg hpos] at hs
          have E := Lib.hid hs
          clear hs
          have g2 : decide (0 < cv.2) = false := decide_eq_false hpos
          go_wp2_with (go_at_call 60; refine (l16Width_any _ _ ht.1.1 ht.1.2).mono ?_; rintro e w1 ⟨rfl, hb1⟩)
          go_quiet ((first | (go_at_call 62; exact Calls.quiet_of_same (power2_any _ _ (by omega) (by omega))) | (go_at_call 61; exact Calls.quiet_of_same (same_symm (hcc _)))))
          go_wp2
          go_roundw
          case rel => exact ⟨k + 1, A, cp, by omega, by rw [e2.out], by go_num, by rw [E.out], by rw [E.out]; exact (hown.below hb1 (Nat.le_refl _)).drewN _, below_drewN (hbl.trans (hb1.mono hz)) _⟩
          case measure => simp [intOf]; omega
      · obtain rfl : k = wid a := by omega
        clear hcc hcv hcol
        go_wp2_with (go_at_call 60; refine (l16Width_any _ _ ht.1.1 ht.1.2).mono ?_; rintro e w1 ⟨rfl, hb1⟩)
        go_ret2
        exact ⟨A, cp, rfl, (hown.below hb1 (Nat.le_refl _)), (hbl.trans (hb1.mono hz))⟩
end Go.Proofs.Ytcljnfmlakpflaa
