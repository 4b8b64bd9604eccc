/-
  BugsForAll, BugsFor, BestBug, of the program and of the reference: contracts.
-/
import Derived.Test.YtcljnfmlakpflaaBugE
namespace Go.Proofs.Ytcljnfmlakpflaa
open Go.RowKit

theorem results_tmp3 {fn : Func} {t u v : Tmp} (h : fn.results = #[.tmp t, .tmp u, .tmp v]) (tmps : Array Value) (P : Program) (w : World) :
    (results fn tmps).run P w = .ok (.tuple #[tmps.getD t undef, tmps.getD u undef, tmps.getD v undef]) w := by simp [results, h]
/-- A call that returns two numbers, and whether there are any. -/
def RetNN (w : World) (m n : Int) (ok : Bool) (e : Ending) (w' : World) : Prop :=
  e = .returned (.tuple #[.int .i64 m, .int .i64 n, .bool ok]) ∧ Below w.heap.size w w'
/-- The bugs among the first k with which all answers come out. -/
def baA (l : List (Int × Int × Int)) : Nat → List Int
  | 0 => []
  | k + 1 => if (expA (k : Int) l l.length == (l.length : Int)) = true then baA l k ++ [(k : Int)] else baA l k
theorem baA_yes {l : List (Int × Int × Int)} {k : Nat} (h : (expA (k : Int) l l.length == (l.length : Int)) = true) : baA l (k + 1) = baA l k ++ [(k : Int)] := if_pos h
theorem baA_no {l : List (Int × Int × Int)} {k : Nat} (h : (expA (k : Int) l l.length == (l.length : Int)) = false) : baA l (k + 1) = baA l k := if_neg (by simp only [h]; decide)
theorem baA_len (l : List (Int × Int × Int)) (k : Nat) : (baA l k).length ≤ k := by
  induction k with
  | zero => simp [baA]
  | succ k ih =>
    simp only [baA]
    split
    · simp; omega
    · omega
def baV (l : List (Int × Int × Int)) : List Int := if listB l = true then baA l 6 else []
theorem baV_no {l : List (Int × Int × Int)} (h : listB l = false) : baV l = [] := by simp [baV, h]
theorem baV_yes {l : List (Int × Int × Int)} (h : listB l = true) : baV l = baA l 6 := by simp [baV, h]
theorem baV_len (l : List (Int × Int × Int)) : (baV l).length ≤ 6 := by
  cases h : listB l
  · rw [baV_no h]; simp
  · rw [baV_yes h]; exact baA_len l 6
/-- The bug of the first k with which the most answers come out, and how many. -/
def bbA (l : List (Int × Int × Int)) : Nat → Int × Int
  | 0 => (0, -1)
  | k + 1 => if (bbA l k).2 < expA (k : Int) l l.length then ((k : Int), expA (k : Int) l l.length) else bbA l k
theorem bbA_zero (l : List (Int × Int × Int)) : bbA l 0 = (0, -1) := rfl
theorem bbA_yes (l : List (Int × Int × Int)) (k : Nat) (h : (bbA l k).2 < expA (k : Int) l l.length) : bbA l (k + 1) = ((k : Int), expA (k : Int) l l.length) := if_pos h
theorem bbA_no (l : List (Int × Int × Int)) (k : Nat) (h : ¬ (bbA l k).2 < expA (k : Int) l l.length) : bbA l (k + 1) = bbA l k := if_neg h
theorem bbA_one (l : List (Int × Int × Int)) : bbA l 1 = (0, expA 0 l l.length) := bbA_yes l 0 (by have := (expA_bd 0 l l.length).1; show (-1 : Int) < expA 0 l l.length; omega)
def bbV (l : List (Int × Int × Int)) : Int × Int := if listB l = true then bbA l 6 else (0, 0)
theorem bbV_no {l : List (Int × Int × Int)} (h : listB l = false) : bbV l = (0, 0) := by simp [bbV, h]
theorem bbV_yes {l : List (Int × Int × Int)} (h : listB l = true) : bbV l = bbA l 6 := by simp [bbV, h]
theorem one_list (p q r : Int) : listB [(p, q, r)] = (taskB p q && inB r 0 9999) := by
  cases h : (taskB p q && inB r 0 9999)
  · exact listB_bad (by simp only [List.all_cons, ansP_at, h]; rfl)
  · exact listB_good (by rfl) (by simp only [List.all_cons, ansP_at, h]; rfl)
theorem one_exp (bug p q r : Int) : (expA bug [(p, q, r)] [(p, q, r)].length == (([(p, q, r)].length : Nat) : Int)) = (ansV bug p q == r) := by
  have e0 : expA bug [(p, q, r)] 0 = 0 := by unfold expA; rfl
  cases h : (ansV bug p q == r)
  · have e : expA bug [(p, q, r)] 1 = 0 := by rw [expA_no bug (k := 0) rfl h, e0]
    show (expA bug [(p, q, r)] 1 == (1 : Int)) = false
    rw [e]; rfl
  · have e : expA bug [(p, q, r)] 1 = 1 := by rw [expA_yes bug (k := 0) rfl h, e0]; rfl
    show (expA bug [(p, q, r)] 1 == (1 : Int)) = true
    rw [e]; rfl
attribute [irreducible] baA baV bbA bbV

set_option maxHeartbeats 1600000 in
theorem bugsForAllI_any (A : Option Addr) (c : Nat) (l : List (Int × Int × Int)) (w : World) (hn : l.length ≤ 16777216) (h : RdT tripT w A l) :
    Calls Try.prog 41 #[.slice A l.length c] w (RetI w (baV l) (listB l)) := by
  cases hs : listB l
  · rw [baV_no hs]
    go_enter Try.func41, Try.ntmps41
    go_wp2_with (go_at_call 58; refine (areAnswers_any A c l _ hn h).mono ?_; rintro e w1 ⟨rfl, hb1⟩; rw [hs])
    go_ret2
    exact ⟨none, 0, rfl, OwnI.nil _ _, hb1⟩
  · rw [baV_yes hs]
    have hw0 : baA l 0 = [] := by unfold baA; rfl
    go_enter Try.func41, Try.ntmps41
    go_wp2_with (go_at_call 58; refine (areAnswers_any A c l _ hn h).mono ?_; rintro e w1 ⟨rfl, hb1⟩; rw [hs])
    go_wp2
    go_loopw [4, 5] (fun o i wr => ∃ (k : Nat) (A' : Option Addr) (cp : Nat), k ≤ 6 ∧ i = .int .i64 k ∧ o = .slice A' (baA l k).length cp ∧ OwnI wr w.heap.size (.slice A' (baA l k).length cp) (baA l k) ∧ Below w.heap.size w wr) (fun _ i _ => 6 - (intOf i).toNat)
    case atStart => exact ⟨0, none, 0, by omega, rfl, by rw [hw0]; rfl, by rw [hw0]; exact OwnI.nil _ _, hb1⟩
    case round =>
      obtain ⟨k, A', cp, hk, rfl, rfl, hown, hb⟩ := hrel
      clear hw0 hb1
      have hz := hb.size
      have hl := baA_len l k
      have hr := h.below hb (Nat.le_refl _)
      by_cases hlt : k < 6
      · have g1 : decide ((k : Int) ≤ 5) = true := decide_eq_true (by omega)
        have HC := fun W hW => explained_any (k : Int) A c l W (by omega) (by omega) hs hW
        cases hh : (expA (k : Int) l l.length == (l.length : Int))
        · have E := Lib.hid (baA_no hh)
          go_wp2_with (go_at_call 71; refine (HC _ hr).mono ?_; rintro e w2 ⟨rfl, hb2⟩; have hown2 := hown.below hb2 (Nat.le_refl _); have hbl2 := hb.trans (hb2.mono hz); have hz2 := hbl2.size)
          go_roundw
          case rel => exact ⟨k + 1, A', cp, by omega, by go_num, by rw [E.out], by rw [E.out]; exact hown2, hbl2⟩
          case measure => simp [intOf]; omega
        · have E := Lib.hid (baA_yes hh)
          go_wp2_with (first | (go_at_call 71; refine (HC _ hr).mono ?_; rintro e w2 ⟨rfl, hb2⟩; have hown2 := hown.below hb2 (Nat.le_refl _); have hbl2 := hb.trans (hb2.mono hz); have hz2 := hbl2.size) | (at_builtin; refine wpList_app_int rfl _ _ rfl w.heap.size _ _ rfl hown2 w.heap.size w hbl2 k 1 1 rfl rfl (by omega) hz2 (Nat.le_refl _) ?_; intro A3 c3 w3 hown3 hb3 hgr3))
          go_roundw
          case rel => exact ⟨k + 1, A3, c3, by omega, by go_num, by rw [E.out, List.length_append]; rfl, by rw [E.out]; rw [List.length_append]; exact hown3, hb3⟩
          case measure => simp [intOf]; omega
      · obtain rfl : k = 6 := by omega
        go_wp2
        go_ret2
        exact ⟨A', cp, rfl, hown, hb⟩
set_option maxHeartbeats 1600000 in
theorem bugsForAllS_any (A : Option Addr) (c : Nat) (l : List (Int × Int × Int)) (w : World) (hn : l.length ≤ 16777216) (h : RdT tripT w A l) :
    Calls Try.prog 40 #[.slice A l.length c] w (RetI w (baV l) (listB l)) := by
  cases hs : listB l
  · rw [baV_no hs]
    go_enter Try.func40, Try.ntmps40
    go_wp2_with (go_at_call 56; refine (l16List_any A c l _ hn (h.below ((Below.refl _ w).alloc (Nat.le_refl _) (.cells #[] 3)) (Nat.le_refl _))).mono ?_; rintro e w1 ⟨rfl, hb1'⟩; rw [hs]; have hb1 := ((Below.refl _ w).alloc (Nat.le_refl _) (.cells #[] 3)).trans (hb1'.mono (by simp)); have hem := (OwnI.empty w w.heap.size (Nat.le_refl _)).below hb1' (Nat.le_refl _); clear hb1')
    go_ret2
    exact ⟨_, 0, rfl, hem, hb1⟩
  · rw [baV_yes hs]
    have hw0 : baA l 0 = [] := by unfold baA; rfl
    go_enter Try.func40, Try.ntmps40
    go_wp2_with (go_at_call 56; refine (l16List_any A c l _ hn (h.below ((Below.refl _ w).alloc (Nat.le_refl _) (.cells #[] 3)) (Nat.le_refl _))).mono ?_; rintro e w1 ⟨rfl, hb1'⟩; rw [hs]; have hb1 := ((Below.refl _ w).alloc (Nat.le_refl _) (.cells #[] 3)).trans (hb1'.mono (by simp)); have hem := (OwnI.empty w w.heap.size (Nat.le_refl _)).below hb1' (Nat.le_refl _); clear hb1')
    go_wp2
    go_loopw [4, 5] (fun o i wr => ∃ (k : Nat) (A' : Option Addr) (cp : Nat), k ≤ 6 ∧ i = .int .i64 k ∧ o = .slice A' (baA l k).length cp ∧ OwnI wr w.heap.size (.slice A' (baA l k).length cp) (baA l k) ∧ Below w.heap.size w wr) (fun _ i _ => 6 - (intOf i).toNat)
    case atStart => exact ⟨0, _, 0, by omega, rfl, by rw [hw0]; rfl, by rw [hw0]; exact hem, hb1⟩
    case round =>
      obtain ⟨k, A', cp, hk, rfl, rfl, hown, hb⟩ := hrel
      clear hw0 hb1 hem
      have hz := hb.size
      have hl := baA_len l k
      have hr := h.below hb (Nat.le_refl _)
      by_cases hlt : k < 6
      · have g1 : decide ((k : Int) ≤ 5) = true := decide_eq_true (by omega)
        have HC := fun W hW => l16Explained_any (k : Int) A c l W (by omega) (by omega) hs hW
        cases hh : (expA (k : Int) l l.length == (l.length : Int))
        · have E := Lib.hid (baA_no hh)
          go_wp2_with (go_at_call 70; refine (HC _ hr).mono ?_; rintro e w2 ⟨rfl, hb2⟩; have hown2 := hown.below hb2 (Nat.le_refl _); have hbl2 := hb.trans (hb2.mono hz); have hz2 := hbl2.size)
          go_roundw
          case rel => exact ⟨k + 1, A', cp, by omega, by go_num, by rw [E.out], by rw [E.out]; exact hown2, hbl2⟩
          case measure => simp [intOf]; omega
        · have E := Lib.hid (baA_yes hh)
          go_wp2_with (first | (go_at_call 70; refine (HC _ hr).mono ?_; rintro e w2 ⟨rfl, hb2⟩; have hown2 := hown.below hb2 (Nat.le_refl _); have hbl2 := hb.trans (hb2.mono hz); have hz2 := hbl2.size) | (at_builtin; refine wpList_app_int rfl _ _ rfl w.heap.size _ _ rfl hown2 w.heap.size w hbl2 k 1 1 rfl rfl (by omega) hz2 (Nat.le_refl _) ?_; intro A3 c3 w3 hown3 hb3 hgr3))
          go_roundw
          case rel => exact ⟨k + 1, A3, c3, by omega, by go_num, by rw [E.out, List.length_append]; rfl, by rw [E.out]; rw [List.length_append]; exact hown3, hb3⟩
          case measure => simp [intOf]; omega
      · obtain rfl : k = 6 := by omega
        go_wp2
        go_ret2
        exact ⟨A', cp, rfl, hown, hb⟩
set_option maxHeartbeats 1600000 in
theorem bestBugI_any (A : Option Addr) (c : Nat) (l : List (Int × Int × Int)) (w : World) (hn : l.length ≤ 16777216) (h : RdT tripT w A l) :
    Calls Try.prog 34 #[.slice A l.length c] w (RetNN w (bbV l).1 (bbV l).2 (listB l)) := by
  cases hs : listB l
  · rw [bbV_no hs]
    go_enter Try.func34, Try.ntmps34
    go_wp2_with (go_at_call 58; refine (areAnswers_any A c l _ hn h).mono ?_; rintro e w1 ⟨rfl, hb1⟩; rw [hs])
    refine bodyPost_ret (results_tmp3 rfl _ _ _) rfl ?_
    exact ⟨rfl, hb1⟩
  · rw [bbV_yes hs]
    have hL := (listB_iff hs).1
    go_enter Try.func34, Try.ntmps34
    go_wp2_with (go_at_call 58; refine (areAnswers_any A c l _ hn h).mono ?_; rintro e w1 ⟨rfl, hb1⟩; rw [hs])
    have e0 := bbA_zero l
    go_wp2
    go_loopw [5, 6, 7] (fun b m i wr => ∃ (k : Nat), k ≤ 6 ∧ i = .int .i64 k ∧ b = .int .i64 (bbA l k).1 ∧ m = .int .i64 (bbA l k).2 ∧ Below w.heap.size w wr) (fun _ _ i _ => 6 - (intOf i).toNat)
    case atStart => exact ⟨0, by omega, rfl, by rw [e0], by rw [e0], hb1⟩
    case round =>
      obtain ⟨k, hk, rfl, rfl, rfl, hb⟩ := hrel
      clear e0 hb1
      have hz := hb.size
      have hr := h.below hb (Nat.le_refl _)
      by_cases hlt : k < 6
      · have g1 : decide ((k : Int) ≤ 5) = true := decide_eq_true (by omega)
        have HC := fun W hW => explained_any (k : Int) A c l W (by omega) (by omega) hs hW
        by_cases hh : (bbA l k).2 < expA (k : Int) l l.length
        · have g2 : decide ((bbA l k).2 < expA (k : Int) l l.length) = true := decide_eq_true hh
          have E := Lib.hid (bbA_yes l k hh)
          clear hh
          go_wp2_with (go_at_call 71; refine (HC _ hr).mono ?_; rintro e w2 ⟨rfl, hb2⟩)
          go_roundw
          case rel => exact ⟨k + 1, by omega, by go_num, by rw [E.out], by rw [E.out], hb.trans (hb2.mono hz)⟩
          case measure => simp [intOf]; omega
        · have g2 : decide ((bbA l k).2 < expA (k : Int) l l.length) = false := decide_eq_false hh
          have E := Lib.hid (bbA_no l k hh)
          clear hh
          go_wp2_with (go_at_call 71; refine (HC _ hr).mono ?_; rintro e w2 ⟨rfl, hb2⟩)
          go_roundw
          case rel => exact ⟨k + 1, by omega, by go_num, by rw [E.out], by rw [E.out], hb.trans (hb2.mono hz)⟩
          case measure => simp [intOf]; omega
      · obtain rfl : k = 6 := by omega
        go_wp2
        refine bodyPost_ret (results_tmp3 rfl _ _ _) rfl ?_
        exact ⟨rfl, hb⟩
set_option maxHeartbeats 1600000 in
theorem bestBugS_any (A : Option Addr) (c : Nat) (l : List (Int × Int × Int)) (w : World) (hn : l.length ≤ 16777216) (h : RdT tripT w A l) :
    Calls Try.prog 33 #[.slice A l.length c] w (RetNN w (bbV l).1 (bbV l).2 (listB l)) := by
  cases hs : listB l
  · rw [bbV_no hs]
    go_enter Try.func33, Try.ntmps33
    go_wp2_with (go_at_call 56; refine (l16List_any A c l _ hn h).mono ?_; rintro e w1 ⟨rfl, hb1⟩; rw [hs])
    refine bodyPost_ret (results_tmp3 rfl _ _ _) rfl ?_
    exact ⟨rfl, hb1⟩
  · rw [bbV_yes hs]
    have hL := (listB_iff hs).1
    go_enter Try.func33, Try.ntmps33
    go_wp2_with (go_at_call 56; refine (l16List_any A c l _ hn h).mono ?_; rintro e w1 ⟨rfl, hb1⟩; rw [hs])
    have HC0 := fun W hW => l16Explained_any 0 A c l W (by omega) (by omega) hs hW
    have e1 := bbA_one l
    go_wp2_with (go_at_call 70; refine (HC0 _ (h.below hb1 (Nat.le_refl _))).mono ?_; rintro e w2 ⟨rfl, hb2⟩; have hb3 := hb1.trans (hb2.mono hb1.size))
    go_loopw [5, 6, 7] (fun b m i wr => ∃ (k : Nat), 1 ≤ k ∧ k ≤ 6 ∧ i = .int .i64 k ∧ b = .int .i64 (bbA l k).1 ∧ m = .int .i64 (bbA l k).2 ∧ Below w.heap.size w wr) (fun _ _ i _ => 6 - (intOf i).toNat)
    case atStart => exact ⟨1, by omega, by omega, rfl, by rw [e1], by rw [e1], hb3⟩
    case round =>
      obtain ⟨k, _, hk, rfl, rfl, rfl, hb⟩ := hrel
      clear HC0 e1 hb1 hb2 hb3
      have hz := hb.size
      have hr := h.below hb (Nat.le_refl _)
      by_cases hlt : k < 6
      · have g1 : decide ((k : Int) ≤ 5) = true := decide_eq_true (by omega)
        have HC := fun W hW => l16Explained_any (k : Int) A c l W (by omega) (by omega) hs hW
        by_cases hh : (bbA l k).2 < expA (k : Int) l l.length
        · have g2 : decide ((bbA l k).2 < expA (k : Int) l l.length) = true := decide_eq_true hh
          have E := Lib.hid (bbA_yes l k hh)
          clear hh
          go_wp2_with (go_at_call 70; refine (HC _ hr).mono ?_; rintro e w2 ⟨rfl, hb2⟩)
          go_roundw
          case rel => exact ⟨k + 1, by omega, by omega, by go_num, by rw [E.out], by rw [E.out], hb.trans (hb2.mono hz)⟩
          case measure => simp [intOf]; omega
        · have g2 : decide ((bbA l k).2 < expA (k : Int) l l.length) = false := decide_eq_false hh
          have E := Lib.hid (bbA_no l k hh)
          clear hh
          go_wp2_with (go_at_call 70; refine (HC _ hr).mono ?_; rintro e w2 ⟨rfl, hb2⟩)
          go_roundw
          case rel => exact ⟨k + 1, by omega, by omega, by go_num, by rw [E.out], by rw [E.out], hb.trans (hb2.mono hz)⟩
          case measure => simp [intOf]; omega
      · obtain rfl : k = 6 := by omega
        go_wp2
        refine bodyPost_ret (results_tmp3 rfl _ _ _) rfl ?_
        exact ⟨rfl, hb⟩

theorem own_trip1 (w : World) (base : Nat) (hb : base ≤ w.heap.size) (p q r : Int) : OwnT tripT (w.alloc (.cells #[.int .i64 p, .int .i64 q, .int .i64 r] 54)) base (.slice (some ⟨w.heap.size, 0, none⟩) 1 1) [(p, q, r)] := World.ownsRow_lit w #[.int .i64 p, .int .i64 q, .int .i64 r] 1 hb (by unfold maxLen; omega) rfl
set_option maxHeartbeats 1600000 in
theorem bugsForI_any (p q r : Int) (w : World) :
    Calls Try.prog 32 #[.int .i64 p, .int .i64 q, .int .i64 r] w (RetI w (baV [(p, q, r)]) (listB [(p, q, r)])) := by
  have hc := fun W hW => bugsForAllI_any (some ⟨w.heap.size, 0, none⟩) 1 [(p, q, r)] W (by simp) hW
  have hown := own_trip1 w w.heap.size (Nat.le_refl _) p q r
  generalize baV [(p, q, r)] = res at *
  generalize listB [(p, q, r)] = ok at *
  go_enter Try.func32, Try.ntmps32
  go_wp2_with (go_at_call 41; refine (hc _ hown.rd).mono ?_; rintro e w1 ⟨A, c, rfl, hown1, hb1⟩)
  go_ret2
  exact ⟨A, c, rfl, hown1.mono (by simp), ((Below.refl _ w).alloc (Nat.le_refl _) _).trans (hb1.mono (by simp))⟩
set_option maxHeartbeats 1600000 in
theorem bugsForS_any (p q r : Int) (w : World) :
    Calls Try.prog 31 #[.int .i64 p, .int .i64 q, .int .i64 r] w (RetI w (baV [(p, q, r)]) (listB [(p, q, r)])) := by
  have hl1 := one_list p q r
  have hex := fun k : Nat => one_exp (k : Int) p q r
  have hw0 : baA [(p, q, r)] 0 = [] := by unfold baA; rfl
  have hyes := fun (k : Nat) (h : (ansV (k : Int) p q == r) = true) => baA_yes (l := [(p, q, r)]) (k := k) (by rw [hex k, h])
  have hno := fun (k : Nat) (h : (ansV (k : Int) p q == r) = false) => baA_no (l := [(p, q, r)]) (k := k) (by rw [hex k, h])
  have hlen := fun k : Nat => baA_len [(p, q, r)] k
  cases ht : taskB p q
  · rw [ht] at hl1
    rw [baV_no hl1, hl1]
    clear hyes hno hlen hex hw0 hl1
    go_enter Try.func31, Try.ntmps31
    go_wp2_with (go_at_call 51; refine (l16Task_any _ _ _).mono ?_; rintro e w' ⟨rfl, rfl⟩; rw [ht])
    go_ret2
    exact ⟨_, 0, rfl, OwnI.empty _ _ (Nat.le_refl _), (Below.refl _ _).alloc (Nat.le_refl _) _⟩
  cases ht2 : inB r 0 9999
  · rw [ht, ht2] at hl1
    rw [baV_no hl1, hl1]
    clear hyes hno hlen hex hw0 hl1
    go_enter Try.func31, Try.ntmps31
    go_wp2_with (first | (go_at_call 51; refine (l16Task_any _ _ _).mono ?_; rintro e w' ⟨rfl, rfl⟩; rw [ht]) | (go_at_call 69; refine (l1In_any _ _ _ _).mono ?_; rintro e w' ⟨rfl, rfl⟩; rw [ht2]))
    go_ret2
    exact ⟨_, 0, rfl, OwnI.empty _ _ (Nat.le_refl _), (Below.refl _ _).alloc (Nat.le_refl _) _⟩
  · rw [ht, ht2] at hl1
    rw [baV_yes hl1, hl1]
    have htt := (taskB_iff _ _).1 ht
    generalize baA [(p, q, r)] = ba at *
    clear hex hl1
    go_enter Try.func31, Try.ntmps31
    go_wp2_with (first | (go_at_call 51; refine (l16Task_any _ _ _).mono ?_; rintro e w' ⟨rfl, rfl⟩; rw [ht]) | (go_at_call 69; refine (l1In_any _ _ _ _).mono ?_; rintro e w' ⟨rfl, rfl⟩; rw [ht2]))
    go_loopw [8, 9] (fun o i wr => ∃ (k : Nat) (A' : Option Addr) (cp : Nat), k ≤ 6 ∧ i = .int .i64 k ∧ o = .slice A' (ba k).length cp ∧ OwnI wr w.heap.size (.slice A' (ba k).length cp) (ba k) ∧ Below w.heap.size w wr) (fun _ i _ => 6 - (intOf i).toNat)
    case atStart => exact ⟨0, _, 0, by omega, rfl, by rw [hw0]; rfl, by rw [hw0]; exact OwnI.empty _ _ (Nat.le_refl _), (Below.refl _ _).alloc (Nat.le_refl _) _⟩
    case round =>
      obtain ⟨k, A', cp, hk, rfl, rfl, hown, hb⟩ := hrel
      clear hw0
      have hz := hb.size
      have hl := hlen k
      by_cases hlt : k < 6
      · have g1 : decide ((k : Int) ≤ 5) = true := decide_eq_true (by omega)
        have HC := fun W => l16Answer_any (k : Int) p q W (by omega) (by omega) htt.1.1 htt.1.2 htt.2.1 (by omega)
        cases hh : (ansV (k : Int) p q == r)
        · have E := Lib.hid (hno k hh)
          clear hyes hno hlen
          go_wp2_with (go_at_call 52; refine (HC _).mono ?_; rintro e w2 ⟨rfl, hb2⟩)
          go_roundw
          case rel => exact ⟨k + 1, A', cp, by omega, by go_num, by rw [E.out], by rw [E.out]; exact hown.below hb2 (Nat.le_refl _), hb.trans (hb2.mono hz)⟩
          case measure => simp [intOf]; omega
        · have E := Lib.hid (hyes k hh)
          clear hyes hno hlen
          go_wp2_with (first | (go_at_call 52; refine (HC _).mono ?_; rintro e w2 ⟨rfl, hb2⟩; have hown2 := hown.below hb2 (Nat.le_refl _); have hbl2 := hb.trans (hb2.mono hz); have hz2 := hbl2.size) | (at_builtin; refine wpList_app_int rfl _ _ rfl w.heap.size _ _ rfl hown2 w.heap.size w hbl2 k 1 1 rfl rfl (by omega) hz2 (Nat.le_refl _) ?_; intro A3 c3 w3 hown3 hb3 hgr3))
          go_roundw
          case rel => exact ⟨k + 1, A3, c3, by omega, by go_num, by rw [E.out, List.length_append]; rfl, by rw [E.out]; rw [List.length_append]; exact hown3, hb3⟩
          case measure => simp [intOf]; omega
      · obtain rfl : k = 6 := by omega
        clear hyes hno hlen
        go_wp2
        go_ret2
        exact ⟨A', cp, rfl, hown, hb⟩
end Go.Proofs.Ytcljnfmlakpflaa
