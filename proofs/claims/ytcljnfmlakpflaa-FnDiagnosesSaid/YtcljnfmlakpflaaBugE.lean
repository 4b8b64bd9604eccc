/-
  Lists of answers: the test, the wrong ones, how many a bug explains: contracts.
-/
import Derived.Test.YtcljnfmlakpflaaBugD
import Derived.Test.YtcljnfmlakpflaaTriples
namespace Go.Proofs.Ytcljnfmlakpflaa
open Go.RowKit

theorem cell_box_old {w : World} {a : Addr} {v : Value} (h : w.cell? a = some v) (o : Obj) : (w.alloc o).cell? a = some v := (World.cell?_alloc_lt w o a (World.block_lt_of_cell? w a h)).trans h
theorem cell_box_new (w : World) (cs : Array Value) (t : TypeId) (i : Nat) (v : Value) (h : cs[i]? = some v) : (w.alloc (.cells cs t)).cell? ⟨w.heap.size, i, none⟩ = some v := (cell_of_row _ _ i cs t (0, 0) (heap_alloc_new w _)).trans h
def ansP (x : Int × Int × Int) : Bool := taskB x.1 x.2.1 && inB x.2.2 0 9999
theorem ansP_at (p q r : Int) : ansP (p, q, r) = (taskB p q && inB r 0 9999) := rfl
def listB (l : List (Int × Int × Int)) : Bool := inB l.length 1 10 && l.all ansP
theorem listB_len {l : List (Int × Int × Int)} (h : inB l.length 1 10 = false) : listB l = false := by simp [listB, h]
theorem listB_bad {l : List (Int × Int × Int)} (h : l.all ansP = false) : listB l = false := by simp [listB, h]
theorem listB_all {l : List (Int × Int × Int)} (h : l.all ansP = true) : listB l = inB l.length 1 10 := by simp [listB, h]
theorem listB_good {l : List (Int × Int × Int)} (h1 : inB l.length 1 10 = true) (h2 : l.all ansP = true) : listB l = true := by simp [listB, h1, h2]
theorem listB_iff {l : List (Int × Int × Int)} (h : listB l = true) : (1 ≤ l.length ∧ l.length ≤ 10) ∧ ∀ (k : Nat) (p q r : Int), l[k]? = some (p, q, r) → (0 ≤ p ∧ p ≤ 9999) ∧ (0 ≤ q ∧ q ≤ p) ∧ (0 ≤ r ∧ r ≤ 9999) := by
  simp only [listB, Bool.and_eq_true, inB_iff] at h
  refine ⟨by omega, fun k p q r hx => ?_⟩
  have := all_get h.2 hx
  rw [ansP_at, Bool.and_eq_true, taskB_iff, inB_iff] at this
  exact ⟨this.1.1, this.1.2, this.2⟩
/-- The places of the answers among the first k that are not right. -/
def wrA (l : List (Int × Int × Int)) : Nat → List Int
  | 0 => []
  | k + 1 => match l[k]? with
    | some x => if x.2.2 = x.1 - x.2.1 then wrA l k else wrA l k ++ [(k : Int)]
    | none => wrA l k
theorem wrA_no {l : List (Int × Int × Int)} {k : Nat} {p q r : Int} (hx : l[k]? = some (p, q, r)) (h : r = p - q) : wrA l (k + 1) = wrA l k := by simp [wrA, hx, h]
theorem wrA_yes {l : List (Int × Int × Int)} {k : Nat} {p q r : Int} (hx : l[k]? = some (p, q, r)) (h : ¬ r = p - q) : wrA l (k + 1) = wrA l k ++ [(k : Int)] := by simp [wrA, hx, h]
theorem wrA_len (l : List (Int × Int × Int)) (k : Nat) : (wrA l k).length ≤ k := by
  induction k with
  | zero => simp [wrA]
  | succ k ih =>
    simp only [wrA]
    split
    · split
      · omega
      · simp; omega
    · omega
def wrV (l : List (Int × Int × Int)) : List Int := if listB l = true then wrA l l.length else []
theorem wrV_no {l : List (Int × Int × Int)} (h : listB l = false) : wrV l = [] := by simp [wrV, h]
theorem wrV_yes {l : List (Int × Int × Int)} (h : listB l = true) : wrV l = wrA l l.length := by simp [wrV, h]
theorem wrV_len (l : List (Int × Int × Int)) : (wrV l).length ≤ 10 := by
  cases h : listB l
  · rw [wrV_no h]; simp
  · rw [wrV_yes h]
    have := wrA_len l l.length
    have := (listB_iff h).1
    omega
/-- How many of the first k answers come out with a bug. -/
def expA (bug : Int) (l : List (Int × Int × Int)) : Nat → Int
  | 0 => 0
  | k + 1 => match l[k]? with
    | some x => if (ansV bug x.1 x.2.1 == x.2.2) = true then expA bug l k + 1 else expA bug l k
    | none => expA bug l k
theorem expA_yes (bug : Int) {l : List (Int × Int × Int)} {k : Nat} {p q r : Int} (hx : l[k]? = some (p, q, r)) (h : (ansV bug p q == r) = true) : expA bug l (k + 1) = expA bug l k + 1 := by
  simp only [expA, hx]; rw [if_pos h]
theorem expA_no (bug : Int) {l : List (Int × Int × Int)} {k : Nat} {p q r : Int} (hx : l[k]? = some (p, q, r)) (h : (ansV bug p q == r) = false) : expA bug l (k + 1) = expA bug l k := by
  simp only [expA, hx]; rw [if_neg (by simp only [h]; decide)]
theorem expA_bd (bug : Int) (l : List (Int × Int × Int)) (k : Nat) : 0 ≤ expA bug l k ∧ expA bug l k ≤ k := by
  induction k with
  | zero => simp [expA]
  | succ k ih =>
    simp only [expA]
    split
    · split <;> omega
    · omega
attribute [irreducible] ansP listB wrA wrV expA

set_option maxHeartbeats 800000 in
theorem areAnswers_any (A : Option Addr) (c : Nat) (l : List (Int × Int × Int)) (w : World) (hn : l.length ≤ 16777216) (h : RdT tripT w A l) :
    Calls Try.prog 58 #[.slice A l.length c] w fun e w' => e = .returned (.bool (listB l)) ∧ Below w.heap.size w w' := by
  cases hg0 : inB l.length 1 10
  · rw [listB_len hg0]
    go_enter Try.func58, Try.ntmps58
    go_wp2_with (go_at_call 73; refine (within_any _ _ _ _).mono ?_; rintro e w' ⟨rfl, rfl⟩; rw [hg0])
    go_ret
    exact ⟨rfl, Below.refl _ _⟩
  · go_enter Try.func58, Try.ntmps58
    go_wp2_with (go_at_call 73; refine (within_any _ _ _ _).mono ?_; rintro e w' ⟨rfl, rfl⟩; rw [hg0])
    go_loopw [11] (fun i wr => ∃ k : Nat, k ≤ l.length ∧ i = .int .i64 k ∧ Hid ((l.take k).all ansP = true) ∧ RdT tripT wr A l ∧ Below w.heap.size w wr) (fun i _ => l.length - (intOf i).toNat)
    case atStart => exact ⟨0, by omega, rfl, Lib.hid (by simp), h, Below.refl _ _⟩
    case round =>
      obtain ⟨k, hk, rfl, hall, hr, hb⟩ := hrel
      have hz := hb.size
      by_cases hlt : k < l.length
      · obtain ⟨b, off, p, q, r, rfl, hx, _, hc1, hc2, hc3⟩ := trip_at hr hlt
        have hap := ansP_at p q r
        cases ht : taskB p q
        · have hg : ansP (p, q, r) = false := by rw [hap, ht]; rfl
          have E := Lib.hid (listB_bad (all_bad ansP hx hg))
          clear hx hap
          go_wp2_with (go_at_call 54; refine (isTask_any _ _ _).mono ?_; rintro e w' ⟨rfl, rfl⟩; rw [ht])
          go_ret
          exact ⟨by rw [E.out]; rfl, hb.alloc hz _⟩
        cases ht2 : inB r 0 9999
        · have hg : ansP (p, q, r) = false := by rw [hap, ht, ht2]; rfl
          have E := Lib.hid (listB_bad (all_bad ansP hx hg))
          clear hx hap
          go_wp2_with (first | (go_at_call 54; refine (isTask_any _ _ _).mono ?_; rintro e w' ⟨rfl, rfl⟩; rw [ht]) | (go_at_call 73; refine (within_any _ _ _ _).mono ?_; rintro e w' ⟨rfl, rfl⟩; rw [ht2]))
          go_ret
          exact ⟨by rw [E.out]; rfl, hb.alloc hz _⟩
        · have hg : ansP (p, q, r) = true := by rw [hap, ht, ht2]; rfl
          have hall' := Lib.hid (show (l.take (k + 1)).all ansP = true by rw [all_succ ansP hx, hall.out]; exact hg)
          clear hx hall hap
          go_wp2_with (first | (go_at_call 54; refine (isTask_any _ _ _).mono ?_; rintro e w' ⟨rfl, rfl⟩; rw [ht]) | (go_at_call 73; refine (within_any _ _ _ _).mono ?_; rintro e w' ⟨rfl, rfl⟩; rw [ht2]))
          go_roundw
          case rel => exact ⟨k + 1, by omega, by go_num, hall', hr.below ((Below.refl _ _).alloc (Nat.le_refl _) _) (Nat.le_refl _), hb.alloc hz _⟩
          case measure => simp [intOf]; omega
      · have E := Lib.hid (listB_good hg0 (by rw [← all_take l ansP k (by omega)]; exact hall.out))
        clear hall
        go_wp2
        go_ret
        exact ⟨by rw [E.out]; rfl, hb⟩
set_option maxHeartbeats 800000 in
theorem l16List_any (A : Option Addr) (c : Nat) (l : List (Int × Int × Int)) (w : World) (hn : l.length ≤ 16777216) (h : RdT tripT w A l) :
    Calls Try.prog 56 #[.slice A l.length c] w fun e w' => e = .returned (.bool (listB l)) ∧ Below w.heap.size w w' := by
  go_enter Try.func56, Try.ntmps56
  go_wp2
  go_loopw [3] (fun i wr => ∃ k : Nat, k ≤ l.length ∧ i = .int .i64 k ∧ Hid ((l.take k).all ansP = true) ∧ RdT tripT wr A l ∧ Below w.heap.size w wr) (fun i _ => l.length - (intOf i).toNat)
  case atStart => exact ⟨0, by omega, rfl, Lib.hid (by simp), h, Below.refl _ _⟩
  case round =>
    obtain ⟨k, hk, rfl, hall, hr, hb⟩ := hrel
    have hz := hb.size
    by_cases hlt : k < l.length
    · obtain ⟨b, off, p, q, r, rfl, hx, _, hc1, hc2, hc3⟩ := trip_at hr hlt
      have hap := ansP_at p q r
      have HT := fun W => l16Task_any p q W
      have HW := fun W => l1In_any r 0 9999 W
      cases ht : taskB p q
      · rw [ht] at HT
        have hg : ansP (p, q, r) = false := by rw [hap, ht]; rfl
        have E := Lib.hid (listB_bad (all_bad ansP hx hg))
        clear hx hap
        go_wp2_with fail
        go_quiet ((go_at_call 51; exact Calls.quiet_of_same (same_symm (HT _))))
        go_wp2
        go_ret
        exact ⟨by rw [E.out]; rfl, below_drewN hb _⟩
      cases ht2 : inB r 0 9999
      · rw [ht] at HT
        rw [ht2] at HW
        have hg : ansP (p, q, r) = false := by rw [hap, ht, ht2]; rfl
        have E := Lib.hid (listB_bad (all_bad ansP hx hg))
        clear hx hap
        go_wp2_with fail
        go_quiet ((first | (go_at_call 51; exact Calls.quiet_of_same (same_symm (HT _))) | (go_at_call 69; exact Calls.quiet_of_same (same_symm (HW _)))))
        go_wp2
        go_ret
        exact ⟨by rw [E.out]; rfl, below_drewN hb _⟩
      · rw [ht] at HT
        rw [ht2] at HW
        have hg : ansP (p, q, r) = true := by rw [hap, ht, ht2]; rfl
        have hall' := Lib.hid (show (l.take (k + 1)).all ansP = true by rw [all_succ ansP hx, hall.out]; exact hg)
        clear hx hall hap
        go_wp2_with fail
        go_quiet ((first | (go_at_call 51; exact Calls.quiet_of_same (same_symm (HT _))) | (go_at_call 69; exact Calls.quiet_of_same (same_symm (HW _)))))
        go_wp2
        go_roundw
        case rel => exact ⟨k + 1, by omega, by go_num, hall', hr, below_drewN hb _⟩
        case measure => simp [intOf]; omega
    · have hall2 : l.all ansP = true := by rw [← all_take l ansP k (by omega)]; exact hall.out
      have E := Lib.hid (listB_all hall2)
      clear hall hall2
      go_wp2_with (go_at_call 69; refine (l1In_any _ _ _ _).mono ?_; rintro e w' ⟨rfl, rfl⟩)
      go_ret
      exact ⟨by rw [E.out]; rfl, hb⟩
set_option maxHeartbeats 1600000 in
theorem wrongAnswersI_any (A : Option Addr) (c : Nat) (l : List (Int × Int × Int)) (w : World) (hn : l.length ≤ 16777216) (h : RdT tripT w A l) :
    Calls Try.prog 19 #[.slice A l.length c] w (RetI w (wrV l) (listB l)) := by
  cases hs : listB l
  · rw [wrV_no hs]
    go_enter Try.func19, Try.ntmps19
    go_wp2_with (go_at_call 58; refine (areAnswers_any A c l _ hn h).mono ?_; rintro e w1 ⟨rfl, hb1⟩; rw [hs])
    go_ret2
    exact ⟨none, 0, rfl, OwnI.nil _ _, hb1⟩
  · rw [wrV_yes hs]
    have hL := listB_iff hs
    have hw0 : wrA l 0 = [] := by unfold wrA; rfl
    go_enter Try.func19, Try.ntmps19
    go_wp2_with (go_at_call 58; refine (areAnswers_any A c l _ hn h).mono ?_; rintro e w1 ⟨rfl, hb1⟩; rw [hs])
    go_loopw [4, 12] (fun o i wr => ∃ (k : Nat) (A' : Option Addr) (cp : Nat), k ≤ l.length ∧ i = .int .i64 k ∧ o = .slice A' (wrA l k).length cp ∧ OwnI wr w.heap.size (.slice A' (wrA l k).length cp) (wrA l k) ∧ Below w.heap.size w wr) (fun _ i _ => l.length - (intOf i).toNat)
    case atStart => exact ⟨0, none, 0, by omega, rfl, by rw [hw0]; rfl, by rw [hw0]; exact OwnI.nil _ _, hb1⟩
    case round =>
      obtain ⟨k, A', cp, hk, rfl, rfl, hown, hb⟩ := hrel
      clear hw0 hb1
      have hz := hb.size
      have hl := wrA_len l k
      have hr := h.below hb (Nat.le_refl _)
      by_cases hlt : k < l.length
      · obtain ⟨b, off, p, q, r, rfl, hx, _, hc1, hc2, hc3⟩ := trip_at hr hlt
        have hbd := hL.2 k p q r hx
        have hL1 := hL.1
        clear hL
        by_cases heq : r = p - q
        · have g : (r != p - q) = false := by simp [heq]
          have E := Lib.hid (wrA_no hx heq)
          clear hx
          go_wp2
          go_roundw
          case rel => exact ⟨k + 1, A', cp, by omega, by go_num, by rw [E.out], by rw [E.out]; exact hown.alloc _, hb.alloc hz _⟩
          case measure => simp [intOf]; omega
        · have g : (r != p - q) = true := by simp; omega
          have E := Lib.hid (wrA_yes hx heq)
          clear hx
          go_wp2_with (at_builtin; refine wpList_app_int rfl _ _ rfl w.heap.size _ _ rfl (hown.alloc (.cells #[.int .i64 p, .int .i64 q, .int .i64 r] 54)) w.heap.size w (hb.alloc hz _) k 1 1 (by show Value.slice (some ⟨wr.heap.size + 1, 0, none⟩) 1 1 = _; simp) rfl (by omega) (by simp; omega) (Nat.le_refl _) ?_; intro A3 c3 w3 hown3 hb3 hgr3)
          go_roundw
          case rel => exact ⟨k + 1, A3, c3, by omega, by go_num, by rw [E.out, List.length_append]; rfl, by rw [E.out]; rw [List.length_append]; exact hown3, hb3⟩
          case measure => simp [intOf]; omega
      · obtain rfl : k = l.length := by omega
        go_wp2
        go_ret2
        exact ⟨A', cp, rfl, hown, hb⟩
set_option maxHeartbeats 1600000 in
theorem wrongAnswersS_any (A : Option Addr) (c : Nat) (l : List (Int × Int × Int)) (w : World) (hn : l.length ≤ 16777216) (h : RdT tripT w A l) :
    Calls Try.prog 17 #[.slice A l.length c] w (RetI w (wrV l) (listB l)) := by
  cases hs : listB l
  · rw [wrV_no hs]
    go_enter Try.func17, Try.ntmps17
    go_wp2_with (go_at_call 56; refine (l16List_any A c l _ hn (h.below ((Below.refl _ w).alloc (Nat.le_refl _) (.cells #[] 3)) (Nat.le_refl _))).mono ?_; rintro e w1 ⟨rfl, hb1'⟩; rw [hs]; have hb1 := ((Below.refl _ w).alloc (Nat.le_refl _) (.cells #[] 3)).trans (hb1'.mono (by simp)); have hem := (OwnI.empty w w.heap.size (Nat.le_refl _)).below hb1' (Nat.le_refl _); clear hb1')
    go_ret2
    exact ⟨_, 0, rfl, hem, hb1⟩
  · rw [wrV_yes hs]
    have hL := listB_iff hs
    have hw0 : wrA l 0 = [] := by unfold wrA; rfl
    go_enter Try.func17, Try.ntmps17
    go_wp2_with (go_at_call 56; refine (l16List_any A c l _ hn (h.below ((Below.refl _ w).alloc (Nat.le_refl _) (.cells #[] 3)) (Nat.le_refl _))).mono ?_; rintro e w1 ⟨rfl, hb1'⟩; rw [hs]; have hb1 := ((Below.refl _ w).alloc (Nat.le_refl _) (.cells #[] 3)).trans (hb1'.mono (by simp)); have hem := (OwnI.empty w w.heap.size (Nat.le_refl _)).below hb1' (Nat.le_refl _); clear hb1')
    go_loopw [4, 5] (fun o i wr => ∃ (k : Nat) (A' : Option Addr) (cp : Nat), k ≤ l.length ∧ i = .int .i64 k ∧ o = .slice A' (wrA l k).length cp ∧ OwnI wr w.heap.size (.slice A' (wrA l k).length cp) (wrA l k) ∧ Below w.heap.size w wr) (fun _ i _ => l.length - (intOf i).toNat)
    case atStart => exact ⟨0, _, 0, by omega, rfl, by rw [hw0]; rfl, by rw [hw0]; exact hem, hb1⟩
    case round =>
      obtain ⟨k, A', cp, hk, rfl, rfl, hown, hb⟩ := hrel
      clear hw0 hb1 hem
      have hz := hb.size
      have hl := wrA_len l k
      have hr := h.below hb (Nat.le_refl _)
      by_cases hlt : k < l.length
      · obtain ⟨b, off, p, q, r, rfl, hx, _, hc1, hc2, hc3⟩ := trip_at hr hlt
        have hbd := hL.2 k p q r hx
        have hL1 := hL.1
        clear hL
        by_cases heq : r = p - q
        · have g : (p - q != r) = false := by simp [heq]
          have E := Lib.hid (wrA_no hx heq)
          clear hx
          go_wp2_with fail
          go_quiet (fail)
          go_wp2
          go_roundw
          case rel => exact ⟨k + 1, A', cp, by omega, by go_num, by rw [E.out], by rw [E.out]; exact hown.drewN _, below_drewN hb _⟩
          case measure => simp [intOf]; omega
        · have g : (p - q != r) = true := by simp; omega
          have E := Lib.hid (wrA_yes hx heq)
          clear hx
          go_wp2_with fail
          go_quiet (fail)
          go_wp2_with (at_builtin; refine wpList_app_int rfl _ _ rfl w.heap.size _ _ rfl (hown.drewN nq) w.heap.size w (below_drewN hb nq) k 1 1 rfl rfl (by omega) hz (Nat.le_refl _) ?_; intro A3 c3 w3 hown3 hb3 hgr3)
          go_roundw
          case rel => exact ⟨k + 1, A3, c3, by omega, by go_num, by rw [E.out, List.length_append]; rfl, by rw [E.out]; rw [List.length_append]; exact hown3, hb3⟩
          case measure => simp [intOf]; omega
      · obtain rfl : k = l.length := by omega
        go_wp2
        go_ret2
        exact ⟨A', cp, rfl, hown, hb⟩
set_option maxHeartbeats 1600000 in
theorem explained_any (bug : Int) (A : Option Addr) (c : Nat) (l : List (Int × Int × Int)) (w : World) (hb0 : 0 ≤ bug) (hb5 : bug ≤ 5) (hs : listB l = true) (h : RdT tripT w A l) :
    Calls Try.prog 71 #[.int .i64 bug, .slice A l.length c] w fun e w' => e = .returned (.int .i64 (expA bug l l.length)) ∧ Below w.heap.size w w' := by
  have hL := listB_iff hs
  have he0 : expA bug l 0 = 0 := by unfold expA; rfl
  clear hs
  go_enter Try.func71, Try.ntmps71
  go_wp2
  go_loopw [5, 10] (fun o i wr => ∃ (k : Nat), k ≤ l.length ∧ i = .int .i64 k ∧ o = .int .i64 (expA bug l k) ∧ Below w.heap.size w wr) (fun _ i _ => l.length - (intOf i).toNat)
  case atStart => exact ⟨0, by omega, rfl, by rw [he0], Below.refl _ _⟩
  case round =>
    obtain ⟨k, hk, rfl, rfl, hb⟩ := hrel
    clear he0
    have hz := hb.size
    have hbe := expA_bd bug l k
    have hr := h.below hb (Nat.le_refl _)
    by_cases hlt : k < l.length
    · obtain ⟨b, off, p, q, r, rfl, hx, _, hc1, hc2, hc3⟩ := trip_at hr hlt
      have hbd := hL.2 k p q r hx
      have hL1 := hL.1
      clear hL
      have HC := fun W => answerWith_any bug p q W hb0 hb5 hbd.1.1 hbd.1.2 hbd.2.1.1 (by omega)
      cases hh : (ansV bug p q == r)
      · have g : (ansV bug p q == r) = false := hh
        have E := Lib.hid (expA_no bug hx hh)
        clear hx
        go_wp2_with fail
        have hx0 := cell_regrown (w := wr.alloc (.cells #[.int .i64 p, .int .i64 q, .int .i64 r] 54)) (cell_box_new wr #[.int .i64 p, .int .i64 q, .int .i64 r] 54 0 _ rfl)
        have hx1 := cell_regrown (w := wr.alloc (.cells #[.int .i64 p, .int .i64 q, .int .i64 r] 54)) (cell_box_new wr #[.int .i64 p, .int .i64 q, .int .i64 r] 54 1 _ rfl)
        have hx2 := cell_regrown (w := wr.alloc (.cells #[.int .i64 p, .int .i64 q, .int .i64 r] 54)) (cell_box_new wr #[.int .i64 p, .int .i64 q, .int .i64 r] 54 2 _ rfl)
        refine wp_region_quiet_below (by kernel_rfl) (by kernel_rfl) ?_
        repeat (go_big_quiet_step (((go_at_call 55; exact Calls.regrown_of (HC _)))))
        refine wpQuiet_nil ?_
        intro w2 hw'
        have hb2 := below_of_class hw'
        clear hw'
        go_wp2
        go_roundw
        case rel => exact ⟨k + 1, by omega, by go_num, by rw [E.out], (hb.alloc hz _).trans (hb2.mono (by first | omega | (simp; omega)))⟩
        case measure => simp [intOf]; omega
      · have g : (ansV bug p q == r) = true := hh
        have E := Lib.hid (expA_yes bug hx hh)
        clear hx
        go_wp2_with fail
        have hx0 := cell_regrown (w := wr.alloc (.cells #[.int .i64 p, .int .i64 q, .int .i64 r] 54)) (cell_box_new wr #[.int .i64 p, .int .i64 q, .int .i64 r] 54 0 _ rfl)
        have hx1 := cell_regrown (w := wr.alloc (.cells #[.int .i64 p, .int .i64 q, .int .i64 r] 54)) (cell_box_new wr #[.int .i64 p, .int .i64 q, .int .i64 r] 54 1 _ rfl)
        have hx2 := cell_regrown (w := wr.alloc (.cells #[.int .i64 p, .int .i64 q, .int .i64 r] 54)) (cell_box_new wr #[.int .i64 p, .int .i64 q, .int .i64 r] 54 2 _ rfl)
        refine wp_region_quiet_below (by kernel_rfl) (by kernel_rfl) ?_
        repeat (go_big_quiet_step (((go_at_call 55; exact Calls.regrown_of (HC _)))))
        refine wpQuiet_nil ?_
        intro w2 hw'
        have hb2 := below_of_class hw'
        clear hw'
        go_wp2
        go_roundw
        case rel => exact ⟨k + 1, by omega, by go_num, by rw [E.out], (hb.alloc hz _).trans (hb2.mono (by first | omega | (simp; omega)))⟩
        case measure => simp [intOf]; omega
    · obtain rfl : k = l.length := by omega
      go_wp2
      go_ret
      exact ⟨rfl, hb⟩
set_option maxHeartbeats 1600000 in
theorem l16Explained_any (bug : Int) (A : Option Addr) (c : Nat) (l : List (Int × Int × Int)) (w : World) (hb0 : 0 ≤ bug) (hb5 : bug ≤ 5) (hs : listB l = true) (h : RdT tripT w A l) :
    Calls Try.prog 70 #[.slice A l.length c, .int .i64 bug] w fun e w' => e = .returned (.int .i64 (expA bug l l.length)) ∧ Below w.heap.size w w' := by
  have hL := listB_iff hs
  have he0 : expA bug l 0 = 0 := by unfold expA; rfl
  clear hs
  go_enter Try.func70, Try.ntmps70
  go_wp2
  go_loopw [5, 6] (fun o i wr => ∃ (k : Nat), k ≤ l.length ∧ i = .int .i64 k ∧ o = .int .i64 (expA bug l k) ∧ Below w.heap.size w wr) (fun _ i _ => l.length - (intOf i).toNat)
  case atStart => exact ⟨0, by omega, rfl, by rw [he0], Below.refl _ _⟩
  case round =>
    obtain ⟨k, hk, rfl, rfl, hb⟩ := hrel
    clear he0
    have hz := hb.size
    have hbe := expA_bd bug l k
    have hr := h.below hb (Nat.le_refl _)
    by_cases hlt : k < l.length
    · obtain ⟨b, off, p, q, r, rfl, hx, _, hc1, hc2, hc3⟩ := trip_at hr hlt
      have hbd := hL.2 k p q r hx
      have hL1 := hL.1
      clear hL
      have HC := fun W => l16Answer_any bug p q W hb0 hb5 hbd.1.1 hbd.1.2 hbd.2.1.1 (by omega)
      cases hh : (ansV bug p q == r)
      · have g : (ansV bug p q == r) = false := hh
        have E := Lib.hid (expA_no bug hx hh)
        clear hx
        go_wp2_with fail
        have hq1 := cell_regrown hc1
        have hq2 := cell_regrown hc2
        have hq3 := cell_regrown hc3
        refine wp_region_quiet_below (by kernel_rfl) (by kernel_rfl) ?_
        repeat (go_big_quiet_step (((go_at_call 52; exact Calls.regrown_of (HC _)))))
        refine wpQuiet_nil ?_
        intro w2 hw'
        have hb2 := below_of_class hw'
        clear hw'
        go_wp2
        go_roundw
        case rel => exact ⟨k + 1, by omega, by go_num, by rw [E.out], hb.trans (hb2.mono (by first | omega | (simp; omega)))⟩
        case measure => simp [intOf]; omega
      · have g : (ansV bug p q == r) = true := hh
        have E := Lib.hid (expA_yes bug hx hh)
        clear hx
        go_wp2_with fail
        have hq1 := cell_regrown hc1
        have hq2 := cell_regrown hc2
        have hq3 := cell_regrown hc3
        refine wp_region_quiet_below (by kernel_rfl) (by kernel_rfl) ?_
        repeat (go_big_quiet_step (((go_at_call 52; exact Calls.regrown_of (HC _)))))
        refine wpQuiet_nil ?_
        intro w2 hw'
        have hb2 := below_of_class hw'
        clear hw'
        go_wp2
        go_roundw
        case rel => exact ⟨k + 1, by omega, by go_num, by rw [E.out], hb.trans (hb2.mono (by first | omega | (simp; omega)))⟩
        case measure => simp [intOf]; omega
    · obtain rfl : k = l.length := by omega
      go_wp2
      go_ret
      exact ⟨rfl, hb⟩
end Go.Proofs.Ytcljnfmlakpflaa
