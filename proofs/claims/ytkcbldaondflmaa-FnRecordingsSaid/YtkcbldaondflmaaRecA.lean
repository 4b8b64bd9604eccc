/-
  Moves: the test of one and of a list, equality: contracts.
-/
import Derived.Test.YtkcbldaondflmaaList
import Derived.Test.YtkcbldaondflmaaMove
namespace Go.Proofs.Ytkcbldaondflmaa
open Go.RowKit

def moveB (x : MoveV) : Bool := inB x.rod 0 7 && inB x.part 0 1 && inB x.by_ (-5) 5 && (x.by_ != 0)
theorem moveB_iff {x : MoveV} (h : moveB x = true) : (0 ≤ x.rod ∧ x.rod ≤ 7) ∧ (0 ≤ x.part ∧ x.part ≤ 1) ∧ (-5 ≤ x.by_ ∧ x.by_ ≤ 5) := by
  simp only [moveB, Bool.and_eq_true, inB_iff] at h
  exact ⟨h.1.1.1, h.1.1.2, h.1.2⟩
/-- Two moves are the same. -/
def sameM (x y : MoveV) : Bool := (x.rod == y.rod) && ((x.part == y.part) && (x.by_ == y.by_))
theorem sameM_iff (x y : MoveV) : sameM x y = true ↔ x = y := by
  cases x; cases y; simp [sameM]
theorem eq_move (a b c a' b' c' : Int) (w : World) :
    (Op.equalIn 10000 52 (.agg #[.int .i64 a, .int .i64 b, .int .i64 c]) (.agg #[.int .i64 a', .int .i64 b', .int .i64 c'])).run Try.prog w = .ok (sameM ⟨a, b, c⟩ ⟨a', b', c'⟩) w := by
  have hf : (Try.prog.fieldsOf 52).toList.map (fun f => (f.type, f.offset, f.name != "_")) = [(3, 0, true), (3, 1, true), (3, 2, true)] := by kernel_rfl
  have hp0 : ∀ (a b c : Int) (W : World), (part 3 #[.int .i64 a, .int .i64 b, .int .i64 c] 0).run Try.prog W = .ok (.int .i64 a) W := fun a b c W => by kernel_rfl
  have hp1 : ∀ (a b c : Int) (W : World), (part 3 #[.int .i64 a, .int .i64 b, .int .i64 c] 1).run Try.prog W = .ok (.int .i64 b) W := fun a b c W => by kernel_rfl
  have hp2 : ∀ (a b c : Int) (W : World), (part 3 #[.int .i64 a, .int .i64 b, .int .i64 c] 2).run Try.prog W = .ok (.int .i64 c) W := fun a b c W => by kernel_rfl
  have he : ∀ (a b : Int) (W : World), (Op.equalIn 9999 3 (.int .i64 a) (.int .i64 b)).run Try.prog W = .ok (a == b) W := fun a b W => run_equalIn_int W 9998 3 .i64 .i64 a b Try.underlying3
  rw [run_equalIn_agg w 9999 _ _ _ Try.underlying52 (by kernel_rfl)]
  unfold sameM
  generalize (Try.prog.fieldsOf 52).toList = fs at hf ⊢
  have hl : fs.length = 3 := by have := congrArg List.length hf; simpa using this
  match fs, hl, hf with
  | [f0, f1, f2], _, hf =>
    simp only [List.map_cons, List.map_nil, List.cons.injEq, Prod.mk.injEq, and_true] at hf
    obtain ⟨⟨t0, o0, n0⟩, ⟨t1, o1, n1⟩, ⟨t2, o2, n2⟩⟩ := hf
    simp only [bne_iff_ne] at n0 n1 n2
    cases h1 : (a == a') <;> cases h2 : (b == b') <;> cases h3 : (c == c') <;> simp [h1, h2, h3, Op.eqFields, t0, o0, n0, t1, o1, n1, t2, o2, n2, hp0, hp1, hp2, he]
def recB (l : List MoveV) : Bool := decide (l.length ≤ 12) && l.all moveB
theorem recB_long {l : List MoveV} (h : ¬ l.length ≤ 12) : recB l = false := by simp [recB, h]
theorem recB_bad {l : List MoveV} (h : l.all moveB = false) : recB l = false := by simp [recB, h]
theorem recB_good {l : List MoveV} (h1 : l.length ≤ 12) (h2 : l.all moveB = true) : recB l = true := by simp [recB, h1, h2]
theorem recB_iff {l : List MoveV} (h : recB l = true) : l.length ≤ 12 ∧ ∀ (k : Nat) (x : MoveV), l[k]? = some x → moveB x = true := by
  simp only [recB, Bool.and_eq_true, decide_eq_true_eq] at h
  exact ⟨h.1, fun k x hx => all_get h.2 hx⟩
def movesB (l : List MoveV) : Bool := decide (l.length ≤ 60) && l.all moveB
theorem movesB_long {l : List MoveV} (h : ¬ l.length ≤ 60) : movesB l = false := by simp [movesB, h]
theorem movesB_bad {l : List MoveV} (h : l.all moveB = false) : movesB l = false := by simp [movesB, h]
theorem movesB_good {l : List MoveV} (h1 : l.length ≤ 60) (h2 : l.all moveB = true) : movesB l = true := by simp [movesB, h1, h2]
theorem recB_moves {l : List MoveV} (h1 : l.length ≤ 12) : recB l = movesB l := by simp [recB, movesB, h1, show l.length ≤ 60 by omega]
theorem movesB_no {l : List MoveV} (h : movesB l = false) : recB l = false := by
  by_cases h1 : l.length ≤ 12
  · rw [recB_moves h1]; exact h
  · exact recB_long h1

set_option maxHeartbeats 1600000 in
theorem isBeadMove_any (r p b : Int) (w : World) :
    Calls Try.prog 70 #[.agg #[.int .i64 r, .int .i64 p, .int .i64 b]] w fun e w' => e = .returned (.bool (moveB ⟨r, p, b⟩)) ∧ Below w.heap.size w w' := by
  unfold moveB
  simp only []
  cases g0 : inB r 0 7
  · go_enter Try.func70, Try.ntmps70
    go_wp2_with (go_at_call 51; refine (within_any _ _ _ _).mono ?_; rintro e w' ⟨rfl, rfl⟩)
    go_ret
    exact ⟨rfl, (Below.refl _ _).alloc (Nat.le_refl _) _⟩
  cases g1 : inB p 0 1
  · go_enter Try.func70, Try.ntmps70
    go_wp2_with (go_at_call 51; refine (within_any _ _ _ _).mono ?_; rintro e w' ⟨rfl, rfl⟩)
    go_ret
    exact ⟨rfl, (Below.refl _ _).alloc (Nat.le_refl _) _⟩
  cases g2 : inB b (-5) 5
  · go_enter Try.func70, Try.ntmps70
    go_wp2_with (go_at_call 51; refine (within_any _ _ _ _).mono ?_; rintro e w' ⟨rfl, rfl⟩)
    go_ret
    exact ⟨rfl, (Below.refl _ _).alloc (Nat.le_refl _) _⟩
  go_enter Try.func70, Try.ntmps70
  go_wp2_with (go_at_call 51; refine (within_any _ _ _ _).mono ?_; rintro e w' ⟨rfl, rfl⟩)
  go_ret
  exact ⟨rfl, (Below.refl _ _).alloc (Nat.le_refl _) _⟩
set_option maxHeartbeats 1600000 in
theorem l4One_any (r p b : Int) (w : World) :
    Calls Try.prog 71 #[.agg #[.int .i64 r, .int .i64 p, .int .i64 b]] w fun e w' => e = .returned (.bool (moveB ⟨r, p, b⟩)) ∧ Below w.heap.size w w' := by
  unfold moveB
  simp only []
  cases g0 : inB r 0 7
  · go_enter Try.func71, Try.ntmps71
    go_wp2_with (go_at_call 50; refine (l1In_any _ _ _ _).mono ?_; rintro e w' ⟨rfl, rfl⟩)
    go_ret
    exact ⟨rfl, (Below.refl _ _).alloc (Nat.le_refl _) _⟩
  cases g1 : inB p 0 1
  · go_enter Try.func71, Try.ntmps71
    go_wp2_with (go_at_call 50; refine (l1In_any _ _ _ _).mono ?_; rintro e w' ⟨rfl, rfl⟩)
    go_ret
    exact ⟨rfl, (Below.refl _ _).alloc (Nat.le_refl _) _⟩
  cases g2 : inB b (-5) 5
  · go_enter Try.func71, Try.ntmps71
    go_wp2_with (go_at_call 50; refine (l1In_any _ _ _ _).mono ?_; rintro e w' ⟨rfl, rfl⟩)
    go_ret
    exact ⟨rfl, (Below.refl _ _).alloc (Nat.le_refl _) _⟩
  go_enter Try.func71, Try.ntmps71
  go_wp2_with (go_at_call 50; refine (l1In_any _ _ _ _).mono ?_; rintro e w' ⟨rfl, rfl⟩)
  go_ret
  exact ⟨rfl, (Below.refl _ _).alloc (Nat.le_refl _) _⟩

set_option maxHeartbeats 800000 in
theorem areMoves_any (A : Option Addr) (c : Nat) (l : List MoveV) (w : World) (hn : l.length ≤ 16777216) (h : RdT moveT w A l) :
    Calls Try.prog 58 #[.slice A l.length c] w fun e w' => e = .returned (.bool (movesB l)) ∧ Below w.heap.size w w' := by
  by_cases h12 : l.length ≤ 60
  · have hd : decide ((60 : Int) < l.length) = false := decide_eq_false (by omega)
    go_enter Try.func58, Try.ntmps58
    go_wp2
    go_loopw [10] (fun i wr => ∃ k : Nat, k ≤ l.length ∧ i = .int .i64 k ∧ Hid ((l.take k).all moveB = true) ∧ RdT moveT wr A l ∧ Below w.heap.size w wr) (fun i _ => l.length - (intOf i).toNat)
    case atStart => exact ⟨0, by omega, rfl, Lib.hid (by simp), h, Below.refl _ _⟩
    case round =>
      obtain ⟨k, hk, rfl, hall, hr, hb⟩ := hrel
      have hz := hb.size
      by_cases hlt : k < l.length
      · obtain ⟨b, off, x0, x1, x2, rfl, hx, _, hc1, hc2, hc3⟩ := moveT_at hr hlt
        cases hg : moveB ⟨x0, x1, x2⟩
        · have E := Lib.hid (movesB_bad (all_bad moveB hx hg))
          clear hx
          go_wp2_with (go_at_call 70; refine (isBeadMove_any _ _ _ _).mono ?_; rintro e w' ⟨rfl, hb2⟩)
          go_ret
          exact ⟨by rw [E.out]; rfl, (hb.alloc hz _).trans (hb2.mono (by simp; omega))⟩
        · have hall' := Lib.hid (show (l.take (k + 1)).all moveB = true by rw [all_succ moveB hx, hall.out]; exact hg)
          clear hx hall
          go_wp2_with (go_at_call 70; refine (isBeadMove_any _ _ _ _).mono ?_; rintro e w2 ⟨rfl, hb2⟩)
          go_roundw
          case rel => exact ⟨k + 1, by omega, by go_num, hall', hr.below ((Below.refl _ _).alloc (Nat.le_refl _) _ |>.trans (hb2.mono (by simp))) (Nat.le_refl _), (hb.alloc hz _).trans (hb2.mono (by simp; omega))⟩
          case measure => simp [intOf]; omega
      · have E := Lib.hid (movesB_good h12 (by rw [← all_take l moveB k (by omega)]; exact hall.out))
        clear hall
        go_wp2
        go_ret
        exact ⟨by rw [E.out]; rfl, hb⟩
  · rw [movesB_long h12]
    have hd : decide ((60 : Int) < l.length) = true := decide_eq_true (by omega)
    go_enter Try.func58, Try.ntmps58
    go_wp2
    go_ret
    exact ⟨rfl, Below.refl _ _⟩

set_option maxHeartbeats 800000 in
theorem l4Good_any (A : Option Addr) (c : Nat) (l : List MoveV) (w : World) (hn : l.length ≤ 16777216) (h : RdT moveT w A l) :
    Calls Try.prog 62 #[.slice A l.length c] w fun e w' => e = .returned (.bool (movesB l)) ∧ Below w.heap.size w w' := by
  go_enter Try.func62, Try.ntmps62
  go_wp2
  go_loopw [3] (fun i wr => ∃ k : Nat, k ≤ l.length ∧ i = .int .i64 k ∧ Hid ((l.take k).all moveB = true) ∧ RdT moveT wr A l ∧ Below w.heap.size w wr) (fun i _ => l.length - (intOf i).toNat)
  case atStart => exact ⟨0, by omega, rfl, Lib.hid (by simp), h, Below.refl _ _⟩
  case round =>
    obtain ⟨k, hk, rfl, hall, hr, hb⟩ := hrel
    have hz := hb.size
    by_cases hlt : k < l.length
    · obtain ⟨b, off, x0, x1, x2, rfl, hx, _, hc1, hc2, hc3⟩ := moveT_at hr hlt
      cases hg : moveB ⟨x0, x1, x2⟩
      · have E := Lib.hid (movesB_bad (all_bad moveB hx hg))
        clear hx
        go_wp2_with (go_at_call 71; refine (l4One_any _ _ _ _).mono ?_; rintro e w' ⟨rfl, hb2⟩)
        go_ret
        exact ⟨by rw [E.out]; rfl, hb.trans (hb2.mono hz)⟩
      · have hall' := Lib.hid (show (l.take (k + 1)).all moveB = true by rw [all_succ moveB hx, hall.out]; exact hg)
        clear hx hall
        go_wp2_with (go_at_call 71; refine (l4One_any _ _ _ _).mono ?_; rintro e w2 ⟨rfl, hb2⟩)
        go_roundw
        case rel => exact ⟨k + 1, by omega, by go_num, hall', hr.below hb2 (Nat.le_refl _), hb.trans (hb2.mono hz)⟩
        case measure => simp [intOf]; omega
    · have hall2 : l.all moveB = true := by rw [← all_take l moveB k (by omega)]; exact hall.out
      clear hall
      by_cases h12 : l.length ≤ 60
      · have E := Lib.hid (movesB_good h12 hall2)
        clear hall2
        have hd : decide ((l.length : Int) ≤ 60) = true := decide_eq_true (by omega)
        go_wp2
        go_ret
        exact ⟨by rw [E.out]; rfl, hb⟩
      · have E := Lib.hid (movesB_long h12)
        clear hall2
        have hd : decide ((l.length : Int) ≤ 60) = false := decide_eq_false (by omega)
        go_wp2
        go_ret
        exact ⟨by rw [E.out]; rfl, hb⟩
set_option maxHeartbeats 800000 in
theorem areRecorded_any (A : Option Addr) (c : Nat) (l : List MoveV) (w : World) (hn : l.length ≤ 16777216) (h : RdT moveT w A l) :
    Calls Try.prog 43 #[.slice A l.length c] w fun e w' => e = .returned (.bool (recB l)) ∧ Below w.heap.size w w' := by
  by_cases h12 : l.length ≤ 12
  · rw [recB_moves h12]
    have hd : decide ((l.length : Int) ≤ 12) = true := decide_eq_true (by omega)
    go_enter Try.func43, Try.ntmps43
    go_wp2_with (go_at_call 58; refine (areMoves_any A _ l _ hn h).mono ?_; rintro e w2 ⟨rfl, hb2⟩)
    go_ret
    exact ⟨rfl, hb2⟩
  · rw [recB_long h12]
    have hd : decide ((l.length : Int) ≤ 12) = false := decide_eq_false (by omega)
    go_enter Try.func43, Try.ntmps43
    go_wp2
    go_ret
    exact ⟨rfl, Below.refl _ _⟩
set_option maxHeartbeats 800000 in
theorem l19Good_any (A : Option Addr) (c : Nat) (l : List MoveV) (w : World) (hn : l.length ≤ 16777216) (h : RdT moveT w A l) :
    Calls Try.prog 53 #[.slice A l.length c] w fun e w' => e = .returned (.bool (recB l)) ∧ Below w.heap.size w w' := by
  cases hm : movesB l
  · rw [movesB_no hm]
    go_enter Try.func53, Try.ntmps53
    go_wp2_with (go_at_call 62; refine (l4Good_any A _ l _ hn h).mono ?_; rintro e w2 ⟨rfl, hb2⟩; rw [hm])
    go_ret
    exact ⟨rfl, hb2⟩
  · by_cases h12 : l.length ≤ 12
    · rw [recB_moves h12, hm]
      have hd : decide ((l.length : Int) ≤ 12) = true := decide_eq_true (by omega)
      go_enter Try.func53, Try.ntmps53
      go_wp2_with (go_at_call 62; refine (l4Good_any A _ l _ hn h).mono ?_; rintro e w2 ⟨rfl, hb2⟩; rw [hm])
      go_ret
      exact ⟨rfl, hb2⟩
    · rw [recB_long h12]
      have hd : decide ((l.length : Int) ≤ 12) = false := decide_eq_false (by omega)
      go_enter Try.func53, Try.ntmps53
      go_wp2_with (go_at_call 62; refine (l4Good_any A _ l _ hn h).mono ?_; rintro e w2 ⟨rfl, hb2⟩; rw [hm])
      go_ret
      exact ⟨rfl, hb2⟩
set_option maxHeartbeats 800000 in
theorem l19Both_any (A1 A2 : Option Addr) (c1 c2 : Nat) (l1 l2 : List MoveV) (w : World) (hn1 : l1.length ≤ 16777216) (hn2 : l2.length ≤ 16777216) (h1 : RdT moveT w A1 l1) (h2 : RdT moveT w A2 l2) :
    Calls Try.prog 41 #[.slice A1 l1.length c1, .slice A2 l2.length c2] w fun e w' => e = .returned (.bool (recB l1 && recB l2)) ∧ Below w.heap.size w w' := by
  cases hm : recB l1
  · go_enter Try.func41, Try.ntmps41
    go_wp2_with (go_at_call 53; refine (l19Good_any A1 _ l1 _ hn1 h1).mono ?_; rintro e w2 ⟨rfl, hb2⟩; rw [hm])
    go_ret
    exact ⟨rfl, hb2⟩
  · go_enter Try.func41, Try.ntmps41
    go_wp2_with fail
    refine (l19Good_any A1 _ l1 _ hn1 h1).mono ?_
    rintro e w2 ⟨rfl, hb2⟩
    rw [hm]
    go_wp2_with fail
    refine (l19Good_any A2 _ l2 _ hn2 (h2.below hb2 (Nat.le_refl _))).mono ?_
    rintro e w3 ⟨rfl, hb3⟩
    go_wp2
    go_ret
    exact ⟨rfl, hb2.trans (hb3.mono hb2.size)⟩
attribute [irreducible] moveB sameM recB movesB
end Go.Proofs.Ytkcbldaondflmaa
