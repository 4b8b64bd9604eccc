/-
  The places at which two moves are swapped: plain, and contracts.
-/
import Derived.Test.YtkcbldaondflmaaRecB
namespace Go.Proofs.Ytkcbldaondflmaa
open Go.RowKit

theorem OwnI.empty (w : World) (base : Nat) (hb : base ≤ w.heap.size) : OwnI (w.alloc (.cells #[] 3)) base (.slice (some ⟨w.heap.size, 0, none⟩) 0 0) [] := World.ownsRow_lit w #[] 0 hb (by unfold maxLen; omega) rfl
def sw (a b : List MoveV) (k : Nat) : Bool := match a[k]?, a[k + 1]?, b[k]?, b[k + 1]? with
  | some x, some x', some y, some y' => sameM x y' && (sameM x' y && !(sameM x x'))
  | _, _, _, _ => false
theorem sw_at {a b : List MoveV} {k : Nat} {x x' y y' : MoveV} (hx : a[k]? = some x) (hx' : a[k + 1]? = some x') (hy : b[k]? = some y) (hy' : b[k + 1]? = some y') : sw a b k = (sameM x y' && (sameM x' y && !(sameM x x'))) := by simp [sw, hx, hx', hy, hy']
def swA (a b : List MoveV) : Nat → List Int
  | 0 => []
  | k + 1 => if sw a b k = true then swA a b k ++ [(k : Int)] else swA a b k
theorem swA_yes {a b : List MoveV} {k : Nat} (h : sw a b k = true) : swA a b (k + 1) = swA a b k ++ [(k : Int)] := by simp [swA, h]
theorem swA_no {a b : List MoveV} {k : Nat} (h : sw a b k = false) : swA a b (k + 1) = swA a b k := by simp [swA, h]
theorem swA_len (a b : List MoveV) (k : Nat) : (swA a b k).length ≤ k := by
  induction k with
  | zero => simp [swA]
  | succ k ih =>
    cases h : sw a b k
    · rw [swA_no h]; omega
    · rw [swA_yes h]; simp; omega
def lim (a b : List MoveV) : Nat := min a.length b.length - 1
def swV (a b : List MoveV) : List Int := if (recB a && recB b) = true then swA a b (lim a b) else []
theorem swV_no1 {a b : List MoveV} (h : recB a = false) : swV a b = [] := by simp [swV, h]
theorem swV_no2 {a b : List MoveV} (h : recB b = false) : swV a b = [] := by simp [swV, h]
theorem swV_yes {a b : List MoveV} (h : recB a = true) (h' : recB b = true) : swV a b = swA a b (lim a b) := by simp [swV, h, h']
theorem swV_len (a b : List MoveV) : (swV a b).length ≤ 12 := by
  cases h : recB a
  · rw [swV_no1 h]; simp
  · cases h' : recB b
    · rw [swV_no2 h']; simp
    · rw [swV_yes h h']
      have := swA_len a b (lim a b)
      have := (recB_iff h).1
      have : lim a b ≤ a.length := by unfold lim; omega
      omega
attribute [irreducible] swA swV sw lim

set_option maxHeartbeats 4000000 in
theorem swappedAtI_any (A1 : Option Addr) (c1 : Nat) (l1 : List MoveV) (A2 : Option Addr) (c2 : Nat) (l2 : List MoveV) (w : World) (hn1 : l1.length ≤ 16777216) (h1 : RdT moveT w A1 l1) (hn2 : l2.length ≤ 16777216) (h2 : RdT moveT w A2 l2) :
    Calls Try.prog 21 #[.slice A1 l1.length c1, .slice A2 l2.length c2] w (RetI w (swV l1 l2) (recB l1 && recB l2)) := by
  cases hm1 : recB l1
  · rw [swV_no1 hm1]
    go_enter Try.func21, Try.ntmps21
    go_wp2_with (go_at_call 43; refine (areRecorded_any A1 _ l1 _ hn1 h1).mono ?_; rintro e w2 ⟨rfl, hb2⟩; rw [hm1])
    go_ret2
    exact ⟨none, 0, rfl, OwnI.nil _ _, hb2⟩
  cases hm2 : recB l2
  · rw [swV_no2 hm2]
    go_enter Try.func21, Try.ntmps21
    go_wp2_with fail
    refine (areRecorded_any A1 _ l1 _ hn1 h1).mono ?_
    rintro e w1 ⟨rfl, hb1⟩
    rw [hm1]
    go_wp2_with fail
    refine (areRecorded_any A2 _ l2 _ hn2 (h2.below hb1 (Nat.le_refl _))).mono ?_
    rintro e w2 ⟨rfl, hb2'⟩
    rw [hm2]
    have hb2 := hb1.trans (hb2'.mono hb1.size)
    clear hb1 hb2'
    go_wp2
    go_ret2
    exact ⟨none, 0, rfl, OwnI.nil _ _, hb2⟩
  · rw [swV_yes hm1 hm2]
    have h10 := h1
    have h20 := h2
    have hL1 := (recB_iff hm1).1
    have hL2 := (recB_iff hm2).1
    have hs0 : swA l1 l2 0 = [] := by unfold swA; rfl
    have hlim : lim l1 l2 + 1 ≤ l1.length + 1 ∧ lim l1 l2 ≤ l2.length := by unfold lim; omega
    have hlt' : ∀ k : Nat, k < lim l1 l2 ↔ k + 1 < l1.length ∧ k + 1 < l2.length := by intro k; unfold lim; omega
    go_enter Try.func21, Try.ntmps21
    go_wp2_with fail
    refine (areRecorded_any A1 _ l1 _ hn1 h1).mono ?_
    rintro e w1 ⟨rfl, hb1⟩
    rw [hm1]
    go_wp2_with fail
    refine (areRecorded_any A2 _ l2 _ hn2 (h2.below hb1 (Nat.le_refl _))).mono ?_
    rintro e w2 ⟨rfl, hb2'⟩
    rw [hm2]
    have hb2 := hb1.trans (hb2'.mono hb1.size)
    clear hb1 hb2'
    go_wp2
    go_loopw [6, 7] (fun o i wr => ∃ (k : Nat) (A : Option Addr) (cp : Nat), k ≤ lim l1 l2 ∧ i = .int .i64 k ∧ o = .slice A (swA l1 l2 k).length cp ∧ OwnI wr w.heap.size (.slice A (swA l1 l2 k).length cp) (swA l1 l2 k) ∧ RdT moveT wr A1 l1 ∧ RdT moveT wr A2 l2 ∧ Below w.heap.size w wr) (fun _ i _ => lim l1 l2 - (intOf i).toNat)
    case atStart => exact ⟨0, none, 0, by omega, rfl, by rw [hs0]; rfl, by rw [hs0]; exact OwnI.nil _ _, h1.below hb2 (Nat.le_refl _), h2.below hb2 (Nat.le_refl _), hb2⟩
    case round =>
      clear hm1 hm2 h1 h2 hb2 hs0
      obtain ⟨k, A, cp, hk, rfl, rfl, hown, h1, h2, hb⟩ := hrel
      have hz := hb.size
      have hl := swA_len l1 l2 k
      have hlk := hlt' k
      clear hlt'
      by_cases hlt : k < lim l1 l2
      · obtain ⟨hk1, hk2⟩ := hlk.mp hlt
        clear hlk
        have hd1 : decide ((k : Int) + 1 < l1.length) = true := decide_eq_true (by omega)
        have hd2 : decide ((k : Int) + 1 < l2.length) = true := decide_eq_true (by omega)
        obtain ⟨b, off, rfl, _, hcA⟩ := moveT_cells h1 (by omega)
        obtain ⟨b', off', rfl, _, hcB⟩ := moveT_cells h2 (by omega)
        obtain ⟨⟨x0, x1, x2⟩, hx⟩ := get_of_lt l1 (k := k) (by omega)
        obtain ⟨⟨x0', x1', x2'⟩, hx'⟩ := get_of_lt l1 (k := k + 1) (by omega)
        obtain ⟨⟨y0, y1, y2⟩, hy⟩ := get_of_lt l2 (k := k) (by omega)
        obtain ⟨⟨y0', y1', y2'⟩, hy'⟩ := get_of_lt l2 (k := k + 1) (by omega)
        obtain ⟨a0, a1, a2⟩ := hcA k _ _ _ hx
        obtain ⟨a0', a1', a2'⟩ := hcA (k + 1) _ _ _ hx'
        obtain ⟨b0, b1, b2⟩ := hcB k _ _ _ hy
        obtain ⟨b0', b1', b2'⟩ := hcB (k + 1) _ _ _ hy'
        clear hcA hcB
        have hsw := sw_at hx hx' hy hy'
        have hq1 := eq_move x0 x1 x2 y0' y1' y2'
        have hq2 := eq_move x0' x1' x2' y0 y1 y2
        have hq3 := eq_move x0 x1 x2 x0' x1' x2'
        clear hx hx' hy hy'
        cases e1 : sameM ⟨x0, x1, x2⟩ ⟨y0', y1', y2'⟩
        · have E := Lib.hid (swA_no (k := k) (by rw [hsw, e1]; rfl))
          clear hsw
          go_wp2_with fail
          go_quiet (fail)
          go_wp2
          go_roundw
          case rel => exact ⟨k + 1, A, cp, by omega, by go_num, by rw [E.out], by rw [E.out]; exact hown.drewN _, h1, h2, below_drewN hb _⟩
          case measure => simp [intOf]; omega
        cases e2 : sameM ⟨x0', x1', x2'⟩ ⟨y0, y1, y2⟩
        · have E := Lib.hid (swA_no (k := k) (by rw [hsw, e1, e2]; rfl))
          clear hsw
          go_wp2_with fail
          go_quiet (fail)
          go_wp2
          go_roundw
          case rel => exact ⟨k + 1, A, cp, by omega, by go_num, by rw [E.out], by rw [E.out]; exact hown.drewN _, h1, h2, below_drewN hb _⟩
          case measure => simp [intOf]; omega
        cases e3 : sameM ⟨x0, x1, x2⟩ ⟨x0', x1', x2'⟩
        · have g1 : ∀ wx, Below w.heap.size w wx → RdT moveT wx (some ⟨b, off, none⟩) l1 := fun wx hx => h10.below hx (Nat.le_refl _)
          have g2 : ∀ wx, Below w.heap.size w wx → RdT moveT wx (some ⟨b', off', none⟩) l2 := fun wx hx => h20.below hx (Nat.le_refl _)
          have E := Lib.hid (swA_yes (k := k) (by rw [hsw, e1, e2, e3]; rfl))
          clear hsw
          go_wp2_with fail
          go_quiet (fail)
          go_wp2_with (at_builtin; refine wpList_app_int rfl _ _ rfl w.heap.size _ _ rfl (hown.drewN nq) w.heap.size w (below_drewN hb nq) k 1 1 rfl rfl (by omega) hz (Nat.le_refl _) ?_; intro A3 c3 w3 hown3 hb3 hgr3)
          go_roundw
          case rel => exact ⟨k + 1, A3, c3, by omega, by go_num, by rw [E.out, List.length_append]; rfl, by rw [E.out]; rw [List.length_append]; exact hown3, g1 _ hb3, g2 _ hb3, hb3⟩
          case measure => simp [intOf]; omega
        · have E := Lib.hid (swA_no (k := k) (by rw [hsw, e1, e2, e3]; rfl))
          clear hsw
          go_wp2_with fail
          go_quiet (fail)
          go_wp2
          go_roundw
          case rel => exact ⟨k + 1, A, cp, by omega, by go_num, by rw [E.out], by rw [E.out]; exact hown.drewN _, h1, h2, below_drewN hb _⟩
          case measure => simp [intOf]; omega
      · obtain rfl : k = lim l1 l2 := by omega
        by_cases hd : (lim l1 l2 : Int) + 1 < l1.length
        · have hd1 : decide ((lim l1 l2 : Int) + 1 < l1.length) = true := decide_eq_true hd
          have hd2 : decide ((lim l1 l2 : Int) + 1 < l2.length) = false := decide_eq_false (by intro h; exact hlt (hlk.mpr ⟨by omega, by omega⟩))
          clear hlk
          go_wp2
          go_ret2
          exact ⟨A, cp, rfl, hown, hb⟩
        · have hd1 : decide ((lim l1 l2 : Int) + 1 < l1.length) = false := decide_eq_false hd
          clear hlk
          go_wp2
          go_ret2
          exact ⟨A, cp, rfl, hown, hb⟩
set_option maxHeartbeats 4000000 in
theorem swappedAtS_any (A1 : Option Addr) (c1 : Nat) (l1 : List MoveV) (A2 : Option Addr) (c2 : Nat) (l2 : List MoveV) (w : World) (hn1 : l1.length ≤ 16777216) (h1 : RdT moveT w A1 l1) (hn2 : l2.length ≤ 16777216) (h2 : RdT moveT w A2 l2) :
    Calls Try.prog 20 #[.slice A1 l1.length c1, .slice A2 l2.length c2] w (RetI w (swV l1 l2) (recB l1 && recB l2)) := by
  cases hm1 : recB l1
  · rw [swV_no1 hm1]
    go_enter Try.func20, Try.ntmps20
    go_wp2_with (go_at_call 41; refine (l19Both_any A1 A2 _ _ l1 l2 _ hn1 hn2 (h1.below ((Below.refl _ w).alloc (Nat.le_refl _) (.cells #[] 3)) (Nat.le_refl _)) (h2.below ((Below.refl _ w).alloc (Nat.le_refl _) (.cells #[] 3)) (Nat.le_refl _))).mono ?_; rintro e w2 ⟨rfl, hb2'⟩; rw [hm1]; have hb2 := (((Below.refl _ w).alloc (Nat.le_refl _) (.cells #[] 3))).trans (hb2'.mono (by simp)))
    go_ret2
    exact ⟨_, 0, rfl, (OwnI.empty _ _ (Nat.le_refl _)).below hb2' (Nat.le_refl _), hb2⟩
  cases hm2 : recB l2
  · rw [swV_no2 hm2]
    go_enter Try.func20, Try.ntmps20
    go_wp2_with (go_at_call 41; refine (l19Both_any A1 A2 _ _ l1 l2 _ hn1 hn2 (h1.below ((Below.refl _ w).alloc (Nat.le_refl _) (.cells #[] 3)) (Nat.le_refl _)) (h2.below ((Below.refl _ w).alloc (Nat.le_refl _) (.cells #[] 3)) (Nat.le_refl _))).mono ?_; rintro e w2 ⟨rfl, hb2'⟩; rw [hm1, hm2]; have hb2 := (((Below.refl _ w).alloc (Nat.le_refl _) (.cells #[] 3))).trans (hb2'.mono (by simp)))
    go_ret2
    exact ⟨_, 0, rfl, (OwnI.empty _ _ (Nat.le_refl _)).below hb2' (Nat.le_refl _), hb2⟩
  · rw [swV_yes hm1 hm2]
    have h10 := h1
    have h20 := h2
    have hL1 := (recB_iff hm1).1
    have hL2 := (recB_iff hm2).1
    have hs0 : swA l1 l2 0 = [] := by unfold swA; rfl
    have hlim : lim l1 l2 + 1 ≤ l1.length + 1 ∧ lim l1 l2 ≤ l2.length := by unfold lim; omega
    have hlt' : ∀ k : Nat, k < lim l1 l2 ↔ k + 1 < l1.length ∧ k + 1 < l2.length := by intro k; unfold lim; omega
    go_enter Try.func20, Try.ntmps20
    go_wp2_with (go_at_call 41; refine (l19Both_any A1 A2 _ _ l1 l2 _ hn1 hn2 (h1.below ((Below.refl _ w).alloc (Nat.le_refl _) (.cells #[] 3)) (Nat.le_refl _)) (h2.below ((Below.refl _ w).alloc (Nat.le_refl _) (.cells #[] 3)) (Nat.le_refl _))).mono ?_; rintro e w2 ⟨rfl, hb2'⟩; rw [hm1, hm2]; have hb2 := (((Below.refl _ w).alloc (Nat.le_refl _) (.cells #[] 3))).trans (hb2'.mono (by simp)); have hem := (OwnI.empty w w.heap.size (Nat.le_refl _)).below hb2' (Nat.le_refl _); clear hb2')
    go_wp2
    go_loopw [6, 7] (fun o i wr => ∃ (k : Nat) (A : Option Addr) (cp : Nat), k ≤ lim l1 l2 ∧ i = .int .i64 k ∧ o = .slice A (swA l1 l2 k).length cp ∧ OwnI wr w.heap.size (.slice A (swA l1 l2 k).length cp) (swA l1 l2 k) ∧ RdT moveT wr A1 l1 ∧ RdT moveT wr A2 l2 ∧ Below w.heap.size w wr) (fun _ i _ => lim l1 l2 - (intOf i).toNat)
    case atStart => exact ⟨0, _, 0, by omega, rfl, by rw [hs0]; rfl, by rw [hs0]; exact hem, h1.below hb2 (Nat.le_refl _), h2.below hb2 (Nat.le_refl _), hb2⟩
    case round =>
      clear hm1 hm2 h1 h2 hb2 hs0 hem
      obtain ⟨k, A, cp, hk, rfl, rfl, hown, h1, h2, hb⟩ := hrel
      have hz := hb.size
      have hl := swA_len l1 l2 k
      have hlk := hlt' k
      clear hlt'
      by_cases hlt : k < lim l1 l2
      · obtain ⟨hk1, hk2⟩ := hlk.mp hlt
        clear hlk
        have hd1 : decide ((k : Int) + 1 < l1.length) = true := decide_eq_true (by omega)
        have hd2 : decide ((k : Int) + 1 < l2.length) = true := decide_eq_true (by omega)
        obtain ⟨b, off, rfl, _, hcA⟩ := moveT_cells h1 (by omega)
        obtain ⟨b', off', rfl, _, hcB⟩ := moveT_cells h2 (by omega)
        obtain ⟨⟨x0, x1, x2⟩, hx⟩ := get_of_lt l1 (k := k) (by omega)
        obtain ⟨⟨x0', x1', x2'⟩, hx'⟩ := get_of_lt l1 (k := k + 1) (by omega)
        obtain ⟨⟨y0, y1, y2⟩, hy⟩ := get_of_lt l2 (k := k) (by omega)
        obtain ⟨⟨y0', y1', y2'⟩, hy'⟩ := get_of_lt l2 (k := k + 1) (by omega)
        obtain ⟨a0, a1, a2⟩ := hcA k _ _ _ hx
        obtain ⟨a0', a1', a2'⟩ := hcA (k + 1) _ _ _ hx'
        obtain ⟨b0, b1, b2⟩ := hcB k _ _ _ hy
        obtain ⟨b0', b1', b2'⟩ := hcB (k + 1) _ _ _ hy'
        clear hcA hcB
        have hsw := sw_at hx hx' hy hy'
        have hq1 := eq_move x0 x1 x2 y0' y1' y2'
        have hq2 := eq_move x0' x1' x2' y0 y1 y2
        have hq3 := eq_move x0 x1 x2 x0' x1' x2'
        clear hx hx' hy hy'
        cases e1 : sameM ⟨x0, x1, x2⟩ ⟨y0', y1', y2'⟩
        · have E := Lib.hid (swA_no (k := k) (by rw [hsw, e1]; rfl))
          clear hsw
          go_wp2_with fail
          go_quiet (fail)
          go_wp2
          go_roundw
          case rel => exact ⟨k + 1, A, cp, by omega, by go_num, by rw [E.out], by rw [E.out]; exact hown.drewN _, h1, h2, below_drewN hb _⟩
          case measure => simp [intOf]; omega
        cases e2 : sameM ⟨x0', x1', x2'⟩ ⟨y0, y1, y2⟩
        · have E := Lib.hid (swA_no (k := k) (by rw [hsw, e1, e2]; rfl))
          clear hsw
          go_wp2_with fail
          go_quiet (fail)
          go_wp2
          go_roundw
          case rel => exact ⟨k + 1, A, cp, by omega, by go_num, by rw [E.out], by rw [E.out]; exact hown.drewN _, h1, h2, below_drewN hb _⟩
          case measure => simp [intOf]; omega
        cases e3 : sameM ⟨x0, x1, x2⟩ ⟨x0', x1', x2'⟩
        · have g1 : ∀ wx, Below w.heap.size w wx → RdT moveT wx (some ⟨b, off, none⟩) l1 := fun wx hx => h10.below hx (Nat.le_refl _)
          have g2 : ∀ wx, Below w.heap.size w wx → RdT moveT wx (some ⟨b', off', none⟩) l2 := fun wx hx => h20.below hx (Nat.le_refl _)
          have E := Lib.hid (swA_yes (k := k) (by rw [hsw, e1, e2, e3]; rfl))
          clear hsw
          go_wp2_with fail
          go_quiet (fail)
          go_wp2_with (at_builtin; refine wpList_app_int rfl _ _ rfl w.heap.size _ _ rfl (hown.drewN nq) w.heap.size w (below_drewN hb nq) k 1 1 rfl rfl (by omega) hz (Nat.le_refl _) ?_; intro A3 c3 w3 hown3 hb3 hgr3)
          go_roundw
          case rel => exact ⟨k + 1, A3, c3, by omega, by go_num, by rw [E.out, List.length_append]; rfl, by rw [E.out]; rw [List.length_append]; exact hown3, g1 _ hb3, g2 _ hb3, hb3⟩
          case measure => simp [intOf]; omega
        · have E := Lib.hid (swA_no (k := k) (by rw [hsw, e1, e2, e3]; rfl))
          clear hsw
          go_wp2_with fail
          go_quiet (fail)
          go_wp2
          go_roundw
          case rel => exact ⟨k + 1, A, cp, by omega, by go_num, by rw [E.out], by rw [E.out]; exact hown.drewN _, h1, h2, below_drewN hb _⟩
          case measure => simp [intOf]; omega
      · obtain rfl : k = lim l1 l2 := by omega
        by_cases hd : (lim l1 l2 : Int) + 1 < l1.length
        · have hd1 : decide ((lim l1 l2 : Int) + 1 < l1.length) = true := decide_eq_true hd
          have hd2 : decide ((lim l1 l2 : Int) + 1 < l2.length) = false := decide_eq_false (by intro h; exact hlt (hlk.mpr ⟨by omega, by omega⟩))
          clear hlk
          go_wp2
          go_ret2
          exact ⟨A, cp, rfl, hown, hb⟩
        · have hd1 : decide ((lim l1 l2 : Int) + 1 < l1.length) = false := decide_eq_false hd
          clear hlk
          go_wp2
          go_ret2
          exact ⟨A, cp, rfl, hown, hb⟩
end Go.Proofs.Ytkcbldaondflmaa
