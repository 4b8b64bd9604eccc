/-
  Contracts of the helpers of the laws over []int: equal, marked, held.
-/
import Derived.Test.YtkcbldaondflmaaBase
namespace Go.Proofs.Ytkcbldaondflmaa
open Go.RowKit

theorem gr_refl (w : World) (row : Option Nat) : w.grownBy w row := ⟨rfl, rfl, rfl, Nat.le_refl _, fun _ _ _ => rfl⟩
theorem gr_trans {a b c : World} {row : Option Nat} (h : a.grownBy b row) (k : b.grownBy c row) : a.grownBy c row :=
  ⟨k.os.trans h.os, k.tape.trans h.tape, k.output.trans h.output, Nat.le_trans h.size k.size, fun i hi hne => (k.block i (Nat.lt_of_lt_of_le hi h.size) hne).trans (h.block i hi hne)⟩
theorem gr_drewN {a w : World} {row : Option Nat} (h : a.grownBy w row) (n : Nat) : a.grownBy (w.drewN n) row := ⟨h.os, h.tape, h.output, h.size, h.block⟩
theorem gr_below {a w w' : World} {row : Option Nat} (h : a.grownBy w row) {B : Nat} (hb : Below B w w') (hB : w.heap.size ≤ B) : a.grownBy w' row :=
  gr_trans h ⟨hb.os, hb.tape, hb.output, hb.size, fun i hi _ => hb.block i (by omega)⟩
theorem below_gr {B : Nat} {a w w' : World} {row : Option Nat} (h : Below B a w) (hg : w.grownBy w' row) (hB : B ≤ w.heap.size) (hr : ∀ k, row = some k → B ≤ k) : Below B a w' := h.grown hg hB hr

def marks (k : Int) (n : Nat) : List Int := (List.range n).map fun i => k + (i : Nat)
theorem length_marks (k : Int) (n : Nat) : (marks k n).length = n := by simp [marks]
theorem marks_at (k : Int) (n i : Nat) (h : i < n) : (marks k n)[i]? = some (k + i) := by simp [marks, h]
def markTo (k : Int) (l : List Int) : Nat → List Int
  | 0 => l
  | i + 1 => (markTo k l i).set i (k + i)
theorem length_markTo (k : Int) (l : List Int) (i : Nat) : (markTo k l i).length = l.length := by
  induction i with
  | zero => rfl
  | succ i ih => simp [markTo, ih]
theorem markTo_at (k : Int) (l : List Int) (i j : Nat) (hj : j < l.length) (hi : j < i) : (markTo k l i)[j]? = some (k + j) := by
  induction i with
  | zero => omega
  | succ i ih =>
    simp only [markTo, List.getElem?_set, length_markTo]
    by_cases e : i = j
    · subst e; simp [hj]
    · rw [if_neg e]; exact ih (by omega)
theorem markTo_all (k : Int) (l : List Int) : markTo k l l.length = marks k l.length := by
  apply List.ext_getElem?
  intro j
  by_cases hj : j < l.length
  · rw [markTo_at k l _ j hj hj, marks_at k _ j hj]
  · rw [List.getElem?_eq_none (by rw [length_markTo]; omega), List.getElem?_eq_none (by rw [length_marks]; omega)]

theorem OwnI.head {w : World} {base n c : Nat} {A : Option Addr} {l : List Int} (h : OwnI w base (.slice A n c) l) (hn : 0 < l.length) : ∃ g, A = some ⟨g, 0, none⟩ ∧ base ≤ g ∧ g < w.heap.size := by
  rcases h.2 with ⟨h2, h3⟩ | ⟨g, cap, cur, hv, hg, hh, _⟩
  · omega
  · injection hv with hv
    exact ⟨g, hv, hg, (Array.getElem?_eq_some_iff.1 hh).1⟩
theorem OwnI.set {w : World} {base n c g : Nat} {l : List Int} (h : OwnI w base (.slice (some ⟨g, 0, none⟩) n c) l) (j : Nat) (y : Int) :
    OwnI (w.setCell ⟨g, j, none⟩ (.int .i64 y)) base (.slice (some ⟨g, 0, none⟩) n c) (l.set j y) ∧ w.grownBy (w.setCell ⟨g, j, none⟩ (.int .i64 y)) (some g) := by
  obtain ⟨A', c', hv⟩ := h.form
  injection hv with _ h2 h3
  subst h2 h3
  have := World.ownsRow.stored (h := (h : w.ownsRow _ _ _ _ _ _)) j (.int .i64 y)
  refine ⟨?_, this.2⟩
  unfold OwnI
  rw [List.length_set]
  have e : ints (l.set j y) = (ints l).set j (.int .i64 y) := by simp [ints]
  rw [e]
  exact this.1
theorem OwnI.frozen {w : World} {base n c g : Nat} {l : List Int} (h : OwnI w base (.slice (some ⟨g, 0, none⟩) n c) l) (j : Nat) : w.frozen? ⟨g, j, none⟩ = false := by
  obtain ⟨A', c', hv⟩ := h.form
  injection hv with _ h2 h3
  subst h2 h3
  exact World.ownsRow.frozenAt (h := (h : w.ownsRow _ _ _ _ _ _)) j

theorem RdI.open_ {w : World} {A : Option Addr} {l : List Int} (h : RdI w A l) (hn : 0 < l.length) : ∃ b off, A = some ⟨b, off, none⟩ ∧ b < w.heap.size ∧ ∀ k x, l[k]? = some x → w.cell? ⟨b, off + k, none⟩ = some (.int .i64 x) := by
  obtain ⟨b, off, hA, hlt, hc⟩ := h.2 hn
  exact ⟨b, off, hA, hlt, fun k x hx => hc k _ (by rw [ints_at?, hx]; rfl)⟩
theorem get_of_lt {α : Type} (l : List α) {k : Nat} (hk : k < l.length) : ∃ x, l[k]? = some x := ⟨l[k], List.getElem?_eq_getElem hk⟩

set_option maxHeartbeats 400000 in
theorem eqIntS_same (A1 A2 : Option Addr) (n c1 c2 : Nat) (l : List Int) (w : World) (hn : n = l.length) (hm : n ≤ 16777216) (h1 : RdI w A1 l) (h2 : RdI w A2 l) :
    Calls Try.prog 22 #[.slice A1 n c1, .slice A2 n c2] w fun e w' => e = .returned (.bool true) ∧ Below w.heap.size w w' := by
  have e1 : (decide ((n : Int) = n)) = true := by simp
  go_enter Try.func22, Try.ntmps22
  go_wp2
  go_loopw [5] (fun i wr => ∃ k : Nat, k ≤ n ∧ i = .int .i64 k ∧ RdI wr A1 l ∧ RdI wr A2 l ∧ Below w.heap.size w wr) (fun i _ => n - (intOf i).toNat)
  case atStart => exact ⟨0, by omega, rfl, h1, h2, Below.refl _ _⟩
  case round =>
    obtain ⟨k, hk, rfl, g1, g2, hb⟩ := hrel
    clear h1 h2
    by_cases hlt : k < n
    · obtain ⟨b1, o1, x, rfl, hx, _, hc1⟩ := g1.at_ (k := k) (by omega)
      obtain ⟨b2, o2, y, rfl, hy, _, hc2⟩ := g2.at_ (k := k) (by omega)
      obtain rfl : x = y := by rw [hx] at hy; injection hy
      clear hx hy
      go_wp2_with fail
      go_quiet (fail)
      go_wp2
      go_roundw
      case rel => exact ⟨k + 1, by omega, by go_num, g1, g2, below_drewN hb _⟩
      case measure => simp [intOf]; omega
    · go_wp2
      go_ret
      exact ⟨rfl, hb⟩

set_option maxHeartbeats 400000 in
theorem heldIntS_ok (A : Option Addr) (n c : Nat) (k : Int) (w : World) (hk0 : 0 ≤ k) (hk1 : k ≤ 1073741824) (hm : n ≤ 16777216) (h : RdI w A (marks k n)) :
    Calls Try.prog 25 #[.slice A n c, .int .i64 k] w fun e w' => e = .returned (.int .i64 (k + n)) ∧ w = w' := by
  go_enter Try.func25, Try.ntmps25
  go_wp2
  go_loop [1, 5] (fun q i => ∃ j : Nat, j ≤ n ∧ i = .int .i64 j ∧ q = .int .i64 (k + j)) (fun _ i => n - (intOf i).toNat)
  case atStart => exact ⟨0, by omega, rfl, by go_num⟩
  case round =>
    obtain ⟨j, hj, rfl, rfl⟩ := hrel
    by_cases hlt : j < n
    · obtain ⟨b1, o1, x, rfl, hx, _, hc1⟩ := h.at_ (k := j) (by rw [length_marks]; exact hlt)
      obtain rfl : x = k + j := by rw [marks_at k n j hlt] at hx; injection hx with hx; exact hx.symm
      clear hx
      go_wp2
      go_round
      case rel => exact ⟨j + 1, by omega, by go_num, by go_num⟩
      case measure => simp [intOf]; omega
    · obtain rfl : j = n := by omega
      go_wp2
      go_ret
      exact ⟨rfl, rfl⟩

set_option maxHeartbeats 400000 in
theorem markIntS_ok (base : Nat) (A : Option Addr) (c : Nat) (l : List Int) (k : Int) (w : World) (hk0 : 0 ≤ k) (hk1 : k ≤ 1073741824) (hm : l.length ≤ 16777216) (h : OwnI w base (.slice A l.length c) l) :
    Calls Try.prog 24 #[.slice A l.length c, .int .i64 k] w fun e w' => e = .returned (.int .i64 (k + l.length)) ∧ OwnI w' base (.slice A l.length c) (marks k l.length) ∧ w.grownBy w' (Value.slice A l.length c).ownBlock := by
  go_enter Try.func24, Try.ntmps24
  go_wp2
  go_loopw [1, 5] (fun q i wr => ∃ j : Nat, j ≤ l.length ∧ i = .int .i64 j ∧ q = .int .i64 (k + j) ∧ OwnI wr base (.slice A l.length c) (markTo k l j) ∧ w.grownBy wr (Value.slice A l.length c).ownBlock) (fun _ i _ => l.length - (intOf i).toNat)
  case atStart => exact ⟨0, by omega, rfl, by go_num, h, gr_refl _ _⟩
  case round =>
    obtain ⟨j, hj, rfl, rfl, hown, hgr⟩ := hrel
    by_cases hlt : j < l.length
    · obtain ⟨g, rfl, hg, _⟩ := hown.head (by rw [length_markTo]; omega)
      have hx : (markTo k l j)[j]? = some ((markTo k l j)[j]'(by rw [length_markTo]; exact hlt)) := List.getElem?_eq_getElem _
      have hc := hown.cell hx
      have hf := hown.frozen j
      clear hx
      go_wp2
      go_roundw
      case rel => exact ⟨j + 1, by omega, by go_num, by go_num, (hown.set j (k + j)).1, gr_trans hgr (hown.set j (k + j)).2⟩
      case measure => simp [intOf]; omega
    · obtain rfl : j = l.length := by omega
      rw [markTo_all] at hown
      go_wp2
      go_ret
      exact ⟨rfl, hown, hgr⟩

/-- A call that returns a slice of ints of its own, and whether there is one. -/
def RetI (w : World) (l : List Int) (ok : Bool) (e : Ending) (w' : World) : Prop :=
  ∃ A c, e = .returned (.tuple #[.slice A l.length c, .bool ok]) ∧ OwnI w' w.heap.size (.slice A l.length c) l ∧ Below w.heap.size w w'
/-- Rows that were made one behind the other lie apart. -/
theorem apart_of {v v' : Value} {B : Nat} (h : ∀ k, v.ownBlock = some k → k < B) (h' : ∀ k, v'.ownBlock = some k → B ≤ k) : v.ownBlock = none ∨ v.ownBlock ≠ v'.ownBlock := by
  cases e : v.ownBlock with
  | none => exact .inl rfl
  | some k =>
    right
    intro e2
    have h1 := h k e
    have h2 := h' k e2.symm
    omega
theorem apart_of' {v v' : Value} {B : Nat} (h : ∀ k, v.ownBlock = some k → B ≤ k) (h' : ∀ k, v'.ownBlock = some k → k < B) : v.ownBlock = none ∨ v.ownBlock ≠ v'.ownBlock := by
  cases e : v.ownBlock with
  | none => exact .inl rfl
  | some k =>
    right
    intro e2
    have h1 := h k e
    have h2 := h' k e2.symm
    omega
end Go.Proofs.Ytkcbldaondflmaa
