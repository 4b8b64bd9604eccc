/-
  BeadMove, a struct of 3 ints: the element types, and the helpers of the laws over slices of it: counted, copied, equal, marked, held.
-/
import Derived.Test.YtkcbldaondflmaaTyped
import Derived.Deep.RegionHeld3
import Derived.StillTailTactics
namespace Go.Proofs.Ytkcbldaondflmaa
open Go.RowKit

structure MoveV where
  rod : Int
  part : Int
  by_ : Int

def moveT : Ty MoveV where
  enc x := [.int .i64 x.rod, .int .i64 x.part, .int .i64 x.by_]
  sz := 3
  e := 52
  st := 26
  bytes := 24
  zero := ⟨0, 0, 0⟩
  zv := .agg #[.int .i64 0, .int .i64 0, .int .i64 0]
  henc _ := rfl
  one _ u hu := by simp at hu; rcases hu with rfl | rfl | rfl <;> rfl
  hsz := by decide
  hz := rfl
  hst := Try.underlying26
  info := by kernel_rfl
  hbytes := by decide

def moveL : Ty MoveV where
  enc x := [.int .i64 x.rod, .int .i64 x.part, .int .i64 x.by_]
  sz := 3
  e := 54
  st := 22
  bytes := 24
  zero := ⟨0, 0, 0⟩
  zv := .agg #[.int .i64 0, .int .i64 0, .int .i64 0]
  henc _ := rfl
  one _ u hu := by simp at hu; rcases hu with rfl | rfl | rfl <;> rfl
  hsz := by decide
  hz := rfl
  hst := Try.underlying22
  info := by kernel_rfl
  hbytes := by decide

theorem moveT_at {w : World} {A : Option Addr} {l : List MoveV} (h : RdT moveT w A l) {k : Nat} (hk : k < l.length) :
    ∃ b off rod part by_, A = some ⟨b, off, none⟩ ∧ l[k]? = some ⟨rod, part, by_⟩ ∧ b < w.heap.size ∧ w.cell? ⟨b, off + k * 3, none⟩ = some (.int .i64 rod) ∧ w.cell? ⟨b, off + k * 3 + 1, none⟩ = some (.int .i64 part) ∧ w.cell? ⟨b, off + k * 3 + 2, none⟩ = some (.int .i64 by_) := by
  obtain ⟨b, off, ⟨rod, part, by_⟩, hA, hx, hlt, hc⟩ := h.at_ hk
  exact ⟨b, off, rod, part, by_, hA, hx, hlt, hc 0 _ rfl, hc 1 _ rfl, hc 2 _ rfl⟩
theorem moveT_cells {w : World} {A : Option Addr} {l : List MoveV} (h : RdT moveT w A l) (hn : 0 < l.length) :
    ∃ b off, A = some ⟨b, off, none⟩ ∧ b < w.heap.size ∧ ∀ (k : Nat) rod part by_, l[k]? = some ⟨rod, part, by_⟩ → w.cell? ⟨b, off + k * 3, none⟩ = some (.int .i64 rod) ∧ w.cell? ⟨b, off + k * 3 + 1, none⟩ = some (.int .i64 part) ∧ w.cell? ⟨b, off + k * 3 + 2, none⟩ = some (.int .i64 by_) := by
  obtain ⟨b, off, hA, hlt, hc⟩ := h.2 hn
  refine ⟨b, off, hA, hlt, fun k rod part by_ hx => ?_⟩
  have hat := fun j u hu => hc (k * 3 + j) u (flat_at moveT l k j _ u hx hu)
  exact ⟨by have := hat 0 _ rfl; exact this, by have := hat 1 _ rfl; rw [← Nat.add_assoc] at this; exact this, by have := hat 2 _ rfl; rw [← Nat.add_assoc] at this; exact this⟩

theorem moveL_at {w : World} {A : Option Addr} {l : List MoveV} (h : RdT moveL w A l) {k : Nat} (hk : k < l.length) :
    ∃ b off rod part by_, A = some ⟨b, off, none⟩ ∧ l[k]? = some ⟨rod, part, by_⟩ ∧ b < w.heap.size ∧ w.cell? ⟨b, off + k * 3, none⟩ = some (.int .i64 rod) ∧ w.cell? ⟨b, off + k * 3 + 1, none⟩ = some (.int .i64 part) ∧ w.cell? ⟨b, off + k * 3 + 2, none⟩ = some (.int .i64 by_) := by
  obtain ⟨b, off, ⟨rod, part, by_⟩, hA, hx, hlt, hc⟩ := h.at_ hk
  exact ⟨b, off, rod, part, by_, hA, hx, hlt, hc 0 _ rfl, hc 1 _ rfl, hc 2 _ rfl⟩
theorem moveL_cells {w : World} {A : Option Addr} {l : List MoveV} (h : RdT moveL w A l) (hn : 0 < l.length) :
    ∃ b off, A = some ⟨b, off, none⟩ ∧ b < w.heap.size ∧ ∀ (k : Nat) rod part by_, l[k]? = some ⟨rod, part, by_⟩ → w.cell? ⟨b, off + k * 3, none⟩ = some (.int .i64 rod) ∧ w.cell? ⟨b, off + k * 3 + 1, none⟩ = some (.int .i64 part) ∧ w.cell? ⟨b, off + k * 3 + 2, none⟩ = some (.int .i64 by_) := by
  obtain ⟨b, off, hA, hlt, hc⟩ := h.2 hn
  refine ⟨b, off, hA, hlt, fun k rod part by_ hx => ?_⟩
  have hat := fun j u hu => hc (k * 3 + j) u (flat_at moveL l k j _ u hx hu)
  exact ⟨by have := hat 0 _ rfl; exact this, by have := hat 1 _ rfl; rw [← Nat.add_assoc] at this; exact this, by have := hat 2 _ rfl; rw [← Nat.add_assoc] at this; exact this⟩

theorem move_own {w : World} {base m c g : Nat} {l : List MoveV} (h : OwnT moveT w base (.slice (some ⟨g, 0, none⟩) m c) l) {k : Nat} (hk : k < l.length) :
    ∃ rod part by_, l[k]? = some ⟨rod, part, by_⟩ ∧ w.cell? ⟨g, k * 3, none⟩ = some (.int .i64 rod) ∧ w.cell? ⟨g, k * 3 + 1, none⟩ = some (.int .i64 part) ∧ w.cell? ⟨g, k * 3 + 2, none⟩ = some (.int .i64 by_) ∧ w.frozen? ⟨g, k * 3, none⟩ = false ∧ w.frozen? ⟨g, k * 3 + 1, none⟩ = false ∧ w.frozen? ⟨g, k * 3 + 2, none⟩ = false := by
  have hx : l[k]? = some l[k] := List.getElem?_eq_getElem hk
  exact ⟨l[k].rod, l[k].part, l[k].by_, hx, h.cell hx 0 _ rfl, h.cell hx 1 _ rfl, h.cell hx 2 _ rfl, h.frozen _, h.frozen _, h.frozen _⟩

set_option maxHeartbeats 400000 in
theorem szBeadMoveS_any (A : Option Addr) (n c : Nat) (left : Int) (w : World) (h0 : 0 ≤ left) (h1 : left ≤ 1048576) (hn : n ≤ 9223372036854775807) :
    Calls Try.prog 11 #[.slice A n c, .int .i64 left] w fun e w' => e = .returned (.int .i64 (if left < n then -1 else left - n)) ∧ w = w' := by
  by_cases h : left < n
  · rw [if_pos h]
    go_enter Try.func11, Try.ntmps11
    go_wp2
    go_ret
    exact ⟨rfl, rfl⟩
  · rw [if_neg h]
    go_enter Try.func11, Try.ntmps11
    go_wp2
    go_ret
    exact ⟨rfl, rfl⟩

set_option maxHeartbeats 1600000 in
theorem toBeadMove_any (rod part by_ : Int) (w : World) :
    Calls Try.prog 42 #[.agg #[.int .i64 rod, .int .i64 part, .int .i64 by_]] w fun e w' => e = .returned (.agg #[.int .i64 rod, .int .i64 part, .int .i64 by_]) ∧ Below w.heap.size w w' := by
  go_enter Try.func42, Try.ntmps42
  go_wp2
  refine bodyPost_ret (v := .agg #[.int .i64 rod, .int .i64 part, .int .i64 by_]) (by simp [results, Try.results42, go_sem]) rfl ⟨rfl, ?_⟩
  repeat (first | exact Below.refl _ _ | (refine Below.setCell ?_ (by first | omega | (simp; done) | (simp; omega)) _) | (refine Below.alloc ?_ (by first | omega | (simp; done) | (simp; omega)) _) | (refine below_drewN ?_ _))

set_option maxHeartbeats 1600000 in
theorem toBeadMoveS_any (A : Option Addr) (c : Nat) (l : List MoveV) (w : World) (hn : l.length ≤ 1048576) (h : RdT moveL w A l) :
    Calls Try.prog 13 #[.slice A l.length c] w fun e w' => ∃ A' c', e = .returned (.slice A' l.length c') ∧ OwnT moveT w' w.heap.size (.slice A' l.length c') l ∧ Below w.heap.size w w' := by
  go_enter Try.func13, Try.ntmps13
  go_wp2_with (at_make; refine wpList_makeT (w0 := w) (B := w.heap.size) moveT rfl _ _ rfl w.heap.size _ _ l.length rfl rfl rfl rfl (by omega) (Nat.le_refl _) (Below.refl _ _) (Nat.le_refl _) ?_; intro w1 hown1 hb1 hgr1)
  have e0 := copyTo_zero l (moveT.zero)
  rw [← e0] at hown1
  clear e0
  go_loopw [4] (fun i wr => ∃ k : Nat, k ≤ l.length ∧ i = .int .i64 k ∧ OwnT moveT wr w.heap.size (.slice (some ⟨w.heap.size, 0, none⟩) l.length l.length) (copyTo l moveT.zero k) ∧ Below w.heap.size w wr) (fun i _ => l.length - (intOf i).toNat)
  case atStart => exact ⟨0, by omega, rfl, hown1, hb1⟩
  case round =>
    obtain ⟨k, hk, rfl, hown, hb⟩ := hrel
    by_cases hlt : k < l.length
    · obtain ⟨b, off, rod, part, by_, rfl, hx, hlb, hc0, hc1, hc2⟩ := moveL_at (h.below hb (Nat.le_refl _)) hlt
      go_wp2_with (go_at_call 42; refine (toBeadMove_any rod part by_ _).mono ?_; rintro e w2 ⟨rfl, hb2⟩; have hown2 := hown.below hb2 (Nat.le_refl _); obtain ⟨q0, q1, q2, _, hq0, hq1, hq2, hf0, hf1, hf2⟩ := move_own hown2 (k := k) (by rw [length_copyTo _ _ _ hk]; exact hlt))
      go_roundw
      case rel =>
        have hs := hown2.set (k := k) (by rw [length_copyTo _ _ _ hk]; exact hlt) ⟨rod, part, by_⟩
        rw [copyTo_succ l _ _ k hx] at hs
        exact ⟨k + 1, by omega, by go_num, hs.1, (hb.trans (hb2.mono hb.size)).grown hs.2 (by have := hb.size; have := hb2.size; omega) (by simp)⟩
      case measure => simp [intOf]; omega
    · obtain rfl : k = l.length := by omega
      rw [copyTo_all] at hown
      go_wp2
      go_ret
      exact ⟨_, _, rfl, hown, hb⟩

set_option maxHeartbeats 1600000 in
theorem eqBeadMove_same (rod part by_ : Int) (w : World) :
    Calls Try.prog 44 #[.agg #[.int .i64 rod, .int .i64 part, .int .i64 by_], .agg #[.int .i64 rod, .int .i64 part, .int .i64 by_]] w fun e w' => e = .returned (.bool true) ∧ Below w.heap.size w w' := by
  go_enter Try.func44, Try.ntmps44
  go_wp2
  go_ret
  refine ⟨rfl, ?_⟩
  repeat (first | exact Below.refl _ _ | (refine Below.setCell ?_ (by first | omega | (simp; done) | (simp; omega)) _) | (refine Below.alloc ?_ (by first | omega | (simp; done) | (simp; omega)) _) | (refine below_drewN ?_ _))

set_option maxHeartbeats 1600000 in
theorem eqBeadMoveS_same (A1 A2 : Option Addr) (n c1 c2 : Nat) (l : List MoveV) (w : World) (hn : n = l.length) (hm : n ≤ 16777216) (h1 : RdT moveT w A1 l) (h2 : RdT moveT w A2 l) :
    Calls Try.prog 15 #[.slice A1 n c1, .slice A2 n c2] w fun e w' => e = .returned (.bool true) ∧ Below w.heap.size w w' := by
  have e1 : (decide ((n : Int) = n)) = true := by simp
  go_enter Try.func15, Try.ntmps15
  go_wp2
  go_loopw [5] (fun i wr => ∃ k : Nat, k ≤ n ∧ i = .int .i64 k ∧ RdT moveT wr A1 l ∧ RdT moveT wr A2 l ∧ Below w.heap.size w wr) (fun i _ => n - (intOf i).toNat)
  case atStart => exact ⟨0, by omega, rfl, h1, h2, Below.refl _ _⟩
  case round =>
    obtain ⟨k, hk, rfl, g1, g2, hb⟩ := hrel
    clear h1 h2
    by_cases hlt : k < n
    · obtain ⟨b1, o1, rod, part, by_, rfl, hx, hl1, hc0, hc1, hc2⟩ := moveT_at g1 (k := k) (by omega)
      obtain ⟨b2, o2, rfl, hl2, hcells⟩ := moveT_cells g2 (by omega)
      obtain ⟨hd0, hd1, hd2⟩ := hcells k rod part by_ hx
      clear hx hcells
      go_wp2_with fail
      go_still_tail 8, (by kernel_rfl)
      change wpList _ _ _ _ _ wr.drew
      go_wp2_with (go_at_call 44; refine (eqBeadMove_same rod part by_ _).mono ?_; rintro e w2 ⟨rfl, hb2⟩)
      go_roundw
      case rel => exact ⟨k + 1, by omega, by go_num, g1.below (w := wr) (B := wr.heap.size) ((Below.refl _ _).drew.trans hb2) (Nat.le_refl _), g2.below (w := wr) (B := wr.heap.size) ((Below.refl _ _).drew.trans hb2) (Nat.le_refl _), hb.trans (((Below.refl _ _).drew.trans hb2).mono hb.size)⟩
      case measure => simp [intOf]; omega
    · go_wp2
      go_ret
      exact ⟨rfl, hb⟩

/-! ### marked, held -/
def marksMove (k : Int) (n : Nat) : List MoveV := (List.range n).map fun i => ⟨k + 3 * (i : Nat), k + 3 * (i : Nat) + 1, k + 3 * (i : Nat) + 1 + 1⟩
theorem length_marksMove (k : Int) (n : Nat) : (marksMove k n).length = n := by simp [marksMove]
theorem marksMove_at (k : Int) (n i : Nat) (h : i < n) : (marksMove k n)[i]? = some ⟨k + 3 * i, k + 3 * i + 1, k + 3 * i + 1 + 1⟩ := by simp [marksMove, h]
def markToMove (k : Int) (l : List MoveV) : Nat → List MoveV
  | 0 => l
  | i + 1 => (markToMove k l i).set i ⟨k + 3 * i, k + 3 * i + 1, k + 3 * i + 1 + 1⟩
theorem length_markToMove (k : Int) (l : List MoveV) (i : Nat) : (markToMove k l i).length = l.length := by
  induction i with
  | zero => rfl
  | succ i ih => simp [markToMove, ih]
theorem markToMove_at (k : Int) (l : List MoveV) (i j : Nat) (hj : j < l.length) (hi : j < i) : (markToMove k l i)[j]? = some ⟨k + 3 * j, k + 3 * j + 1, k + 3 * j + 1 + 1⟩ := by
  induction i with
  | zero => omega
  | succ i ih =>
    simp only [markToMove, List.getElem?_set, length_markToMove]
    by_cases e : i = j
    · subst e; simp [hj]
    · rw [if_neg e]; exact ih (by omega)
theorem markToMove_all (k : Int) (l : List MoveV) : markToMove k l l.length = marksMove k l.length := by
  apply List.ext_getElem?
  intro j
  by_cases hj : j < l.length
  · rw [markToMove_at k l _ j hj hj, marksMove_at k _ j hj]
  · rw [List.getElem?_eq_none (by rw [length_markToMove]; omega), List.getElem?_eq_none (by rw [length_marksMove]; omega)]

set_option maxHeartbeats 1600000 in
theorem markBeadMoveS_ok (base : Nat) (A : Option Addr) (c : Nat) (l : List MoveV) (k : Int) (w : World) (hk0 : 0 ≤ k) (hk1 : k ≤ 1073741824) (hm : l.length ≤ 16777216) (h : OwnT moveT w base (.slice A l.length c) l) :
    Calls Try.prog 23 #[.slice A l.length c, .int .i64 k] w fun e w' => e = .returned (.int .i64 (k + 3 * l.length)) ∧ OwnT moveT w' base (.slice A l.length c) (marksMove k l.length) ∧ w.grownBy w' (Value.slice A l.length c).ownBlock := by
  go_enter Try.func23, Try.ntmps23
  go_wp2
  go_loopw [1, 5] (fun q i wr => ∃ j : Nat, j ≤ l.length ∧ i = .int .i64 j ∧ q = .int .i64 (k + 3 * j) ∧ OwnT moveT wr base (.slice A l.length c) (markToMove k l j) ∧ w.grownBy wr (Value.slice A l.length c).ownBlock) (fun _ i _ => l.length - (intOf i).toNat)
  case atStart => exact ⟨0, by omega, rfl, by go_num, h, gr_refl _ _⟩
  case round =>
    obtain ⟨j, hj, rfl, rfl, hown, hgr⟩ := hrel
    by_cases hlt : j < l.length
    · obtain ⟨g, rfl, hg, _⟩ := hown.head (by rw [length_markToMove]; omega)
      obtain ⟨q0, q1, q2, _, hc0, hc1, hc2, hf0, hf1, hf2⟩ := move_own hown (k := j) (by rw [length_markToMove]; exact hlt)
      have hs := hown.set (k := j) (by rw [length_markToMove]; exact hlt) ⟨k + 3 * j, k + 3 * j + 1, k + 3 * j + 1 + 1⟩
      go_wp2
      go_roundw
      case rel => exact ⟨j + 1, by omega, by go_num, by go_num, hs.1, gr_trans hgr hs.2⟩
      case measure => simp [intOf]; omega
    · obtain rfl : j = l.length := by omega
      rw [markToMove_all] at hown
      go_wp2
      go_ret
      exact ⟨rfl, hown, hgr⟩

theorem ownMove_empty (w : World) (base : Nat) (hb : base ≤ w.heap.size) : OwnT moveT (w.alloc (.cells #[] 52)) base (.slice (some ⟨w.heap.size, 0, none⟩) 0 0) [] := World.ownsRow_lit w #[] 0 hb (by unfold maxLen; omega) rfl
/-- A call that returns a slice of its own, and whether there is one. -/
def RetMove (w : World) (l : List MoveV) (ok : Bool) (e : Ending) (w' : World) : Prop :=
  ∃ A c, e = .returned (.tuple #[.slice A l.length c, .bool ok]) ∧ OwnT moveT w' w.heap.size (.slice A l.length c) l ∧ Below w.heap.size w w'
end Go.Proofs.Ytkcbldaondflmaa

