/-
  Solved, a struct of 5 ints: the element types, and the helpers of the laws over slices of it: counted, copied, equal, marked, held.
-/
import Derived.Test.YtcbecfkckdalmaaTyped
import Derived.Deep.RegionHeld3
import Derived.StillTailTactics
namespace Go.Proofs.Ytcbecfkckdalmaa
open Go.RowKit

structure SolvedV where
  pupil : Int
  heat : Int
  right : Int
  wrong : Int
  time : Int

def solvedT : Ty SolvedV where
  enc x := [.int .i64 x.pupil, .int .i64 x.heat, .int .i64 x.right, .int .i64 x.wrong, .int .i64 x.time]
  sz := 5
  e := 25
  st := 33
  bytes := 40
  zero := ⟨0, 0, 0, 0, 0⟩
  zv := .agg #[.int .i64 0, .int .i64 0, .int .i64 0, .int .i64 0, .int .i64 0]
  henc _ := rfl
  one _ u hu := by simp at hu; rcases hu with rfl | rfl | rfl | rfl | rfl <;> rfl
  hsz := by decide
  hz := rfl
  hst := Try.underlying33
  info := by kernel_rfl
  hbytes := by decide

def solvedL : Ty SolvedV where
  enc x := [.int .i64 x.pupil, .int .i64 x.heat, .int .i64 x.right, .int .i64 x.wrong, .int .i64 x.time]
  sz := 5
  e := 23
  st := 30
  bytes := 40
  zero := ⟨0, 0, 0, 0, 0⟩
  zv := .agg #[.int .i64 0, .int .i64 0, .int .i64 0, .int .i64 0, .int .i64 0]
  henc _ := rfl
  one _ u hu := by simp at hu; rcases hu with rfl | rfl | rfl | rfl | rfl <;> rfl
  hsz := by decide
  hz := rfl
  hst := Try.underlying30
  info := by kernel_rfl
  hbytes := by decide

theorem solvedT_at {w : World} {A : Option Addr} {l : List SolvedV} (h : RdT solvedT w A l) {k : Nat} (hk : k < l.length) :
    ∃ b off pupil heat right wrong time, A = some ⟨b, off, none⟩ ∧ l[k]? = some ⟨pupil, heat, right, wrong, time⟩ ∧ b < w.heap.size ∧ w.cell? ⟨b, off + k * 5, none⟩ = some (.int .i64 pupil) ∧ w.cell? ⟨b, off + k * 5 + 1, none⟩ = some (.int .i64 heat) ∧ w.cell? ⟨b, off + k * 5 + 2, none⟩ = some (.int .i64 right) ∧ w.cell? ⟨b, off + k * 5 + 3, none⟩ = some (.int .i64 wrong) ∧ w.cell? ⟨b, off + k * 5 + 4, none⟩ = some (.int .i64 time) := by
  obtain ⟨b, off, ⟨pupil, heat, right, wrong, time⟩, hA, hx, hlt, hc⟩ := h.at_ hk
  exact ⟨b, off, pupil, heat, right, wrong, time, hA, hx, hlt, hc 0 _ rfl, hc 1 _ rfl, hc 2 _ rfl, hc 3 _ rfl, hc 4 _ rfl⟩
theorem solvedT_cells {w : World} {A : Option Addr} {l : List SolvedV} (h : RdT solvedT w A l) (hn : 0 < l.length) :
    ∃ b off, A = some ⟨b, off, none⟩ ∧ b < w.heap.size ∧ ∀ (k : Nat) pupil heat right wrong time, l[k]? = some ⟨pupil, heat, right, wrong, time⟩ → w.cell? ⟨b, off + k * 5, none⟩ = some (.int .i64 pupil) ∧ w.cell? ⟨b, off + k * 5 + 1, none⟩ = some (.int .i64 heat) ∧ w.cell? ⟨b, off + k * 5 + 2, none⟩ = some (.int .i64 right) ∧ w.cell? ⟨b, off + k * 5 + 3, none⟩ = some (.int .i64 wrong) ∧ w.cell? ⟨b, off + k * 5 + 4, none⟩ = some (.int .i64 time) := by
  obtain ⟨b, off, hA, hlt, hc⟩ := h.2 hn
  refine ⟨b, off, hA, hlt, fun k pupil heat right wrong time hx => ?_⟩
  have hat := fun j u hu => hc (k * 5 + j) u (flat_at solvedT l k j _ u hx hu)
  exact ⟨by have := hat 0 _ rfl; exact this, by have := hat 1 _ rfl; rw [← Nat.add_assoc] at this; exact this, by have := hat 2 _ rfl; rw [← Nat.add_assoc] at this; exact this, by have := hat 3 _ rfl; rw [← Nat.add_assoc] at this; exact this, by have := hat 4 _ rfl; rw [← Nat.add_assoc] at this; exact this⟩

theorem solvedL_at {w : World} {A : Option Addr} {l : List SolvedV} (h : RdT solvedL w A l) {k : Nat} (hk : k < l.length) :
    ∃ b off pupil heat right wrong time, A = some ⟨b, off, none⟩ ∧ l[k]? = some ⟨pupil, heat, right, wrong, time⟩ ∧ b < w.heap.size ∧ w.cell? ⟨b, off + k * 5, none⟩ = some (.int .i64 pupil) ∧ w.cell? ⟨b, off + k * 5 + 1, none⟩ = some (.int .i64 heat) ∧ w.cell? ⟨b, off + k * 5 + 2, none⟩ = some (.int .i64 right) ∧ w.cell? ⟨b, off + k * 5 + 3, none⟩ = some (.int .i64 wrong) ∧ w.cell? ⟨b, off + k * 5 + 4, none⟩ = some (.int .i64 time) := by
  obtain ⟨b, off, ⟨pupil, heat, right, wrong, time⟩, hA, hx, hlt, hc⟩ := h.at_ hk
  exact ⟨b, off, pupil, heat, right, wrong, time, hA, hx, hlt, hc 0 _ rfl, hc 1 _ rfl, hc 2 _ rfl, hc 3 _ rfl, hc 4 _ rfl⟩
theorem solvedL_cells {w : World} {A : Option Addr} {l : List SolvedV} (h : RdT solvedL w A l) (hn : 0 < l.length) :
    ∃ b off, A = some ⟨b, off, none⟩ ∧ b < w.heap.size ∧ ∀ (k : Nat) pupil heat right wrong time, l[k]? = some ⟨pupil, heat, right, wrong, time⟩ → w.cell? ⟨b, off + k * 5, none⟩ = some (.int .i64 pupil) ∧ w.cell? ⟨b, off + k * 5 + 1, none⟩ = some (.int .i64 heat) ∧ w.cell? ⟨b, off + k * 5 + 2, none⟩ = some (.int .i64 right) ∧ w.cell? ⟨b, off + k * 5 + 3, none⟩ = some (.int .i64 wrong) ∧ w.cell? ⟨b, off + k * 5 + 4, none⟩ = some (.int .i64 time) := by
  obtain ⟨b, off, hA, hlt, hc⟩ := h.2 hn
  refine ⟨b, off, hA, hlt, fun k pupil heat right wrong time hx => ?_⟩
  have hat := fun j u hu => hc (k * 5 + j) u (flat_at solvedL l k j _ u hx hu)
  exact ⟨by have := hat 0 _ rfl; exact this, by have := hat 1 _ rfl; rw [← Nat.add_assoc] at this; exact this, by have := hat 2 _ rfl; rw [← Nat.add_assoc] at this; exact this, by have := hat 3 _ rfl; rw [← Nat.add_assoc] at this; exact this, by have := hat 4 _ rfl; rw [← Nat.add_assoc] at this; exact this⟩

theorem solved_own {w : World} {base m c g : Nat} {l : List SolvedV} (h : OwnT solvedT w base (.slice (some ⟨g, 0, none⟩) m c) l) {k : Nat} (hk : k < l.length) :
    ∃ pupil heat right wrong time, l[k]? = some ⟨pupil, heat, right, wrong, time⟩ ∧ w.cell? ⟨g, k * 5, none⟩ = some (.int .i64 pupil) ∧ w.cell? ⟨g, k * 5 + 1, none⟩ = some (.int .i64 heat) ∧ w.cell? ⟨g, k * 5 + 2, none⟩ = some (.int .i64 right) ∧ w.cell? ⟨g, k * 5 + 3, none⟩ = some (.int .i64 wrong) ∧ w.cell? ⟨g, k * 5 + 4, none⟩ = some (.int .i64 time) ∧ w.frozen? ⟨g, k * 5, none⟩ = false ∧ w.frozen? ⟨g, k * 5 + 1, none⟩ = false ∧ w.frozen? ⟨g, k * 5 + 2, none⟩ = false ∧ w.frozen? ⟨g, k * 5 + 3, none⟩ = false ∧ w.frozen? ⟨g, k * 5 + 4, none⟩ = false := by
  have hx : l[k]? = some l[k] := List.getElem?_eq_getElem hk
  exact ⟨l[k].pupil, l[k].heat, l[k].right, l[k].wrong, l[k].time, hx, h.cell hx 0 _ rfl, h.cell hx 1 _ rfl, h.cell hx 2 _ rfl, h.cell hx 3 _ rfl, h.cell hx 4 _ rfl, h.frozen _, h.frozen _, h.frozen _, h.frozen _, h.frozen _⟩

set_option maxHeartbeats 400000 in
theorem szSolvedS_any (A : Option Addr) (n c : Nat) (left : Int) (w : World) (h0 : 0 ≤ left) (h1 : left ≤ 1048576) (hn : n ≤ 9223372036854775807) :
    Calls Try.prog 21 #[.slice A n c, .int .i64 left] w fun e w' => e = .returned (.int .i64 (if left < n then -1 else left - n)) ∧ w = w' := by
  by_cases h : left < n
  · rw [if_pos h]
    go_enter Try.func21, Try.ntmps21
    go_wp2
    go_ret
    exact ⟨rfl, rfl⟩
  · rw [if_neg h]
    go_enter Try.func21, Try.ntmps21
    go_wp2
    go_ret
    exact ⟨rfl, rfl⟩

set_option maxHeartbeats 1600000 in
theorem toSolved_any (pupil heat right wrong time : Int) (w : World) :
    Calls Try.prog 17 #[.agg #[.int .i64 pupil, .int .i64 heat, .int .i64 right, .int .i64 wrong, .int .i64 time]] w fun e w' => e = .returned (.agg #[.int .i64 pupil, .int .i64 heat, .int .i64 right, .int .i64 wrong, .int .i64 time]) ∧ Below w.heap.size w w' := by
  go_enter Try.func17, Try.ntmps17
  go_wp2
  refine bodyPost_ret (v := .agg #[.int .i64 pupil, .int .i64 heat, .int .i64 right, .int .i64 wrong, .int .i64 time]) (by simp [results, Try.results17, go_sem]) rfl ⟨rfl, ?_⟩
  repeat (first | exact Below.refl _ _ | (refine Below.setCell ?_ (by first | omega | (simp; done) | (simp; omega)) _) | (refine Below.alloc ?_ (by first | omega | (simp; done) | (simp; omega)) _) | (refine below_drewN ?_ _))

set_option maxHeartbeats 1600000 in
theorem toSolvedS_any (A : Option Addr) (c : Nat) (l : List SolvedV) (w : World) (hn : l.length ≤ 1048576) (h : RdT solvedL w A l) :
    Calls Try.prog 23 #[.slice A l.length c] w fun e w' => ∃ A' c', e = .returned (.slice A' l.length c') ∧ OwnT solvedT w' w.heap.size (.slice A' l.length c') l ∧ Below w.heap.size w w' := by
  go_enter Try.func23, Try.ntmps23
  go_wp2_with (at_make; refine wpList_makeT (w0 := w) (B := w.heap.size) solvedT rfl _ _ rfl w.heap.size _ _ l.length rfl rfl rfl rfl (by omega) (Nat.le_refl _) (Below.refl _ _) (Nat.le_refl _) ?_; intro w1 hown1 hb1 hgr1)
  have e0 := copyTo_zero l (solvedT.zero)
  rw [← e0] at hown1
  clear e0
  go_loopw [4] (fun i wr => ∃ k : Nat, k ≤ l.length ∧ i = .int .i64 k ∧ OwnT solvedT wr w.heap.size (.slice (some ⟨w.heap.size, 0, none⟩) l.length l.length) (copyTo l solvedT.zero k) ∧ Below w.heap.size w wr) (fun i _ => l.length - (intOf i).toNat)
  case atStart => exact ⟨0, by omega, rfl, hown1, hb1⟩
  case round =>
    obtain ⟨k, hk, rfl, hown, hb⟩ := hrel
    by_cases hlt : k < l.length
    · obtain ⟨b, off, pupil, heat, right, wrong, time, rfl, hx, hlb, hc0, hc1, hc2, hc3, hc4⟩ := solvedL_at (h.below hb (Nat.le_refl _)) hlt
      go_wp2_with (go_at_call 17; refine (toSolved_any pupil heat right wrong time _).mono ?_; rintro e w2 ⟨rfl, hb2⟩; have hown2 := hown.below hb2 (Nat.le_refl _); obtain ⟨q0, q1, q2, q3, q4, _, hq0, hq1, hq2, hq3, hq4, hf0, hf1, hf2, hf3, hf4⟩ := solved_own hown2 (k := k) (by rw [length_copyTo _ _ _ hk]; exact hlt))
      go_roundw
      case rel =>
        have hs := hown2.set (k := k) (by rw [length_copyTo _ _ _ hk]; exact hlt) ⟨pupil, heat, right, wrong, time⟩
        rw [copyTo_succ l _ _ k hx] at hs
        exact ⟨k + 1, by omega, by go_num, hs.1, (hb.trans (hb2.mono hb.size)).grown hs.2 (by have := hb.size; have := hb2.size; omega) (by simp)⟩
      case measure => simp [intOf]; omega
    · obtain rfl : k = l.length := by omega
      rw [copyTo_all] at hown
      go_wp2
      go_ret
      exact ⟨_, _, rfl, hown, hb⟩

set_option maxHeartbeats 1600000 in
theorem eqSolved_same (pupil heat right wrong time : Int) (w : World) :
    Calls Try.prog 70 #[.agg #[.int .i64 pupil, .int .i64 heat, .int .i64 right, .int .i64 wrong, .int .i64 time], .agg #[.int .i64 pupil, .int .i64 heat, .int .i64 right, .int .i64 wrong, .int .i64 time]] w fun e w' => e = .returned (.bool true) ∧ Below w.heap.size w w' := by
  go_enter Try.func70, Try.ntmps70
  go_wp2
  go_ret
  refine ⟨rfl, ?_⟩
  repeat (first | exact Below.refl _ _ | (refine Below.setCell ?_ (by first | omega | (simp; done) | (simp; omega)) _) | (refine Below.alloc ?_ (by first | omega | (simp; done) | (simp; omega)) _) | (refine below_drewN ?_ _))

set_option maxHeartbeats 1600000 in
theorem eqSolvedS_same (A1 A2 : Option Addr) (n c1 c2 : Nat) (l : List SolvedV) (w : World) (hn : n = l.length) (hm : n ≤ 16777216) (h1 : RdT solvedT w A1 l) (h2 : RdT solvedT w A2 l) :
    Calls Try.prog 25 #[.slice A1 n c1, .slice A2 n c2] w fun e w' => e = .returned (.bool true) ∧ Below w.heap.size w w' := by
  have e1 : (decide ((n : Int) = n)) = true := by simp
  go_enter Try.func25, Try.ntmps25
  go_wp2
  go_loopw [5] (fun i wr => ∃ k : Nat, k ≤ n ∧ i = .int .i64 k ∧ RdT solvedT wr A1 l ∧ RdT solvedT wr A2 l ∧ Below w.heap.size w wr) (fun i _ => n - (intOf i).toNat)
  case atStart => exact ⟨0, by omega, rfl, h1, h2, Below.refl _ _⟩
  case round =>
    obtain ⟨k, hk, rfl, g1, g2, hb⟩ := hrel
    clear h1 h2
    by_cases hlt : k < n
    · obtain ⟨b1, o1, pupil, heat, right, wrong, time, rfl, hx, hl1, hc0, hc1, hc2, hc3, hc4⟩ := solvedT_at g1 (k := k) (by omega)
      obtain ⟨b2, o2, rfl, hl2, hcells⟩ := solvedT_cells g2 (by omega)
      obtain ⟨hd0, hd1, hd2, hd3, hd4⟩ := hcells k pupil heat right wrong time hx
      clear hx hcells
      go_wp2_with fail
      go_still_tail 8, (by kernel_rfl)
      change wpList _ _ _ _ _ wr.drew
      go_wp2_with (go_at_call 70; refine (eqSolved_same pupil heat right wrong time _).mono ?_; rintro e w2 ⟨rfl, hb2⟩)
      go_roundw
      case rel => exact ⟨k + 1, by omega, by go_num, g1.below (w := wr) (B := wr.heap.size) ((Below.refl _ _).drew.trans hb2) (Nat.le_refl _), g2.below (w := wr) (B := wr.heap.size) ((Below.refl _ _).drew.trans hb2) (Nat.le_refl _), hb.trans (((Below.refl _ _).drew.trans hb2).mono hb.size)⟩
      case measure => simp [intOf]; omega
    · go_wp2
      go_ret
      exact ⟨rfl, hb⟩

/-! ### marked, held -/
def marksSolved (k : Int) (n : Nat) : List SolvedV := (List.range n).map fun i => ⟨k + 5 * (i : Nat), k + 5 * (i : Nat) + 1, k + 5 * (i : Nat) + 1 + 1, k + 5 * (i : Nat) + 1 + 1 + 1, k + 5 * (i : Nat) + 1 + 1 + 1 + 1⟩
theorem length_marksSolved (k : Int) (n : Nat) : (marksSolved k n).length = n := by simp [marksSolved]
theorem marksSolved_at (k : Int) (n i : Nat) (h : i < n) : (marksSolved k n)[i]? = some ⟨k + 5 * i, k + 5 * i + 1, k + 5 * i + 1 + 1, k + 5 * i + 1 + 1 + 1, k + 5 * i + 1 + 1 + 1 + 1⟩ := by simp [marksSolved, h]
def markToSolved (k : Int) (l : List SolvedV) : Nat → List SolvedV
  | 0 => l
  | i + 1 => (markToSolved k l i).set i ⟨k + 5 * i, k + 5 * i + 1, k + 5 * i + 1 + 1, k + 5 * i + 1 + 1 + 1, k + 5 * i + 1 + 1 + 1 + 1⟩
theorem length_markToSolved (k : Int) (l : List SolvedV) (i : Nat) : (markToSolved k l i).length = l.length := by
  induction i with
  | zero => rfl
  | succ i ih => simp [markToSolved, ih]
theorem markToSolved_at (k : Int) (l : List SolvedV) (i j : Nat) (hj : j < l.length) (hi : j < i) : (markToSolved k l i)[j]? = some ⟨k + 5 * j, k + 5 * j + 1, k + 5 * j + 1 + 1, k + 5 * j + 1 + 1 + 1, k + 5 * j + 1 + 1 + 1 + 1⟩ := by
  induction i with
  | zero => omega
  | succ i ih =>
    simp only [markToSolved, List.getElem?_set, length_markToSolved]
    by_cases e : i = j
    · subst e; simp [hj]
    · rw [if_neg e]; exact ih (by omega)
theorem markToSolved_all (k : Int) (l : List SolvedV) : markToSolved k l l.length = marksSolved k l.length := by
  apply List.ext_getElem?
  intro j
  by_cases hj : j < l.length
  · rw [markToSolved_at k l _ j hj hj, marksSolved_at k _ j hj]
  · rw [List.getElem?_eq_none (by rw [length_markToSolved]; omega), List.getElem?_eq_none (by rw [length_marksSolved]; omega)]

set_option maxHeartbeats 1600000 in
theorem heldSolvedS_ok (A : Option Addr) (n c : Nat) (k : Int) (w : World) (hk0 : 0 ≤ k) (hk1 : k ≤ 1073741824) (hm : n ≤ 16777216) (h : RdT solvedT w A (marksSolved k n)) :
    Calls Try.prog 33 #[.slice A n c, .int .i64 k] w fun e w' => e = .returned (.int .i64 (k + 5 * n)) ∧ w = w' := by
  go_enter Try.func33, Try.ntmps33
  go_wp2
  go_loop [1, 5] (fun q i => ∃ j : Nat, j ≤ n ∧ i = .int .i64 j ∧ q = .int .i64 (k + 5 * j)) (fun _ i => n - (intOf i).toNat)
  case atStart => exact ⟨0, by omega, rfl, by go_num⟩
  case round =>
    obtain ⟨j, hj, rfl, rfl⟩ := hrel
    by_cases hlt : j < n
    · obtain ⟨b1, o1, pupil, heat, right, wrong, time, rfl, hx, _, hc0, hc1, hc2, hc3, hc4⟩ := solvedT_at h (k := j) (by rw [length_marksSolved]; exact hlt)
      obtain ⟨rfl, rfl, rfl, rfl, rfl⟩ : pupil = k + 5 * j ∧ heat = k + 5 * j + 1 ∧ right = k + 5 * j + 1 + 1 ∧ wrong = k + 5 * j + 1 + 1 + 1 ∧ time = k + 5 * j + 1 + 1 + 1 + 1 := by
        rw [marksSolved_at k n j hlt] at hx
        injection hx with hx
        injection hx with h1 h2 h3 h4 h5
        exact ⟨h1.symm, h2.symm, h3.symm, h4.symm, h5.symm⟩
      clear hx
      go_wp2
      go_round
      case rel => exact ⟨j + 1, by omega, by go_num, by go_num⟩
      case measure => simp [intOf]; omega
    · obtain rfl : j = n := by omega
      go_wp2
      go_ret
      exact ⟨rfl, rfl⟩

set_option maxHeartbeats 1600000 in
theorem markSolvedS_ok (base : Nat) (A : Option Addr) (c : Nat) (l : List SolvedV) (k : Int) (w : World) (hk0 : 0 ≤ k) (hk1 : k ≤ 1073741824) (hm : l.length ≤ 16777216) (h : OwnT solvedT w base (.slice A l.length c) l) :
    Calls Try.prog 32 #[.slice A l.length c, .int .i64 k] w fun e w' => e = .returned (.int .i64 (k + 5 * l.length)) ∧ OwnT solvedT w' base (.slice A l.length c) (marksSolved k l.length) ∧ w.grownBy w' (Value.slice A l.length c).ownBlock := by
  go_enter Try.func32, Try.ntmps32
  go_wp2
  go_loopw [1, 5] (fun q i wr => ∃ j : Nat, j ≤ l.length ∧ i = .int .i64 j ∧ q = .int .i64 (k + 5 * j) ∧ OwnT solvedT wr base (.slice A l.length c) (markToSolved k l j) ∧ w.grownBy wr (Value.slice A l.length c).ownBlock) (fun _ i _ => l.length - (intOf i).toNat)
  case atStart => exact ⟨0, by omega, rfl, by go_num, h, gr_refl _ _⟩
  case round =>
    obtain ⟨j, hj, rfl, rfl, hown, hgr⟩ := hrel
    by_cases hlt : j < l.length
    · obtain ⟨g, rfl, hg, _⟩ := hown.head (by rw [length_markToSolved]; omega)
      obtain ⟨q0, q1, q2, q3, q4, _, hc0, hc1, hc2, hc3, hc4, hf0, hf1, hf2, hf3, hf4⟩ := solved_own hown (k := j) (by rw [length_markToSolved]; exact hlt)
      have hs := hown.set (k := j) (by rw [length_markToSolved]; exact hlt) ⟨k + 5 * j, k + 5 * j + 1, k + 5 * j + 1 + 1, k + 5 * j + 1 + 1 + 1, k + 5 * j + 1 + 1 + 1 + 1⟩
      go_wp2
      go_roundw
      case rel => exact ⟨j + 1, by omega, by go_num, by go_num, hs.1, gr_trans hgr hs.2⟩
      case measure => simp [intOf]; omega
    · obtain rfl : j = l.length := by omega
      rw [markToSolved_all] at hown
      go_wp2
      go_ret
      exact ⟨rfl, hown, hgr⟩

theorem ownSolved_empty (w : World) (base : Nat) (hb : base ≤ w.heap.size) : OwnT solvedT (w.alloc (.cells #[] 25)) base (.slice (some ⟨w.heap.size, 0, none⟩) 0 0) [] := World.ownsRow_lit w #[] 0 hb (by unfold maxLen; omega) rfl
/-- A call that returns a slice of its own, and whether there is one. -/
def RetSolved (w : World) (l : List SolvedV) (ok : Bool) (e : Ending) (w' : World) : Prop :=
  ∃ A c, e = .returned (.tuple #[.slice A l.length c, .bool ok]) ∧ OwnT solvedT w' w.heap.size (.slice A l.length c) l ∧ Below w.heap.size w w'
end Go.Proofs.Ytcbecfkckdalmaa

