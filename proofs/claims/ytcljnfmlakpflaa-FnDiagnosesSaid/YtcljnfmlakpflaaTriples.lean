/-
  [3]int: the element type, and the helpers of the laws over it: copied, equal, marked, held.
-/
import Derived.Test.YtcljnfmlakpflaaTyped
import Derived.Deep.RegionHeld3
import Derived.StillTailTactics
namespace Go.Proofs.Ytcljnfmlakpflaa
open Go.RowKit

def tripT : Ty (Int × Int × Int) where
  enc p := [.int .i64 p.1, .int .i64 p.2.1, .int .i64 p.2.2]
  sz := 3
  e := 54
  st := 25
  bytes := 24
  zero := (0, 0, 0)
  zv := .agg #[.int .i64 0, .int .i64 0, .int .i64 0]
  henc _ := rfl
  one _ u hu := by simp at hu; rcases hu with rfl | rfl | rfl <;> rfl
  hsz := by decide
  hz := rfl
  hst := Try.underlying25
  info := by kernel_rfl
  hbytes := by decide

/-- Where an element of a row of triples lies. -/
theorem trip_at {w : World} {A : Option Addr} {l : List (Int × Int × Int)} (h : RdT tripT w A l) {k : Nat} (hk : k < l.length) :
    ∃ b off p q r, A = some ⟨b, off, none⟩ ∧ l[k]? = some (p, q, r) ∧ b < w.heap.size ∧ w.cell? ⟨b, off + k * 3, none⟩ = some (.int .i64 p) ∧ w.cell? ⟨b, off + k * 3 + 1, none⟩ = some (.int .i64 q) ∧ w.cell? ⟨b, off + k * 3 + 2, none⟩ = some (.int .i64 r) := by
  obtain ⟨b, off, ⟨p, q, r⟩, hA, hx, hlt, hc⟩ := h.at_ hk
  exact ⟨b, off, p, q, r, hA, hx, hlt, hc 0 _ rfl, hc 1 _ rfl, hc 2 _ rfl⟩
theorem trip_cells {w : World} {A : Option Addr} {l : List (Int × Int × Int)} (h : RdT tripT w A l) (hn : 0 < l.length) :
    ∃ b off, A = some ⟨b, off, none⟩ ∧ b < w.heap.size ∧ ∀ (k : Nat) (p q r : Int), l[k]? = some (p, q, r) → w.cell? ⟨b, off + k * 3, none⟩ = some (.int .i64 p) ∧ w.cell? ⟨b, off + k * 3 + 1, none⟩ = some (.int .i64 q) ∧ w.cell? ⟨b, off + k * 3 + 2, none⟩ = some (.int .i64 r) := by
  obtain ⟨b, off, hA, hlt, hc⟩ := h.2 hn
  refine ⟨b, off, hA, hlt, fun k p q r hx => ?_⟩
  have hat := fun j u hu => hc (k * 3 + j) u (flat_at tripT l k j _ u hx hu)
  exact ⟨by have := hat 0 _ rfl; exact this, by have := hat 1 _ rfl; rw [← Nat.add_assoc] at this; exact this, by have := hat 2 _ rfl; rw [← Nat.add_assoc] at this; exact this⟩

theorem trip_own {w : World} {base n c g : Nat} {l : List (Int × Int × Int)} (h : OwnT tripT w base (.slice (some ⟨g, 0, none⟩) n c) l) {k : Nat} (hk : k < l.length) :
    ∃ p q r, l[k]? = some (p, q, r) ∧ w.cell? ⟨g, k * 3, none⟩ = some (.int .i64 p) ∧ w.cell? ⟨g, k * 3 + 1, none⟩ = some (.int .i64 q) ∧ w.cell? ⟨g, k * 3 + 2, none⟩ = some (.int .i64 r) ∧ w.frozen? ⟨g, k * 3, none⟩ = false ∧ w.frozen? ⟨g, k * 3 + 1, none⟩ = false ∧ w.frozen? ⟨g, k * 3 + 2, none⟩ = false := by
  have hx : l[k]? = some l[k] := List.getElem?_eq_getElem hk
  exact ⟨l[k].1, l[k].2.1, l[k].2.2, hx, h.cell hx 0 _ rfl, h.cell hx 1 _ rfl, h.cell hx 2 _ rfl, h.frozen _, h.frozen _, h.frozen _⟩

theorem bcell {W w1 : World} (hb : Below W.heap.size W w1) : (∀ b o, b < W.heap.size → w1.cell? ⟨b, o, none⟩ = W.cell? ⟨b, o, none⟩) ∧ (∀ b o, b < W.heap.size → w1.frozen? ⟨b, o, none⟩ = W.frozen? ⟨b, o, none⟩) ∧ (∀ b, b < W.heap.size → b < w1.heap.size) :=
  ⟨fun b o h => hb.cell (p := ⟨b, o, none⟩) h, fun b o h => hb.frozen (p := ⟨b, o, none⟩) h, fun _ h => Nat.lt_of_lt_of_le h hb.size⟩

set_option maxHeartbeats 400000 in
theorem szIntA3S_any (A : Option Addr) (n c : Nat) (left : Int) (w : World) (h0 : 0 ≤ left) (h1 : left ≤ 1048576) (hn : n ≤ 9223372036854775807) :
    Calls Try.prog 16 #[.slice A n c, .int .i64 left] w fun e w' => e = .returned (.int .i64 (if left < n then -1 else left - n)) ∧ w = w' := by
  by_cases h : left < n
  · rw [if_pos h]
    go_enter Try.func16, Try.ntmps16
    go_wp2
    go_ret
    exact ⟨rfl, rfl⟩
  · rw [if_neg h]
    go_enter Try.func16, Try.ntmps16
    go_wp2
    go_ret
    exact ⟨rfl, rfl⟩

set_option maxHeartbeats 800000 in
theorem toIntA3_any (p q r : Int) (w : World) :
    Calls Try.prog 57 #[.agg #[.int .i64 p, .int .i64 q, .int .i64 r]] w fun e w' => e = .returned (.agg #[.int .i64 p, .int .i64 q, .int .i64 r]) ∧ Below w.heap.size w w' := by
  go_enter Try.func57, Try.ntmps57
  go_wp2
  refine wp_loop_rounds 4 ?_; rw [rounds_succ]
  go_wp2
  rw [rounds_succ]
  go_wp2
  rw [rounds_succ]
  go_wp2
  rw [rounds_succ]
  go_wp2
  refine bodyPost_ret (v := .agg #[.int .i64 p, .int .i64 q, .int .i64 r]) (by simp [results, Try.results57, go_sem]) rfl ⟨rfl, ?_⟩
  repeat (first | exact Below.refl _ _ | (refine Below.setCell ?_ (by first | omega | (simp; done) | (simp; omega)) _) | (refine Below.alloc ?_ (by first | omega | (simp; done) | (simp; omega)) _) | (refine below_drewN ?_ _))

set_option maxHeartbeats 800000 in
theorem eqIntA3_same (p q r : Int) (w : World) :
    Calls Try.prog 59 #[.agg #[.int .i64 p, .int .i64 q, .int .i64 r], .agg #[.int .i64 p, .int .i64 q, .int .i64 r]] w fun e w' => e = .returned (.bool true) ∧ Below w.heap.size w w' := by
  go_enter Try.func59, Try.ntmps59
  go_wp2
  refine wp_loop_rounds 4 ?_; rw [rounds_succ]
  go_wp2_with fail
  go_quiet (fail)
  go_wp2
  rw [rounds_succ]
  go_wp2_with fail
  go_quiet (fail)
  go_wp2
  rw [rounds_succ]
  go_wp2_with fail
  go_quiet (fail)
  go_wp2
  rw [rounds_succ]
  go_wp2
  go_ret
  refine ⟨rfl, ?_⟩
  repeat (first | exact Below.refl _ _ | (refine Below.setCell ?_ (by first | omega | (simp; done) | (simp; omega)) _) | (refine Below.alloc ?_ (by first | omega | (simp; done) | (simp; omega)) _) | (refine below_drewN ?_ _))



set_option maxHeartbeats 800000 in
theorem toIntA3S_any (A : Option Addr) (c : Nat) (l : List (Int × Int × Int)) (w : World) (hn : l.length ≤ 1048576) (h : RdT tripT w A l) :
    Calls Try.prog 18 #[.slice A l.length c] w fun e w' => ∃ A' c', e = .returned (.slice A' l.length c') ∧ OwnT tripT w' w.heap.size (.slice A' l.length c') l ∧ Below w.heap.size w w' := by
  go_enter Try.func18, Try.ntmps18
  go_wp2_with (at_make; refine wpList_makeT (w0 := w) (B := w.heap.size) tripT rfl _ _ rfl w.heap.size _ _ l.length rfl rfl rfl rfl (by omega) (Nat.le_refl _) (Below.refl _ _) (Nat.le_refl _) ?_; intro w1 hown1 hb1 hgr1)
  have e0 := copyTo_zero l (tripT.zero)
  rw [← e0] at hown1
  clear e0
  go_loopw [4] (fun i wr => ∃ k : Nat, k ≤ l.length ∧ i = .int .i64 k ∧ OwnT tripT wr w.heap.size (.slice (some ⟨w.heap.size, 0, none⟩) l.length l.length) (copyTo l tripT.zero k) ∧ Below w.heap.size w wr) (fun i _ => l.length - (intOf i).toNat)
  case atStart => exact ⟨0, by omega, rfl, hown1, hb1⟩
  case round =>
    obtain ⟨k, hk, rfl, hown, hb⟩ := hrel
    by_cases hlt : k < l.length
    · obtain ⟨b, off, p, q, r, rfl, hx, hlb, hc0, hc1, hc2⟩ := trip_at (h.below hb (Nat.le_refl _)) hlt
      go_wp2_with (go_at_call 57; refine (toIntA3_any p q r _).mono ?_; rintro e w2 ⟨rfl, hb2⟩; have hown2 := hown.below hb2 (Nat.le_refl _); obtain ⟨p', q', r', _, hp', hq', hr', hf1, hf2, hf3⟩ := trip_own hown2 (k := k) (by rw [length_copyTo _ _ _ hk]; exact hlt))
      go_roundw
      case rel =>
        have hs := hown2.set (k := k) (by rw [length_copyTo _ _ _ hk]; exact hlt) (p, q, r)
        rw [copyTo_succ l _ _ k hx] at hs
        exact ⟨k + 1, by omega, by go_num, hs.1, (hb.trans (hb2.mono hb.size)).grown hs.2 (by have := hb.size; have := hb2.size; omega) (by simp)⟩
      case measure => simp [intOf]; omega
    · obtain rfl : k = l.length := by omega
      rw [copyTo_all] at hown
      go_wp2
      go_ret
      exact ⟨_, _, rfl, hown, hb⟩

set_option maxHeartbeats 800000 in
theorem eqIntA3S_same (A1 A2 : Option Addr) (n c1 c2 : Nat) (l : List (Int × Int × Int)) (w : World) (hn : n = l.length) (hm : n ≤ 16777216) (h1 : RdT tripT w A1 l) (h2 : RdT tripT w A2 l) :
    Calls Try.prog 21 #[.slice A1 n c1, .slice A2 n c2] w fun e w' => e = .returned (.bool true) ∧ Below w.heap.size w w' := by
  have e1 : (decide ((n : Int) = n)) = true := by simp
  go_enter Try.func21, Try.ntmps21
  go_wp2
  go_loopw [5] (fun i wr => ∃ k : Nat, k ≤ n ∧ i = .int .i64 k ∧ RdT tripT wr A1 l ∧ RdT tripT wr A2 l ∧ Below w.heap.size w wr) (fun i _ => n - (intOf i).toNat)
  case atStart => exact ⟨0, by omega, rfl, h1, h2, Below.refl _ _⟩
  case round =>
    obtain ⟨k, hk, rfl, g1, g2, hb⟩ := hrel
    clear h1 h2
    by_cases hlt : k < n
    · obtain ⟨b1, o1, p, q, r, rfl, hx, hl1, hc1, hd1, he1⟩ := trip_at g1 (k := k) (by omega)
      obtain ⟨b2, o2, rfl, hl2, hcells⟩ := trip_cells g2 (by omega)
      obtain ⟨hc2, hd2, he2⟩ := hcells k p q r hx
      clear hx hcells
      go_wp2_with fail
      go_still_tail 8, (by kernel_rfl)
      change wpList _ _ _ _ _ wr.drew
      go_wp2_with (go_at_call 59; refine (eqIntA3_same p q r _).mono ?_; rintro e w2 ⟨rfl, hb2⟩)
      go_roundw
      case rel => exact ⟨k + 1, by omega, by go_num, g1.below (w := wr) (B := wr.heap.size) ((Below.refl _ _).drew.trans hb2) (Nat.le_refl _), g2.below (w := wr) (B := wr.heap.size) ((Below.refl _ _).drew.trans hb2) (Nat.le_refl _), hb.trans (((Below.refl _ _).drew.trans hb2).mono hb.size)⟩
      case measure => simp [intOf]; omega
    · go_wp2
      go_ret
      exact ⟨rfl, hb⟩

/-! ### marked, held -/
def marks3 (k : Int) (n : Nat) : List (Int × Int × Int) := (List.range n).map fun i => (k + 3 * (i : Nat), k + 3 * (i : Nat) + 1, k + 3 * (i : Nat) + 1 + 1)
theorem length_marks3 (k : Int) (n : Nat) : (marks3 k n).length = n := by simp [marks3]
theorem marks3_at (k : Int) (n i : Nat) (h : i < n) : (marks3 k n)[i]? = some (k + 3 * i, k + 3 * i + 1, k + 3 * i + 1 + 1) := by simp [marks3, h]
def markTo3 (k : Int) (l : List (Int × Int × Int)) : Nat → List (Int × Int × Int)
  | 0 => l
  | i + 1 => (markTo3 k l i).set i (k + 3 * i, k + 3 * i + 1, k + 3 * i + 1 + 1)
theorem length_markTo3 (k : Int) (l : List (Int × Int × Int)) (i : Nat) : (markTo3 k l i).length = l.length := by
  induction i with
  | zero => rfl
  | succ i ih => simp [markTo3, ih]
theorem markTo3_at (k : Int) (l : List (Int × Int × Int)) (i j : Nat) (hj : j < l.length) (hi : j < i) : (markTo3 k l i)[j]? = some (k + 3 * j, k + 3 * j + 1, k + 3 * j + 1 + 1) := by
  induction i with
  | zero => omega
  | succ i ih =>
    simp only [markTo3, List.getElem?_set, length_markTo3]
    by_cases e : i = j
    · subst e; simp [hj]
    · rw [if_neg e]; exact ih (by omega)
theorem markTo3_all (k : Int) (l : List (Int × Int × Int)) : markTo3 k l l.length = marks3 k l.length := by
  apply List.ext_getElem?
  intro j
  by_cases hj : j < l.length
  · rw [markTo3_at k l _ j hj hj, marks3_at k _ j hj]
  · rw [List.getElem?_eq_none (by rw [length_markTo3]; omega), List.getElem?_eq_none (by rw [length_marks3]; omega)]

set_option maxHeartbeats 800000 in
theorem markIntA3S_ok (base : Nat) (A : Option Addr) (c : Nat) (l : List (Int × Int × Int)) (k : Int) (w : World) (hk0 : 0 ≤ k) (hk1 : k ≤ 1073741824) (hm : l.length ≤ 16777216) (h : OwnT tripT w base (.slice A l.length c) l) :
    Calls Try.prog 22 #[.slice A l.length c, .int .i64 k] w fun e w' => e = .returned (.int .i64 (k + 3 * l.length)) ∧ OwnT tripT w' base (.slice A l.length c) (marks3 k l.length) ∧ w.grownBy w' (Value.slice A l.length c).ownBlock := by
  go_enter Try.func22, Try.ntmps22
  go_wp2
  go_loopw [1, 5] (fun q i wr => ∃ j : Nat, j ≤ l.length ∧ i = .int .i64 j ∧ q = .int .i64 (k + 3 * j) ∧ OwnT tripT wr base (.slice A l.length c) (markTo3 k l j) ∧ w.grownBy wr (Value.slice A l.length c).ownBlock) (fun _ i _ => l.length - (intOf i).toNat)
  case atStart => exact ⟨0, by omega, rfl, by go_num, h, gr_refl _ _⟩
  case round =>
    obtain ⟨j, hj, rfl, rfl, hown, hgr⟩ := hrel
    by_cases hlt : j < l.length
    · obtain ⟨g, rfl, hg, _⟩ := hown.head (by rw [length_markTo3]; omega)
      obtain ⟨p, q, r, _, hc1, hc2, hc3, hf1, hf2, hf3⟩ := trip_own hown (k := j) (by rw [length_markTo3]; exact hlt)
      have hs := hown.set (k := j) (by rw [length_markTo3]; exact hlt) (k + 3 * j, k + 3 * j + 1, k + 3 * j + 1 + 1)
      go_wp2
      refine wp_loop_rounds 4 ?_; rw [rounds_succ]
      go_wp2
      rw [rounds_succ]
      go_wp2
      rw [rounds_succ]
      go_wp2
      rw [rounds_succ]
      go_wp2
      go_roundw
      case rel => exact ⟨j + 1, by omega, by go_num, by go_num, hs.1, gr_trans hgr hs.2⟩
      case measure => simp [intOf]; omega
    · obtain rfl : j = l.length := by omega
      rw [markTo3_all] at hown
      go_wp2
      go_ret
      exact ⟨rfl, hown, hgr⟩
end Go.Proofs.Ytcljnfmlakpflaa
