/-
  [2]int: the element type, and the helpers of the laws over it: copied, equal, marked, held.
-/
import Derived.Test.YtcljnfmlakpflaaTyped
import Derived.Deep.RegionHeld3
import Derived.StillTailTactics
namespace Go.Proofs.Ytcljnfmlakpflaa
open Go.RowKit

def pairT : Ty (Int × Int) where
  enc p := [.int .i64 p.1, .int .i64 p.2]
  sz := 2
  e := 57
  st := 41
  bytes := 16
  zero := (0, 0)
  zv := .agg #[.int .i64 0, .int .i64 0]
  henc _ := rfl
  one _ u hu := by simp at hu; rcases hu with rfl | rfl <;> rfl
  hsz := by decide
  hz := rfl
  hst := Try.underlying41
  info := by kernel_rfl
  hbytes := by decide

/-- Where an element of a row of pairs lies. -/
theorem pair_at {w : World} {A : Option Addr} {l : List (Int × Int)} (h : RdT pairT w A l) {k : Nat} (hk : k < l.length) :
    ∃ b off p q, A = some ⟨b, off, none⟩ ∧ l[k]? = some (p, q) ∧ b < w.heap.size ∧ w.cell? ⟨b, off + k * 2, none⟩ = some (.int .i64 p) ∧ w.cell? ⟨b, off + k * 2 + 1, none⟩ = some (.int .i64 q) := by
  obtain ⟨b, off, ⟨p, q⟩, hA, hx, hlt, hc⟩ := h.at_ hk
  exact ⟨b, off, p, q, hA, hx, hlt, hc 0 _ rfl, hc 1 _ rfl⟩

theorem pair_own {w : World} {base n c g : Nat} {l : List (Int × Int)} (h : OwnT pairT w base (.slice (some ⟨g, 0, none⟩) n c) l) {k : Nat} (hk : k < l.length) :
    ∃ p q, l[k]? = some (p, q) ∧ w.cell? ⟨g, k * 2, none⟩ = some (.int .i64 p) ∧ w.cell? ⟨g, k * 2 + 1, none⟩ = some (.int .i64 q) ∧ w.frozen? ⟨g, k * 2, none⟩ = false ∧ w.frozen? ⟨g, k * 2 + 1, none⟩ = false := by
  have hx : l[k]? = some l[k] := List.getElem?_eq_getElem hk
  exact ⟨l[k].1, l[k].2, hx, h.cell hx 0 _ rfl, h.cell hx 1 _ rfl, h.frozen _, h.frozen _⟩

theorem bcell {W w1 : World} (hb : Below W.heap.size W w1) : (∀ b o, b < W.heap.size → w1.cell? ⟨b, o, none⟩ = W.cell? ⟨b, o, none⟩) ∧ (∀ b o, b < W.heap.size → w1.frozen? ⟨b, o, none⟩ = W.frozen? ⟨b, o, none⟩) ∧ (∀ b, b < W.heap.size → b < w1.heap.size) :=
  ⟨fun b o h => hb.cell (p := ⟨b, o, none⟩) h, fun b o h => hb.frozen (p := ⟨b, o, none⟩) h, fun _ h => Nat.lt_of_lt_of_le h hb.size⟩

set_option maxHeartbeats 400000 in
theorem szIntA2S_any (A : Option Addr) (n c : Nat) (left : Int) (w : World) (h0 : 0 ≤ left) (h1 : left ≤ 1048576) (hn : n ≤ 9223372036854775807) :
    Calls Try.prog 35 #[.slice A n c, .int .i64 left] w fun e w' => e = .returned (.int .i64 (if left < n then -1 else left - n)) ∧ w = w' := by
  by_cases h : left < n
  · rw [if_pos h]
    go_enter Try.func35, Try.ntmps35
    go_wp2
    go_ret
    exact ⟨rfl, rfl⟩
  · rw [if_neg h]
    go_enter Try.func35, Try.ntmps35
    go_wp2
    go_ret
    exact ⟨rfl, rfl⟩

set_option maxHeartbeats 800000 in
theorem toIntA2_any (p q : Int) (w : World) :
    Calls Try.prog 72 #[.agg #[.int .i64 p, .int .i64 q]] w fun e w' => e = .returned (.agg #[.int .i64 p, .int .i64 q]) ∧ Below w.heap.size w w' := by
  go_enter Try.func72, Try.ntmps72
  go_wp2
  refine wp_loop_rounds 3 ?_; rw [rounds_succ]
  go_wp2
  rw [rounds_succ]
  go_wp2
  rw [rounds_succ]
  go_wp2
  refine bodyPost_ret (v := .agg #[.int .i64 p, .int .i64 q]) (by simp [results, Try.results72, go_sem]) rfl ⟨rfl, ?_⟩
  repeat (first | exact Below.refl _ _ | (refine Below.setCell ?_ (by first | omega | (simp; done) | (simp; omega)) _) | (refine Below.alloc ?_ (by first | omega | (simp; done) | (simp; omega)) _) | (refine below_drewN ?_ _))

set_option maxHeartbeats 800000 in
theorem eqIntA2_same (p q : Int) (w : World) :
    Calls Try.prog 74 #[.agg #[.int .i64 p, .int .i64 q], .agg #[.int .i64 p, .int .i64 q]] w fun e w' => e = .returned (.bool true) ∧ Below w.heap.size w w' := by
  go_enter Try.func74, Try.ntmps74
  go_wp2
  refine wp_loop_rounds 3 ?_; rw [rounds_succ]
  go_wp2_with fail
  go_quiet (fail)
  go_wp2
  rw [rounds_succ]
  go_wp2_with fail
  go_quiet (fail)
  go_wp2
  rw [rounds_succ]
  go_wp2
  go_ret
  refine ⟨rfl, ?_⟩
  repeat (first | exact Below.refl _ _ | (refine Below.setCell ?_ (by first | omega | (simp; done) | (simp; omega)) _) | (refine Below.alloc ?_ (by first | omega | (simp; done) | (simp; omega)) _) | (refine below_drewN ?_ _))



set_option maxHeartbeats 800000 in
theorem toIntA2S_any (A : Option Addr) (c : Nat) (l : List (Int × Int)) (w : World) (hn : l.length ≤ 1048576) (h : RdT pairT w A l) :
    Calls Try.prog 37 #[.slice A l.length c] w fun e w' => ∃ A' c', e = .returned (.slice A' l.length c') ∧ OwnT pairT w' w.heap.size (.slice A' l.length c') l ∧ Below w.heap.size w w' := by
  go_enter Try.func37, Try.ntmps37
  go_wp2_with (at_make; refine wpList_makeT (w0 := w) (B := w.heap.size) pairT rfl _ _ rfl w.heap.size _ _ l.length rfl rfl rfl rfl (by omega) (Nat.le_refl _) (Below.refl _ _) (Nat.le_refl _) ?_; intro w1 hown1 hb1 hgr1)
  have e0 := copyTo_zero l (pairT.zero)
  rw [← e0] at hown1
  clear e0
  go_loopw [4] (fun i wr => ∃ k : Nat, k ≤ l.length ∧ i = .int .i64 k ∧ OwnT pairT wr w.heap.size (.slice (some ⟨w.heap.size, 0, none⟩) l.length l.length) (copyTo l pairT.zero k) ∧ Below w.heap.size w wr) (fun i _ => l.length - (intOf i).toNat)
  case atStart => exact ⟨0, by omega, rfl, hown1, hb1⟩
  case round =>
    obtain ⟨k, hk, rfl, hown, hb⟩ := hrel
    by_cases hlt : k < l.length
    · obtain ⟨b, off, p, q, rfl, hx, hlb, hc0, hc1⟩ := pair_at (h.below hb (Nat.le_refl _)) hlt
      go_wp2_with (go_at_call 72; refine (toIntA2_any p q _).mono ?_; rintro e w2 ⟨rfl, hb2⟩; have hown2 := hown.below hb2 (Nat.le_refl _); obtain ⟨p', q', _, hp', hq', hf1, hf2⟩ := pair_own hown2 (k := k) (by rw [length_copyTo _ _ _ hk]; exact hlt))
      go_roundw
      case rel =>
        have hs := hown2.set (k := k) (by rw [length_copyTo _ _ _ hk]; exact hlt) (p, q)
        rw [copyTo_succ l _ _ k hx] at hs
        exact ⟨k + 1, by omega, by go_num, hs.1, (hb.trans (hb2.mono hb.size)).grown hs.2 (by have := hb.size; have := hb2.size; omega) (by simp)⟩
      case measure => simp [intOf]; omega
    · obtain rfl : k = l.length := by omega
      rw [copyTo_all] at hown
      go_wp2
      go_ret
      exact ⟨_, _, rfl, hown, hb⟩

set_option maxHeartbeats 800000 in
theorem eqIntA2S_same (A1 A2 : Option Addr) (n c1 c2 : Nat) (l : List (Int × Int)) (w : World) (hn : n = l.length) (hm : n ≤ 16777216) (h1 : RdT pairT w A1 l) (h2 : RdT pairT w A2 l) :
    Calls Try.prog 39 #[.slice A1 n c1, .slice A2 n c2] w fun e w' => e = .returned (.bool true) ∧ Below w.heap.size w w' := by
  have e1 : (decide ((n : Int) = n)) = true := by simp
  go_enter Try.func39, Try.ntmps39
  go_wp2
  go_loopw [5] (fun i wr => ∃ k : Nat, k ≤ n ∧ i = .int .i64 k ∧ RdT pairT wr A1 l ∧ RdT pairT wr A2 l ∧ Below w.heap.size w wr) (fun i _ => n - (intOf i).toNat)
  case atStart => exact ⟨0, by omega, rfl, h1, h2, Below.refl _ _⟩
  case round =>
    obtain ⟨k, hk, rfl, g1, g2, hb⟩ := hrel
    clear h1 h2
    by_cases hlt : k < n
    · obtain ⟨b1, o1, p, q, rfl, hx, hl1, hc1, hd1⟩ := pair_at g1 (k := k) (by omega)
      obtain ⟨b2, o2, p', q', rfl, hy, hl2, hc2, hd2⟩ := pair_at g2 (k := k) (by omega)
      obtain ⟨rfl, rfl⟩ : p = p' ∧ q = q' := by rw [hx] at hy; injection hy with hy; injection hy with h1 h2; exact ⟨h1, h2⟩
      clear hx hy
      go_wp2_with fail
      go_still_tail 8, (by kernel_rfl)
      change wpList _ _ _ _ _ wr.drew
      go_wp2_with (go_at_call 74; refine (eqIntA2_same p q _).mono ?_; rintro e w2 ⟨rfl, hb2⟩)
      go_roundw
      case rel => exact ⟨k + 1, by omega, by go_num, g1.below (w := wr) (B := wr.heap.size) ((Below.refl _ _).drew.trans hb2) (Nat.le_refl _), g2.below (w := wr) (B := wr.heap.size) ((Below.refl _ _).drew.trans hb2) (Nat.le_refl _), hb.trans (((Below.refl _ _).drew.trans hb2).mono hb.size)⟩
      case measure => simp [intOf]; omega
    · go_wp2
      go_ret
      exact ⟨rfl, hb⟩

/-! ### marked, held -/
def marksP (k : Int) (n : Nat) : List (Int × Int) := (List.range n).map fun i => (k + 2 * (i : Nat), k + 2 * (i : Nat) + 1)
theorem length_marksP (k : Int) (n : Nat) : (marksP k n).length = n := by simp [marksP]
theorem marksP_at (k : Int) (n i : Nat) (h : i < n) : (marksP k n)[i]? = some (k + 2 * i, k + 2 * i + 1) := by simp [marksP, h]
def markToP (k : Int) (l : List (Int × Int)) : Nat → List (Int × Int)
  | 0 => l
  | i + 1 => (markToP k l i).set i (k + 2 * i, k + 2 * i + 1)
theorem length_markToP (k : Int) (l : List (Int × Int)) (i : Nat) : (markToP k l i).length = l.length := by
  induction i with
  | zero => rfl
  | succ i ih => simp [markToP, ih]
theorem markToP_at (k : Int) (l : List (Int × Int)) (i j : Nat) (hj : j < l.length) (hi : j < i) : (markToP k l i)[j]? = some (k + 2 * j, k + 2 * j + 1) := by
  induction i with
  | zero => omega
  | succ i ih =>
    simp only [markToP, List.getElem?_set, length_markToP]
    by_cases e : i = j
    · subst e; simp [hj]
    · rw [if_neg e]; exact ih (by omega)
theorem markToP_all (k : Int) (l : List (Int × Int)) : markToP k l l.length = marksP k l.length := by
  apply List.ext_getElem?
  intro j
  by_cases hj : j < l.length
  · rw [markToP_at k l _ j hj hj, marksP_at k _ j hj]
  · rw [List.getElem?_eq_none (by rw [length_markToP]; omega), List.getElem?_eq_none (by rw [length_marksP]; omega)]

end Go.Proofs.Ytcljnfmlakpflaa
