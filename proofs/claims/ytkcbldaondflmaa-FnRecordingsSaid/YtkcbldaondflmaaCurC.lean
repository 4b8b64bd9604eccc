/-
  The choices read from bytes: among numbers laid down on the spot; two rows of numbers alike.
-/
import Derived.Test.YtkcbldaondflmaaCurB
namespace Go.Proofs.Ytkcbldaondflmaa
open Go.RowKit Go.Lib Go.Lib.Hx

set_option maxHeartbeats 1000000 in
theorem among_lit (g c P : Nat) (A : Option Addr) (l : List (Fin 256)) (L : List Int) (n : Nat) (W : World) (B : Nat) (hB : B = W.heap.size) (hn : n = L.length) (hl : l.length ≤ 65536) (hP : P ≤ 900000000) (h0 : 0 < n) (h1 : n ≤ 1000) (h : Cur W g A c l P) :
    Calls Try.prog 68 #[.pointer (some ⟨g, 0, none⟩), .slice (some ⟨B, 0, none⟩) n n] (W.alloc (.cells (L.map (Value.int .i64)).toArray 3)) fun e w' => ∃ x, x ∈ L ∧ e = .returned (.int .i64 x) ∧ Cur w' g A c l (P + 2) ∧ W.grownBy w' (some g) := by
  subst hn hB
  have hr : RdI (W.alloc (.cells (L.map (Value.int .i64)).toArray 3)) (some ⟨W.heap.size, 0, none⟩) L := by
    refine ⟨by simp [ints], fun _ => ⟨W.heap.size, 0, rfl, by simp, fun j u hu => ?_⟩⟩
    rw [Nat.zero_add, cell_of_row _ _ j _ _ (0, 0) (heap_alloc_new W _)]
    simpa [ints] using hu
  have hlt := h.lt
  exact (among_any g c P A l _ _ _ L _ hl hP rfl h0 h1 (h.kept (World.grownBy_alloc W _ none) (by simp)) hr (fun b off hA => by cases hA; omega)).mono fun e w' ⟨x, h1, h2, h3, h4⟩ => ⟨x, h1, h2, h3, (World.grownBy_alloc W _ (some g)).trans h4⟩
def Two (w : World) (e : Ending) (w' : World) : Prop := ∃ a b : Int, e = .returned (.tuple #[.int .i64 a, .int .i64 b]) ∧ Below w.heap.size w w'
def Three (w : World) (e : Ending) (w' : World) : Prop := ∃ a b c : Int, e = .returned (.tuple #[.int .i64 a, .int .i64 b, .int .i64 c]) ∧ Below w.heap.size w w'
set_option maxHeartbeats 400000 in
theorem vInts_same (A1 A2 : Option Addr) (n c1 c2 : Nat) (l : List Int) (w : World) (hn : n = l.length) (hm : n ≤ 16777216) (h1 : RdI w A1 l) (h2 : RdI w A2 l) :
    Calls Try.prog 40 #[.slice A1 n c1, .slice A2 n c2] w fun e w' => e = .returned (.bool true) ∧ Below w.heap.size w w' := by
  have e1 : (decide ((n : Int) = n)) = true := by simp
  go_enter Try.func40, Try.ntmps40
  go_wp2
  go_loopw [5] (fun i wr => ∃ k : Nat, k ≤ n ∧ i = .int .i64 k ∧ RdI wr A1 l ∧ RdI wr A2 l ∧ Below w.heap.size w wr) (fun i _ => n - (intOf i).toNat)
  case atStart => exact ⟨0, by omega, rfl, h1, h2, Below.refl _ _⟩
  case round =>
    obtain ⟨k, hk, rfl, g1, g2, hb⟩ := hrel
    clear h1 h2
    by_cases hlt : k < n
    · obtain ⟨b1, o1, x, rfl, hx, _, hc1⟩ := g1.at_ (k := k) (by omega)
      obtain ⟨b2, o2, y, rfl, hy, _, hc2⟩ := g2.at_ (k := k) (by omega)
      obtain rfl : x = y := by rw [hx] at hy; injection hy
      clear hx hy
      go_wp2_with fail
      go_quiet (fail)
      go_wp2
      go_roundw
      case rel => exact ⟨k + 1, by omega, by go_num, g1, g2, below_drewN hb _⟩
      case measure => simp [intOf]; omega
    · go_wp2
      go_ret
      exact ⟨rfl, hb⟩
end Go.Proofs.Ytkcbldaondflmaa
