/-
  The choices read from bytes: among some numbers, once in some times; a fresh cursor.
-/
import Derived.Test.YtkcbldaondflmaaCur
import Derived.Test.YtkcbldaondflmaaMem
namespace Go.Proofs.Ytkcbldaondflmaa
open Go.RowKit Go.Lib Go.Lib.Hx

theorem RdI.grown {w w' : World} {row : Option Nat} {A : Option Addr} {l : List Int} (h : RdI w A l) (hg : w.grownBy w' row) (hne : 0 < l.length → ∀ b off, A = some ⟨b, off, none⟩ → some b ≠ row) : RdI w' A l := by
  refine ⟨h.1, fun hn => ?_⟩
  obtain ⟨b, off, hA, hlt, hc⟩ := h.2 hn
  exact ⟨b, off, hA, Nat.lt_of_lt_of_le hlt hg.size, fun j u hu => (hg.cell_far _ hlt (hne hn b off hA)).trans (hc j u hu)⟩
theorem Cur.new {w : World} {A : Option Addr} {c : Nat} {l : List (Fin 256)} (h : RdT byteT w A l) : Cur (w.alloc (.cells #[.slice A l.length c, .int .i64 0, .int .u64 0] 64)) w.heap.size A c l 0 := by
  refine ⟨0, 0, Nat.le_refl _, ?_, h.grown byteT (World.grownBy_alloc w _ none) (fun _ b off _ he => by cases he), fun hn b off hA => ?_⟩
  · exact heap_alloc_new w (.cells #[.slice A l.length c, .int .i64 0, .int .u64 0] 64)
  · obtain ⟨b', off', hA', hlt, _⟩ := h.2 hn
    rw [hA] at hA'
    injection hA' with hA'
    injection hA' with e _ _
    rw [e]
    exact hlt
theorem below_cur {w w1 w2 : World} {g : Nat} (h0 : Below w.heap.size w w1) (hg : w1.grownBy w2 (some g)) (hw : w.heap.size ≤ g) : Below w.heap.size w w2 :=
  h0.grown hg h0.size (fun k hk => by cases hk; exact hw)

set_option maxHeartbeats 1000000 in
theorem among_any (g c P : Nat) (A : Option Addr) (l : List (Fin 256)) (A2 : Option Addr) (c2 n : Nat) (L : List Int) (w : World) (hl : l.length ≤ 65536) (hP : P ≤ 900000000) (hn : n = L.length) (h0 : 0 < n) (h1 : n ≤ 1000) (h : Cur w g A c l P) (hL : RdI w A2 L)
    (hne : ∀ b off, A2 = some ⟨b, off, none⟩ → b ≠ g) :
    Calls Try.prog 68 #[.pointer (some ⟨g, 0, none⟩), .slice A2 n c2] w fun e w' => ∃ x, x ∈ L ∧ e = .returned (.int .i64 x) ∧ Cur w' g A c l (P + 2) ∧ w.grownBy w' (some g) := by
  subst hn
  go_enter Try.func68, Try.ntmps68
  go_wp2_with fail
  refine (pick_any g c P L.length A l _ hl hP h0 (by omega) h).mono ?_
  rintro e w1 ⟨b, hb, rfl, hc1, hg1⟩
  have hL1 := hL.grown hg1 (fun _ b' off' hA he => by cases he; exact hne _ _ hA rfl)
  obtain ⟨b', off, x, rfl, hx, hlt, hcx⟩ := hL1.at_ hb
  have b1 : (b : Int) < (L.length : Int) := by omega
  go_wp2
  go_ret
  exact ⟨x, List.mem_of_getElem? hx, rfl, hc1, hg1⟩
set_option maxHeartbeats 1000000 in
theorem one_any (g c P n : Nat) (A : Option Addr) (l : List (Fin 256)) (w : World) (hl : l.length ≤ 65536) (hP : P ≤ 900000000) (h0 : 0 < n) (h1 : n ≤ 1000) (h : Cur w g A c l P) :
    Calls Try.prog 55 #[.pointer (some ⟨g, 0, none⟩), .int .i64 n] w fun e w' => ∃ b : Bool, e = .returned (.bool b) ∧ Cur w' g A c l (P + 2) ∧ w.grownBy w' (some g) := by
  go_enter Try.func55, Try.ntmps55
  go_wp2_with fail
  refine (pick_any g c P n A l _ hl hP h0 (by omega) h).mono ?_
  rintro e w1 ⟨b, hb, rfl, hc1, hg1⟩
  go_wp2
  go_ret
  exact ⟨_, rfl, hc1, hg1⟩
set_option maxHeartbeats 400000 in
theorem vBig_any (A : Option Addr) (n c : Nat) (w : World) :
    Calls Try.prog 35 #[.slice A n c] w fun e w' => e = .returned (.bool (decide (65536 < n))) ∧ w' = w := by
  go_enter Try.func35, Try.ntmps35
  go_wp2
  go_ret
  exact ⟨by rw [show decide (65536 < n) = decide ((65536 : Int) < (n : Int)) by rw [decide_eq_decide]; omega]; rfl, rfl⟩
end Go.Proofs.Ytkcbldaondflmaa
