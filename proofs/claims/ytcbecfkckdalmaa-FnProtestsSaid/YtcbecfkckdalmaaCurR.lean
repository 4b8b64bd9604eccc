/-
  The choices read from bytes, for seats whose laws test by rBig and rInts.
-/
import Derived.Test.YtcbecfkckdalmaaCur
import Derived.Test.YtcbecfkckdalmaaMem
namespace Go.Proofs.Ytcbecfkckdalmaa
open Go.RowKit Go.Lib Go.Lib.Hx

theorem RdI.grown {w w' : World} {row : Option Nat} {A : Option Addr} {l : List Int} (h : RdI w A l) (hg : w.grownBy w' row) (hne : 0 < l.length → ∀ b off, A = some ⟨b, off, none⟩ → some b ≠ row) : RdI w' A l := by
  refine ⟨h.1, fun hn => ?_⟩
  obtain ⟨b, off, hA, hlt, hc⟩ := h.2 hn
  exact ⟨b, off, hA, Nat.lt_of_lt_of_le hlt hg.size, fun j u hu => (hg.cell_far _ hlt (hne hn b off hA)).trans (hc j u hu)⟩
theorem Cur.new {w : World} {A : Option Addr} {c : Nat} {l : List (Fin 256)} (h : RdT byteT w A l) : Cur (w.alloc (.cells #[.slice A l.length c, .int .i64 0, .int .u64 0] 81)) w.heap.size A c l 0 := by
  refine ⟨0, 0, Nat.le_refl _, ?_, h.grown byteT (World.grownBy_alloc w _ none) (fun _ b off _ he => by cases he), fun hn b off hA => ?_⟩
  · exact heap_alloc_new w (.cells #[.slice A l.length c, .int .i64 0, .int .u64 0] 81)
  · obtain ⟨b', off', hA', hlt, _⟩ := h.2 hn
    rw [hA] at hA'
    injection hA' with hA'
    injection hA' with e _ _
    rw [e]
    exact hlt
theorem below_cur {w w1 w2 : World} {g : Nat} (h0 : Below w.heap.size w w1) (hg : w1.grownBy w2 (some g)) (hw : w.heap.size ≤ g) : Below w.heap.size w w2 :=
  h0.grown hg h0.size (fun k hk => by cases hk; exact hw)
set_option maxHeartbeats 1000000 in
theorem among_any (g c P : Nat) (A : Option Addr) (l : List (Fin 256)) (A2 : Option Addr) (c2 n : Nat) (L : List Int) (w : World) (hl : l.length ≤ 65536) (hP : P ≤ 900000000) (hn : n = L.length) (h0 : 0 < n) (h1 : n ≤ 1000) (h : Cur w g A c l P) (hL : RdI w A2 L)
    (hne : ∀ b off, A2 = some ⟨b, off, none⟩ → b ≠ g) :
    Calls Try.prog 87 #[.pointer (some ⟨g, 0, none⟩), .slice A2 n c2] w fun e w' => ∃ x, x ∈ L ∧ e = .returned (.int .i64 x) ∧ Cur w' g A c l (P + 2) ∧ w.grownBy w' (some g) := by
  subst hn
  go_enter Try.func87, Try.ntmps87
  go_wp2_with fail
  refine (pick_any g c P L.length A l _ hl hP h0 (by omega) h).mono ?_
  rintro e w1 ⟨b, hb, rfl, hc1, hg1⟩
  have hL1 := hL.grown hg1 (fun _ b' off' hA he => by cases he; exact hne _ _ hA rfl)
  obtain ⟨b', off, x, rfl, hx, hlt, hcx⟩ := hL1.at_ hb
  have b1 : (b : Int) < (L.length : Int) := by omega
  go_wp2
  go_ret
  exact ⟨x, List.mem_of_getElem? hx, rfl, hc1, hg1⟩
set_option maxHeartbeats 1000000 in
theorem one_any (g c P n : Nat) (A : Option Addr) (l : List (Fin 256)) (w : World) (hl : l.length ≤ 65536) (hP : P ≤ 900000000) (h0 : 0 < n) (h1 : n ≤ 1000) (h : Cur w g A c l P) :
    Calls Try.prog 83 #[.pointer (some ⟨g, 0, none⟩), .int .i64 n] w fun e w' => ∃ b : Bool, e = .returned (.bool b) ∧ Cur w' g A c l (P + 2) ∧ w.grownBy w' (some g) := by
  go_enter Try.func83, Try.ntmps83
  go_wp2_with fail
  refine (pick_any g c P n A l _ hl hP h0 (by omega) h).mono ?_
  rintro e w1 ⟨b, hb, rfl, hc1, hg1⟩
  go_wp2
  go_ret
  exact ⟨_, rfl, hc1, hg1⟩
set_option maxHeartbeats 1000000 in
theorem among_lit (g c P : Nat) (A : Option Addr) (l : List (Fin 256)) (L : List Int) (n : Nat) (W : World) (B : Nat) (hB : B = W.heap.size) (hn : n = L.length) (hl : l.length ≤ 65536) (hP : P ≤ 900000000) (h0 : 0 < n) (h1 : n ≤ 1000) (h : Cur W g A c l P) :
    Calls Try.prog 87 #[.pointer (some ⟨g, 0, none⟩), .slice (some ⟨B, 0, none⟩) n n] (W.alloc (.cells (L.map (Value.int .i64)).toArray 3)) fun e w' => ∃ x, x ∈ L ∧ e = .returned (.int .i64 x) ∧ Cur w' g A c l (P + 2) ∧ W.grownBy w' (some g) := by
  subst hn hB
  have hr : RdI (W.alloc (.cells (L.map (Value.int .i64)).toArray 3)) (some ⟨W.heap.size, 0, none⟩) L := by
    refine ⟨by simp [ints], fun _ => ⟨W.heap.size, 0, rfl, by simp, fun j u hu => ?_⟩⟩
    rw [Nat.zero_add, cell_of_row _ _ j _ _ (0, 0) (heap_alloc_new W _)]
    simpa [ints] using hu
  have hlt := h.lt
  exact (among_any g c P A l _ _ _ L _ hl hP rfl h0 h1 (h.kept (World.grownBy_alloc W _ none) (by simp)) hr (fun b off hA => by cases hA; omega)).mono fun e w' ⟨x, h1, h2, h3, h4⟩ => ⟨x, h1, h2, h3, (World.grownBy_alloc W _ (some g)).trans h4⟩
theorem among_litD (g c P : Nat) (A : Option Addr) (l : List (Fin 256)) (L : List Int) (n : Nat) (W : World) (B : Nat) (hB : B = W.heap.size) (hn : n = L.length) (hl : l.length ≤ 65536) (hP : P ≤ 900000000) (h0 : 0 < n) (h1 : n ≤ 1000) (h : Cur W g A c l P) :
    Calls Try.prog 87 #[.pointer (some ⟨g, 0, none⟩), .slice (some ⟨B, 0, none⟩) n n] (W.alloc (.cells (L.map (Value.int .i64)).toArray 3)).drew fun e w' => ∃ x, x ∈ L ∧ e = .returned (.int .i64 x) ∧ Cur w' g A c l (P + 2) ∧ W.drew.grownBy w' (some g) :=
  among_lit g c P A l L n W.drew B hB hn hl hP h0 h1 h
theorem among_litE (g c P : Nat) (A : Option Addr) (l : List (Fin 256)) (L : List Int) (n : Nat) (W : World) (B : Nat) (o : Obj) (hB : B = W.heap.size) (hn : n = L.length) (hl : l.length ≤ 65536) (hP : P ≤ 900000000) (h0 : 0 < n) (h1 : n ≤ 1000) (h : Cur W g A c l P) :
    Calls Try.prog 87 #[.pointer (some ⟨g, 0, none⟩), .slice (some ⟨B, 0, none⟩) n n] ((W.alloc (.cells (L.map (Value.int .i64)).toArray 3)).alloc o).drew fun e w' => ∃ x, x ∈ L ∧ e = .returned (.int .i64 x) ∧ Cur w' g A c l (P + 2) ∧ ((W.alloc (.cells (L.map (Value.int .i64)).toArray 3)).alloc o).drew.grownBy w' (some g) := by
  subst hn hB
  have hr : RdI (W.alloc (.cells (L.map (Value.int .i64)).toArray 3)) (some ⟨W.heap.size, 0, none⟩) L := by
    refine ⟨by simp [ints], fun _ => ⟨W.heap.size, 0, rfl, by simp, fun j u hu => ?_⟩⟩
    rw [Nat.zero_add, cell_of_row _ _ j _ _ (0, 0) (heap_alloc_new W _)]
    simpa [ints] using hu
  have hr2 : RdI ((W.alloc (.cells (L.map (Value.int .i64)).toArray 3)).alloc o).drew (some ⟨W.heap.size, 0, none⟩) L := hr.below (((Below.refl _ _).alloc (Nat.le_refl _) o).drew) (Nat.le_refl _)
  have hlt := h.lt
  have hc2 : Cur ((W.alloc (.cells (L.map (Value.int .i64)).toArray 3)).alloc o).drew g A c l P := (h.kept (World.grownBy_alloc W (.cells (L.map (Value.int .i64)).toArray 3) none) (by simp)).kept (grownBy_drew (World.grownBy_alloc _ o none)) (by simp)
  exact among_any g c P A l _ _ _ L _ hl hP rfl h0 h1 hc2 hr2 (fun b off hA => by cases hA; omega)
set_option maxHeartbeats 400000 in
theorem rBig_any (A : Option Addr) (n c : Nat) (w : World) :
    Calls Try.prog 50 #[.slice A n c] w fun e w' => e = .returned (.bool (decide (65536 < n))) ∧ w' = w := by
  go_enter Try.func50, Try.ntmps50
  go_wp2
  go_ret
  exact ⟨by rw [show decide (65536 < n) = decide ((65536 : Int) < (n : Int)) by rw [decide_eq_decide]; omega]; rfl, rfl⟩
set_option maxHeartbeats 400000 in
theorem rInts_same (A1 A2 : Option Addr) (n c1 c2 : Nat) (l : List Int) (w : World) (hn : n = l.length) (hm : n ≤ 16777216) (h1 : RdI w A1 l) (h2 : RdI w A2 l) :
    Calls Try.prog 58 #[.slice A1 n c1, .slice A2 n c2] w fun e w' => e = .returned (.bool true) ∧ Below w.heap.size w w' := by
  have e1 : (decide ((n : Int) = n)) = true := by simp
  go_enter Try.func58, Try.ntmps58
  go_wp2
  go_loopw [5] (fun i wr => ∃ k : Nat, k ≤ n ∧ i = .int .i64 k ∧ RdI wr A1 l ∧ RdI wr A2 l ∧ Below w.heap.size w wr) (fun i _ => n - (intOf i).toNat)
  case atStart => exact ⟨0, by omega, rfl, h1, h2, Below.refl _ _⟩
  case round =>
    obtain ⟨k, hk, rfl, g1, g2, hb⟩ := hrel
    clear h1 h2
    by_cases hlt : k < n
    · obtain ⟨b1, o1, x, rfl, hx, _, hc1⟩ := g1.at_ (k := k) (by omega)
      obtain ⟨b2, o2, y, rfl, hy, _, hc2⟩ := g2.at_ (k := k) (by omega)
      obtain rfl : x = y := by rw [hx] at hy; injection hy
      clear hx hy
      go_wp2_with fail
      go_quiet (fail)
      go_wp2
      go_roundw
      case rel => exact ⟨k + 1, by omega, by go_num, g1, g2, below_drewN hb _⟩
      case measure => simp [intOf]; omega
    · go_wp2
      go_ret
      exact ⟨rfl, hb⟩
end Go.Proofs.Ytcbecfkckdalmaa
