/-
  The draws of the exercises, and the helpers of their laws.
-/
import Derived.Test.YtlmcnlakgjhalaaCurB
import Derived.Test.YtlmcnlakgjhalaaExJ
namespace Go.Proofs.Ytlmcnlakgjhalaa
open Go.RowKit Go.Lib Go.Lib.Hx

set_option maxHeartbeats 1000000 in
theorem among_lit (g c P : Nat) (A : Option Addr) (l : List (Fin 256)) (L : List Int) (n : Nat) (W : World) (B : Nat) (hB : B = W.heap.size) (hn : n = L.length) (hl : l.length ≤ 65536) (hP : P ≤ 900000000) (h0 : 0 < n) (h1 : n ≤ 1000) (h : Cur W g A c l P) :
    Calls Try.prog 71 #[.pointer (some ⟨g, 0, none⟩), .slice (some ⟨B, 0, none⟩) n n] (W.alloc (.cells (L.map (Value.int .i64)).toArray 3)) fun e w' => ∃ x, x ∈ L ∧ e = .returned (.int .i64 x) ∧ Cur w' g A c l (P + 2) ∧ W.grownBy w' (some g) := by
  subst hn hB
  have hr : RdI (W.alloc (.cells (L.map (Value.int .i64)).toArray 3)) (some ⟨W.heap.size, 0, none⟩) L := by
    refine ⟨by simp [ints], fun _ => ⟨W.heap.size, 0, rfl, by simp, fun j u hu => ?_⟩⟩
    rw [Nat.zero_add, cell_of_row _ _ j _ _ (0, 0) (heap_alloc_new W _)]
    simpa [ints] using hu
  have hlt := h.lt
  exact (among_any g c P A l _ _ _ L _ hl hP rfl h0 h1 (h.kept (World.grownBy_alloc W _ none) (by simp)) hr (fun b off hA => by cases hA; omega)).mono fun e w' ⟨x, h1, h2, h3, h4⟩ => ⟨x, h1, h2, h3, (World.grownBy_alloc W _ (some g)).trans h4⟩
set_option maxHeartbeats 1000000 in
theorem addend_any (g c P : Nat) (A : Option Addr) (l : List (Fin 256)) (w : World) (hl : l.length ≤ 65536) (hP : P ≤ 900000000) (h : Cur w g A c l P) :
    Calls Try.prog 70 #[.pointer (some ⟨g, 0, none⟩)] w fun e w' => ∃ x : Int, e = .returned (.int .i64 x) ∧ Cur w' g A c l (P + 2) ∧ w.grownBy w' (some g) := by
  go_enter Try.func70, Try.ntmps70
  go_wp2_with fail
  refine (among_lit g c P A l [0, 1, 5, 9, 10, 36, 45, 55, 99, 101, 505, 999, 1234, 9999, 8765, 90, 909, 10000, -1, 64] 20 w _ (by first | rfl | (rw [hw0]; simp)) rfl hl hP (by decide) (by decide) h).mono ?_
  rintro e w1 ⟨x, _, rfl, hc1, hg1⟩
  go_wp2
  go_ret
  exact ⟨x, rfl, hc1, hg1⟩

def Two (w : World) (e : Ending) (w' : World) : Prop := ∃ a b : Int, e = .returned (.tuple #[.int .i64 a, .int .i64 b]) ∧ Below w.heap.size w w'
set_option maxHeartbeats 1000000 in
theorem drawCarry_any (A : Option Addr) (c : Nat) (l : List (Fin 256)) (w : World) (hl : l.length ≤ 65536) (h : RdT byteT w A l) :
    Calls Try.prog 41 #[.slice A l.length c] w (Two w) := by
  have hC := Cur.new (c := c) h
  have hb0 : Below w.heap.size w (w.alloc (.cells #[.slice A l.length c, .int .i64 0, .int .u64 0] 60)) := (Below.refl _ _).alloc (Nat.le_refl _) _
  go_enter Try.func41, Try.ntmps41
  go_wp2_with fail
  refine (addend_any w.heap.size c 0 A l _ hl (by omega) hC).mono ?_
  rintro e w1 ⟨x, rfl, hc1, hg1⟩
  go_wp2_with fail
  refine (addend_any w.heap.size c _ A l _ hl (by omega) hc1).mono ?_
  rintro e w2 ⟨y, rfl, hc2, hg2⟩
  go_wp2
  go_ret2
  exact ⟨x, y, rfl, below_cur hb0 (hg1.trans hg2) (Nat.le_refl _)⟩
set_option maxHeartbeats 1000000 in
theorem drawPartner_any (A : Option Addr) (c : Nat) (l : List (Fin 256)) (w : World) (hl : l.length ≤ 65536) (h : RdT byteT w A l) :
    Calls Try.prog 44 #[.slice A l.length c] w (Two w) := by
  have hC := Cur.new (c := c) h
  have hb0 : Below w.heap.size w (w.alloc (.cells #[.slice A l.length c, .int .i64 0, .int .u64 0] 60)) := (Below.refl _ _).alloc (Nat.le_refl _) _
  go_enter Try.func44, Try.ntmps44
  go_wp2_with fail
  refine (addend_any w.heap.size c 0 A l _ hl (by omega) hC).mono ?_
  rintro e w1 ⟨x, rfl, hc1, hg1⟩
  go_wp2_with fail
  refine (among_lit w.heap.size c _ A l [0, 1, 2, 3, 4, 5, -1] 7 w1 _ (by first | rfl | (rw [hw0]; simp)) rfl hl (by omega) (by decide) (by decide) hc1).mono ?_
  rintro e w2 ⟨y, _, rfl, hc2, hg2⟩
  go_wp2
  go_ret2
  exact ⟨x, y, rfl, below_cur hb0 (hg1.trans hg2) (Nat.le_refl _)⟩
set_option maxHeartbeats 1000000 in
theorem drawFirst_any (A : Option Addr) (c : Nat) (l : List (Fin 256)) (w : World) (hl : l.length ≤ 65536) (h : RdT byteT w A l) :
    Calls Try.prog 45 #[.slice A l.length c] w (Two w) := by
  have hC := Cur.new (c := c) h
  have hb0 : Below w.heap.size w (w.alloc (.cells #[.slice A l.length c, .int .i64 0, .int .u64 0] 60)) := (Below.refl _ _).alloc (Nat.le_refl _) _
  obtain ⟨w0, hw0⟩ : ∃ w0 : World, w0 = w.alloc (.cells #[.slice A l.length c, .int .i64 0, .int .u64 0] 60) := ⟨_, rfl⟩
  rw [← hw0] at hC hb0
  go_enter Try.func45, Try.ntmps45
  go_wp2_with fail
  rw [← hw0]
  refine (among_lit w.heap.size c 0 A l [0, 1, 2, 2, 3, -1] 6 w0 _ (by first | rfl | (rw [hw0]; simp)) rfl hl (by omega) (by decide) (by decide) hC).mono ?_
  rintro e w1 ⟨x, _, rfl, hc1, hg1⟩
  go_wp2_with fail
  refine (among_lit w.heap.size c _ A l [0, 1, 3, 12, 13, -1] 6 w1 _ (by first | rfl | (rw [hw0]; simp)) rfl hl (by omega) (by decide) (by decide) hc1).mono ?_
  rintro e w2 ⟨y, _, rfl, hc2, hg2⟩
  go_wp2
  go_ret2
  exact ⟨x, y, rfl, below_cur hb0 (hg1.trans hg2) (Nat.le_refl _)⟩
set_option maxHeartbeats 1000000 in
theorem drawHow_any (A : Option Addr) (c : Nat) (l : List (Fin 256)) (w : World) (hl : l.length ≤ 65536) (h : RdT byteT w A l) :
    Calls Try.prog 47 #[.slice A l.length c] w (Two w) := by
  have hC := Cur.new (c := c) h
  have hb0 : Below w.heap.size w (w.alloc (.cells #[.slice A l.length c, .int .i64 0, .int .u64 0] 60)) := (Below.refl _ _).alloc (Nat.le_refl _) _
  obtain ⟨w0, hw0⟩ : ∃ w0 : World, w0 = w.alloc (.cells #[.slice A l.length c, .int .i64 0, .int .u64 0] 60) := ⟨_, rfl⟩
  rw [← hw0] at hC hb0
  go_enter Try.func47, Try.ntmps47
  go_wp2_with fail
  rw [← hw0]
  refine (among_lit w.heap.size c 0 A l [1, 2, 1, 2, 0, 3] 6 w0 _ (by first | rfl | (rw [hw0]; simp)) rfl hl (by omega) (by decide) (by decide) hC).mono ?_
  rintro e w1 ⟨x, _, rfl, hc1, hg1⟩
  go_wp2_with fail
  refine (among_lit w.heap.size c _ A l [0, 1, 2, 3, -1, 1] 6 w1 _ (by first | rfl | (rw [hw0]; simp)) rfl hl (by omega) (by decide) (by decide) hc1).mono ?_
  rintro e w2 ⟨y, _, rfl, hc2, hg2⟩
  go_wp2
  go_ret2
  exact ⟨x, y, rfl, below_cur hb0 (hg1.trans hg2) (Nat.le_refl _)⟩

set_option maxHeartbeats 400000 in
theorem vInts_same (A1 A2 : Option Addr) (n c1 c2 : Nat) (l : List Int) (w : World) (hn : n = l.length) (hm : n ≤ 16777216) (h1 : RdI w A1 l) (h2 : RdI w A2 l) :
    Calls Try.prog 42 #[.slice A1 n c1, .slice A2 n c2] w fun e w' => e = .returned (.bool true) ∧ Below w.heap.size w w' := by
  have e1 : (decide ((n : Int) = n)) = true := by simp
  go_enter Try.func42, Try.ntmps42
  go_wp2
  go_loopw [5] (fun i wr => ∃ k : Nat, k ≤ n ∧ i = .int .i64 k ∧ RdI wr A1 l ∧ RdI wr A2 l ∧ Below w.heap.size w wr) (fun i _ => n - (intOf i).toNat)
  case atStart => exact ⟨0, by omega, rfl, h1, h2, Below.refl _ _⟩
  case round =>
    obtain ⟨k, hk, rfl, g1, g2, hb⟩ := hrel
    clear h1 h2
    by_cases hlt : k < n
    · obtain ⟨b1, o1, x, rfl, hx, _, hc1⟩ := g1.at_ (k := k) (by omega)
      obtain ⟨b2, o2, y, rfl, hy, _, hc2⟩ := g2.at_ (k := k) (by omega)
      obtain rfl : x = y := by rw [hx] at hy; injection hy
      clear hx hy
      go_wp2_with fail
      go_quiet (fail)
      go_wp2
      go_roundw
      case rel => exact ⟨k + 1, by omega, by go_num, g1, g2, below_drewN hb _⟩
      case measure => simp [intOf]; omega
    · go_wp2
      go_ret
      exact ⟨rfl, hb⟩
set_option maxHeartbeats 800000 in
theorem vPairs_same (A1 A2 : Option Addr) (n c1 c2 : Nat) (l : List (Int × Int)) (w : World) (hn : n = l.length) (hm : n ≤ 16777216) (h1 : RdT pairT w A1 l) (h2 : RdT pairT w A2 l) :
    Calls Try.prog 46 #[.slice A1 n c1, .slice A2 n c2] w fun e w' => e = .returned (.bool true) ∧ Below w.heap.size w w' := by
  have e1 : (decide ((n : Int) = n)) = true := by simp
  go_enter Try.func46, Try.ntmps46
  go_wp2
  go_loopw [5] (fun i wr => ∃ k : Nat, k ≤ n ∧ i = .int .i64 k ∧ RdT pairT wr A1 l ∧ RdT pairT wr A2 l ∧ Below w.heap.size w wr) (fun i _ => n - (intOf i).toNat)
  case atStart => exact ⟨0, by omega, rfl, h1, h2, Below.refl _ _⟩
  case round =>
    obtain ⟨k, hk, rfl, g1, g2, hb⟩ := hrel
    clear h1 h2
    by_cases hlt : k < n
    · obtain ⟨b1, o1, p, q, rfl, hx, hl1, hc1, hd1⟩ := pair_at g1 (k := k) (by omega)
      obtain ⟨b2, o2, p', q', rfl, hy, hl2, hc2, hd2⟩ := pair_at g2 (k := k) (by omega)
      obtain ⟨rfl, rfl⟩ : p = p' ∧ q = q' := by rw [hx] at hy; injection hy with hy; injection hy with h1 h2; exact ⟨h1, h2⟩
      clear hx hy
      have hE := fun W => eq_pair p q p q W
      simp only [beq_self_eq_true, Bool.and_self] at hE
      go_wp2_with fail
      go_quiet (fail)
      go_wp2
      go_roundw
      case rel => exact ⟨k + 1, by omega, by go_num, g1, g2, below_drewN hb _⟩
      case measure => simp [intOf]; omega
    · go_wp2
      go_ret
      exact ⟨rfl, hb⟩

def dsF : Nat → Int → Int
  | 0, _ => 0
  | k + 1, n => n % 10 + dsF k (n / 10)
theorem dsF_zero (k : Nat) : dsF k 0 = 0 := by
  induction k with
  | zero => rfl
  | succ k ih => simp [dsF, ih]
set_option maxHeartbeats 800000 in
theorem vDigitSum_any (n : Int) (w : World) (h0 : 0 ≤ n) (h1 : n < 100000) :
    Calls Try.prog 43 #[.int .i64 n] w fun e w' => e = .returned (.int .i64 (dsF 5 n)) ∧ w' = w := by
  go_enter Try.func43, Try.ntmps43
  go_wp2
  go_loop [0, 3] (fun i s => ∃ (j m : Nat) (t : Int), m < 10 ^ j ∧ m < 100000 ∧ j ≤ 5 ∧ 0 ≤ t ∧ t ≤ 9 * (5 - j : Nat) ∧ i = .int .i64 m ∧ s = .int .i64 t ∧ Hid (t + dsF j m = dsF 5 n)) (fun i _ => (intOf i).toNat)
  case atStart => exact ⟨5, n.toNat, 0, by omega, by omega, by omega, by omega, by omega, by go_num, rfl, Lib.hid (by rw [Int.toNat_of_nonneg h0]; omega)⟩
  case round =>
    obtain ⟨j, m, t, hj, hm, hj5, ht0, ht1, rfl, rfl, HE⟩ := hrel
    by_cases hlt : 0 < m
    · have d1 : decide (0 < m) = true := decide_eq_true hlt
      obtain ⟨i, rfl⟩ : ∃ i, j = i + 1 := by
        cases j with
        | zero => simp at hj; omega
        | succ i => exact ⟨i, rfl⟩
      have hj' : m / 10 < 10 ^ i := by rw [Nat.pow_succ] at hj; omega
      have HE2 : Hid (t + (m : Int) % 10 + dsF i ((m / 10 : Nat) : Int) = dsF 5 n) := Lib.hid (by have h := HE.out; rw [show dsF (i + 1) (m : Int) = (m : Int) % 10 + dsF i ((m : Int) / 10) from rfl] at h; rw [← h]; push_cast; omega)
      have i1 : IntKind.i64.wrap (t + (m : Int) % 10) = t + (m : Int) % 10 := IntWalk.i64_in _ (by omega)
      clear HE hj
      go_wp2
      go_round
      case rel => exact ⟨i, m / 10, t + (m : Int) % 10, hj', by omega, by omega, by omega, by omega, by go_num, rfl, HE2⟩
      case measure => simp [intOf]; omega
    · have d1 : decide (0 < m) = false := decide_eq_false hlt
      obtain rfl : m = 0 := by omega
      have hE := HE.out
      rw [show ((0 : Nat) : Int) = 0 from rfl, dsF_zero] at hE
      go_wp2
      go_ret
      exact ⟨by rw [← hE]; simp, rfl⟩
end Go.Proofs.Ytlmcnlakgjhalaa
