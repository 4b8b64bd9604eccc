/-
  The draw of a number to add, and of a move.
-/
import Derived.Test.YtkcbldaondflmaaFrmJ
import Derived.Test.YtkcbldaondflmaaRecH
namespace Go.Proofs.Ytkcbldaondflmaa
open Go.RowKit Go.Lib Go.Lib.Hx

set_option maxRecDepth 100000 in
set_option maxHeartbeats 8000000 in
theorem addend_any (g c P : Nat) (A : Option Addr) (l : List (Fin 256)) (up lo : Int) (AS : Option Addr) (cs : Nat) (R : List (Int × Int)) (w : World) (hl : l.length ≤ 65536) (hP : P ≤ 700000000) (h : Cur w g A c l P) (hn : R.length ≤ 1000) (hr : RdT rodT w AS R) (hne : ∀ b off, AS = some ⟨b, off, none⟩ → b ≠ g) :
    Calls Try.prog 65 #[.pointer (some ⟨g, 0, none⟩), .agg #[.int .i64 up, .int .i64 lo, .slice AS R.length cs]] w fun e w' => ∃ x : Int, e = .returned (.int .i64 x) ∧ Cur w' g A c l (P + 10) ∧ w.grownBy w' (some g) := by
  have hgl := h.lt
  obtain ⟨w1, hw1⟩ : ∃ w1 : World, w1 = w.alloc (.cells #[.int .i64 up, .int .i64 lo, .slice AS R.length cs] 71) := ⟨_, rfl⟩
  obtain ⟨fb, hfb⟩ : ∃ fb : Nat, fb = w.heap.size := ⟨_, rfl⟩
  have hg1 : w.grownBy w1 (some g) := by rw [hw1]; exact World.grownBy_alloc w _ (some g)
  have hc1 : Cur w1 g A c l P := by rw [hw1]; exact h.kept (World.grownBy_alloc w _ none) (by simp)
  have BF1 : Blk w1 fb 71 #[.int .i64 up, .int .i64 lo, .slice AS R.length cs] := by rw [hw1, hfb]; exact Blk.new w _ _
  have hgf : g < fb := by omega
  have hm0 : (0 : Int) ≤ min 8 (R.length : Int) := by omega
  have hm8 : min 8 (R.length : Int) ≤ 8 := by omega
  have KP := l2Power_any (min 8 (R.length : Int)) w1 hm0 hm8
  have hM1 := pw_pos (min 8 (R.length : Int)).toNat
  have hM2 := pw_le (k := (min 8 (R.length : Int)).toNat) (by omega)
  generalize pw (min 8 (R.length : Int)).toNat = M at *
  have i1 : IntKind.i64.wrap (M - 1) = M - 1 := IntWalk.i64_in _ (by omega)
  have hMz : ¬ M = 0 := by omega
  have hMz2 : (M == 0) = false := by rw [beq_eq_false_iff_ne]; exact hMz
  have b2 := BF1.cell 2
  go_enter Try.func65, Try.ntmps65
  go_upto_region 1 with fail
  rw [← hw1, ← hfb]
  clear hw1 hfb
  go_wp2_with fail
  refine (l1Least_any 8 _ _).mono ?_
  rintro e w' ⟨rfl, rfl⟩
  go_wp2_with fail
  refine KP.mono ?_
  rintro e w' ⟨rfl, rfl⟩
  clear b2 KP hm0 hm8
  go_wp2_with fail
  refine (among_lit g c _ A l [0, 1, 5, 7, 9, 19, 36, 99, 108, 555, 1999, 48, 64] 13 _ _ rfl rfl hl (by omega) (by decide) (by decide) hc1).mono ?_
  rintro e w2 ⟨x0, _, rfl, hc2, hg2⟩
  have hg02 := hg1.trans hg2
  have BF2 := BF1.gr hg2 (by simp; omega)
  clear hc1
  go_wp2_with fail
  refine (one_any g c _ 4 A l _ hl (by omega) (by decide) (by decide) hc2).mono ?_
  rintro e w3 ⟨b4, rfl, hc3, hg3⟩
  have hg03 := hg02.trans hg3
  have BF3 := BF2.gr hg3 (by simp; omega)
  have hr3 := hr.grown rodT hg03 (fun _ b off hA he => by cases he; exact hne _ _ hA rfl)
  have b0 := BF3.cell 0
  have b1 := BF3.cell 1
  have b2 := BF3.cell 2
  clear hg1 hg2 hg02 hg3 BF1 BF2 hc2
  cases b4
  · skip
    clear b0 b1 b2
    have hc6 := hc3
    go_wp2_with fail
    refine (one_any g c _ 24 A l _ hl (by omega) (by decide) (by decide) hc6).mono ?_
    rintro e w7 ⟨b24, rfl, hc7, hg7⟩
    have hg07 := hg03.trans hg7
    cases b24
    · go_wp2
      go_ret
      exact ⟨_, rfl, hc7.more (by omega), hg07⟩
    · go_wp2_with fail
      refine (among_lit g c _ A l [-1, M, M - 1] 3 w7 _ rfl rfl hl (by omega) (by decide) (by decide) hc7).mono ?_
      rintro e w8 ⟨z, _, rfl, hc8, hg8⟩
      go_wp2
      go_ret
      exact ⟨z, rfl, hc8.more (by omega), hg07.trans hg8⟩
  · go_wp2_with fail
    refine (l2Standard_any up lo AS cs R w3 hn hr3).mono ?_
    rintro e w4 ⟨rfl, hb4⟩
    have hc4 := hc3.bel hb4
    have hg04 := hg03.trans (gr_of_below hb4 (some g))
    have BF4 := BF3.below hb4 BF3.lt
    have hr4 := hr.grown rodT hg04 (fun _ b off hA he => by cases he; exact hne _ _ hA rfl)
    clear b0 b1 b2
    have b0 := BF4.cell 0
    have b1 := BF4.cell 1
    have b2 := BF4.cell 2
    cases stdF up lo R
    · skip
      clear b0 b1 b2
      have hc6 := hc4
      go_wp2_with fail
      refine (one_any g c _ 24 A l _ hl (by omega) (by decide) (by decide) hc6).mono ?_
      rintro e w7 ⟨b24, rfl, hc7, hg7⟩
      have hg07 := hg04.trans hg7
      cases b24
      · go_wp2
        go_ret
        exact ⟨_, rfl, hc7.more (by omega), hg07⟩
      · go_wp2_with fail
        refine (among_lit g c _ A l [-1, M, M - 1] 3 w7 _ rfl rfl hl (by omega) (by decide) (by decide) hc7).mono ?_
        rintro e w8 ⟨z, _, rfl, hc8, hg8⟩
        go_wp2
        go_ret
        exact ⟨z, rfl, hc8.more (by omega), hg07.trans hg8⟩
    · go_wp2_with fail
      refine (l2Number_any up lo AS cs R w4 hn hr4).mono ?_
      rintro e w5 ⟨rfl, hb5⟩
      have hc5 := hc4.bel hb5
      have hg05 := hg04.trans (gr_of_below hb5 (some g))
      go_wp2_with fail
      refine (l1Most_any 0 _ _).mono ?_
      rintro e w' ⟨rfl, rfl⟩
      go_wp2_with fail
      refine (pick_any g c _ 2 A l _ hl (by omega) (by decide) (by decide) hc5).mono ?_
      rintro e w6 ⟨k, _, rfl, hc6, hg6⟩
      go_wp2
      go_ret
      exact ⟨_, rfl, hc6.more (by omega), hg05.trans hg6⟩
/-- A move that is drawn: the frame's box, the result's, the move's. -/
structure BdS (W w : World) (g : Nat) (A : Option Addr) (c : Nat) (l : List (Fin 256)) (P : Nat) (fb rb mb : Nat) (up lo : Int) (AS : Option Addr) (n cs : Nat) (x y z : Int) : Prop where
  cur : Cur w g A c l P
  old : W.grownBy w (some g)
  bf : Blk w fb 71 #[.int .i64 up, .int .i64 lo, .slice AS n cs]
  br : Blk w rb 52 #[.int .i64 0, .int .i64 0, .int .i64 0]
  bm : Blk w mb 52 #[.int .i64 x, .int .i64 y, .int .i64 z]
section
variable {W w w' : World} {g c P Q fb rb mb n cs : Nat} {A AS : Option Addr} {l : List (Fin 256)} {up lo x y z : Int}
theorem BdS.gr (h : BdS W w g A c l P fb rb mb up lo AS n cs x y z) (hc : Cur w' g A c l Q) (hg : w.grownBy w' (some g)) (h1 : g < fb) (h2 : g < rb) (h3 : g < mb) : BdS W w' g A c l Q fb rb mb up lo AS n cs x y z :=
  ⟨hc, h.old.trans hg, h.bf.gr hg (by simp; omega), h.br.gr hg (by simp; omega), h.bm.gr hg (by simp; omega)⟩
theorem BdS.more (h : BdS W w g A c l P fb rb mb up lo AS n cs x y z) (hPQ : P ≤ Q) : BdS W w g A c l Q fb rb mb up lo AS n cs x y z := ⟨h.cur.more hPQ, h.old, h.bf, h.br, h.bm⟩
theorem BdS.alloc (h : BdS W w g A c l P fb rb mb up lo AS n cs x y z) (o : Obj) : BdS W (w.alloc o) g A c l P fb rb mb up lo AS n cs x y z :=
  ⟨h.cur.kept (World.grownBy_alloc w o none) (by simp), h.old.trans (World.grownBy_alloc w o (some g)), h.bf.alloc o, h.br.alloc o, h.bm.alloc o⟩
theorem BdS.set0 (h : BdS W w g A c l P fb rb mb up lo AS n cs x y z) (v : Int) (h1 : g < mb) (h2 : ¬ fb = mb) (h3 : ¬ rb = mb) (h4 : W.heap.size ≤ mb) : BdS W (w.setCell ⟨mb, 0, none⟩ (.int .i64 v)) g A c l P fb rb mb up lo AS n cs v y z :=
  ⟨h.cur.set_new h1 0 _, gr_set_new h.old h4 0 _, h.bf.far h2 _, h.br.far h3 _, h.bm.set_ 0 _⟩
theorem BdS.set1 (h : BdS W w g A c l P fb rb mb up lo AS n cs x y z) (v : Int) (h1 : g < mb) (h2 : ¬ fb = mb) (h3 : ¬ rb = mb) (h4 : W.heap.size ≤ mb) : BdS W (w.setCell ⟨mb, 1, none⟩ (.int .i64 v)) g A c l P fb rb mb up lo AS n cs x v z :=
  ⟨h.cur.set_new h1 1 _, gr_set_new h.old h4 1 _, h.bf.far h2 _, h.br.far h3 _, h.bm.set_ 1 _⟩
theorem BdS.set2 (h : BdS W w g A c l P fb rb mb up lo AS n cs x y z) (v : Int) (h1 : g < mb) (h2 : ¬ fb = mb) (h3 : ¬ rb = mb) (h4 : W.heap.size ≤ mb) : BdS W (w.setCell ⟨mb, 2, none⟩ (.int .i64 v)) g A c l P fb rb mb up lo AS n cs x y v :=
  ⟨h.cur.set_new h1 2 _, gr_set_new h.old h4 2 _, h.bf.far h2 _, h.br.far h3 _, h.bm.set_ 2 _⟩
end
set_option maxRecDepth 100000 in
set_option maxHeartbeats 8000000 in
theorem bead_any (g c P : Nat) (A : Option Addr) (l : List (Fin 256)) (up lo : Int) (AS : Option Addr) (cs : Nat) (R : List (Int × Int)) (w : World) (hl : l.length ≤ 65536) (hP : P ≤ 700000000) (h : Cur w g A c l P) (hn : R.length ≤ 900) (hr : RdT rodT w AS R) (hne : ∀ b off, AS = some ⟨b, off, none⟩ → b ≠ g) :
    Calls Try.prog 78 #[.pointer (some ⟨g, 0, none⟩), .agg #[.int .i64 up, .int .i64 lo, .slice AS R.length cs]] w fun e w' => ∃ x y z : Int, e = .returned (.agg #[.int .i64 x, .int .i64 y, .int .i64 z]) ∧ Cur w' g A c l (P + 20) ∧ w.grownBy w' (some g) := by
  have hgl := h.lt
  obtain ⟨w1, hw1⟩ : ∃ w1 : World, w1 = (w.alloc (.cells #[.int .i64 up, .int .i64 lo, .slice AS R.length cs] 71)).alloc (.cells #[.int .i64 0, .int .i64 0, .int .i64 0] 52) := ⟨_, rfl⟩
  obtain ⟨fb, hfb⟩ : ∃ fb : Nat, fb = w.heap.size := ⟨_, rfl⟩
  obtain ⟨rb, hrb⟩ : ∃ rb : Nat, rb = w.heap.size + 1 := ⟨_, rfl⟩
  have hg1 : w.grownBy w1 (some g) := by rw [hw1]; exact (World.grownBy_alloc w _ (some g)).trans (World.grownBy_alloc _ _ (some g))
  have hc1 : Cur w1 g A c l P := by rw [hw1]; exact (h.kept (World.grownBy_alloc w _ none) (by simp)).kept (World.grownBy_alloc _ _ none) (by simp)
  have BF1 : Blk w1 fb 71 #[.int .i64 up, .int .i64 lo, .slice AS R.length cs] := by rw [hw1, hfb]; exact (Blk.new w _ _).alloc _
  have BR1 : Blk w1 rb 52 #[.int .i64 0, .int .i64 0, .int .i64 0] := by rw [hw1, hrb]; exact Blk.new1 w _ _ _
  have hgf : g < fb := by omega
  have hgr : g < rb := by omega
  have hwr : w.heap.size ≤ rb := by omega
  have hfr : ¬ fb = rb := by omega
  obtain ⟨n9, hn9⟩ : ∃ n9 : Nat, n9 = max 1 R.length := ⟨_, rfl⟩
  have KM := l1Most_any 1 (R.length : Int) w1
  rw [show max (1 : Int) (R.length : Int) = (n9 : Int) by omega] at KM
  have n91 : 0 < n9 := by omega
  have n92 : n9 ≤ 1000 := by omega
  have n93 : 0 < R.length → n9 = R.length := fun _ => by omega
  have HN9 := Lib.hid n93
  have b2 := BF1.cell 2
  clear hn9 n93
  go_enter Try.func78, Try.ntmps78
  go_upto_region 1 with fail
  rw [← hw1, ← hrb, ← hfb]
  clear hw1 hrb hfb
  go_wp2_with fail
  refine KM.mono ?_
  rintro e w' ⟨rfl, rfl⟩
  clear KM
  go_wp2_with fail
  refine (pick_any g c _ n9 A l _ hl (by omega) n91 (by omega) hc1).mono ?_
  rintro e w2 ⟨k, hk, rfl, hc2, hg2⟩
  go_wp2_with fail
  refine (pick_any g c _ 2 A l _ hl (by omega) (by decide) (by decide) hc2).mono ?_
  rintro e w3 ⟨pt, hpt, rfl, hc3, hg3⟩
  go_wp2_with fail
  refine (among_lit g c _ A l [1, 1, -1, 2, -2, 4, -3, 5] 8 w3 _ rfl rfl hl (by omega) (by decide) (by decide) hc3).mono ?_
  rintro e w4 ⟨by0, _, rfl, hc4, hg4⟩
  have hg14 := (hg2.trans hg3).trans hg4
  obtain ⟨w5, hw5⟩ : ∃ w5 : World, w5 = w4.alloc (.cells #[.int .i64 k, .int .i64 pt, .int .i64 by0] 52) := ⟨_, rfl⟩
  obtain ⟨mb, hmb⟩ : ∃ mb : Nat, mb = w4.heap.size := ⟨_, rfl⟩
  have HB : BdS w w5 g A c l (P + 6) fb rb mb up lo AS R.length cs k pt by0 := by
    rw [hw5, hmb]
    exact ⟨hc4.kept (World.grownBy_alloc w4 _ none) (by simp), (hg1.trans hg14).trans (World.grownBy_alloc w4 _ (some g)), (BF1.gr hg14 (by simp; omega)).alloc _, (BR1.gr hg14 (by simp; omega)).alloc _, Blk.new w4 _ _⟩
  have hrm : rb < mb := by have := BR1.lt; have := hg14.size; omega
  have hgm : g < mb := by omega
  have hwm : w.heap.size ≤ mb := by omega
  have hfm : ¬ fb = mb := by have := BF1.lt; have := hg14.size; omega
  have hrm2 : ¬ rb = mb := by omega
  clear hc1 hc2 hc3 hc4 hg2 hg3 hg4 hg14 BF1 BR1 b2 hg1
  go_upto_region 2 with fail
  rw [← hw5, ← hmb]
  clear hw5 hmb
  have b2 := HB.bf.cell 2
  go_cut [27] (fun s27 wx => ∃ b : Bool, s27 = .bool b ∧ (b = true → 0 < R.length) ∧ BdS w wx g A c l (P + 8) fb rb mb up lo AS R.length cs k pt by0)
  case first =>
    rcases Nat.eq_zero_or_pos R.length with h0 | h0
    · have d1 : decide (0 < R.length) = false := decide_eq_false (by omega)
      clear h0
      go_wp2_with fail
      go_meet
      exact ⟨false, rfl, (fun h => by cases h), HB.more (by omega)⟩
    · have d1 : decide (0 < R.length) = true := decide_eq_true h0
      have hc5 := HB.cur
      go_wp2_with fail
      refine (one_any g c _ 4 A l _ hl (by omega) (by decide) (by decide) hc5).mono ?_
      rintro e w6 ⟨bo, rfl, hc6, hg6⟩
      go_wp2_with fail
      go_meet
      exact ⟨!bo, rfl, fun _ => h0, HB.gr hc6 hg6 hgf hgr hgm⟩
  case rest =>
    obtain ⟨b, rfl, hbR, HB⟩ := hcut
    clear b2
    go_upto_if 27 with fail
    go_cut [] (fun wx => ∃ by1 : Int, BdS w wx g A c l (P + 10) fb rb mb up lo AS R.length cs k pt by1)
    case first =>
      cases b
      · go_wp2_with fail
        go_meet
        exact ⟨by0, HB.more (by omega)⟩
      · have hR0 := hbR rfl
        have hkR : k < R.length := by have := HN9.out hR0; omega
        have hrx := hr.grown rodT HB.old (fun _ b off hA he => by cases he; exact hne _ _ hA rfl)
        obtain ⟨b, off, p, q, rfl, hx, hlt, e0, e1⟩ := rod_at hrx hkR
        have j1 : (k : Int) < (R.length : Int) := by omega
        have b1 := HB.bf.cell 1
        have b2 := HB.bf.cell 2
        have m0 := HB.bm.cell 0
        have m1 := HB.bm.cell 1
        clear hx hbR HN9
        obtain ⟨w6, hw6⟩ : ∃ w6 : World, w6 = wc.alloc (.cells #[.int .i64 p, .int .i64 q] 80) := ⟨_, rfl⟩
        obtain ⟨qb, hqb⟩ : ∃ qb : Nat, qb = wc.heap.size := ⟨_, rfl⟩
        have HB6 : BdS w w6 g A c l (P + 8) fb rb mb up lo (some ⟨b, off, none⟩) R.length cs k pt by0 := by rw [hw6]; exact HB.alloc _
        have BQ6 : Blk w6 qb 80 #[.int .i64 p, .int .i64 q] := by rw [hw6, hqb]; exact Blk.new wc _ _
        go_upto_region 4 with fail
        rw [← hw6, ← hqb]
        clear hw6 hqb HB b1 b2 m0 m1 e0 e1 hrx
        have b1 := HB6.bf.cell 1
        have m1 := HB6.bm.cell 1
        have m2 := HB6.bm.cell 2
        have f2 := HB6.bm.frozen 2
        have q0 := BQ6.cell 0
        have q1 := BQ6.cell 1
        by_cases hp : pt = 0
        · have dp : ((pt : Int) == 0) = true := by rw [beq_iff_eq]; omega
          clear hp
          go_wp2_with fail
          refine (l1Least_any 1 _ _).mono ?_
          rintro e w' ⟨rfl, rfl⟩
          go_wp2_with fail
          go_meet
          exact ⟨_, (HB6.set2 _ hgm hfm hrm2 hwm).more (by omega)⟩
        · have dp : ((pt : Int) == 0) = false := by rw [beq_eq_false_iff_ne]; omega
          have hc6 := HB6.cur
          clear hp
          go_wp2_with fail
          refine (among_lit g c _ A l [_, _, 1] 3 w6 _ rfl rfl hl (by omega) (by decide) (by decide) hc6).mono ?_
          rintro e w7 ⟨z, _, rfl, hc7, hg7⟩
          have HB7 := HB6.gr hc7 hg7 hgf hgr hgm
          clear m2 f2
          have m2 := HB7.bm.cell 2
          have f2 := HB7.bm.frozen 2
          go_wp2_with fail
          go_meet
          exact ⟨z, HB7.set2 z hgm hfm hrm2 hwm⟩
    case rest =>
      obtain ⟨by1, HB⟩ := hcut
      clear hbR HN9
      have hc7 := HB.cur
      go_wp2_with fail
      refine (pick_any g c _ 64 A l _ hl (by omega) (by decide) (by decide) hc7).mono ?_
      rintro e w8 ⟨b8, hb8, rfl, hc8, hg8⟩
      have HB8 := HB.gr hc8 hg8 hgf hgr hgm
      clear HB hc7 hg8
      rcases (show b8 = 0 ∨ b8 = 1 ∨ b8 = 2 ∨ (¬ b8 = 0 ∧ ¬ b8 = 1 ∧ ¬ b8 = 2) by omega) with rfl | rfl | rfl | ⟨hn0, hn1, hn2⟩
      · go_wp2_with fail
        refine (among_lit g c _ A l [-1, 7, 8] 3 w8 _ rfl rfl hl (by omega) (by decide) (by decide) hc8).mono ?_
        rintro e w9 ⟨z, _, rfl, hc9, hg9⟩
        have HB9 := HB8.gr hc9 hg9 hgf hgr hgm
        have q6 := HB9.bm.frozen 0
        have q7 := HB9.bm.cell 0
        have HBX := HB9.set0 z hgm hfm hrm2 hwm
        obtain ⟨wx, hwx⟩ : ∃ wx : World, wx = w9.setCell ⟨mb, 0, none⟩ (.int .i64 z) := ⟨_, rfl⟩
        rw [← hwx] at HBX
        go_upto_region 14 with fail
        rw [← hwx]
        clear hwx q6 q7 HB9 HB8 hc9 hg9 hc8
        have k0 := HBX.bm.cell 0
        have k1 := HBX.bm.cell 1
        have k2 := HBX.bm.cell 2
        have r0 := HBX.br.cell 0
        have r1 := HBX.br.cell 1
        have r2 := HBX.br.cell 2
        have q0 := HBX.br.frozen 0
        have q1 := HBX.br.frozen 1
        have q2 := HBX.br.frozen 2
        go_wp2
        refine bodyPost_ret (v := .agg #[.int .i64 z, .int .i64 pt, .int .i64 by1]) (by simp [results, Try.results78, go_sem, r0, r1, r2]) rfl ⟨_, _, _, rfl, ?_, ?_⟩
        · exact (((HBX.cur.set_new hgr 0 _).set_new hgr 1 _).set_new hgr 2 _).more (by omega)
        · exact gr_set_new (gr_set_new (gr_set_new HBX.old hwr 0 _) hwr 1 _) hwr 2 _
      · go_wp2_with fail
        refine (among_lit g c _ A l [0, 6, -6] 3 w8 _ rfl rfl hl (by omega) (by decide) (by decide) hc8).mono ?_
        rintro e w9 ⟨z, _, rfl, hc9, hg9⟩
        have HB9 := HB8.gr hc9 hg9 hgf hgr hgm
        have q6 := HB9.bm.frozen 2
        have q7 := HB9.bm.cell 2
        have HBX := HB9.set2 z hgm hfm hrm2 hwm
        obtain ⟨wx, hwx⟩ : ∃ wx : World, wx = w9.setCell ⟨mb, 2, none⟩ (.int .i64 z) := ⟨_, rfl⟩
        rw [← hwx] at HBX
        go_upto_region 14 with fail
        rw [← hwx]
        clear hwx q6 q7 HB9 HB8 hc9 hg9 hc8
        have k0 := HBX.bm.cell 0
        have k1 := HBX.bm.cell 1
        have k2 := HBX.bm.cell 2
        have r0 := HBX.br.cell 0
        have r1 := HBX.br.cell 1
        have r2 := HBX.br.cell 2
        have q0 := HBX.br.frozen 0
        have q1 := HBX.br.frozen 1
        have q2 := HBX.br.frozen 2
        go_wp2
        refine bodyPost_ret (v := .agg #[.int .i64 k, .int .i64 pt, .int .i64 z]) (by simp [results, Try.results78, go_sem, r0, r1, r2]) rfl ⟨_, _, _, rfl, ?_, ?_⟩
        · exact (((HBX.cur.set_new hgr 0 _).set_new hgr 1 _).set_new hgr 2 _).more (by omega)
        · exact gr_set_new (gr_set_new (gr_set_new HBX.old hwr 0 _) hwr 1 _) hwr 2 _
      · go_wp2_with fail
        refine (among_lit g c _ A l [-1, 2] 2 w8 _ rfl rfl hl (by omega) (by decide) (by decide) hc8).mono ?_
        rintro e w9 ⟨z, _, rfl, hc9, hg9⟩
        have HB9 := HB8.gr hc9 hg9 hgf hgr hgm
        have q6 := HB9.bm.frozen 1
        have q7 := HB9.bm.cell 1
        have HBX := HB9.set1 z hgm hfm hrm2 hwm
        obtain ⟨wx, hwx⟩ : ∃ wx : World, wx = w9.setCell ⟨mb, 1, none⟩ (.int .i64 z) := ⟨_, rfl⟩
        rw [← hwx] at HBX
        go_upto_region 14 with fail
        rw [← hwx]
        clear hwx q6 q7 HB9 HB8 hc9 hg9 hc8
        have k0 := HBX.bm.cell 0
        have k1 := HBX.bm.cell 1
        have k2 := HBX.bm.cell 2
        have r0 := HBX.br.cell 0
        have r1 := HBX.br.cell 1
        have r2 := HBX.br.cell 2
        have q0 := HBX.br.frozen 0
        have q1 := HBX.br.frozen 1
        have q2 := HBX.br.frozen 2
        go_wp2
        refine bodyPost_ret (v := .agg #[.int .i64 k, .int .i64 z, .int .i64 by1]) (by simp [results, Try.results78, go_sem, r0, r1, r2]) rfl ⟨_, _, _, rfl, ?_, ?_⟩
        · exact (((HBX.cur.set_new hgr 0 _).set_new hgr 1 _).set_new hgr 2 _).more (by omega)
        · exact gr_set_new (gr_set_new (gr_set_new HBX.old hwr 0 _) hwr 1 _) hwr 2 _
      · have k0 := HB8.bm.cell 0
        have k1 := HB8.bm.cell 1
        have k2 := HB8.bm.cell 2
        have r0 := HB8.br.cell 0
        have r1 := HB8.br.cell 1
        have r2 := HB8.br.cell 2
        have q0 := HB8.br.frozen 0
        have q1 := HB8.br.frozen 1
        have q2 := HB8.br.frozen 2
        go_wp2
        refine bodyPost_ret (v := .agg #[.int .i64 k, .int .i64 pt, .int .i64 by1]) (by simp [results, Try.results78, go_sem, r0, r1, r2]) rfl ⟨_, _, _, rfl, ?_, ?_⟩
        · exact (((HB8.cur.set_new hgr 0 _).set_new hgr 1 _).set_new hgr 2 _).more (by omega)
        · exact gr_set_new (gr_set_new (gr_set_new HB8.old hwr 0 _) hwr 1 _) hwr 2 _
end Go.Proofs.Ytkcbldaondflmaa
