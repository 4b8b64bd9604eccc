/-
  The draw of moves.
-/
import Derived.Test.YtkcbldaondflmaaFrmK
import Derived.Test.YtkcbldaondflmaaFrmH
namespace Go.Proofs.Ytkcbldaondflmaa
open Go.RowKit Go.Lib Go.Lib.Hx

/-- The rods of the frame at hand: the given ones, or own ones. -/
def NowR (w wr : World) (g : Nat) (A2 : Option Addr) (c2 : Nat) (R2 : List (Int × Int)) : Prop :=
  (RdT rodT w A2 R2 ∧ ∀ b off, A2 = some ⟨b, off, none⟩ → b ≠ g) ∨ OwnT rodT wr w.heap.size (.slice A2 R2.length c2) R2
section
variable {w wr w2 : World} {g c2 : Nat} {A2 : Option Addr} {R2 : List (Int × Int)}
theorem own_off {α : Type} {T : Ty α} {w : World} {base n c : Nat} {A : Option Addr} {l : List α} (h : OwnT T w base (.slice A n c) l) (g : Nat) (hg : g < base) : ∀ b off, A = some ⟨b, off, none⟩ → b ≠ g := by
  intro b off hA
  subst hA
  rcases h.2 with ⟨hv, hn⟩ | ⟨g', cap, cur, hv, hg', hh, h1, h2, h3, h4⟩
  · injection hv with e1 e2 e3
    cases e1
  · injection hv with e1 e2 e3
    injection e1 with e1
    injection e1 with e1 e4 e5
    omega
theorem NowR.rd (h : NowR w wr g A2 c2 R2) (ho : w.grownBy wr (some g)) (hg : g < w.heap.size) : RdT rodT wr A2 R2 ∧ ∀ b off, A2 = some ⟨b, off, none⟩ → b ≠ g := by
  rcases h with ⟨h1, h2⟩ | h
  · exact ⟨h1.grown rodT ho (fun _ b off hA he => by cases he; exact h2 _ _ hA rfl), h2⟩
  · exact ⟨OwnT.rd h, own_off h g hg⟩
theorem NowR.kept (h : NowR w wr g A2 c2 R2) {row : Option Nat} (hg : wr.grownBy w2 row) (hne : OwnT rodT wr w.heap.size (.slice A2 R2.length c2) R2 → (Value.slice A2 R2.length c2).ownBlock = none ∨ (Value.slice A2 R2.length c2).ownBlock ≠ row) : NowR w w2 g A2 c2 R2 := by
  rcases h with h | h
  · exact .inl h
  · exact .inr (h.kept hg (hne h))
theorem NowR.app {α : Type} {T : Ty α} {o : Obj} {v : Value} {out : List α} (h : NowR w wr g A2 c2 R2) (hv : OwnT T wr w.heap.size v out) (ht : T.e ≠ rodT.e) (hg : (wr.alloc o).grownBy w2 v.ownBlock) : NowR w w2 g A2 c2 R2 := by
  rcases h with h | h
  · exact .inl h
  · exact .inr ((h.alloc o).kept hg (own_apart hv h ht).symm)
theorem NowR.gr (h : NowR w wr g A2 c2 R2) (hg : wr.grownBy w2 (some g)) (hlt : g < w.heap.size) : NowR w w2 g A2 c2 R2 := by
  rcases h with h | h
  · exact .inl h
  · exact .inr (own_cur h hg hlt)
end
/-- Moves, drawn. -/
def MvRes (n g c P : Nat) (A : Option Addr) (l : List (Fin 256)) (w : World) (e : Ending) (w' : World) : Prop :=
  ∃ (L : List MoveV) (A' : Option Addr) (c' : Nat), L.length ≤ n ∧ e = .returned (.slice A' L.length c') ∧ Sta moveT w.heap.size w w' g A c l P (.slice A' L.length c') L
set_option maxRecDepth 100000 in
set_option maxHeartbeats 8000000 in
theorem beads_any (g c P : Nat) (A : Option Addr) (l : List (Fin 256)) (up lo : Int) (AS : Option Addr) (cs : Nat) (R : List (Int × Int)) (w : World) (hl : l.length ≤ 65536) (hP : P ≤ 600000000) (h : Cur w g A c l P) (hn : R.length ≤ 900) (hr : RdT rodT w AS R) (hne : ∀ b off, AS = some ⟨b, off, none⟩ → b ≠ g) :
    Calls Try.prog 66 #[.pointer (some ⟨g, 0, none⟩), .agg #[.int .i64 up, .int .i64 lo, .slice AS R.length cs]] w (MvRes 61 g c (P + 500) A l w) := by
  have hgl := h.lt
  obtain ⟨w1, hw1⟩ : ∃ w1 : World, w1 = (w.alloc (.cells #[.int .i64 up, .int .i64 lo, .slice AS R.length cs] 71)).alloc (.cells #[] 52) := ⟨_, rfl⟩
  obtain ⟨fb, hfb⟩ : ∃ fb : Nat, fb = w.heap.size := ⟨_, rfl⟩
  obtain ⟨ob, hob⟩ : ∃ ob : Nat, ob = w.heap.size + 1 := ⟨_, rfl⟩
  have hg1 : w.grownBy w1 (some g) := by rw [hw1]; exact (World.grownBy_alloc w _ (some g)).trans (World.grownBy_alloc _ _ (some g))
  have hc1 : Cur w1 g A c l P := by rw [hw1]; exact (h.kept (World.grownBy_alloc w _ none) (by simp)).kept (World.grownBy_alloc _ _ none) (by simp)
  have BF1 : Blk w1 fb 71 #[.int .i64 up, .int .i64 lo, .slice AS R.length cs] := by rw [hw1, hfb]; exact (Blk.new w _ _).alloc _
  have om1 : OwnT moveT w1 w.heap.size (.slice (some ⟨ob, 0, none⟩) 0 0) [] := by
    rw [hw1, hob]
    have := ownMove_empty0 (w.alloc (.cells #[.int .i64 up, .int .i64 lo, .slice AS R.length cs] 71)) w.heap.size (by simp)
    rw [show (w.alloc (.cells #[.int .i64 up, .int .i64 lo, .slice AS R.length cs] 71)).heap.size = w.heap.size + 1 by simp] at this
    exact this
  have HS1 : Sta moveT w.heap.size w w1 g A c l P (.slice (some ⟨ob, 0, none⟩) 0 0) [] := ⟨om1, hc1, hg1, hg1.size, hgl, Nat.le_refl _⟩
  have hgf : g < fb := by omega
  obtain ⟨w2, hw2⟩ : ∃ w2 : World, w2 = w1.alloc (.cells #[.int .i64 up, .int .i64 lo, .slice AS R.length cs] 71) := ⟨_, rfl⟩
  obtain ⟨nb, hnb⟩ : ∃ nb : Nat, nb = w1.heap.size := ⟨_, rfl⟩
  have HS2 : Sta moveT w.heap.size w w2 g A c l P (.slice (some ⟨ob, 0, none⟩) 0 0) [] := by rw [hw2]; exact HS1.alloc _
  have BN2 : Blk w2 nb 71 #[.int .i64 up, .int .i64 lo, .slice AS R.length cs] := by rw [hw2, hnb]; exact Blk.new w1 _ _
  have hgn : g < nb := by have := BF1.lt; omega
  have hwn : w.heap.size ≤ nb := by have := BF1.lt; omega
  have b0 := BF1.cell 0
  have b1 := BF1.cell 1
  have b2 := BF1.cell 2
  clear hg1 hc1 om1 HS1
  go_enter Try.func66, Try.ntmps66
  go_upto_region 2 with fail
  rw [← hw1, ← hob, ← hfb]
  clear hw1 hob hfb
  go_upto_region 3 with fail
  rw [← hw2, ← hnb]
  clear hw2 hnb b0 b1 b2 BF1
  have hc2 := HS2.cur
  go_wp2_with fail
  refine (pick_any g c _ 9 A l _ hl (by omega) (by decide) (by decide) hc2).mono ?_
  rintro e w3 ⟨n0, hn0, rfl, hc3, hg3⟩
  have HS3 := HS2.gr hg3 hc3
  have BN3 := BN2.gr hg3 (by simp; omega)
  have NR3 : NowR w w3 g AS cs R := .inl ⟨hr, hne⟩
  clear HS2 BN2 hc2 hg3 hc3
  go_wp2_with fail
  go_loopw [5, 7] (fun o n wr => ∃ (k : Nat) (L : List MoveV) (A1 : Option Addr) (c1 : Nat) (u v : Int) (R2 : List (Int × Int)) (A2 : Option Addr) (c2 : Nat), n = .int .i64 k ∧ k ≤ 8 ∧ L.length + k ≤ 8 ∧ o = .slice A1 L.length c1 ∧ R2.length ≤ 900 ∧ Sta moveT w.heap.size w wr g A c l (P + 2 + 24 * (8 - k)) (.slice A1 L.length c1) L ∧ Blk wr nb 71 #[.int .i64 u, .int .i64 v, .slice A2 R2.length c2] ∧ NowR w wr g A2 c2 R2) (fun _ n _ => (intOf n).toNat)
  case atStart => exact ⟨n0, [], _, 0, up, lo, R, AS, cs, rfl, by omega, by simp; omega, rfl, hn, HS3.more (by omega), BN3, NR3⟩
  case round =>
    obtain ⟨k, L, A1, c1, u, v, R2, A2, c2, rfl, hk8, hLk, rfl, hR2, HS, BN, NR⟩ := hrel
    clear HS3 BN3 NR3 hr hne
    have hc4 := HS.cur
    rcases Nat.eq_zero_or_pos k with hk | hk
    · have d1 : decide (0 < k) = false := decide_eq_false (by omega)
      clear hk
      go_wp2_with fail
      refine (one_any g c _ 40 A l _ hl (by omega) (by decide) (by decide) hc4).mono ?_
      rintro e w5 ⟨bo, rfl, hc5, hg5⟩
      have HS5 := HS.gr hg5 hc5
      clear HS hc4 hg5 NR BN
      cases bo
      · go_wp2
        go_ret
        exact ⟨L, A1, c1, by omega, rfl, HS5.more (by omega)⟩
      · go_wp2_with fail
        go_loopw [5] (fun o wr => ∃ (L2 : List MoveV) (A3 : Option Addr) (c3 : Nat), L2.length ≤ 61 ∧ o = .slice A3 L2.length c3 ∧ Sta moveT w.heap.size w wr g A c l (P + 200 + 2 * L2.length) (.slice A3 L2.length c3) L2) (fun o _ => 61 - (match o with | .slice _ n _ => n | _ => 0))
        case atStart => exact ⟨L, A1, c1, by omega, rfl, HS5.more (by omega)⟩
        case round =>
          obtain ⟨L2, A3, c3, hL2, rfl, HS6⟩ := hrel
          clear HS5 hc5
          have hc6 := HS6.cur
          go_wp2_with fail
          refine (pick_any g c _ 2 A l _ hl (by omega) (by decide) (by decide) hc6).mono ?_
          rintro e w7 ⟨b2, hb2, rfl, hc7, hg7⟩
          have HS7 := HS6.gr hg7 hc7
          have hgb := HS7.hgb
          have i1 : IntKind.i64.wrap (60 + (b2 : Int)) = 60 + (b2 : Int) := IntWalk.i64_in _ (by omega)
          clear HS6 hc6 hg7
          by_cases hlt : L2.length < 60 + b2
          · have d1 : decide ((L2.length : Int) < 60 + (b2 : Int)) = true := decide_eq_true (by omega)
            go_wp2_with (at_builtin; refine wpList_appT moveT rfl _ _ rfl w.heap.size _ _ rfl HS7.own g HS7.below ⟨0, 1, _⟩ _ rfl 1 1 rfl rfl (by omega) HS7.size (by omega) ?_; intro A4 c4 w9 ho9 hb9 hg9)
            have HS9 := HS7.app ho9 hg9
            obtain ⟨y9, HSX⟩ : ∃ y9 : MoveV, Sta moveT w.heap.size w w9 g A c l (P + 200 + 2 * (L2.length + 1)) (.slice A4 (L2.length + 1) c4) (L2 ++ [y9]) := ⟨_, HS9.more (by omega)⟩
            go_roundw
            case rel => exact ⟨L2 ++ [y9], A4, c4, by simp; omega, by rw [List.length_append]; rfl, by rw [List.length_append]; exact HSX⟩
            case measure => first | (simp; done) | (simp; omega)
          · have d1 : decide ((L2.length : Int) < 60 + (b2 : Int)) = false := decide_eq_false (by omega)
            go_wp2
            go_ret
            exact ⟨L2, A3, c3, by omega, rfl, HS7.more (by omega)⟩
    · have d1 : decide (0 < k) = true := decide_eq_true hk
      have i5 : IntKind.i64.wrap ((k : Int) - 1) = ((k - 1 : Nat) : Int) := by rw [IntWalk.i64_in _ (by omega)]; omega
      obtain ⟨hrd, hnb2⟩ := NR.rd HS.old hgl
      have b0 := BN.cell 0
      have b1 := BN.cell 1
      have b2 := BN.cell 2
      go_wp2_with fail
      refine (bead_any g c _ A l u v A2 c2 R2 _ hl (by omega) hc4 hR2 hrd hnb2).mono ?_
      rintro e w5 ⟨x, y, z, rfl, hc5, hg5⟩
      obtain ⟨w6, hw6⟩ : ∃ w6 : World, w6 = w5.alloc (.cells #[.int .i64 x, .int .i64 y, .int .i64 z] 52) := ⟨_, rfl⟩
      obtain ⟨mb, hmb⟩ : ∃ mb : Nat, mb = w5.heap.size := ⟨_, rfl⟩
      have HS6 : Sta moveT w.heap.size w w6 g A c l (P + 2 + 24 * (8 - k) + 20) (.slice A1 L.length c1) L := by rw [hw6]; exact (HS.gr hg5 hc5).alloc _
      have BN6 : Blk w6 nb 71 #[.int .i64 u, .int .i64 v, .slice A2 R2.length c2] := by rw [hw6]; exact (BN.gr hg5 (by simp; omega)).alloc _
      have NR6 : NowR w w6 g A2 c2 R2 := by rw [hw6]; exact (NR.gr hg5 hgl).kept (World.grownBy_alloc w5 _ none) (fun _ => by cases A2 <;> simp [Value.ownBlock])
      have BM6 : Blk w6 mb 52 #[.int .i64 x, .int .i64 y, .int .i64 z] := by rw [hw6, hmb]; exact Blk.new w5 _ _
      have hnm : g < mb := by have := hc5.lt; omega
      clear HS BN NR hc5 hg5 hc4 b0 b1 b2 hrd hnb2
      go_upto_region 7 with fail
      rw [← hw6, ← hmb]
      clear hw6 hmb
      have b0 := BN6.cell 0
      have b1 := BN6.cell 1
      have b2 := BN6.cell 2
      have m0 := BM6.cell 0
      have m1 := BM6.cell 1
      have m2 := BM6.cell 2
      have hz6 := HS6.size
      go_wp2_with fail
      refine (moveBeads_any u v A2 c2 R2 x y z w6 (by omega) (NR6.rd HS6.old hgl).1).mono ?_
      rintro e w7 ⟨u2, v2, R3, A3, c3, ok, hR3, rfl, or7, hb7⟩
      obtain ⟨w8, hw8⟩ : ∃ w8 : World, w8 = w7.alloc (.cells #[.int .i64 u2, .int .i64 v2, .slice A3 R3.length c3] 71) := ⟨_, rfl⟩
      obtain ⟨xb, hxb⟩ : ∃ xb : Nat, xb = w7.heap.size := ⟨_, rfl⟩
      have HS8 : Sta moveT w.heap.size w w8 g A c l (P + 2 + 24 * (8 - k) + 20) (.slice A1 L.length c1) L := by rw [hw8]; exact (HS6.bel hb7).alloc _
      have BN8 : Blk w8 nb 71 #[.int .i64 u, .int .i64 v, .slice A2 R2.length c2] := by rw [hw8]; exact (BN6.below hb7 BN6.lt).alloc _
      have BM8 : Blk w8 mb 52 #[.int .i64 x, .int .i64 y, .int .i64 z] := by rw [hw8]; exact (BM6.below hb7 BM6.lt).alloc _
      have NR8 : NowR w w8 g A2 c2 R2 := by rw [hw8]; exact (NR6.kept (gr_of_below hb7 none) (fun _ => by cases A2 <;> simp [Value.ownBlock])).kept (World.grownBy_alloc w7 _ none) (fun _ => by cases A2 <;> simp [Value.ownBlock])
      have or8 : OwnT rodT w8 w.heap.size (.slice A3 R3.length c3) R3 := by rw [hw8]; exact (or7.mono hz6).alloc _
      have BX8 : Blk w8 xb 71 #[.int .i64 u2, .int .i64 v2, .slice A3 R3.length c3] := by rw [hw8, hxb]; exact Blk.new w7 _ _
      have hmr : mb < w6.heap.size := BM6.lt
      have hgx : g < xb := by have := hb7.size; omega
      clear b0 b1 b2 m0 m1 m2 BN6 BM6 NR6 HS6 or7 hb7
      go_upto_region 8 with fail
      rw [← hw8, ← hxb]
      clear hw8 hxb
      have m0 := BM8.cell 0
      have m1 := BM8.cell 1
      have m2 := BM8.cell 2
      have hgb := HS8.hgb
      have hc8 := HS8.cur
      cases ok
      · go_wp2_with fail
        refine (one_any g c _ 8 A l _ hl (by omega) (by decide) (by decide) hc8).mono ?_
        rintro e w9 ⟨bo, rfl, hc9, hg9⟩
        have HS9 := HS8.gr hg9 hc9
        have BN9 := BN8.gr hg9 (by simp; omega)
        have BM9 := BM8.gr hg9 (by simp; omega)
        have NR9 := NR8.gr hg9 hgl
        clear HS8 BN8 BM8 NR8 hc8 hg9 m0 m1 m2 or8 BX8
        cases bo
        · go_wp2_with fail
          go_roundw
          case rel => exact ⟨k - 1, L, A1, c1, u, v, R2, A2, c2, rfl, by omega, by omega, rfl, hR2, HS9.more (by omega), BN9, NR9⟩
          case measure => first | (simp [intOf]; done) | (simp [intOf]; omega)
        · have m0 := BM9.cell 0
          have m1 := BM9.cell 1
          have m2 := BM9.cell 2
          go_wp2_with (at_builtin; refine wpList_appT moveT rfl _ _ rfl w.heap.size _ _ rfl HS9.own g HS9.below ⟨x, y, z⟩ _ rfl 1 1 rfl rfl (by omega) HS9.size (by omega) ?_; intro A4 c4 w10 ho10 hb10 hg10)
          have HS10 := HS9.app ho10 hg10
          have BN10 := (BN9.alloc _).gr hg10 (BN9.ne_v HS9.own (by decide))
          have NR10 : NowR w w10 g A2 c2 R2 := NR9.app HS9.own (by decide) hg10
          go_roundw
          case rel => exact ⟨k - 1, L ++ [⟨x, y, z⟩], A4, c4, u, v, R2, A2, c2, rfl, by omega, by simp; omega, by rw [List.length_append]; rfl, hR2, by rw [List.length_append]; exact HS10.more (by omega), BN10, NR10⟩
          case measure => first | (simp [intOf]; done) | (simp [intOf]; omega)
      · go_upto_region 10 with (at_builtin; refine wpList_appT moveT rfl _ _ rfl w.heap.size _ _ rfl HS8.own g HS8.below ⟨x, y, z⟩ _ rfl 1 1 rfl rfl (by omega) HS8.size (by omega) ?_; intro A4 c4 w10 ho10 hb10 hg10)
        have HS10 := HS8.app ho10 hg10
        have BN10 := (BN8.alloc _).gr hg10 (BN8.ne_v HS8.own (by decide))
        have BX10 := (BX8.alloc _).gr hg10 (BX8.ne_v HS8.own (by decide))
        have or10 := (or8.alloc _).kept hg10 (own_apart HS8.own or8 (by decide)).symm
        clear HS8 BN8 BX8 or8 NR8 BM8 m0 m1 m2 hc8
        have x0 := BX10.cell 0
        have x1 := BX10.cell 1
        have x2 := BX10.cell 2
        have f0 := BN10.frozen 0
        have f1 := BN10.frozen 1
        have f2 := BN10.frozen 2
        have n0 := BN10.cell 0
        have n1 := BN10.cell 1
        have n2 := BN10.cell 2
        have hap : ApartV (boxV nb) (.slice A4 (L.length + 1) c4) := .inr (BN10.ne_v HS10.own (by decide))
        have HSF := ((HS10.put hap hwn 0 (.int .i64 u2)).put hap hwn 1 (.int .i64 v2)).put hap hwn 2 (.slice A3 R3.length c3)
        have BNF := ((BN10.set_ 0 (.int .i64 u2)).set_ 1 (.int .i64 v2)).set_ 2 (.slice A3 R3.length c3)
        have orF := own_set3 or10 (BN10.ne_v or10 (by decide)) (.int .i64 u2) (.int .i64 v2) (.slice A3 R3.length c3)
        go_wp2_with fail
        go_roundw
        case rel => exact ⟨k - 1, L ++ [⟨x, y, z⟩], A4, c4, u2, v2, R3, A3, c3, rfl, by omega, by simp; omega, by rw [List.length_append]; rfl, by omega, by rw [List.length_append]; exact HSF.more (by omega), BNF, .inr orF⟩
        case measure => first | (simp [intOf]; done) | (simp [intOf]; omega)
end Go.Proofs.Ytkcbldaondflmaa
