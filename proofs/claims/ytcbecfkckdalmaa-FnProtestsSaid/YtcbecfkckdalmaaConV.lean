/-
  The draw of solved rows, and of a solver.
-/
import Derived.Test.YtcbecfkckdalmaaConU
namespace Go.Proofs.Ytcbecfkckdalmaa
open Go.RowKit Go.Lib Go.Lib.Hx

theorem Sta.fresh {base : Nat} {W w : World} {g c P : Nat} {A : Option Addr} {l : List (Fin 256)} {v : Value} {out : List SolvedV} (h : Sta solvedT base W w g A c l P v out) : Sta solvedT base W (w.alloc (.cells #[] 25)) g A c l P (.slice (some ⟨w.heap.size, 0, none⟩) 0 0) [] :=
  ⟨ownSolved_empty w base h.size, h.cur.kept (World.grownBy_alloc w _ none) (by simp), h.old.trans (World.grownBy_alloc w _ (some g)), Nat.le_trans h.size (by simp), h.lo, h.le⟩
set_option maxRecDepth 100000 in
set_option maxHeartbeats 8000000 in
theorem solves_any (g c P : Nat) (A : Option Addr) (l : List (Fin 256)) (w : World) (hl : l.length ≤ 65536) (hP : P ≤ 600000000) (h : Cur w g A c l P) :
    Calls Try.prog 82 #[.pointer (some ⟨g, 0, none⟩)] w fun e w' => ∃ (out : List SolvedV) (A' : Option Addr) (c' : Nat), out.length ≤ 13 ∧ e = .returned (.slice A' out.length c') ∧ Sta solvedT w.heap.size w w' g A c l (P + 1000) (.slice A' out.length c') out := by
  have hgl := h.lt
  obtain ⟨w0, hw0⟩ : ∃ w0 : World, w0 = w.alloc (.cells #[] 25) := ⟨_, rfl⟩
  have HS0 : Sta solvedT w.heap.size w w0 g A c l P (.slice (some ⟨w.heap.size, 0, none⟩) 0 0) [] := by
    rw [hw0]
    exact ⟨ownSolved_empty w w.heap.size (Nat.le_refl _), h.kept (World.grownBy_alloc w _ none) (by simp), World.grownBy_alloc w _ (some g), by simp, hgl, Nat.le_refl _⟩
  have hc0 := HS0.cur
  go_enter Try.func82, Try.ntmps82
  go_upto_region 2 with fail
  rw [← hw0]
  clear hw0
  go_wp2_with fail
  refine (pick_any g c P 2 A l _ hl (by omega) (by decide) (by decide) hc0).mono ?_
  rintro e w1 ⟨a0, ha0, rfl, hc1, hg1⟩
  have HS1 := HS0.gr hg1 hc1
  have i0 : IntKind.i64.wrap (1 + (a0 : Int)) = 1 + (a0 : Int) := IntWalk.i64_in _ (by omega)
  clear HS0 hc0 hg1
  go_wp2_with fail
  refine (pick_any g c _ 10 A l _ hl (by omega) (by decide) (by decide) hc1).mono ?_
  rintro e w2 ⟨n0, hn0, rfl, hc2, hg2⟩
  have HS2 := HS1.gr hg2 hc2
  clear HS1 hc1 hg2 hc2
  go_wp2_with fail
  go_loopw [3, 4, 5, 6] (fun o p t n wr => ∃ (k : Nat) (out : List SolvedV) (A' : Option Addr) (c' : Nat) (pu he : Int), out.length + k ≤ 9 ∧ n = .int .i64 k ∧ o = .slice A' out.length c' ∧ p = .int .i64 pu ∧ t = .int .i64 he ∧ (0 ≤ pu ∧ pu ≤ 1 + 3 * out.length) ∧ (0 ≤ he ∧ he ≤ 4) ∧ Sta solvedT w.heap.size w wr g A c l (P + 4 + 30 * out.length) (.slice A' out.length c') out) (fun _ _ _ n _ => (intOf n).toNat)
  case atStart => exact ⟨n0, [], _, 0, 1, 1 + (a0 : Int), by simp; omega, rfl, rfl, rfl, rfl, by simp, by omega, HS2.more (by omega)⟩
  case round =>
    obtain ⟨k, out, A', c', pu, he, hk, rfl, rfl, rfl, rfl, hpu, hhe, HS⟩ := hrel
    clear HS2 i0
    rcases Nat.eq_zero_or_pos k with hk0 | hk0
    · have d1 : decide (0 < k) = false := decide_eq_false (by omega)
      have hc3 := HS.cur
      clear hk0
      go_wp2_with fail
      refine (pick_any g c _ 40 A l _ hl (by omega) (by decide) (by decide) hc3).mono ?_
      rintro e w3 ⟨b, hb, rfl, hc4, hg4⟩
      have HS4 := HS.gr hg4 hc4
      clear HS hc3 hg4 d1
      rcases (show b = 0 ∨ b = 1 ∨ (¬ b = 0 ∧ ¬ b = 1) by omega) with rfl | rfl | ⟨hn0, hn1⟩
      · go_wp2_with fail
        refine (solved_any g c _ A l 1 1 _ hl (by omega) hc4).mono ?_
        rintro e w5 ⟨x, rfl, hc5, hg5⟩
        have HS5 := HS4.gr hg5 hc5
        have hgb := HS5.hgb
        clear HS4 hc4 hg5
        unfold svV
        go_wp2_with (at_builtin; refine wpList_appT solvedT rfl _ _ rfl w.heap.size _ _ rfl HS5.own g HS5.below x _ rfl 1 1 rfl rfl (by omega) HS5.size (by omega) ?_; intro A3 c3 w9 ho9 hb9 hg9)
        have HS9 := HS5.app ho9 hg9
        go_ret
        exact ⟨out ++ [x], A3, c3, by simp; omega, by rw [List.length_append]; rfl, by rw [List.length_append]; exact HS9.more (by omega)⟩
      · go_upto_region 16 with fail
        have HS5 := HS4.fresh
        obtain ⟨w5, hw5⟩ : ∃ w5 : World, w5 = w3.alloc (.cells #[] 25) := ⟨_, rfl⟩
        obtain ⟨nb, hnb⟩ : ∃ nb : Nat, nb = w3.heap.size := ⟨_, rfl⟩
        rw [← hw5, ← hnb] at HS5
        rw [← hw5, ← hnb]
        clear hw5 hnb HS4 hc4
        go_wp2_with fail
        go_loopw [3, 7] (fun o i wy => ∃ (m : Nat) (o2 : List SolvedV) (A2 : Option Addr) (c2 : Nat), m ≤ 13 ∧ o2.length ≤ m ∧ i = .int .i64 m ∧ o = .slice A2 o2.length c2 ∧ Sta solvedT w.heap.size w wy g A c l (P + 400 + 4 * m) (.slice A2 o2.length c2) o2) (fun _ i _ => 14 - (intOf i).toNat)
        case atStart => exact ⟨0, [], _, 0, by omega, by simp, rfl, rfl, HS5.more (by omega)⟩
        case round =>
          obtain ⟨m, o2, A2, c2, hm, hol, rfl, rfl, HS6⟩ := hrel
          clear HS5
          have hc6 := HS6.cur
          go_wp2_with fail
          refine (pick_any g c _ 2 A l _ hl (by omega) (by decide) (by decide) hc6).mono ?_
          rintro e w7 ⟨b2, hb2, rfl, hc7, hg7⟩
          have HS7 := HS6.gr hg7 hc7
          have hgb := HS7.hgb
          have i1 : IntKind.i64.wrap (12 + (b2 : Int)) = 12 + (b2 : Int) := IntWalk.i64_in _ (by omega)
          clear HS6 hc6 hg7
          by_cases hlt : m < 12 + b2
          · have d1 : decide ((m : Int) < 12 + (b2 : Int)) = true := decide_eq_true (by omega)
            have t1 : IntKind.i64.wrap (Int.tdiv (m : Int) 3) = (m : Int) / 3 := by rw [Int.tdiv_eq_ediv_of_nonneg (by omega)]; exact IntWalk.i64_in _ (by omega)
            have t2 : IntKind.i64.wrap (1 + (m : Int) / 3) = 1 + (m : Int) / 3 := IntWalk.i64_in _ (by omega)
            have t3 : IntKind.i64.wrap (Int.tmod (m : Int) 3) = (m : Int) % 3 := by rw [Int.tmod_eq_emod_of_nonneg (by omega)]; exact IntWalk.i64_in _ (by omega)
            have t4 : IntKind.i64.wrap (1 + (m : Int) % 3) = 1 + (m : Int) % 3 := IntWalk.i64_in _ (by omega)
            go_wp2_with (at_builtin; refine wpList_appT solvedT rfl _ _ rfl w.heap.size _ _ rfl HS7.own g HS7.below ⟨1 + (m : Int) / 3, 1 + (m : Int) % 3, 7, 0, 60⟩ _ rfl 1 1 rfl rfl (by omega) HS7.size (by omega) ?_; intro A3 c3 w9 ho9 hb9 hg9)
            have HS9 := HS7.app ho9 hg9
            go_roundw
            case rel => exact ⟨m + 1, o2 ++ [⟨1 + (m : Int) / 3, 1 + (m : Int) % 3, 7, 0, 60⟩], A3, c3, by omega, by simp; omega, by go_num, by rw [List.length_append]; rfl, by rw [List.length_append]; exact HS9.more (by omega)⟩
            case measure => first | (simp [intOf]; done) | (simp [intOf]; omega)
          · have d1 : decide ((m : Int) < 12 + (b2 : Int)) = false := decide_eq_false (by omega)
            go_wp2
            go_ret
            exact ⟨o2, A2, c2, by omega, rfl, HS7.more (by omega)⟩
      · go_wp2
        go_ret
        exact ⟨out, A', c', by omega, rfl, HS4.more (by omega)⟩
    · have d1 : decide (0 < k) = true := decide_eq_true hk0
      have hc3 := HS.cur
      go_wp2_with fail
      refine (solved_any g c _ A l pu he _ hl (by omega) hc3).mono ?_
      rintro e w5 ⟨x, rfl, hc5, hg5⟩
      have HS5 := HS.gr hg5 hc5
      have hgb := HS5.hgb
      clear HS hc3 hg5
      unfold svV
      go_upto_region 7 with (at_builtin; refine wpList_appT solvedT rfl _ _ rfl w.heap.size _ _ rfl HS5.own g HS5.below x _ rfl 1 1 rfl rfl (by omega) HS5.size (by omega) ?_; intro A3 c3 w9 ho9 hb9 hg9)
      have HS9 := HS5.app ho9 hg9
      have hc9 := HS9.cur
      have i1 : IntKind.i64.wrap (he + 1) = he + 1 := IntWalk.i64_in _ (by omega)
      have i3 : IntKind.i64.wrap (pu + 1) = pu + 1 := IntWalk.i64_in _ (by omega)
      have i5 : IntKind.i64.wrap ((k : Int) - 1) = ((k - 1 : Nat) : Int) := by rw [IntWalk.i64_in _ (by omega)]; omega
      clear HS5 hc5 ho9 hb9 hg9
      go_wp2_with fail
      refine (pick_any g c _ 2 A l _ hl (by omega) (by decide) (by decide) hc9).mono ?_
      rintro e w10 ⟨b3, hb3, rfl, hc10, hg10⟩
      have HS10 := HS9.gr hg10 hc10
      have i2 : IntKind.i64.wrap (he + 1 + (b3 : Int)) = he + 1 + (b3 : Int) := IntWalk.i64_in _ (by omega)
      clear HS9 hc9 hg10
      by_cases h4 : 4 < he + 1 + (b3 : Int)
      · have d4 : decide (4 < he + 1 + (b3 : Int)) = true := decide_eq_true h4
        go_wp2_with fail
        refine (pick_any g c _ 2 A l _ hl (by omega) (by decide) (by decide) hc10).mono ?_
        rintro e w11 ⟨b4, hb4, rfl, hc11, hg11⟩
        have HS11 := HS10.gr hg11 hc11
        have i4 : IntKind.i64.wrap (pu + 1 + (b4 : Int)) = pu + 1 + (b4 : Int) := IntWalk.i64_in _ (by omega)
        clear HS10 hc10 hg11
        go_wp2_with fail
        refine (pick_any g c _ 3 A l _ hl (by omega) (by decide) (by decide) hc11).mono ?_
        rintro e w12 ⟨b5, hb5, rfl, hc12, hg12⟩
        have HS12 := HS11.gr hg12 hc12
        have i6 : IntKind.i64.wrap (1 + (b5 : Int)) = 1 + (b5 : Int) := IntWalk.i64_in _ (by omega)
        clear HS11 hc11 hg12
        go_wp2_with fail
        go_roundw
        case rel => exact ⟨k - 1, out ++ [x], A3, c3, pu + 1 + (b4 : Int), 1 + (b5 : Int), by simp; omega, rfl, by rw [List.length_append]; rfl, rfl, rfl, by simp; omega, by omega, by rw [List.length_append]; exact HS12.more (by simp; omega)⟩
        case measure => first | (simp [intOf]; done) | (simp [intOf]; omega)
      · have d4 : decide (4 < he + 1 + (b3 : Int)) = false := decide_eq_false h4
        go_wp2_with fail
        refine (one_any g c _ 2 A l _ hl (by omega) (by decide) (by decide) hc10).mono ?_
        rintro e w11 ⟨bo, rfl, hc11, hg11⟩
        have HS11 := HS10.gr hg11 hc11
        clear HS10 hc10 hg11
        cases bo
        · go_wp2_with fail
          go_roundw
          case rel => exact ⟨k - 1, out ++ [x], A3, c3, pu, he + 1 + (b3 : Int), by simp; omega, rfl, by rw [List.length_append]; rfl, rfl, rfl, by simp; omega, by omega, by rw [List.length_append]; exact HS11.more (by simp; omega)⟩
          case measure => first | (simp [intOf]; done) | (simp [intOf]; omega)
        · go_wp2_with fail
          refine (pick_any g c _ 2 A l _ hl (by omega) (by decide) (by decide) hc11).mono ?_
          rintro e w12 ⟨b4, hb4, rfl, hc12, hg12⟩
          have HS12 := HS11.gr hg12 hc12
          have i4 : IntKind.i64.wrap (pu + 1 + (b4 : Int)) = pu + 1 + (b4 : Int) := IntWalk.i64_in _ (by omega)
          clear HS11 hc11 hg12
          go_wp2_with fail
          refine (pick_any g c _ 3 A l _ hl (by omega) (by decide) (by decide) hc12).mono ?_
          rintro e w13 ⟨b5, hb5, rfl, hc13, hg13⟩
          have HS13 := HS12.gr hg13 hc13
          have i6 : IntKind.i64.wrap (1 + (b5 : Int)) = 1 + (b5 : Int) := IntWalk.i64_in _ (by omega)
          clear HS12 hc12 hg13
          go_wp2_with fail
          go_roundw
          case rel => exact ⟨k - 1, out ++ [x], A3, c3, pu + 1 + (b4 : Int), 1 + (b5 : Int), by simp; omega, rfl, by rw [List.length_append]; rfl, rfl, rfl, by simp; omega, by omega, by rw [List.length_append]; exact HS13.more (by simp; omega)⟩
          case measure => first | (simp [intOf]; done) | (simp [intOf]; omega)
set_option maxHeartbeats 2000000 in
theorem solver_any (g c P : Nat) (A : Option Addr) (l : List (Fin 256)) (AS : Option Addr) (cs : Nat) (s : List SolvedV) (w : World) (hl : l.length ≤ 65536) (hP : P ≤ 600000000) (h : Cur w g A c l P) (hn : s.length ≤ 13) (hr : RdT solvedT w AS s) (hne : ∀ b off, AS = some ⟨b, off, none⟩ → b ≠ g) :
    Calls Try.prog 85 #[.pointer (some ⟨g, 0, none⟩), .slice AS s.length cs] w fun e w' => ∃ x : Int, e = .returned (.int .i64 x) ∧ Cur w' g A c l (P + 4) ∧ w.grownBy w' (some g) := by
  rcases Nat.eq_zero_or_pos s.length with h0 | h0
  · have d0 : ((s.length : Int) == 0) = true := by rw [beq_iff_eq]; omega
    go_enter Try.func85, Try.ntmps85
    go_wp2_with fail
    refine (among_lit g c _ A l [0, 1, 500] 3 w _ rfl rfl hl (by omega) (by decide) (by decide) h).mono ?_
    rintro e w2 ⟨x, _, rfl, hc2, hg2⟩
    go_wp2
    go_ret
    exact ⟨x, rfl, hc2.more (by omega), hg2⟩
  · have d0 : ((s.length : Int) == 0) = false := by rw [beq_eq_false_iff_ne]; omega
    go_enter Try.func85, Try.ntmps85
    go_wp2_with fail
    refine (one_any g c _ 10 A l _ hl (by omega) (by decide) (by decide) h).mono ?_
    rintro e w1 ⟨bo, rfl, hc1, hg1⟩
    have hr1 := hr.grown solvedT hg1 (fun _ b off hA he => by cases he; exact hne _ _ hA rfl)
    clear d0
    cases bo
    · go_wp2_with fail
      refine (pick_any g c _ s.length A l _ hl (by omega) h0 (by omega) hc1).mono ?_
      rintro e w2 ⟨k, hk, rfl, hc2, hg2⟩
      have hr2 := hr1.grown solvedT hg2 (fun _ b off hA he => by cases he; exact hne _ _ hA rfl)
      obtain ⟨b, off, pu, he, ri, wg, ti, rfl, hx, hlt, e0, e1, e2, e3, e4⟩ := solvedT_at hr2 hk
      have j1 : (k : Int) < (s.length : Int) := by omega
      clear hx
      go_wp2
      go_ret
      exact ⟨pu, rfl, hc2.more (by omega), hg1.trans hg2⟩
    · go_wp2_with fail
      refine (among_lit g c _ A l [0, 1, 500] 3 w1 _ rfl rfl hl (by omega) (by decide) (by decide) hc1).mono ?_
      rintro e w2 ⟨x, _, rfl, hc2, hg2⟩
      go_wp2
      go_ret
      exact ⟨x, rfl, hc2.more (by omega), hg1.trans hg2⟩
end Go.Proofs.Ytcbecfkckdalmaa
