/-
  The draw of a list of answers.
-/
import Derived.Test.YtcljnfmlakpflaaBugP
namespace Go.Proofs.Ytcljnfmlakpflaa
open Go.RowKit Go.Lib Go.Lib.Hx

set_option maxRecDepth 100000 in
set_option maxHeartbeats 4000000 in
theorem answers_any (g c P : Nat) (A : Option Addr) (l : List (Fin 256)) (w : World) (hl : l.length ≤ 65536) (hP : P ≤ 700000000) (h : Cur w g A c l P) :
    Calls Try.prog 86 #[.pointer (some ⟨g, 0, none⟩)] w fun e w' => ∃ (out : List (Int × Int × Int)) (A' : Option Addr) (c' : Nat), out.length ≤ 13 ∧ e = .returned (.slice A' out.length c') ∧ RdT tripT w' A' out ∧ Below g w w' := by
  have hgl := h.lt
  have he := OwnT.empty3 w w.heap.size (Nat.le_refl _)
  have hb0 : Below g w (w.alloc (.cells #[] 54)) := (Below.refl _ _).alloc (by omega) _
  obtain ⟨w0, hw0⟩ : ∃ w0 : World, w0 = w.alloc (.cells #[] 54) := ⟨_, rfl⟩
  have h0 : Cur w0 g A c l P := by rw [hw0]; exact h.kept (World.grownBy_alloc w _ none) (by simp)
  have hz0 : w.heap.size ≤ w0.heap.size := by rw [hw0]; simp
  rw [← hw0] at he hb0
  go_enter Try.func86, Try.ntmps86
  go_wp2_with fail
  rw [← hw0]
  clear hw0
  refine (pick_any g c P 6 A l _ hl (by omega) (by decide) (by decide) h0).mono ?_
  rintro e w1 ⟨bug, hbug, rfl, hc1, hg1⟩
  have ho1 := OwnT.cur he hg1 hgl
  have hb1 := hb0.grown hg1 (by omega) (fun k hk => by cases hk; exact Nat.le_refl _)
  have hz1 : w.heap.size ≤ w1.heap.size := Nat.le_trans hz0 hg1.size
  clear he hb0 h0 hg1 hz0
  go_wp2_with fail
  refine (pick_any g c _ 5 A l _ hl (by omega) (by decide) (by decide) hc1).mono ?_
  rintro e w2 ⟨m0, hm0, rfl, hc2, hg2⟩
  have ho2 := OwnT.cur ho1 hg2 hgl
  have hb2 := hb1.grown hg2 (by omega) (fun k hk => by cases hk; exact Nat.le_refl _)
  have hz2 : w.heap.size ≤ w2.heap.size := Nat.le_trans hz1 hg2.size
  have i0 : IntKind.i64.wrap (1 + (m0 : Int)) = 1 + (m0 : Int) := IntWalk.i64_in _ (by omega)
  clear ho1 hb1 hz1 hg2 hc1
  go_wp2
  go_loopw [3, 5] (fun o n wr => ∃ (m : Nat) (out : List (Int × Int × Int)) (A' : Option Addr) (c' : Nat), m ≤ 6 ∧ out.length + m ≤ 6 ∧ 1 ≤ out.length + m ∧ n = .int .i64 m ∧ o = .slice A' out.length c' ∧ OwnT tripT wr w.heap.size (.slice A' out.length c') out ∧ Cur wr g A c l (P + 4 + 40 * (6 - m)) ∧ Below g w wr ∧ w.heap.size ≤ wr.heap.size) (fun _ n _ => (intOf n).toNat)
  case atStart => exact ⟨m0 + 1, [], _, _, by omega, by simp; omega, by simp, by go_num, rfl, ho2, hc2.more (by omega), hb2, hz2⟩
  case round =>
    obtain ⟨m, out, A', c', hm, hom, hom1, rfl, rfl, ho, hc, hb, hz⟩ := hrel
    clear ho2 hc2 hb2 hz2
    by_cases hm0 : 0 < m
    · obtain ⟨j, rfl⟩ : ∃ j, m = j + 1 := ⟨m - 1, by omega⟩
      go_wp2_with fail
      refine (task_any g c _ A l _ hl (by omega) hc).mono ?_
      rintro e w3 ⟨p, q, rfl, hc3, hg3⟩
      go_wp2_with fail
      refine (among_lit g c _ A l [0, 5, 25, 300, 9999] 5 w3 _ rfl rfl hl (by omega) (by decide) (by decide) hc3).mono ?_
      rintro e w4 ⟨r, _, rfl, hc4, hg4⟩
      have hg34 := hg3.trans hg4
      have ho4 := OwnT.cur ho hg34 hgl
      have hb4 := hb.grown hg34 (by omega) (fun k hk => by cases hk; exact Nat.le_refl _)
      have hz4 : w.heap.size ≤ w4.heap.size := Nat.le_trans hz hg34.size
      clear ho hc hb hz hg3 hg4 hg34 hc3
      have HT := Lib.hid (fun W => l16Task_any p q W)
      cases ht : taskB p q
      · rw [ht] at HT
        go_wp2_with (first | (go_at_call 51; refine (HT.out _).mono ?_; rintro e w9 ⟨rfl, rfl⟩) | (at_builtin; refine wpList_appT tripT rfl _ _ rfl w.heap.size _ _ rfl ho4 g hb4 (p, q, r) _ rfl 1 1 rfl rfl (by omega) hz4 (by omega) ?_; intro A3 c3 w7 ho7 hb7 hg7))
        go_roundw
        case rel => exact ⟨j, out ++ [(p, q, r)], A3, c3, by omega, by simp; omega, by simp; omega, by go_num, by rw [List.length_append]; rfl, by rw [List.length_append]; exact ho7, (hc4.kept (World.grownBy_alloc _ _ none) (by simp) |>.kept hg7 (fun r hr => by have := (ho4.lt r hr).1; omega)).more (by omega), hb7, Nat.le_trans (Nat.le_trans hz4 (by simp)) hg7.size⟩
        case measure => first | (simp [intOf]; done) | (simp [intOf]; omega)
      · rw [ht] at HT
        obtain ⟨⟨ha, ha'⟩, hq0, hq1⟩ := (taskB_iff p q).1 ht
        go_wp2_with (go_at_call 51; refine (HT.out _).mono ?_; rintro e w9 ⟨rfl, rfl⟩)
        refine (one_any g c _ 5 A l _ hl (by omega) (by decide) (by decide) hc4).mono ?_
        rintro e w5 ⟨ob, rfl, hc5, hg5⟩
        have ho5 := OwnT.cur ho4 hg5 hgl
        have hb5 := hb4.grown hg5 (by omega) (fun k hk => by cases hk; exact Nat.le_refl _)
        have hz5 : w.heap.size ≤ w5.heap.size := Nat.le_trans hz4 hg5.size
        clear ho4 hb4 hz4 hc4 hg5
        cases ob
        · have HA := Lib.hid (fun W => l16Answer_any bug p q W (by omega) (by omega) ha ha' hq0 (by omega))
          go_wp2_with fail
          refine (HA.out _).mono ?_
          rintro e w6 ⟨rfl, hb6⟩
          have ho6 := ho5.below hb6 (Nat.le_refl _)
          have hb7 := hb5.trans (hb6.mono (by omega))
          have hz6 : w.heap.size ≤ w6.heap.size := Nat.le_trans hz5 hb6.size
          have hc6 : Cur w6 g A c l _ := hc5.kept (row := none) (grownBy_below (World.grownBy.refl _ _) hb6) (by simp)
          generalize ansV bug p q = r2 at *
          clear ho5 hb5 hz5 hc5 hb6 HA
          go_wp2_with (at_builtin; refine wpList_appT tripT rfl _ _ rfl w.heap.size _ _ rfl ho6 g hb7 (p, q, r2) _ rfl 1 1 rfl rfl (by omega) hz6 (by omega) ?_; intro A3 c3 w7 ho7 hb8 hg7)
          go_roundw
          case rel => exact ⟨j, out ++ [(p, q, r2)], A3, c3, by omega, by simp; omega, by simp; omega, by go_num, by rw [List.length_append]; rfl, by rw [List.length_append]; exact ho7, (hc6.kept (World.grownBy_alloc _ _ none) (by simp) |>.kept hg7 (fun r hr => by have := (ho6.lt r hr).1; omega)).more (by omega), hb8, Nat.le_trans (Nat.le_trans hz6 (by simp)) hg7.size⟩
          case measure => first | (simp [intOf]; done) | (simp [intOf]; omega)
        · go_wp2_with (at_builtin; refine wpList_appT tripT rfl _ _ rfl w.heap.size _ _ rfl ho5 g hb5 (p, q, r) _ rfl 1 1 rfl rfl (by omega) hz5 (by omega) ?_; intro A3 c3 w7 ho7 hb7 hg7)
          go_roundw
          case rel => exact ⟨j, out ++ [(p, q, r)], A3, c3, by omega, by simp; omega, by simp; omega, by go_num, by rw [List.length_append]; rfl, by rw [List.length_append]; exact ho7, (hc5.kept (World.grownBy_alloc _ _ none) (by simp) |>.kept hg7 (fun r hr => by have := (ho5.lt r hr).1; omega)).more (by omega), hb7, Nat.le_trans (Nat.le_trans hz5 (by simp)) hg7.size⟩
          case measure => first | (simp [intOf]; done) | (simp [intOf]; omega)
    · obtain rfl : m = 0 := by omega
      go_wp2_with fail
      refine (pick_any g c _ 32 A l _ hl (by omega) (by decide) (by decide) hc).mono ?_
      rintro e w5 ⟨b, hb32, rfl, hc5, hg5⟩
      have ho5 := OwnT.cur ho hg5 hgl
      have hb5 := hb.grown hg5 (by omega) (fun k hk => by cases hk; exact Nat.le_refl _)
      have hz5 : w.heap.size ≤ w5.heap.size := Nat.le_trans hz hg5.size
      clear ho hb hz hc hg5
      rcases (show b = 0 ∨ b = 1 ∨ b = 2 ∨ (¬ b = 0 ∧ ¬ b = 1 ∧ ¬ b = 2) by omega) with rfl | rfl | rfl | ⟨hbn0, hbn1, hbn2⟩
      · go_wp2
        go_ret
        exact ⟨[], some ⟨w5.heap.size, 0, none⟩, 0, by simp, rfl, (OwnT.empty3 w5 0 (Nat.zero_le _)).rd, hb5.alloc (by omega) _⟩
      · go_wp2_with fail
        refine (among_lit g c _ A l [-1, 10000] 2 w5 _ rfl rfl hl (by omega) (by decide) (by decide) hc5).mono ?_
        rintro e w6 ⟨y, _, rfl, hc6, hg6⟩
        have ho6 := OwnT.cur ho5 hg6 hgl
        have hb6 := hb5.grown hg6 (by omega) (fun k hk => by cases hk; exact Nat.le_refl _)
        have hz6 : w.heap.size ≤ w6.heap.size := Nat.le_trans hz5 hg6.size
        clear ho5 hb5 hz5 hc5 hg6
        have hpos : 0 < out.length := by omega
        obtain ⟨g6, rfl, hg6b, _⟩ := ho6.head hpos
        have hx0 : out[0]? = some (out[0]'hpos) := List.getElem?_eq_getElem hpos
        have s0 := ho6.cell hx0 0 _ rfl
        have s1 := ho6.cell hx0 1 _ rfl
        have s2 := ho6.cell hx0 2 _ rfl
        have f0 := ho6.frozen 0
        have f1 := ho6.frozen 1
        have f2 := ho6.frozen 2
        simp only [Nat.zero_mul, Nat.zero_add] at s0 s1 s2
        have hset := ho6.set hpos (5, 3, y)
        have hj : (0 : Int) < (out.length : Int) := by omega
        go_wp2
        go_ret
        exact ⟨out.set 0 (5, 3, y), _, c', by rw [List.length_set]; omega, by rw [List.length_set]; rfl, hset.1.rd, hb6.grown hset.2 (by omega) (fun k hk => by cases hk; omega)⟩
      · go_wp2
        go_loopw [3] (fun o wy => ∃ (o2 : List (Int × Int × Int)) (A2 : Option Addr) (c2 : Nat), o2.length ≤ 13 ∧ o = .slice A2 o2.length c2 ∧ OwnT tripT wy w.heap.size (.slice A2 o2.length c2) o2 ∧ Cur wy g A c l (P + 400 + 4 * o2.length) ∧ Below g w wy ∧ w.heap.size ≤ wy.heap.size) (fun o _ => 13 - (match o with | .slice _ n _ => n | _ => 0))
        case atStart => exact ⟨out, _, c', by omega, rfl, ho5, hc5.more (by omega), hb5, hz5⟩
        case round =>
          obtain ⟨o2, A2, c2, hn2, rfl, ho, hc, hb, hz⟩ := hrel
          clear ho5 hc5 hb5 hz5
          go_wp2_with fail
          refine (pick_any g c _ 2 A l _ hl (by omega) (by decide) (by decide) hc).mono ?_
          rintro e w6 ⟨x, hx, rfl, hc6, hg6⟩
          have ho6 := OwnT.cur ho hg6 hgl
          have hb6 := hb.grown hg6 (by omega) (fun k hk => by cases hk; exact Nat.le_refl _)
          have hz6 : w.heap.size ≤ w6.heap.size := Nat.le_trans hz hg6.size
          have i1 : IntKind.i64.wrap (10 + (x : Int)) = 10 + (x : Int) := IntWalk.i64_in _ (by omega)
          clear ho hb hz hc hg6
          by_cases hlt : o2.length < 10 + x
          · have d1 : decide (o2.length < 10 + x) = true := decide_eq_true hlt
            go_wp2_with (at_builtin; refine wpList_appT tripT rfl _ _ rfl w.heap.size _ _ rfl ho6 g hb6 ((52 : Int), 27, 35) _ rfl 1 1 rfl rfl (by omega) hz6 (by omega) ?_; intro A3 c3 w7 ho7 hb7 hg7)
            go_roundw
            case rel => exact ⟨o2 ++ [((52 : Int), 27, 35)], A3, c3, by simp; omega, by rw [List.length_append]; rfl, by rw [List.length_append]; exact ho7, (hc6.kept (World.grownBy_alloc _ _ none) (by simp) |>.kept hg7 (fun r hr => by have := (ho6.lt r hr).1; omega)).more (by simp; omega), hb7, Nat.le_trans (Nat.le_trans hz6 (by simp)) hg7.size⟩
            case measure => simp; omega
          · have d1 : decide (o2.length < 10 + x) = false := decide_eq_false hlt
            go_wp2
            go_ret
            exact ⟨o2, _, c2, hn2, rfl, ho6.rd, hb6⟩
      · go_wp2
        go_ret
        exact ⟨out, _, c', by omega, rfl, ho5.rd, hb5⟩
set_option maxHeartbeats 1000000 in
theorem drawForAll_any (A : Option Addr) (c : Nat) (l : List (Fin 256)) (w : World) (hl : l.length ≤ 65536) (h : RdT byteT w A l) :
    Calls Try.prog 79 #[.slice A l.length c] w fun e w' => ∃ (out : List (Int × Int × Int)) (A' : Option Addr) (c' : Nat), out.length ≤ 13 ∧ e = .returned (.slice A' out.length c') ∧ RdT tripT w' A' out ∧ Below w.heap.size w w' := by
  have hC := Cur.new (c := c) h
  have hb0 : Below w.heap.size w (w.alloc (.cells #[.slice A l.length c, .int .i64 0, .int .u64 0] 72)) := (Below.refl _ _).alloc (Nat.le_refl _) _
  go_enter Try.func79, Try.ntmps79
  go_wp2_with fail
  refine (answers_any w.heap.size c 0 A l _ hl (by omega) hC).mono ?_
  rintro e w1 ⟨out, A', c', hn, rfl, ho, hb⟩
  go_wp2
  go_ret
  exact ⟨out, A', c', hn, rfl, ho, hb0.trans hb⟩
theorem drawBest_any (A : Option Addr) (c : Nat) (l : List (Fin 256)) (w : World) (hl : l.length ≤ 65536) (h : RdT byteT w A l) :
    Calls Try.prog 47 #[.slice A l.length c] w fun e w' => ∃ (out : List (Int × Int × Int)) (A' : Option Addr) (c' : Nat), out.length ≤ 13 ∧ e = .returned (.slice A' out.length c') ∧ RdT tripT w' A' out ∧ Below w.heap.size w w' := by
  go_enter Try.func47, Try.ntmps47
  go_wp2_with fail
  refine (drawForAll_any A c l w hl h).mono ?_
  rintro e w1 ⟨out, A', c', hn, rfl, ho, hb⟩
  go_wp2
  go_ret
  exact ⟨out, A', c', hn, rfl, ho, hb⟩
end Go.Proofs.Ytcljnfmlakpflaa
