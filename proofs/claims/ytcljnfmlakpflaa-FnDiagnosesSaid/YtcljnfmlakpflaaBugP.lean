/-
  The draws of lists of the bugs' laws.
-/
import Derived.Test.YtcljnfmlakpflaaBugO
import Derived.Test.YtcljnfmlakpflaaBugH
namespace Go.Proofs.Ytcljnfmlakpflaa
open Go.RowKit Go.Lib Go.Lib.Hx

theorem OwnT.cur {α : Type} {T : Ty α} {w w' : World} {base g : Nat} {v : Value} {l : List α} (h : OwnT T w base v l) (hg : w.grownBy w' (some g)) (hlt : g < base) : OwnT T w' base v l :=
  h.kept hg (by
    cases hv : v.ownBlock with
    | none => exact .inl rfl
    | some k => exact .inr (fun he => by injection he with he; have := (h.lt k hv).1; omega))
theorem OwnT.empty2 (w : World) (base : Nat) (hb : base ≤ w.heap.size) : OwnT pairT (w.alloc (.cells #[] 57)) base (.slice (some ⟨w.heap.size, 0, none⟩) 0 0) [] := World.ownsRow_lit w #[] 0 hb (by unfold maxLen; omega) rfl
theorem OwnT.empty3 (w : World) (base : Nat) (hb : base ≤ w.heap.size) : OwnT tripT (w.alloc (.cells #[] 54)) base (.slice (some ⟨w.heap.size, 0, none⟩) 0 0) [] := World.ownsRow_lit w #[] 0 hb (by unfold maxLen; omega) rfl

set_option maxRecDepth 100000 in
set_option maxHeartbeats 4000000 in
theorem drawTell_any (A : Option Addr) (c : Nat) (l : List (Fin 256)) (w : World) (hl : l.length ≤ 65536) (h : RdT byteT w A l) :
    Calls Try.prog 49 #[.slice A l.length c] w fun e w' => ∃ (out : List (Int × Int)) (A' : Option Addr) (c' : Nat), out.length ≤ 13 ∧ e = .returned (.slice A' out.length c') ∧ RdT pairT w' A' out ∧ Below w.heap.size w w' := by
  have hC := Cur.new (c := c) h
  have hb0 : Below w.heap.size w (w.alloc (.cells #[.slice A l.length c, .int .i64 0, .int .u64 0] 72)) := (Below.refl _ _).alloc (Nat.le_refl _) _
  obtain ⟨wz, hwz⟩ : ∃ wz : World, wz = w.alloc (.cells #[.slice A l.length c, .int .i64 0, .int .u64 0] 72) := ⟨_, rfl⟩
  have hzz : w.heap.size + 1 ≤ wz.heap.size := by rw [hwz]; simp
  rw [← hwz] at hC hb0
  have hC1 : Cur (wz.alloc (.cells #[] 57)) w.heap.size A c l 0 := hC.kept (World.grownBy_alloc _ _ none) (by simp)
  have he := OwnT.empty2 wz (w.heap.size + 1) hzz
  have hb1 : Below w.heap.size w (wz.alloc (.cells #[] 57)) := hb0.alloc (by omega) _
  obtain ⟨wy, hwy⟩ : ∃ wy : World, wy = wz.alloc (.cells #[] 57) := ⟨_, rfl⟩
  have hzy : w.heap.size + 1 ≤ wy.heap.size := by rw [hwy]; simp; omega
  have hsz : wz.heap.size = w.heap.size + 1 := by rw [hwz]; simp
  rw [← hwy] at hC1 he hb1
  rw [hsz] at he
  go_enter Try.func49, Try.ntmps49
  go_wp2_with fail
  rw [← hwz, ← hwy]
  clear hwz hwy hC hb0 hsz hzz
  refine (pick_any w.heap.size c 0 5 A l _ hl (by omega) (by decide) (by decide) hC1).mono ?_
  rintro e w1 ⟨m0, hm0, rfl, hc1, hg1⟩
  have ho1 := OwnT.cur he hg1 (Nat.lt_succ_self _)
  have hb2 := hb1.grown hg1 (by omega) (fun k hk => by cases hk; exact Nat.le_refl _)
  have hz1 : w.heap.size + 1 ≤ w1.heap.size := Nat.le_trans hzy hg1.size
  have i0 : IntKind.i64.wrap (1 + (m0 : Int)) = 1 + (m0 : Int) := IntWalk.i64_in _ (by omega)
  clear he hb1 hC1 hg1 hzy
  go_wp2
  go_loopw [4, 5] (fun o n wr => ∃ (m : Nat) (out : List (Int × Int)) (A' : Option Addr) (c' : Nat), m ≤ 6 ∧ out.length + m ≤ 6 ∧ n = .int .i64 m ∧ o = .slice A' out.length c' ∧ OwnT pairT wr (w.heap.size + 1) (.slice A' out.length c') out ∧ Cur wr w.heap.size A c l (2 + 20 * (6 - m)) ∧ Below w.heap.size w wr ∧ w.heap.size + 1 ≤ wr.heap.size) (fun _ n _ => (intOf n).toNat)
  case atStart => exact ⟨m0 + 1, [], _, _, by omega, by simp; omega, by go_num, rfl, ho1, hc1.more (by omega), hb2, hz1⟩
  case round =>
    obtain ⟨m, out, A', c', hm, hom, rfl, rfl, ho, hc, hb, hz⟩ := hrel
    clear ho1 hc1 hb2 hz1
    by_cases hm0 : 0 < m
    · obtain ⟨j, rfl⟩ : ∃ j, m = j + 1 := ⟨m - 1, by omega⟩
      go_wp2_with fail
      refine (task_any w.heap.size c _ A l _ hl (by omega) hc).mono ?_
      rintro e w2 ⟨p, q, rfl, hc2, hg2⟩
      have ho2 := OwnT.cur ho hg2 (Nat.lt_succ_self _)
      have hb3 := hb.grown hg2 (by omega) (fun k hk => by cases hk; exact Nat.le_refl _)
      have hz2 : w.heap.size + 1 ≤ w2.heap.size := Nat.le_trans hz hg2.size
      clear ho hc hb hz hg2
      go_wp2_with (at_builtin; refine wpList_appT pairT rfl _ _ rfl (w.heap.size + 1) _ _ rfl ho2 w.heap.size hb3 (p, q) _ rfl 1 1 rfl rfl (by omega) hz2 (by omega) ?_; intro A3 c3 w7 ho7 hb7 hg7)
      go_roundw
      case rel => exact ⟨j, out ++ [(p, q)], A3, c3, by omega, by simp; omega, by go_num, by rw [List.length_append]; rfl, by rw [List.length_append]; exact ho7, (hc2.kept (World.grownBy_alloc _ _ none) (by simp) |>.kept hg7 (fun r hr => by have := (ho2.lt r hr).1; omega)).more (by omega), hb7, Nat.le_trans (Nat.le_trans hz2 (by simp)) hg7.size⟩
      case measure => first | (simp [intOf]; done) | (simp [intOf]; omega)
    · obtain rfl : m = 0 := by omega
      go_wp2_with fail
      refine (pick_any w.heap.size c _ 24 A l _ hl (by omega) (by decide) (by decide) hc).mono ?_
      rintro e w5 ⟨b, hb24, rfl, hc5, hg5⟩
      have ho5 := OwnT.cur ho hg5 (Nat.lt_succ_self _)
      have hb5 := hb.grown hg5 (by omega) (fun k hk => by cases hk; exact Nat.le_refl _)
      have hz5 : w.heap.size + 1 ≤ w5.heap.size := Nat.le_trans hz hg5.size
      clear ho hb hz hc hg5
      rcases (show b = 0 ∨ b = 1 ∨ (¬ b = 0 ∧ ¬ b = 1) by omega) with rfl | rfl | ⟨hbn0, hbn1⟩
      · go_wp2
        go_ret
        exact ⟨[], some ⟨w5.heap.size, 0, none⟩, 0, by simp, rfl, (OwnT.empty2 w5 0 (Nat.zero_le _)).rd, hb5.alloc (by omega) _⟩
      · go_wp2
        go_loopw [4] (fun o wy => ∃ (o2 : List (Int × Int)) (A2 : Option Addr) (c2 : Nat), o2.length ≤ 13 ∧ o = .slice A2 o2.length c2 ∧ OwnT pairT wy (w.heap.size + 1) (.slice A2 o2.length c2) o2 ∧ Cur wy w.heap.size A c l (200 + 4 * o2.length) ∧ Below w.heap.size w wy ∧ w.heap.size + 1 ≤ wy.heap.size) (fun o _ => 13 - (match o with | .slice _ n _ => n | _ => 0))
        case atStart => exact ⟨out, _, c', by omega, rfl, ho5, hc5.more (by omega), hb5, hz5⟩
        case round =>
          obtain ⟨o2, A2, c2, hn2, rfl, ho, hc, hb, hz⟩ := hrel
          clear ho5 hc5 hb5 hz5
          go_wp2_with fail
          refine (pick_any w.heap.size c _ 2 A l _ hl (by omega) (by decide) (by decide) hc).mono ?_
          rintro e w6 ⟨x, hx, rfl, hc6, hg6⟩
          have ho6 := OwnT.cur ho hg6 (Nat.lt_succ_self _)
          have hb6 := hb.grown hg6 (by omega) (fun k hk => by cases hk; exact Nat.le_refl _)
          have hz6 : w.heap.size + 1 ≤ w6.heap.size := Nat.le_trans hz hg6.size
          have i1 : IntKind.i64.wrap (10 + (x : Int)) = 10 + (x : Int) := IntWalk.i64_in _ (by omega)
          clear ho hb hz hc hg6
          by_cases hlt : o2.length < 10 + x
          · have d1 : decide (o2.length < 10 + x) = true := decide_eq_true hlt
            go_wp2_with (at_builtin; refine wpList_appT pairT rfl _ _ rfl (w.heap.size + 1) _ _ rfl ho6 w.heap.size hb6 ((9 : Int), 3) _ rfl 1 1 rfl rfl (by omega) hz6 (by omega) ?_; intro A3 c3 w7 ho7 hb7 hg7)
            go_roundw
            case rel => exact ⟨o2 ++ [((9 : Int), 3)], A3, c3, by simp; omega, by rw [List.length_append]; rfl, by rw [List.length_append]; exact ho7, (hc6.kept (World.grownBy_alloc _ _ none) (by simp) |>.kept hg7 (fun r hr => by have := (ho6.lt r hr).1; omega)).more (by simp; omega), hb7, Nat.le_trans (Nat.le_trans hz6 (by simp)) hg7.size⟩
            case measure => simp; omega
          · have d1 : decide (o2.length < 10 + x) = false := decide_eq_false hlt
            go_wp2
            go_ret
            exact ⟨o2, _, c2, hn2, rfl, ho6.rd, hb6⟩
      · go_wp2
        go_ret
        exact ⟨out, _, c', by omega, rfl, ho5.rd, hb5⟩
end Go.Proofs.Ytcljnfmlakpflaa
