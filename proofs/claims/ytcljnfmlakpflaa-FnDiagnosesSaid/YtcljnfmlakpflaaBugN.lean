/-
  The draws of the bugs.
-/
import Derived.Test.YtcljnfmlakpflaaCurC
import Derived.Test.YtcljnfmlakpflaaBugG
import Derived.Test.YtcljnfmlakpflaaBugF
namespace Go.Proofs.Ytcljnfmlakpflaa
open Go.RowKit Go.Lib Go.Lib.Hx

set_option maxHeartbeats 2000000 in
theorem task_any (g c P : Nat) (A : Option Addr) (l : List (Fin 256)) (w : World) (hl : l.length ≤ 65536) (hP : P ≤ 800000000) (h : Cur w g A c l P) :
    Calls Try.prog 75 #[.pointer (some ⟨g, 0, none⟩)] w fun e w' => ∃ a b : Int, e = .returned (.tuple #[.int .i64 a, .int .i64 b]) ∧ Cur w' g A c l (P + 8) ∧ w.grownBy w' (some g) := by
  go_enter Try.func75, Try.ntmps75
  go_wp2_with fail
  refine (among_lit g c P A l [0, 7, 10, 52, 100, 103, 305, 640, 1000, 2003, 5214, 9999] 12 w _ rfl rfl hl (by omega) (by decide) (by decide) h).mono ?_
  rintro e w1 ⟨a, ha, rfl, hc1, hg1⟩
  have ha' : 0 ≤ a ∧ a ≤ 9999 := by simp at ha; omega
  obtain ⟨an, rfl⟩ : ∃ an : Nat, a = (an : Int) := ⟨a.toNat, by omega⟩
  clear ha
  go_wp2_with fail
  refine (among_lit g c _ A l [0, 3, 8, 27, 49, 99, 104, 178, 385, 999, 1238, 4096] 12 w1 _ rfl rfl hl (by omega) (by decide) (by decide) hc1).mono ?_
  rintro e w2 ⟨x, hx, rfl, hc2, hg2⟩
  have hx' : 0 ≤ x ∧ x ≤ 4096 := by simp at hx; omega
  obtain ⟨xn, rfl⟩ : ∃ xn : Nat, x = (xn : Int) := ⟨x.toNat, by omega⟩
  clear hx
  have i1 : IntKind.i64.wrap ((an : Int) + 1) = (an : Int) + 1 := IntWalk.i64_in _ (by omega)
  go_wp2_with fail
  refine (pick_any g c _ 40 A l _ hl (by omega) (by decide) (by decide) hc2).mono ?_
  rintro e w3 ⟨b, hb, rfl, hc3, hg3⟩
  have hg := (hg1.trans hg2).trans hg3
  clear hg1 hg2 hg3 hc1 hc2
  rcases (show b = 0 ∨ b = 1 ∨ (¬ b = 0 ∧ ¬ b = 1) by omega) with rfl | rfl | ⟨hb0, hb1⟩
  · go_wp2_with fail
    refine (among_lit g c _ A l [-1, 10000] 2 w3 _ rfl rfl hl (by omega) (by decide) (by decide) hc3).mono ?_
    rintro e w4 ⟨y, hy, rfl, hc4, hg4⟩
    go_wp2
    go_ret2
    exact ⟨_, _, rfl, hc4, hg.trans hg4⟩
  · go_wp2_with fail
    refine (among_lit g c _ A l [-1, (an : Int) + 1] 2 w3 _ rfl rfl hl (by omega) (by decide) (by decide) hc3).mono ?_
    rintro e w4 ⟨y, hy, rfl, hc4, hg4⟩
    go_wp2
    go_ret2
    exact ⟨_, _, rfl, hc4, hg.trans hg4⟩
  · go_wp2
    go_ret2
    exact ⟨_, _, rfl, hc3.more (by omega), hg⟩

set_option maxHeartbeats 1000000 in
theorem drawAll_any (A : Option Addr) (c : Nat) (l : List (Fin 256)) (w : World) (hl : l.length ≤ 65536) (h : RdT byteT w A l) :
    Calls Try.prog 45 #[.slice A l.length c] w (Two w) := by
  have hC := Cur.new (c := c) h
  have hb0 : Below w.heap.size w (w.alloc (.cells #[.slice A l.length c, .int .i64 0, .int .u64 0] 72)) := (Below.refl _ _).alloc (Nat.le_refl _) _
  go_enter Try.func45, Try.ntmps45
  go_wp2_with fail
  refine (task_any w.heap.size c 0 A l _ hl (by omega) hC).mono ?_
  rintro e w1 ⟨x, y, rfl, hc1, hg1⟩
  go_wp2
  go_ret2
  exact ⟨x, y, rfl, below_cur hb0 hg1 (Nat.le_refl _)⟩
set_option maxHeartbeats 1000000 in
theorem drawAnswer_any (A : Option Addr) (c : Nat) (l : List (Fin 256)) (w : World) (hl : l.length ≤ 65536) (h : RdT byteT w A l) :
    Calls Try.prog 46 #[.slice A l.length c] w (Three w) := by
  have hC := Cur.new (c := c) h
  have hb0 : Below w.heap.size w (w.alloc (.cells #[.slice A l.length c, .int .i64 0, .int .u64 0] 72)) := (Below.refl _ _).alloc (Nat.le_refl _) _
  obtain ⟨w0, hw0⟩ : ∃ w0 : World, w0 = w.alloc (.cells #[.slice A l.length c, .int .i64 0, .int .u64 0] 72) := ⟨_, rfl⟩
  rw [← hw0] at hC hb0
  go_enter Try.func46, Try.ntmps46
  go_wp2_with fail
  rw [← hw0]
  refine (among_lit w.heap.size c 0 A l [0, 1, 2, 3, 4, 5, 6, -1] 8 w0 _ (by first | rfl | (rw [hw0]; simp)) rfl hl (by omega) (by decide) (by decide) hC).mono ?_
  rintro e w1 ⟨z, _, rfl, hc1, hg1⟩
  go_wp2_with fail
  refine (task_any w.heap.size c _ A l _ hl (by omega) hc1).mono ?_
  rintro e w2 ⟨x, y, rfl, hc2, hg2⟩
  go_wp2
  go_ret3
  exact ⟨z, x, y, rfl, below_cur hb0 (hg1.trans hg2) (Nat.le_refl _)⟩
set_option maxHeartbeats 2000000 in
theorem drawBugs_any (A : Option Addr) (c : Nat) (l : List (Fin 256)) (w : World) (hl : l.length ≤ 65536) (h : RdT byteT w A l) :
    Calls Try.prog 43 #[.slice A l.length c] w (Three w) := by
  have hC := Cur.new (c := c) h
  have hb0 : Below w.heap.size w (w.alloc (.cells #[.slice A l.length c, .int .i64 0, .int .u64 0] 72)) := (Below.refl _ _).alloc (Nat.le_refl _) _
  go_enter Try.func43, Try.ntmps43
  go_wp2_with fail
  refine (task_any w.heap.size c 0 A l _ hl (by omega) hC).mono ?_
  rintro e w1 ⟨a, b, rfl, hc1, hg1⟩
  have hB1 := below_cur hb0 hg1 (Nat.le_refl _)
  clear hg1 hb0 hC
  have HT := Lib.hid (fun W => l16Task_any a b W)
  cases ht : taskB a b
  · rw [ht] at HT
    go_wp2_with (go_at_call 51; refine (HT.out _).mono ?_; rintro e w2 ⟨rfl, rfl⟩)
    refine (among_lit w.heap.size c _ A l [0, 25, 9999, 10000, -1] 5 _ _ rfl rfl hl (by omega) (by decide) (by decide) hc1).mono ?_
    rintro e w2 ⟨y, _, rfl, hc2, hg2⟩
    go_wp2
    go_ret3
    exact ⟨a, b, y, rfl, below_cur hB1 hg2 (Nat.le_refl _)⟩
  · rw [ht] at HT
    obtain ⟨⟨ha, ha'⟩, hb, hb'⟩ := (taskB_iff a b).1 ht
    go_wp2_with (go_at_call 51; refine (HT.out _).mono ?_; rintro e w2 ⟨rfl, rfl⟩)
    refine (one_any w.heap.size c _ 5 A l _ hl (by omega) (by decide) (by decide) hc1).mono ?_
    rintro e w3 ⟨ob, rfl, hc3, hg3⟩
    have hB3 := below_cur hB1 hg3 (Nat.le_refl _)
    cases ob
    · go_wp2_with fail
      refine (pick_any w.heap.size c _ 6 A l _ hl (by omega) (by decide) (by decide) hc3).mono ?_
      rintro e w4 ⟨q, hq, rfl, hc4, hg4⟩
      have hB4 := below_cur hB3 hg4 (Nat.le_refl _)
      go_wp2_with fail
      refine (l16Answer_any q a b _ (by omega) (by omega) ha ha' hb (by omega)).mono ?_
      rintro e w5 ⟨rfl, hb5⟩
      have hB5 := hB4.trans (hb5.mono hB4.size)
      go_wp2
      go_ret3
      exact ⟨_, _, _, rfl, hB5⟩
    · go_wp2_with fail
      refine (among_lit w.heap.size c _ A l [0, 25, 9999, 10000, -1] 5 _ _ rfl rfl hl (by omega) (by decide) (by decide) hc3).mono ?_
      rintro e w4 ⟨y, _, rfl, hc4, hg4⟩
      go_wp2
      go_ret3
      exact ⟨a, b, y, rfl, below_cur hB3 hg4 (Nat.le_refl _)⟩
end Go.Proofs.Ytcljnfmlakpflaa
