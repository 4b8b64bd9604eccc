/-
  The draw of a standard frame, and of a number to add.
-/
import Derived.Test.YtkcbldaondflmaaFrmI
import Derived.Test.YtkcbldaondflmaaFrmD
namespace Go.Proofs.Ytkcbldaondflmaa
open Go.RowKit Go.Lib Go.Lib.Hx

theorem Sta.outer {α : Type} {T : Ty α} {b1 : Nat} {W W1 w : World} {g c P : Nat} {A : Option Addr} {l : List (Fin 256)} {v : Value} {out : List α} (h : Sta T b1 W1 w g A c l P v out) (h0 : W.grownBy W1 (some g)) (hlo : g < W.heap.size) : Sta T W.heap.size W w g A c l P v out :=
  ⟨h.own.mono (Nat.le_trans h0.size h.le), h.cur, h0.trans h.old, Nat.le_trans h0.size (Nat.le_trans h.le h.size), hlo, Nat.le_refl _⟩
theorem gr_of_below {w w' : World} (hb : Below w.heap.size w w') (row : Option Nat) : w.grownBy w' row := ⟨hb.os, hb.tape, hb.output, hb.size, fun k hk _ => hb.block k hk⟩
theorem Cur.bel {w w' : World} {g c P : Nat} {A : Option Addr} {l : List (Fin 256)} (h : Cur w g A c l P) (hb : Below w.heap.size w w') : Cur w' g A c l P := h.kept (gr_of_below hb none) (by simp)
theorem Sta.bel {α : Type} {T : Ty α} {base : Nat} {W w w' : World} {g c P : Nat} {A : Option Addr} {l : List (Fin 256)} {v : Value} {out : List α} (h : Sta T base W w g A c l P v out) (hb : Below w.heap.size w w') : Sta T base W w' g A c l P v out := h.gr (gr_of_below hb _) (h.cur.bel hb)
set_option maxRecDepth 100000 in
set_option maxHeartbeats 8000000 in
theorem standard_any (g c P : Nat) (A : Option Addr) (l : List (Fin 256)) (w : World) (hl : l.length ≤ 65536) (hP : P ≤ 600000000) (h : Cur w g A c l P) :
    Calls Try.prog 63 #[.pointer (some ⟨g, 0, none⟩)] w (FrRes g c (P + 100) A l w) := by
  have hgl := h.lt
  obtain ⟨w1, hw1⟩ : ∃ w1 : World, w1 = w.alloc (.cells #[.int .i64 0, .int .i64 0, .slice none 0 0] 71) := ⟨_, rfl⟩
  obtain ⟨rb, hrb⟩ : ∃ rb : Nat, rb = w.heap.size := ⟨_, rfl⟩
  have hg1 : w.grownBy w1 (some g) := by rw [hw1]; exact World.grownBy_alloc w _ (some g)
  have hc1 : Cur w1 g A c l P := by rw [hw1]; exact h.kept (World.grownBy_alloc w _ none) (by simp)
  have BR1 : Blk w1 rb 71 #[.int .i64 0, .int .i64 0, .slice none 0 0] := by rw [hw1, hrb]; exact Blk.new w _ _
  have hgr : g < rb := by omega
  have hrs : w.heap.size ≤ rb := by omega
  go_enter Try.func63, Try.ntmps63
  go_upto_region 1 with fail
  rw [← hw1, ← hrb]
  clear hw1 hrb
  go_wp2_with fail
  refine (frame_any g c P A l w1 hl (by omega) hc1).mono ?_
  rintro e w2 ⟨up, lo, R, A', c', hR1, hR9, rfl, HS⟩
  have BR2 := BR1.gr HS.old (by simp; omega)
  have hrb2 : rb < w2.heap.size := BR2.lt
  have HS2 := HS.outer hg1 hgl
  clear HS hc1 hg1
  obtain ⟨w3, hw3⟩ : ∃ w3 : World, w3 = w2.alloc (.cells #[.int .i64 up, .int .i64 lo, .slice A' R.length c'] 71) := ⟨_, rfl⟩
  obtain ⟨fb, hfb⟩ : ∃ fb : Nat, fb = w2.heap.size := ⟨_, rfl⟩
  have HS3 : Sta rodT w.heap.size w w3 g A c l (P + 100) (.slice A' R.length c') R := by rw [hw3]; exact HS2.alloc _
  have BR3 : Blk w3 rb 71 #[.int .i64 0, .int .i64 0, .slice none 0 0] := by rw [hw3]; exact BR2.alloc _
  have BF3 : Blk w3 fb 71 #[.int .i64 up, .int .i64 lo, .slice A' R.length c'] := by rw [hw3, hfb]; exact Blk.new w2 _ _
  have hrf : rb < fb := by omega
  have hgf : g < fb := by omega
  clear HS2 BR2 BR1
  go_upto_region 2 with fail
  rw [← hw3, ← hfb]
  clear hw3 hfb
  have hc3 := HS3.cur
  go_wp2_with fail
  refine (one_any g c _ 12 A l _ hl (by omega) (by decide) (by decide) hc3).mono ?_
  rintro e w4 ⟨bo, rfl, hc4, hg4⟩
  have HS4 := HS3.gr hg4 hc4
  have BF4 := BF3.gr hg4 (by simp; omega)
  have BR4 := BR3.gr hg4 (by simp; omega)
  clear HS3 BF3 BR3 hc3 hg4
  cases bo
  · obtain ⟨gp, rfl, hgp, hgp2⟩ := HS4.own.head (by omega)
    have hne : ¬ fb = gp := BF4.ne_own HS4.own (by decide)
    obtain ⟨n, hn⟩ : ∃ n : Nat, n = R.length := ⟨_, rfl⟩
    have hRn : R.length ≤ n := by omega
    have hRn2 : n ≤ R.length := by omega
    have hn1 : 1 ≤ n := by omega
    have hn9 : n ≤ 9 := by omega
    rw [← hn] at HS4 BF4
    rw [← hn]
    clear hn
    go_wp2_with fail
    go_loopw [4] (fun i wr => ∃ (k : Nat) (R2 : List (Int × Int)), k ≤ n ∧ i = .int .i64 k ∧ (R2.length ≤ n ∧ n ≤ R2.length) ∧ Sta rodT w.heap.size w wr g A c l (P + 102 + 2 * k) (.slice (some ⟨gp, 0, none⟩) n c') R2 ∧ Blk wr fb 71 #[.int .i64 up, .int .i64 lo, .slice (some ⟨gp, 0, none⟩) n c'] ∧ Blk wr rb 71 #[.int .i64 0, .int .i64 0, .slice none 0 0]) (fun i _ => n - (intOf i).toNat)
    case atStart => exact ⟨0, R, by omega, rfl, ⟨hRn, hRn2⟩, HS4.more (by omega), BF4, BR4⟩
    case round =>
      obtain ⟨k, R2, hk, rfl, ⟨hR2a, hR2b⟩, HS, BF, BR⟩ := hrel
      clear HS4 BF4 BR4 hc4 hRn hRn2
      have k2 : wr.cell? ⟨fb, 2, none⟩ = some (.slice (some ⟨gp, 0, none⟩) n c') := BF.cell 2
      by_cases hlt : k < n
      · have d1 : decide (k < n) = true := decide_eq_true hlt
        have j0 : (0 : Int) ≤ (k : Int) := by omega
        have j1 : (k : Int) < (n : Int) := by omega
        have hk2 : k < R2.length := by omega
        go_upto_region 7 with fail
        clear d1
        obtain ⟨wx, rfl⟩ : ∃ wx : World, wx = wr := ⟨_, rfl⟩
        have C1 : Cur (wx.alloc (.cells #[.int .i64 0, .int .i64 1, .int .i64 3, .int .i64 4, .int .i64 5, .int .i64 8, .int .i64 9, .int .i64 9] 3)).drew g A c l (P + 102 + 2 * k) := HS.cur.kept (gr_drew (World.grownBy_alloc wx _ none)) (by simp)
        have L1 : RdI (wx.alloc (.cells #[.int .i64 0, .int .i64 1, .int .i64 3, .int .i64 4, .int .i64 5, .int .i64 8, .int .i64 9, .int .i64 9] 3)).drew (some ⟨wx.heap.size, 0, none⟩) [0, 1, 3, 4, 5, 8, 9, 9] := (lit_rd wx [0, 1, 3, 4, 5, 8, 9, 9] _ rfl).below (Below.refl _ _).drew (Nat.le_refl _)
        have hgw := HS.cur.lt
        have K1 := among_any g c _ A l _ 8 8 [0, 1, 3, 4, 5, 8, 9, 9] _ hl (by omega) rfl (by decide) (by decide) C1 L1 (fun b off hA => by cases hA; omega)
        have U1 := World.grownBy_alloc wx (.cells #[.int .i64 0, .int .i64 1, .int .i64 3, .int .i64 4, .int .i64 5, .int .i64 8, .int .i64 9, .int .i64 9] 3) (some g)
        have PK := Lib.hid (And.intro HS (And.intro BF BR))
        clear HS BF BR C1 L1
        go_region_held3 (fun wy => wy.cell? ⟨fb, 2, none⟩ = some (.slice (some ⟨gp, 0, none⟩) n c'))
          (((try dsimp only) <;> (first
            | (with_reducible assumption) | (with_reducible exact cell_drew k2) | (with_reducible exact cell_drew (box_old k2 _))
            | (exact cell_far1 (cell_far1 p2 hne _ _) hne _ _))))
          (first
            | (go_at_call 68; (with_reducible refine K1.mono ?_); rintro e w8 ⟨z, _, rfl, hc8, hg8⟩; have G8 := U1.trans (gr_of_drewD hg8); have HS8 := PK.out.1.gr G8 hc8; have BF8 := PK.out.2.1.gr G8 (by simp; omega); have BR8 := PK.out.2.2.gr G8 (by simp; omega); have t2 : w8.cell? ⟨fb, 2, none⟩ = some (.slice (some ⟨gp, 0, none⟩) n c') := BF8.cell 2; have K2 := l2Digit_any z w8)
            | (go_at_call 72; (with_reducible refine K2.mono ?_); rintro e w9 ⟨a, b, rfl, hb9⟩; have HS9 := HS8.bel hb9; have BF9 := BF8.below hb9 BF8.lt; have BR9 := BR8.below hb9 BR8.lt; have p2 : w9.cell? ⟨fb, 2, none⟩ = some (.slice (some ⟨gp, 0, none⟩) n c') := BF9.cell 2; obtain ⟨_, _, _, s0, s1, f0, f1⟩ := rod_own HS9.own hk2))
        have HSF := HS9.of_set hk2 (a, b)
        have BFF := (BF9.far (p := ⟨gp, k * 2, none⟩) hne (.int .i64 a)).far (p := ⟨gp, k * 2 + 1, none⟩) hne (.int .i64 b)
        have BRF := (BR9.far (p := ⟨gp, k * 2, none⟩) (BR9.ne_own HS9.own (by decide)) (.int .i64 a)).far (p := ⟨gp, k * 2 + 1, none⟩) (BR9.ne_own HS9.own (by decide)) (.int .i64 b)
        go_wp2_with fail
        go_roundw
        case rel => exact ⟨k + 1, R2.set k (a, b), by omega, by go_num, by simp; omega, HSF.more (by omega), BFF, BRF⟩
        case measure => first | (simp [intOf]; done) | (simp [intOf]; omega)
      · have d1 : decide (k < n) = false := decide_eq_false hlt
        have k0 := BF.cell 0
        have k1 := BF.cell 1
        have r0 := BR.cell 0
        have r1 := BR.cell 1
        have r2 := BR.cell 2
        have q0 := BR.frozen 0
        have q1 := BR.frozen 1
        have q2 := BR.frozen 2
        have hRR : R2.length = n := by omega
        have HRR := Lib.hid hRR
        clear hRR
        go_wp2
        refine bodyPost_ret (v := .agg #[.int .i64 up, .int .i64 lo, .slice (some ⟨gp, 0, none⟩) n c']) (by simp [results, Try.results63, go_sem, r0, r1, r2]) rfl ⟨up, lo, R2, some ⟨gp, 0, none⟩, c', by omega, by omega, by rw [HRR.out], ?_⟩
        rw [HRR.out]
        have hapr : ApartV (boxV rb) (.slice (some ⟨gp, 0, none⟩) n c') := .inr (BR.ne_v HS.own (by decide))
        exact (((HS.put hapr hrs 0 _).put hapr hrs 1 _).put hapr hrs 2 _).more (by omega)
  · have k0 := BF4.cell 0
    have k1 := BF4.cell 1
    have k2 := BF4.cell 2
    have r0 := BR4.cell 0
    have r1 := BR4.cell 1
    have r2 := BR4.cell 2
    have q0 := BR4.frozen 0
    have q1 := BR4.frozen 1
    have q2 := BR4.frozen 2
    go_wp2
    refine bodyPost_ret (v := .agg #[.int .i64 up, .int .i64 lo, .slice A' R.length c']) (by simp [results, Try.results63, go_sem, r0, r1, r2]) rfl ⟨up, lo, R, A', c', hR1, hR9, rfl, ?_⟩
    have hapr : ApartV (boxV rb) (.slice A' R.length c') := .inr (BR4.ne_v HS4.own (by decide))
    exact (((HS4.put hapr hrs 0 _).put hapr hrs 1 _).put hapr hrs 2 _).more (by omega)
end Go.Proofs.Ytkcbldaondflmaa
