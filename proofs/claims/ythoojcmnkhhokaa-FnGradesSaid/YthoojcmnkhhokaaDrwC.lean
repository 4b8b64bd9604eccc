/-
  The draw of a try.
-/
import Derived.Test.YthoojcmnkhhokaaDrwA
import Derived.Test.YthoojcmnkhhokaaTry
import Derived.Deep.DeepCutAuto
namespace Go.Proofs.Ythoojcmnkhhokaa
set_option maxRecDepth 100000
open Go.RowKit Go.Lib Go.Lib.Hx

def TryRes (g c P : Nat) (A : Option Addr) (l : List (Fin 256)) (w : World) (e : Ending) (w' : World) : Prop :=
  ∃ (pu gr : Int) (lp : List Int) (A' : Option Addr) (c' : Nat), lp.length ≤ 8 ∧ e = .returned (.agg #[.int .i64 pu, .int .i64 gr, .slice A' lp.length c']) ∧ Sta intT w.heap.size w w' g A c l (P + 60) (.slice A' lp.length c') lp

set_option maxRecDepth 100000 in
set_option maxHeartbeats 16000000 in
theorem try17_any (g c P : Nat) (A : Option Addr) (l : List (Fin 256)) (AS : Option Addr) (cs : Nat) (s : List PartV) (w : World) (hl : l.length ≤ 65536) (hP : P ≤ 700000000) (h : Cur w g A c l P) (hn : s.length ≤ 7) (hs : smL s) (hr : RdT partT w AS s) (hne : ∀ b off, AS = some ⟨b, off, none⟩ → b ≠ g) :
    Calls Try.prog 93 #[.pointer (some ⟨g, 0, none⟩), .slice AS s.length cs] w (TryRes g c P A l w) := by
  have hgl := h.lt
  obtain ⟨w1, hw1⟩ : ∃ w1 : World, w1 = w.alloc (.cells #[.int .i64 0, .int .i64 0, .slice none 0 0] 35) := ⟨_, rfl⟩
  obtain ⟨rb, hrb⟩ : ∃ rb : Nat, rb = w.heap.size := ⟨_, rfl⟩
  have HS1 : Sta intT w.heap.size w w1 g A c l P (.slice none 0 0) [] := by
    rw [hw1]
    exact ⟨(own_int.2 (OwnI.nil w w.heap.size)).alloc _, h.kept (World.grownBy_alloc w _ none) (by simp), World.grownBy_alloc w _ (some g), by simp, hgl, Nat.le_refl _⟩
  have BR1 : Blk w1 rb 35 #[.int .i64 0, .int .i64 0, .slice none 0 0] := by rw [hw1, hrb]; exact Blk.new w _ _
  have hgr : g < rb := by omega
  have HRB := Lib.hid hrb
  have hrs : w.heap.size ≤ rb := by omega
  have hc1 := HS1.cur
  go_enter Try.func93, Try.ntmps93
  go_upto_region 1 with fail
  rw [← hw1, ← hrb]
  clear hw1 hrb
  go_wp2_with fail
  refine (among_lit g c _ A l [1, 1, 2, 999] 4 w1 _ rfl rfl hl (by omega) (by decide) (by decide) hc1).mono ?_
  rintro e w2 ⟨pu, _, rfl, hc2, hg2⟩
  have HS2 := HS1.gr hg2 hc2
  have BR2 := BR1.gr hg2 (by simp; omega)
  clear HS1 BR1 hc1
  go_wp2_with fail
  refine (among_lit g c _ A l [1, 1, 1, 2, 2, 3, 10] 7 w2 _ rfl rfl hl (by omega) (by decide) (by decide) hc2).mono ?_
  rintro e w3 ⟨gr, _, rfl, hc3, hg3⟩
  have HS3 := HS2.gr hg3 hc3
  have BR3 := BR2.gr hg3 (by simp; omega)
  clear HS2 BR2 hc2 hg2 hg3
  obtain ⟨w4, hw4⟩ : ∃ w4 : World, w4 = w3.alloc (.cells #[.int .i64 pu, .int .i64 gr, .slice none 0 0] 35) := ⟨_, rfl⟩
  obtain ⟨tb, htb⟩ : ∃ tb : Nat, tb = w3.heap.size := ⟨_, rfl⟩
  have HS4 : Sta intT w.heap.size w w4 g A c l (P + 4) (.slice none 0 0) [] := by rw [hw4]; exact HS3.alloc _
  have BR4 : Blk w4 rb 35 #[.int .i64 0, .int .i64 0, .slice none 0 0] := by rw [hw4]; exact BR3.alloc _
  have BT4 : Blk w4 tb 35 #[.int .i64 pu, .int .i64 gr, .slice none 0 0] := by rw [hw4, htb]; exact Blk.new w3 _ _
  have hrt : rb < tb := by rw [htb]; exact BR3.lt
  clear HS3 BR3 hc3
  go_upto_region 2 with fail
  rw [← hw4, ← htb]
  clear hw4 htb
  go_wp2
  go_loopw [6] (fun i wr => ∃ (k : Nat) (lp : List Int) (A' : Option Addr) (c' : Nat), k ≤ s.length ∧ lp.length ≤ k ∧ k ≤ lp.length ∧ i = .int .i64 k ∧ Sta intT w.heap.size w wr g A c l (P + 4 + 2 * k) (.slice A' lp.length c') lp ∧ Blk wr rb 35 #[.int .i64 0, .int .i64 0, .slice none 0 0] ∧ Blk wr tb 35 #[.int .i64 pu, .int .i64 gr, .slice A' lp.length c']) (fun i _ => s.length - (intOf i).toNat)
  case atStart => exact ⟨0, [], _, _, by omega, Nat.le_refl _, Nat.le_refl _, rfl, HS4, BR4, BT4⟩
  case round =>
    obtain ⟨k, lp, A', c', hk, ho1, ho2, rfl, HS, BR, BT⟩ := hrel
    clear HS4 BR4 BT4
    by_cases hlt : k < s.length
    · have hrr := hr.grown partT HS.old (fun _ b off hA he => by cases he; exact hne _ _ hA rfl)
      obtain ⟨b, off, nm, fu, nd, rfl, hx, hbl, ce0, ce1, ce2⟩ := partT_at hrr hlt
      have hxx : nm.size ≤ 11 ∧ 0 ≤ fu ∧ fu ≤ 101 := hs _ (List.mem_of_getElem? hx)
      have j1 : (k : Int) < (s.length : Int) := by omega
      have d2 : IntKind.i64.wrap (Int.tdiv fu 2) = fu / 2 := by rw [Int.tdiv_eq_ediv_of_nonneg (by omega)]; exact IntWalk.i64_in _ (by omega)
      have d6 : IntKind.i64.wrap (fu * 6) = fu * 6 := IntWalk.i64_in _ (by omega)
      have d9 : IntKind.i64.wrap (fu * 9) = fu * 9 := IntWalk.i64_in _ (by omega)
      have d7 : IntKind.i64.wrap (Int.tdiv (fu * 6) 10) = fu * 6 / 10 := by rw [Int.tdiv_eq_ediv_of_nonneg (by omega)]; exact IntWalk.i64_in _ (by omega)
      have d8 : IntKind.i64.wrap (Int.tdiv (fu * 9) 10) = fu * 9 / 10 := by rw [Int.tdiv_eq_ediv_of_nonneg (by omega)]; exact IntWalk.i64_in _ (by omega)
      go_upto_region 6 with fail
      obtain ⟨wx, rfl⟩ : ∃ wx : World, wx = wr := ⟨_, rfl⟩
      have k2 : wx.cell? ⟨tb, 2, none⟩ = some (.slice A' lp.length c') := BT.cell 2
      have e1 : (wx.alloc (.cells #[.int .i64 0, .int .i64 (fu / 2), .int .i64 (fu * 6 / 10), .int .i64 (fu * 9 / 10), .int .i64 fu, .int .i64 fu, .int .i64 fu] 3)).cell? ⟨tb, 2, none⟩ = some (.slice A' lp.length c') := box_old k2 _
      have e2 : (wx.alloc (.cells #[.int .i64 0, .int .i64 (fu / 2), .int .i64 (fu * 6 / 10), .int .i64 (fu * 9 / 10), .int .i64 fu, .int .i64 fu, .int .i64 fu] 3)).drew.cell? ⟨tb, 2, none⟩ = some (.slice A' lp.length c') := box_old k2 _
      have q2 := BT.frozen 2
      have K1 : Calls Try.prog 99 #[.pointer (some ⟨g, 0, none⟩), .slice (some ⟨wx.heap.size, 0, none⟩) 7 7] (wx.alloc (.cells #[.int .i64 0, .int .i64 (fu / 2), .int .i64 (fu * 6 / 10), .int .i64 (fu * 9 / 10), .int .i64 fu, .int .i64 fu, .int .i64 fu] 3)).drew fun e w' => ∃ x, x ∈ [0, fu / 2, fu * 6 / 10, fu * 9 / 10, fu, fu, fu] ∧ e = .returned (.int .i64 x) ∧ Cur w' g A c l (P + 4 + 2 * k + 2) ∧ wx.grownBy w' (some g) :=
        (among_litD g c _ A l [0, fu / 2, fu * 6 / 10, fu * 9 / 10, fu, fu, fu] 7 wx _ rfl rfl hl (by omega) (by decide) (by decide) HS.cur).mono fun e w' ⟨x, h1, h2, h3, h4⟩ => ⟨x, h1, h2, h3, gr_of_drewD h4⟩
      have PK := Lib.hid (And.intro HS (And.intro BR BT))
      clear HS BR BT hr hrr
      go_region_law (first
        | (go_simp; go_at_call 99; (with_reducible refine K1.mono ?_); rintro e w5 ⟨x, hx5, rfl, hc5, hg5⟩; have HS5 := PK.out.1.gr hg5 hc5; have BR5 := PK.out.2.1.gr hg5 (by simp; omega); have BT5 := PK.out.2.2.gr hg5 (by simp; omega); have p2 : w5.cell? ⟨tb, 2, none⟩ = some (.slice A' lp.length c') := BT5.cell 2; have e3 : (w5.alloc (.cells #[.int .i64 x] 3)).cell? ⟨tb, 2, none⟩ = some (.slice A' lp.length c') := box_old p2 _; have r2 := BT5.frozen 2)
        | (refine step_appT intT rfl _ _ (by rfl) w.heap.size _ _ (by rfl) HS5.own g HS5.below x _ (by rfl) 1 1 (by rfl) (by rfl) (by omega) HS5.size (by omega) ?_; intro A3 c3 w9 ho9 hb9 hg9; have HS9 := HS5.app ho9 hg9; have BR9 := (BR5.alloc _).gr hg9 (BR5.ne_v HS5.own (by decide)); have BT9 := (BT5.alloc _).gr hg9 (BT5.ne_v HS5.own (by decide)); have n2 := BT9.frozen 2; have m2 := BT9.cell 2))
      all_goals
        have hap : ApartV (boxV tb) (.slice A3 (lp.length + 1) c3) := .inr (BT9.ne_v HS9.own (by decide))
        have HS10 := (HS9.put hap (by omega) 2 (.slice A3 (lp.length + 1) c3)).more (show P + 4 + 2 * k + 2 ≤ P + 4 + 2 * (k + 1) by omega)
        have BR10 := BR9.far (p := ⟨tb, 2, none⟩) (by simp; omega) (.slice A3 (lp.length + 1) c3)
        have BT10 := BT9.set_ 2 (.slice A3 (lp.length + 1) c3)
        go_wp2_with fail
        go_roundw
        case rel => exact ⟨k + 1, lp ++ [x], A3, c3, by omega, by simp; omega, by simp; omega, by go_num, by rw [List.length_append]; exact HS10, BR10, by rw [List.length_append]; exact BT10⟩
        case measure => first | (simp [intOf]; done) | (simp [intOf]; omega)
    · have hks : k = s.length := by omega
      have j1 : ¬ (k : Int) < (s.length : Int) := by omega
      have hck := HS.cur
      go_wp2_with fail
      refine (pick_any g c _ 80 A l _ hl (by omega) (by decide) (by decide) hck).mono ?_
      rintro e w5 ⟨b, hb80, rfl, hc5, hg5⟩
      have HS5 := HS.gr hg5 hc5
      have BR5 := BR.gr hg5 (by simp; omega)
      have BT5 := BT.gr hg5 (by simp; omega)
      clear HS BR BT hck hg5 j1
      rcases (show b = 0 ∨ b = 1 ∨ b = 2 ∨ b = 3 ∨ (¬ b = 0 ∧ ¬ b = 1 ∧ ¬ b = 2 ∧ ¬ b = 3) by omega) with rfl | rfl | rfl | rfl | ⟨hn0, hn1, hn2, hn3⟩
      · go_wp2_with fail
        refine (among_lit g c _ A l [0, 1000] 2 w5 _ rfl rfl hl (by omega) (by decide) (by decide) hc5).mono ?_
        rintro e w6 ⟨z, _, rfl, hc6, hg6⟩
        have HS6 := HS5.gr hg6 hc6
        have BR6 := BR5.gr hg6 (by simp; omega)
        have BT6 := BT5.gr hg6 (by simp; omega)
        clear HS5 BR5 BT5 hc5 hg6
        obtain ⟨w7, hw7⟩ : ∃ w7 : World, w7 = w6.setCell ⟨tb, 0, none⟩ (.int .i64 z) := ⟨_, rfl⟩
        have HS7 : Sta intT w.heap.size w w7 g A c l (P + 4 + 2 * k + 2 + 2) (.slice A' lp.length c') lp := by rw [hw7]; exact HS6.put (box_own BT6 HS6.own (by decide)) (by omega) _ _
        have BR7 : Blk w7 rb 35 #[.int .i64 0, .int .i64 0, .slice none 0 0] := by rw [hw7]; exact BR6.far (by simp; omega) _
        have BT7 : Blk w7 tb 35 #[.int .i64 z, .int .i64 gr, .slice A' lp.length c'] := by rw [hw7]; exact BT6.set_ 0 _
        have q6 := BT6.frozen 0
        have q7 := BT6.cell 0
        go_upto_region 17 with fail
        rw [← hw7]
        clear hw7 q6 q7 BT6 BR6 HS6
        have k0 := BT7.cell 0
        have k1 := BT7.cell 1
        have k2 := BT7.cell 2
        have r0 := BR7.cell 0
        have r1 := BR7.cell 1
        have r2 := BR7.cell 2
        have q0 := BR7.frozen 0
        have q1 := BR7.frozen 1
        have q2 := BR7.frozen 2
        have hapr := box_own BR7 HS7.own (by decide)
        go_wp2
        refine bodyPost_ret (v := .agg #[.int .i64 z, .int .i64 gr, .slice A' lp.length c']) (by simp [results, Try.results93, go_sem, r0, r1, r2]) rfl ⟨z, gr, lp, A', c', by omega, rfl, ?_⟩
        exact (((HS7.put hapr hrs 0 _).put hapr hrs 1 _).put hapr hrs 2 _).more (by omega)
      · go_wp2_with fail
        refine (among_lit g c _ A l [0, 11] 2 w5 _ rfl rfl hl (by omega) (by decide) (by decide) hc5).mono ?_
        rintro e w6 ⟨z, _, rfl, hc6, hg6⟩
        have HS6 := HS5.gr hg6 hc6
        have BR6 := BR5.gr hg6 (by simp; omega)
        have BT6 := BT5.gr hg6 (by simp; omega)
        clear HS5 BR5 BT5 hc5 hg6
        obtain ⟨w7, hw7⟩ : ∃ w7 : World, w7 = w6.setCell ⟨tb, 1, none⟩ (.int .i64 z) := ⟨_, rfl⟩
        have HS7 : Sta intT w.heap.size w w7 g A c l (P + 4 + 2 * k + 2 + 2) (.slice A' lp.length c') lp := by rw [hw7]; exact HS6.put (box_own BT6 HS6.own (by decide)) (by omega) _ _
        have BR7 : Blk w7 rb 35 #[.int .i64 0, .int .i64 0, .slice none 0 0] := by rw [hw7]; exact BR6.far (by simp; omega) _
        have BT7 : Blk w7 tb 35 #[.int .i64 pu, .int .i64 z, .slice A' lp.length c'] := by rw [hw7]; exact BT6.set_ 1 _
        have q6 := BT6.frozen 1
        have q7 := BT6.cell 1
        go_upto_region 17 with fail
        rw [← hw7]
        clear hw7 q6 q7 BT6 BR6 HS6
        have k0 := BT7.cell 0
        have k1 := BT7.cell 1
        have k2 := BT7.cell 2
        have r0 := BR7.cell 0
        have r1 := BR7.cell 1
        have r2 := BR7.cell 2
        have q0 := BR7.frozen 0
        have q1 := BR7.frozen 1
        have q2 := BR7.frozen 2
        have hapr := box_own BR7 HS7.own (by decide)
        go_wp2
        refine bodyPost_ret (v := .agg #[.int .i64 pu, .int .i64 z, .slice A' lp.length c']) (by simp [results, Try.results93, go_sem, r0, r1, r2]) rfl ⟨pu, z, lp, A', c', by omega, rfl, ?_⟩
        exact (((HS7.put hapr hrs 0 _).put hapr hrs 1 _).put hapr hrs 2 _).more (by omega)
      · have k2 := BT5.cell 2
        have r2 := BT5.frozen 2
        go_upto_region 17 with (at_builtin; refine wpList_appT intT rfl _ _ rfl w.heap.size _ _ rfl HS5.own g HS5.below (0 : Int) _ rfl 1 1 rfl rfl (by omega) HS5.size (by have := HS5.hgb; omega) ?_; intro A3 c3 w9 ho9 hb9 hg9; have HS9 := HS5.app ho9 hg9; have BR9 := (BR5.alloc _).gr hg9 (BR5.ne_v HS5.own (by decide)); have BT9 := (BT5.alloc _).gr hg9 (BT5.ne_v HS5.own (by decide)); have n2 := BT9.frozen 2; have m2 := BT9.cell 2)
        clear k2 r2
        have hap : ApartV (boxV tb) (.slice A3 (lp.length + 1) c3) := box_own BT9 HS9.own (by decide)
        have HS7 : Sta intT w.heap.size w (w9.setCell ⟨tb, 2, none⟩ (.slice A3 (lp.length + 1) c3)) g A c l (P + 4 + 2 * k + 2) (.slice A3 (lp.length + 1) c3) (lp ++ [(0 : Int)]) := HS9.put hap (by omega) 2 _
        have BR7 : Blk (w9.setCell ⟨tb, 2, none⟩ (.slice A3 (lp.length + 1) c3)) rb 35 #[.int .i64 0, .int .i64 0, .slice none 0 0] := BR9.far (by simp; omega) _
        have BT7 : Blk (w9.setCell ⟨tb, 2, none⟩ (.slice A3 (lp.length + 1) c3)) tb 35 #[.int .i64 pu, .int .i64 gr, .slice A3 (lp.length + 1) c3] := BT9.set_ 2 _
        clear HS5 BR5 BT5 BR9 BT9 n2 m2 hb9 ho9 hap
        obtain ⟨w7, hw7⟩ : ∃ w7 : World, w7 = w9.setCell ⟨tb, 2, none⟩ (.slice A3 (lp.length + 1) c3) := ⟨_, rfl⟩
        rw [← hw7] at HS7 BR7 BT7
        rw [← hw7]
        clear hw7 HS9 hg9
        have k0 := BT7.cell 0
        have k1 := BT7.cell 1
        have k2 := BT7.cell 2
        have r0 := BR7.cell 0
        have r1 := BR7.cell 1
        have r2 := BR7.cell 2
        have q0 := BR7.frozen 0
        have q1 := BR7.frozen 1
        have q2 := BR7.frozen 2
        have hapr := box_own BR7 HS7.own (by decide)
        go_wp2
        refine bodyPost_ret (v := .agg #[.int .i64 pu, .int .i64 gr, .slice A3 (lp.length + 1) c3]) (by simp [results, Try.results93, go_sem, r0, r1, r2]) rfl ⟨pu, gr, (lp ++ [(0 : Int)]), A3, c3, by simp; omega, by simp, ?_⟩
        rw [List.length_append]
        exact (((HS7.put hapr hrs 0 _).put hapr hrs 1 _).put hapr hrs 2 _).more (by omega)
      · have k2 : w5.cell? ⟨tb, 2, none⟩ = some (.slice A' lp.length c') := BT5.cell 2
        by_cases hpos : 0 < lp.length
        · have d1 : decide (0 < lp.length) = true := decide_eq_true hpos
          obtain ⟨gp, rfl, _, _⟩ := HS5.own.head hpos
          have hne0 : ¬ tb = gp := Blk.ne_own BT5 HS5.own (by decide)
          have j0 : (0 : Int) < (lp.length : Int) := by omega
          go_upto_region 16 with fail
          have K1 : Calls Try.prog 99 #[.pointer (some ⟨g, 0, none⟩), .slice (some ⟨w5.heap.size, 0, none⟩) 2 2] (w5.alloc (.cells #[.int .i64 (-1), .int .i64 101] 3)).drew fun e w' => ∃ x, x ∈ [-1, 101] ∧ e = .returned (.int .i64 x) ∧ Cur w' g A c l (P + 4 + 2 * k + 2 + 2) ∧ w5.grownBy w' (some g) :=
            (among_litD g c _ A l [-1, 101] 2 w5 _ rfl rfl hl (by omega) (by decide) (by decide) hc5).mono fun e w' ⟨x, h1, h2, h3, h4⟩ => ⟨x, h1, h2, h3, gr_of_drewD h4⟩
          have PK := Lib.hid (And.intro HS5 (And.intro BR5 BT5))
          clear HS5 BR5 BT5
          go_region_held3 (fun wy => wy.cell? ⟨tb, 2, none⟩ = some (.slice (some ⟨gp, 0, none⟩) lp.length c')) (((try dsimp only) <;> (first | (with_reducible assumption) | (with_reducible exact cell_drew k2) | (with_reducible exact cell_drew (box_old k2 _)) | (exact cell_far1 p2 hne0 0 _)))) (first
            | (go_at_call 99; (with_reducible refine K1.mono ?_); rintro e w6 ⟨z, _, rfl, hc6, hg6⟩; have HS6 := PK.out.1.gr hg6 hc6; have BR6 := PK.out.2.1.gr hg6 (by simp; omega); have BT6 := PK.out.2.2.gr hg6 (by simp; omega); have p2 : w6.cell? ⟨tb, 2, none⟩ = some (.slice (some ⟨gp, 0, none⟩) lp.length c') := BT6.cell 2; have y0 : w6.cell? ⟨gp, 0, none⟩ = some (.int .i64 (lp[0]'hpos)) := (own_int.1 HS6.own).cell (List.getElem?_eq_getElem hpos); have f0 : w6.frozen? ⟨gp, 0, none⟩ = false := (own_int.1 HS6.own).frozen 0))
          have HS7 : Sta intT w.heap.size w (w6.setCell ⟨gp, 0, none⟩ (.int .i64 z)) g A c l (P + 4 + 2 * k + 2 + 2) (.slice (some ⟨gp, 0, none⟩) lp.length c') (lp.set 0 z) := HS6.of_set hpos z
          have BR7 : Blk (w6.setCell ⟨gp, 0, none⟩ (.int .i64 z)) rb 35 #[.int .i64 0, .int .i64 0, .slice none 0 0] := BR6.far (Blk.ne_own BR6 HS6.own (by decide)) _
          have BT7 : Blk (w6.setCell ⟨gp, 0, none⟩ (.int .i64 z)) tb 35 #[.int .i64 pu, .int .i64 gr, .slice (some ⟨gp, 0, none⟩) lp.length c'] := BT6.far hne0 _
          obtain ⟨w7, hw7⟩ : ∃ w7 : World, w7 = w6.setCell ⟨gp, 0, none⟩ (.int .i64 z) := ⟨_, rfl⟩
          rw [← hw7] at HS7 BR7 BT7
          go_upto_region 17 with fail
          rw [← hw7]
          clear hw7 HS6 BR6 BT6 p2 y0 f0 k2
          have k0 := BT7.cell 0
          have k1 := BT7.cell 1
          have k2 := BT7.cell 2
          have r0 := BR7.cell 0
          have r1 := BR7.cell 1
          have r2 := BR7.cell 2
          have q0 := BR7.frozen 0
          have q1 := BR7.frozen 1
          have q2 := BR7.frozen 2
          have hapr := box_own BR7 HS7.own (by decide)
          go_wp2
          refine bodyPost_ret (v := .agg #[.int .i64 pu, .int .i64 gr, .slice (some ⟨gp, 0, none⟩) lp.length c']) (by simp [results, Try.results93, go_sem, r0, r1, r2]) rfl ⟨pu, gr, (lp.set 0 z), (some ⟨gp, 0, none⟩), c', by simp; omega, by simp, ?_⟩
          rw [List.length_set]
          exact (((HS7.put hapr hrs 0 _).put hapr hrs 1 _).put hapr hrs 2 _).more (by omega)
        · have d1 : decide (0 < lp.length) = false := decide_eq_false hpos
          have k0 := BT5.cell 0
          have k1 := BT5.cell 1
          have k2 := BT5.cell 2
          have r0 := BR5.cell 0
          have r1 := BR5.cell 1
          have r2 := BR5.cell 2
          have q0 := BR5.frozen 0
          have q1 := BR5.frozen 1
          have q2 := BR5.frozen 2
          have hapr := box_own BR5 HS5.own (by decide)
          go_wp2
          refine bodyPost_ret (v := .agg #[.int .i64 pu, .int .i64 gr, .slice A' lp.length c']) (by simp [results, Try.results93, go_sem, r0, r1, r2]) rfl ⟨pu, gr, lp, A', c', by omega, rfl, ?_⟩
          exact (((HS5.put hapr hrs 0 _).put hapr hrs 1 _).put hapr hrs 2 _).more (by omega)
      · have k0 := BT5.cell 0
        have k1 := BT5.cell 1
        have k2 := BT5.cell 2
        have r0 := BR5.cell 0
        have r1 := BR5.cell 1
        have r2 := BR5.cell 2
        have q0 := BR5.frozen 0
        have q1 := BR5.frozen 1
        have q2 := BR5.frozen 2
        have hapr := box_own BR5 HS5.own (by decide)
        go_wp2
        refine bodyPost_ret (v := .agg #[.int .i64 pu, .int .i64 gr, .slice A' lp.length c']) (by simp [results, Try.results93, go_sem, r0, r1, r2]) rfl ⟨pu, gr, lp, A', c', by omega, rfl, ?_⟩
        exact (((HS5.put hapr hrs 0 _).put hapr hrs 1 _).put hapr hrs 2 _).more (by omega)
end Go.Proofs.Ythoojcmnkhhokaa
