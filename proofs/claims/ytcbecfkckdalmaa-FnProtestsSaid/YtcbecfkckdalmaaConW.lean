/-
  The draws of solved rows, as functions of the bytes.
-/
import Derived.Test.YtcbecfkckdalmaaConV
namespace Go.Proofs.Ytcbecfkckdalmaa
open Go.RowKit Go.Lib Go.Lib.Hx

theorem own_off {α : Type} {T : Ty α} {w : World} {base n c : Nat} {A : Option Addr} {l : List α} (h : OwnT T w base (.slice A n c) l) (g : Nat) (hg : g < base) : ∀ b off, A = some ⟨b, off, none⟩ → b ≠ g := by
  intro b off hA
  subst hA
  rcases h.2 with ⟨hv, hn⟩ | ⟨g', cap, cur, hv, hg', hh, h1, h2, h3, h4⟩
  · injection hv with e1 e2 e3
    cases e1
  · injection hv with e1 e2 e3
    injection e1 with e1
    injection e1 with e1 e4 e5
    omega
theorem results_tmp3 {fn : Func} {t u v : Tmp} (h : fn.results = #[.tmp t, .tmp u, .tmp v]) (tmps : Array Value) (P : Program) (w : World) :
    (results fn tmps).run P w = .ok (.tuple #[tmps.getD t undef, tmps.getD u undef, tmps.getD v undef]) w := by simp [results, h]
/-- Rows and a number, drawn. -/
def RetL1 (w : World) (e : Ending) (w' : World) : Prop :=
  ∃ (s : List SolvedV) (A1 : Option Addr) (c1 : Nat) (x : Int), e = .returned (.tuple #[.slice A1 s.length c1, .int .i64 x]) ∧ s.length ≤ 13 ∧ RdT solvedT w' A1 s ∧ Below w.heap.size w w'
def RetL2 (w : World) (e : Ending) (w' : World) : Prop :=
  ∃ (s : List SolvedV) (A1 : Option Addr) (c1 : Nat) (x y : Int), e = .returned (.tuple #[.slice A1 s.length c1, .int .i64 x, .int .i64 y]) ∧ s.length ≤ 13 ∧ RdT solvedT w' A1 s ∧ Below w.heap.size w w'
def RetV1 (w : World) (e : Ending) (w' : World) : Prop :=
  ∃ x : SolvedV, e = .returned (svV x) ∧ Below w.heap.size w w'
theorem among_cut (g c P : Nat) (A : Option Addr) (l : List (Fin 256)) (L : List Int) (cs : Array Value) (hcs : cs = (L.map (Value.int .i64)).toArray) (m c2 : Nat) (W w1 : World) (B : Nat) (hB : B = W.heap.size) (hl : l.length ≤ 65536) (hP : P ≤ 900000000) (h0 : 0 < m) (hm : m ≤ L.length) (h1 : m ≤ 1000) (hg : g < W.heap.size) (hgr : (W.alloc (.cells cs 3)).grownBy w1 (some g)) (h : Cur w1 g A c l P) :
    Calls Try.prog 87 #[.pointer (some ⟨g, 0, none⟩), .slice (some ⟨B, 0, none⟩) m c2] w1 fun e w' => ∃ x : Int, e = .returned (.int .i64 x) ∧ Cur w' g A c l (P + 2) ∧ w1.grownBy w' (some g) := by
  subst hB hcs
  have hr0 : RdI (W.alloc (.cells (L.map (Value.int .i64)).toArray 3)) (some ⟨W.heap.size, 0, none⟩) (L.take m) := by
    refine ⟨by simp [ints], fun _ => ⟨W.heap.size, 0, rfl, by simp, fun j u hu => ?_⟩⟩
    rw [Nat.zero_add, cell_of_row _ _ j _ _ (0, 0) (heap_alloc_new W _)]
    rw [ints_at?] at hu
    have hj : j < m := by
      cases hx : (L.take m)[j]? with
      | none => rw [hx] at hu; cases hu
      | some x => have := (List.getElem?_eq_some_iff.1 hx).1; rw [List.length_take] at this; omega
    rw [List.getElem?_take_of_lt hj] at hu
    simpa using hu
  have hr1 := hr0.grown hgr (fun _ b off hA he => by cases he; cases hA; omega)
  exact (among_any g c P A l _ c2 m (L.take m) _ hl hP (by rw [List.length_take]; omega) h0 h1 h hr1 (fun b off hA => by cases hA; omega)).mono fun e w' ⟨x, _, h2, h3, h4⟩ => ⟨x, h2, h3, h4⟩
set_option maxHeartbeats 2000000 in
theorem drawTotal_any (A : Option Addr) (c : Nat) (l : List (Fin 256)) (w : World) (hl : l.length ≤ 65536) (h : RdT byteT w A l) :
    Calls Try.prog 54 #[.slice A l.length c] w (RetL1 w) := by
  have hC := Cur.new (c := c) h
  have hb0 : Below w.heap.size w (w.alloc (.cells #[.slice A l.length c, .int .i64 0, .int .u64 0] 81)) := (Below.refl _ _).alloc (Nat.le_refl _) _
  go_enter Try.func54, Try.ntmps54
  go_wp2_with fail
  refine (solves_any w.heap.size c 0 A l _ hl (by omega) hC).mono ?_
  rintro e w1 ⟨s, A1, c1, hn1, rfl, HS⟩
  have hne := own_off HS.own w.heap.size HS.hgb
  have hrs := HS.own.rd
  have hc1 := HS.cur
  have hb1 := below_cur hb0 HS.old (Nat.le_refl _)
  have hgl := HS.cur.lt
  clear hb0 hC HS
  go_wp2_with fail
  refine (solver_any w.heap.size c _ A l A1 c1 s _ hl (by omega) hc1 hn1 hrs hne).mono ?_
  rintro e w2 ⟨x, rfl, hc2, hg2⟩
  go_wp2
  go_ret2
  exact ⟨s, A1, c1, x, rfl, hn1, hrs.grown solvedT hg2 (fun _ b off hA he => by cases he; exact hne _ _ hA rfl), below_cur hb1 hg2 (Nat.le_refl _)⟩
set_option maxHeartbeats 2000000 in
theorem drawPlace_any (A : Option Addr) (c : Nat) (l : List (Fin 256)) (w : World) (hl : l.length ≤ 65536) (h : RdT byteT w A l) :
    Calls Try.prog 56 #[.slice A l.length c] w (RetL1 w) := by
  go_enter Try.func56, Try.ntmps56
  go_wp2_with fail
  refine (drawTotal_any A c l w hl h).mono ?_
  rintro e w1 ⟨s, A1, c1, x, rfl, r⟩
  go_wp2
  go_ret2
  exact ⟨s, A1, c1, x, rfl, r⟩
set_option maxHeartbeats 2000000 in
theorem drawNeeded_any (A : Option Addr) (c : Nat) (l : List (Fin 256)) (w : World) (hl : l.length ≤ 65536) (h : RdT byteT w A l) :
    Calls Try.prog 53 #[.slice A l.length c] w (RetL1 w) := by
  go_enter Try.func53, Try.ntmps53
  go_wp2_with fail
  refine (drawTotal_any A c l w hl h).mono ?_
  rintro e w1 ⟨s, A1, c1, x, rfl, r⟩
  go_wp2
  go_ret2
  exact ⟨s, A1, c1, x, rfl, r⟩
set_option maxHeartbeats 2000000 in
theorem drawFinalists_any (A : Option Addr) (c : Nat) (l : List (Fin 256)) (w : World) (hl : l.length ≤ 65536) (h : RdT byteT w A l) :
    Calls Try.prog 57 #[.slice A l.length c] w (RetL1 w) := by
  have hC := Cur.new (c := c) h
  have hb0 : Below w.heap.size w (w.alloc (.cells #[.slice A l.length c, .int .i64 0, .int .u64 0] 81)) := (Below.refl _ _).alloc (Nat.le_refl _) _
  go_enter Try.func57, Try.ntmps57
  go_wp2_with fail
  refine (solves_any w.heap.size c 0 A l _ hl (by omega) hC).mono ?_
  rintro e w1 ⟨s, A1, c1, hn1, rfl, HS⟩
  have hne := own_off HS.own w.heap.size HS.hgb
  have hrs := HS.own.rd
  have hc1 := HS.cur
  have hb1 := below_cur hb0 HS.old (Nat.le_refl _)
  have hgl := HS.cur.lt
  clear hb0 hC HS
  have hc1' := hc1.kept (World.grownBy_alloc w1 (.cells #[.int .i64 1, .int .i64 2, .int .i64 3, .int .i64 20, .int .i64 0, .int .i64 21] 3) none) (by simp)
  go_wp2_with fail
  refine (pick_any w.heap.size c _ 24 A l _ hl (by omega) (by decide) (by decide) hc1').mono ?_
  rintro e w2 ⟨k, hk, rfl, hc2, hg2⟩
  have d1 : IntKind.i64.wrap (Int.tdiv (k : Int) 11) = (k : Int) / 11 := by rw [Int.tdiv_eq_ediv_of_nonneg (by omega)]; exact IntWalk.i64_in _ (by omega)
  have d2 : IntKind.i64.wrap (4 + (k : Int) / 11) = 4 + (k : Int) / 11 := IntWalk.i64_in _ (by omega)
  have hK := among_cut w.heap.size c _ A l [1, 2, 3, 20, 0, 21] _ rfl (4 + k / 11) 6 w1 w2 _ rfl hl (by omega) (by omega) (show 4 + k / 11 ≤ 6 by omega) (by omega) hgl hg2 hc2
  have hg1 := (World.grownBy_alloc w1 (.cells #[.int .i64 1, .int .i64 2, .int .i64 3, .int .i64 20, .int .i64 0, .int .i64 21] 3) (some w.heap.size)).trans hg2
  clear hg2 hc2 hc1' hc1
  have m0 : (0 : Int) ≤ 4 + (k : Int) / 11 := by omega
  have m6 : 4 + (k : Int) / 11 ≤ 6 := by omega
  go_wp2_with fail
  refine hK.mono ?_
  rintro e w3 ⟨x, rfl, hc3, hg3⟩
  go_wp2
  go_ret2
  have hg4 := hg1.trans hg3
  exact ⟨s, A1, c1, x, rfl, hn1, hrs.grown solvedT hg4 (fun _ b off hA he => by cases he; exact hne _ _ hA rfl), below_cur hb1 hg4 (Nat.le_refl _)⟩
set_option maxHeartbeats 2000000 in
theorem drawHeat_any (A : Option Addr) (c : Nat) (l : List (Fin 256)) (w : World) (hl : l.length ≤ 65536) (h : RdT byteT w A l) :
    Calls Try.prog 61 #[.slice A l.length c] w (RetL1 w) := by
  have hC := Cur.new (c := c) h
  have hb0 : Below w.heap.size w (w.alloc (.cells #[.slice A l.length c, .int .i64 0, .int .u64 0] 81)) := (Below.refl _ _).alloc (Nat.le_refl _) _
  go_enter Try.func61, Try.ntmps61
  go_wp2_with fail
  refine (solves_any w.heap.size c 0 A l _ hl (by omega) hC).mono ?_
  rintro e w1 ⟨s, A1, c1, hn1, rfl, HS⟩
  have hne := own_off HS.own w.heap.size HS.hgb
  have hrs := HS.own.rd
  have hc1 := HS.cur
  have hb1 := below_cur hb0 HS.old (Nat.le_refl _)
  have hgl := HS.cur.lt
  clear hb0 hC HS
  have hc1' := hc1.kept (World.grownBy_alloc w1 (.cells #[.int .i64 1, .int .i64 2, .int .i64 3, .int .i64 4, .int .i64 0, .int .i64 5] 3) none) (by simp)
  go_wp2_with fail
  refine (pick_any w.heap.size c _ 24 A l _ hl (by omega) (by decide) (by decide) hc1').mono ?_
  rintro e w2 ⟨k, hk, rfl, hc2, hg2⟩
  have d1 : IntKind.i64.wrap (Int.tdiv (k : Int) 11) = (k : Int) / 11 := by rw [Int.tdiv_eq_ediv_of_nonneg (by omega)]; exact IntWalk.i64_in _ (by omega)
  have d2 : IntKind.i64.wrap (4 + (k : Int) / 11) = 4 + (k : Int) / 11 := IntWalk.i64_in _ (by omega)
  have hK := among_cut w.heap.size c _ A l [1, 2, 3, 4, 0, 5] _ rfl (4 + k / 11) 6 w1 w2 _ rfl hl (by omega) (by omega) (show 4 + k / 11 ≤ 6 by omega) (by omega) hgl hg2 hc2
  have hg1 := (World.grownBy_alloc w1 (.cells #[.int .i64 1, .int .i64 2, .int .i64 3, .int .i64 4, .int .i64 0, .int .i64 5] 3) (some w.heap.size)).trans hg2
  clear hg2 hc2 hc1' hc1
  have m0 : (0 : Int) ≤ 4 + (k : Int) / 11 := by omega
  have m6 : 4 + (k : Int) / 11 ≤ 6 := by omega
  go_wp2_with fail
  refine hK.mono ?_
  rintro e w3 ⟨x, rfl, hc3, hg3⟩
  go_wp2
  go_ret2
  have hg4 := hg1.trans hg3
  exact ⟨s, A1, c1, x, rfl, hn1, hrs.grown solvedT hg4 (fun _ b off hA he => by cases he; exact hne _ _ hA rfl), below_cur hb1 hg4 (Nat.le_refl _)⟩
set_option maxHeartbeats 2000000 in
theorem drawPlaces_any (A : Option Addr) (c : Nat) (l : List (Fin 256)) (w : World) (hl : l.length ≤ 65536) (h : RdT byteT w A l) :
    Calls Try.prog 62 #[.slice A l.length c] w (RetL1 w) := by
  go_enter Try.func62, Try.ntmps62
  go_wp2_with fail
  refine (drawHeat_any A c l w hl h).mono ?_
  rintro e w1 ⟨s, A1, c1, x, rfl, r⟩
  go_wp2
  go_ret2
  exact ⟨s, A1, c1, x, rfl, r⟩
set_option maxHeartbeats 2000000 in
theorem drawProtest_any (A : Option Addr) (c : Nat) (l : List (Fin 256)) (w : World) (hl : l.length ≤ 65536) (h : RdT byteT w A l) :
    Calls Try.prog 51 #[.slice A l.length c] w (RetL2 w) := by
  have hC := Cur.new (c := c) h
  have hb0 : Below w.heap.size w (w.alloc (.cells #[.slice A l.length c, .int .i64 0, .int .u64 0] 81)) := (Below.refl _ _).alloc (Nat.le_refl _) _
  go_enter Try.func51, Try.ntmps51
  go_wp2_with fail
  refine (solves_any w.heap.size c 0 A l _ hl (by omega) hC).mono ?_
  rintro e w1 ⟨s, A1, c1, hn1, rfl, HS⟩
  have hne := own_off HS.own w.heap.size HS.hgb
  have hrs := HS.own.rd
  have hc1 := HS.cur
  have hb1 := below_cur hb0 HS.old (Nat.le_refl _)
  have hgl := HS.cur.lt
  clear hb0 hC HS
  rcases Nat.eq_zero_or_pos s.length with h0 | h0
  · have d1 : decide (0 < s.length) = false := decide_eq_false (by omega)
    clear h0
    go_wp2_with fail
    refine (solver_any w.heap.size c _ A l A1 c1 s _ hl (by omega) hc1 hn1 hrs hne).mono ?_
    rintro e w2 ⟨x, rfl, hc2, hg2⟩
    have hr2 := hrs.grown solvedT hg2 (fun _ b off hA he => by cases he; exact hne _ _ hA rfl)
    have hb2 := below_cur hb1 hg2 (Nat.le_refl _)
    go_wp2_with fail
    refine (pick_any w.heap.size c _ 6 A l _ hl (by omega) (by decide) (by decide) hc2).mono ?_
    rintro e w3 ⟨y, _, rfl, hc3, hg3⟩
    go_wp2
    refine bodyPost_ret (results_tmp3 rfl _ _ _) rfl ?_
    exact ⟨s, A1, c1, x, y, rfl, hn1, hr2.grown solvedT hg3 (fun _ b off hA he => by cases he; exact hne _ _ hA rfl), below_cur hb2 hg3 (Nat.le_refl _)⟩
  · have d1 : decide (0 < s.length) = true := decide_eq_true h0
    go_wp2_with fail
    refine (one_any w.heap.size c _ 6 A l _ hl (by omega) (by decide) (by decide) hc1).mono ?_
    rintro e w2 ⟨bo, rfl, hc2, hg2⟩
    have hr2 := hrs.grown solvedT hg2 (fun _ b off hA he => by cases he; exact hne _ _ hA rfl)
    have hb2 := below_cur hb1 hg2 (Nat.le_refl _)
    clear hb1 hg2 hrs hc1
    cases bo
    · go_wp2_with fail
      refine (pick_any w.heap.size c _ s.length A l _ hl (by omega) h0 (by omega) hc2).mono ?_
      rintro e w3 ⟨k, hk, rfl, hc3, hg3⟩
      have hr3 := hr2.grown solvedT hg3 (fun _ b off hA he => by cases he; exact hne _ _ hA rfl)
      have hb3 := below_cur hb2 hg3 (Nat.le_refl _)
      obtain ⟨b, off, pu, he, ri, wg, ti, rfl, hx, hlt, e0, e1, e2, e3, e4⟩ := solvedT_at hr3 hk
      have j1 : (k : Int) < (s.length : Int) := by omega
      obtain ⟨w4, hw4⟩ : ∃ w4 : World, w4 = w3.alloc (.cells #[.int .i64 pu, .int .i64 he, .int .i64 ri, .int .i64 wg, .int .i64 ti] 25) := ⟨_, rfl⟩
      obtain ⟨tb, htb⟩ : ∃ tb : Nat, tb = w3.heap.size := ⟨_, rfl⟩
      have BT : Blk w4 tb 25 #[.int .i64 pu, .int .i64 he, .int .i64 ri, .int .i64 wg, .int .i64 ti] := by rw [hw4, htb]; exact Blk.new w3 _ _
      have hb4 : Below w.heap.size w w4 := by rw [hw4]; exact hb3.alloc hb3.size _
      have hr4 : RdT solvedT w4 (some ⟨b, off, none⟩) s := by rw [hw4]; exact hr3.below ((Below.refl _ _).alloc (Nat.le_refl _) _) (Nat.le_refl _)
      clear hx
      go_upto_region 6 with fail
      rw [← hw4, ← htb]
      clear hw4 htb e0 e1 e2 e3 e4
      have k0 := BT.cell 0
      have k1 := BT.cell 1
      go_region
      go_wp2
      refine bodyPost_ret (results_tmp3 rfl _ _ _) rfl ?_
      exact ⟨s, _, c1, pu, he, rfl, hn1, hr4.below (Below.refl _ _).drew (Nat.le_refl _), hb4.drew⟩
    · go_wp2_with fail
      refine (solver_any w.heap.size c _ A l A1 c1 s _ hl (by omega) hc2 hn1 hr2 hne).mono ?_
      rintro e w3 ⟨x, rfl, hc3, hg3⟩
      have hr3 := hr2.grown solvedT hg3 (fun _ b off hA he => by cases he; exact hne _ _ hA rfl)
      have hb3 := below_cur hb2 hg3 (Nat.le_refl _)
      go_wp2_with fail
      refine (pick_any w.heap.size c _ 6 A l _ hl (by omega) (by decide) (by decide) hc3).mono ?_
      rintro e w4 ⟨y, _, rfl, hc4, hg4⟩
      go_wp2
      refine bodyPost_ret (results_tmp3 rfl _ _ _) rfl ?_
      exact ⟨s, A1, c1, x, y, rfl, hn1, hr3.grown solvedT hg4 (fun _ b off hA he => by cases he; exact hne _ _ hA rfl), below_cur hb3 hg4 (Nat.le_refl _)⟩
set_option maxHeartbeats 2000000 in
theorem drawIsSolved_any (A : Option Addr) (c : Nat) (l : List (Fin 256)) (w : World) (hl : l.length ≤ 65536) (h : RdT byteT w A l) :
    Calls Try.prog 86 #[.slice A l.length c] w (RetV1 w) := by
  obtain ⟨wz, hwz⟩ : ∃ wz : World, wz = w.alloc (.cells #[.int .i64 0, .int .i64 0, .int .i64 0, .int .i64 0, .int .i64 0] 25) := ⟨_, rfl⟩
  obtain ⟨rb, hrb⟩ : ∃ rb : Nat, rb = w.heap.size := ⟨_, rfl⟩
  have BR0 : Blk wz rb 25 #[.int .i64 0, .int .i64 0, .int .i64 0, .int .i64 0, .int .i64 0] := by rw [hwz, hrb]; exact Blk.new w _ _
  have hz : Below w.heap.size w wz := by rw [hwz]; exact (Below.refl _ _).alloc (Nat.le_refl _) _
  have hC := Cur.new (c := c) (h.below hz (Nat.le_refl _))
  have hb0 : Below w.heap.size w (wz.alloc (.cells #[.slice A l.length c, .int .i64 0, .int .u64 0] 81)) := hz.alloc hz.size _
  have BR1 := BR0.alloc (.cells #[.slice A l.length c, .int .i64 0, .int .u64 0] 81)
  have hrz : rb < wz.heap.size := BR0.lt
  have hwr : w.heap.size ≤ rb := by omega
  obtain ⟨w1, hw1⟩ : ∃ w1 : World, w1 = wz.alloc (.cells #[.slice A l.length c, .int .i64 0, .int .u64 0] 81) := ⟨_, rfl⟩
  rw [← hw1] at hC hb0 BR1
  go_enter Try.func86, Try.ntmps86
  go_upto_region 1 with fail
  rw [← hwz, ← hrb]
  clear hwz hrb BR0
  go_upto_region 2 with fail
  rw [← hw1]
  clear hw1
  go_wp2_with fail
  refine (among_lit wz.heap.size c _ A l [1, 42, 999] 3 w1 _ rfl rfl hl (by omega) (by decide) (by decide) hC).mono ?_
  rintro e w2 ⟨p, _, rfl, hc2, hg2⟩
  have BR2 := BR1.gr hg2 (by simp; omega)
  have hb2 := hb0.grown hg2 hb0.size (fun i hi => by cases hi; exact hz.size)
  clear BR1 hb0 hC hg2
  go_wp2_with fail
  refine (pick_any wz.heap.size c _ 4 A l _ hl (by omega) (by decide) (by decide) hc2).mono ?_
  rintro e w3 ⟨t, ht, rfl, hc3, hg3⟩
  have BR3 := BR2.gr hg3 (by simp; omega)
  have hb3 := hb2.grown hg3 hb2.size (fun i hi => by cases hi; exact hz.size)
  have i1 : IntKind.i64.wrap (1 + (t : Int)) = 1 + (t : Int) := IntWalk.i64_in _ (by omega)
  clear BR2 hb2 hc2 hg3
  go_wp2_with fail
  refine (solved_any wz.heap.size c _ A l p (1 + (t : Int)) _ hl (by omega) hc3).mono ?_
  rintro e w4 ⟨x, rfl, hc4, hg4⟩
  have BR := BR3.gr hg4 (by simp; omega)
  have hb4 := hb3.grown hg4 hb3.size (fun i hi => by cases hi; exact hz.size)
  have r0 := BR.cell 0
  have r1 := BR.cell 1
  have r2 := BR.cell 2
  have r3 := BR.cell 3
  have r4 := BR.cell 4
  have q0 := BR.frozen 0
  have q1 := BR.frozen 1
  have q2 := BR.frozen 2
  have q3 := BR.frozen 3
  have q4 := BR.frozen 4
  unfold svV
  go_wp2
  refine bodyPost_ret (v := svV x) (by simp [svV, results, Try.results86, go_sem, r0, r1, r2, r3, r4]) rfl ⟨x, rfl, ?_⟩
  exact ((((hb4.setCell hwr _).setCell hwr _).setCell hwr _).setCell hwr _).setCell hwr _
set_option maxHeartbeats 2000000 in
theorem drawScore_any (A : Option Addr) (c : Nat) (l : List (Fin 256)) (w : World) (hl : l.length ≤ 65536) (h : RdT byteT w A l) :
    Calls Try.prog 55 #[.slice A l.length c] w (RetV1 w) := by
  obtain ⟨wz, hwz⟩ : ∃ wz : World, wz = w.alloc (.cells #[.int .i64 0, .int .i64 0, .int .i64 0, .int .i64 0, .int .i64 0] 25) := ⟨_, rfl⟩
  obtain ⟨rb, hrb⟩ : ∃ rb : Nat, rb = w.heap.size := ⟨_, rfl⟩
  have BR0 : Blk wz rb 25 #[.int .i64 0, .int .i64 0, .int .i64 0, .int .i64 0, .int .i64 0] := by rw [hwz, hrb]; exact Blk.new w _ _
  have hz : Below w.heap.size w wz := by rw [hwz]; exact (Below.refl _ _).alloc (Nat.le_refl _) _
  have hrz : rb < wz.heap.size := BR0.lt
  have hwr : w.heap.size ≤ rb := by omega
  go_enter Try.func55, Try.ntmps55
  go_upto_region 1 with fail
  rw [← hwz, ← hrb]
  clear hwz hrb
  go_wp2_with fail
  refine (drawIsSolved_any A c l _ hl (h.below hz (Nat.le_refl _))).mono ?_
  rintro e w1 ⟨x, rfl, hb1⟩
  have BR := BR0.below hb1 hrz
  have hb2 := hz.trans (hb1.mono hz.size)
  have r0 := BR.cell 0
  have r1 := BR.cell 1
  have r2 := BR.cell 2
  have r3 := BR.cell 3
  have r4 := BR.cell 4
  have q0 := BR.frozen 0
  have q1 := BR.frozen 1
  have q2 := BR.frozen 2
  have q3 := BR.frozen 3
  have q4 := BR.frozen 4
  unfold svV
  go_wp2
  refine bodyPost_ret (v := svV x) (by simp [svV, results, Try.results55, go_sem, r0, r1, r2, r3, r4]) rfl ⟨x, rfl, ?_⟩
  exact ((((hb2.setCell hwr _).setCell hwr _).setCell hwr _).setCell hwr _).setCell hwr _
end Go.Proofs.Ytcbecfkckdalmaa
