/-
  The draw of a frame.
-/
import Derived.Test.YtkcbldaondflmaaFrmC
import Derived.Deep.RegionHeld3
import Derived.Deep.DeepCutAuto
import Derived.Deep.LoopGhost
namespace Go.Proofs.Ytkcbldaondflmaa
open Go.RowKit Go.Lib Go.Lib.Hx

theorem Sta.freshRod {base : Nat} {W w : World} {g c P : Nat} {A : Option Addr} {l : List (Fin 256)} {v : Value} {out : List (Int × Int)} (h : Sta rodT base W w g A c l P v out) : Sta rodT base W (w.alloc (.cells #[] 80)) g A c l P (.slice (some ⟨w.heap.size, 0, none⟩) 0 0) [] :=
  ⟨ownRod_empty w base h.size, h.cur.kept (World.grownBy_alloc w _ none) (by simp), h.old.trans (World.grownBy_alloc w _ (some g)), Nat.le_trans h.size (by simp), h.lo, h.le⟩
theorem lit_rd (W : World) (L : List Int) (cs : Array Value) (hcs : cs = (L.map (Value.int .i64)).toArray) : RdI (W.alloc (.cells cs 3)) (some ⟨W.heap.size, 0, none⟩) L := by
  subst hcs
  refine ⟨by simp [ints], fun _ => ⟨W.heap.size, 0, rfl, by simp, fun j u hu => ?_⟩⟩
  rw [Nat.zero_add, cell_of_row _ _ j _ _ (0, 0) (heap_alloc_new W _)]
  simpa [ints] using hu
/-- A frame, drawn. -/
def FrRes (g c P : Nat) (A : Option Addr) (l : List (Fin 256)) (w : World) (e : Ending) (w' : World) : Prop :=
  ∃ (up lo : Int) (R : List (Int × Int)) (A' : Option Addr) (c' : Nat), 1 ≤ R.length ∧ R.length ≤ 9 ∧ e = .returned (.agg #[.int .i64 up, .int .i64 lo, .slice A' R.length c']) ∧ Sta rodT w.heap.size w w' g A c l (P + 100) (.slice A' R.length c') R
set_option maxRecDepth 100000 in
set_option maxHeartbeats 8000000 in
theorem frame_any (g c P : Nat) (A : Option Addr) (l : List (Fin 256)) (w : World) (hl : l.length ≤ 65536) (hP : P ≤ 700000000) (h : Cur w g A c l P) :
    Calls Try.prog 67 #[.pointer (some ⟨g, 0, none⟩)] w (FrRes g c P A l w) := by
  have hgl := h.lt
  obtain ⟨w1, hw1⟩ : ∃ w1 : World, w1 = w.alloc (.cells #[.int .i64 0, .int .i64 0, .slice none 0 0] 71) := ⟨_, rfl⟩
  obtain ⟨rb, hrb⟩ : ∃ rb : Nat, rb = w.heap.size := ⟨_, rfl⟩
  have HS1 : Sta rodT w.heap.size w w1 g A c l P (.slice none 0 0) [] := by
    rw [hw1]
    exact ⟨(OwnT.nil w w.heap.size).alloc _, h.kept (World.grownBy_alloc w _ none) (by simp), World.grownBy_alloc w _ (some g), by simp, hgl, Nat.le_refl _⟩
  have BR1 : Blk w1 rb 71 #[.int .i64 0, .int .i64 0, .slice none 0 0] := by rw [hw1, hrb]; exact Blk.new w _ _
  have hgr : g < rb := by omega
  have hrs : w.heap.size ≤ rb := by omega
  have hc1 := HS1.cur
  go_enter Try.func67, Try.ntmps67
  go_upto_region 1 with fail
  rw [← hw1, ← hrb]
  clear hw1 hrb
  go_wp2_with fail
  refine (pick_any g c P 2 A l _ hl (by omega) (by decide) (by decide) hc1).mono ?_
  rintro e w2 ⟨a0, ha0, rfl, hc2, hg2⟩
  have HS2 := HS1.gr hg2 hc2
  have BR2 := BR1.gr hg2 (by simp; omega)
  obtain ⟨u, hu⟩ : ∃ u : Nat, u = 1 + a0 := ⟨_, rfl⟩
  have i1 : IntKind.i64.wrap (1 + (a0 : Int)) = (u : Int) := by rw [IntWalk.i64_in _ (by omega)]; omega
  have hu2 : u ≤ 2 := by omega
  have hu1 : 1 ≤ u := by omega
  clear HS1 BR1 hc1 hg2 hu
  go_wp2_with fail
  refine (pick_any g c _ 2 A l _ hl (by omega) (by decide) (by decide) hc2).mono ?_
  rintro e w3 ⟨a1, ha1, rfl, hc3, hg3⟩
  have HS3 := HS2.gr hg3 hc3
  have BR3 := BR2.gr hg3 (by simp; omega)
  obtain ⟨v, hv⟩ : ∃ v : Nat, v = 4 + a1 := ⟨_, rfl⟩
  have i2 : IntKind.i64.wrap (4 + (a1 : Int)) = (v : Int) := by rw [IntWalk.i64_in _ (by omega)]; omega
  have hv2 : v ≤ 5 := by omega
  clear HS2 BR2 hc2 hg3 hv hc3
  obtain ⟨w5, hw5⟩ : ∃ w5 : World, w5 = (w3.alloc (.cells #[] 80)).alloc (.cells #[.int .i64 u, .int .i64 v, .slice (some ⟨w3.heap.size, 0, none⟩) 0 0] 71) := ⟨_, rfl⟩
  obtain ⟨fb, hfb⟩ : ∃ fb : Nat, fb = w3.heap.size + 1 := ⟨_, rfl⟩
  obtain ⟨ob, hob⟩ : ∃ ob : Nat, ob = w3.heap.size := ⟨_, rfl⟩
  have HS5 : Sta rodT w.heap.size w w5 g A c l (P + 2 + 2) (.slice (some ⟨ob, 0, none⟩) 0 0) [] := by rw [hw5, hob]; exact (HS3.freshRod).alloc _
  have BR5 : Blk w5 rb 71 #[.int .i64 0, .int .i64 0, .slice none 0 0] := by rw [hw5]; exact (BR3.alloc _).alloc _
  have BF5 : Blk w5 fb 71 #[.int .i64 u, .int .i64 v, .slice (some ⟨ob, 0, none⟩) 0 0] := by rw [hw5, hfb, hob]; exact Blk.new1 w3 _ _ _
  have hrf : rb < fb := by have := BR3.lt; omega
  clear HS3 BR3
  go_upto_region 2 with fail
  rw [← hw5, ← hfb, ← hob]
  clear hw5 hfb hob i1 i2
  have hc5 := HS5.cur
  go_wp2_with fail
  refine (pick_any g c _ 5 A l _ hl (by omega) (by decide) (by decide) hc5).mono ?_
  rintro e w6 ⟨n0, hn0, rfl, hc6, hg6⟩
  have HS6 := HS5.gr hg6 hc6
  have BR6 := BR5.gr hg6 (by simp; omega)
  have BF6 := BF5.gr hg6 (by simp; omega)
  have i1 : IntKind.i64.wrap (1 + (n0 : Int)) = ((n0 + 1 : Nat) : Int) := by rw [IntWalk.i64_in _ (by omega)]; omega
  obtain ⟨u9, hu9⟩ : ∃ u9 : Nat, u9 = u + 1 := ⟨_, rfl⟩
  obtain ⟨v9, hv9⟩ : ∃ v9 : Nat, v9 = v + 1 := ⟨_, rfl⟩
  have i3 : IntKind.i64.wrap ((u : Int) + 1) = (u9 : Int) := by rw [IntWalk.i64_in _ (by omega)]; omega
  have i4 : IntKind.i64.wrap ((v : Int) + 1) = (v9 : Int) := by rw [IntWalk.i64_in _ (by omega)]; omega
  have u91 : 0 < u9 := by omega
  have u92 : u9 ≤ 1000 := by omega
  have v91 : 0 < v9 := by omega
  have v92 : v9 ≤ 1000 := by omega
  clear hu9 hv9
  clear HS5 BR5 BF5 hc5 hg6 hc6
  go_wp2_with fail
  go_loopw [4] (fun n wr => ∃ (k : Nat) (R : List (Int × Int)) (A' : Option Addr) (c' : Nat), n = .int .i64 k ∧ R.length + k ≤ 5 ∧ 1 ≤ R.length + k ∧ Sta rodT w.heap.size w wr g A c l (P + 6 + 4 * R.length) (.slice A' R.length c') R ∧ Blk wr fb 71 #[.int .i64 u, .int .i64 v, .slice A' R.length c'] ∧ Blk wr rb 71 #[.int .i64 0, .int .i64 0, .slice none 0 0]) (fun n _ => (intOf n).toNat)
  case atStart => exact ⟨n0 + 1, [], _, 0, rfl, by simp; omega, by simp, HS6.more (by omega), BF6, BR6⟩
  case round =>
    obtain ⟨k, R, A', c', rfl, hk5, hk1, HS, BF, BR⟩ := hrel
    clear HS6 BR6 BF6 i1
    rcases Nat.eq_zero_or_pos k with hk | hk
    · have d1 : decide (0 < k) = false := decide_eq_false (by omega)
      have hR1 : 1 ≤ R.length := by omega
      clear hk
      have hc3 := HS.cur
      go_wp2_with fail
      refine (pick_any g c _ 32 A l _ hl (by omega) (by decide) (by decide) hc3).mono ?_
      rintro e w7 ⟨b, hb32, rfl, hc7, hg7⟩
      have HS7 := HS.gr hg7 hc7
      have BF7 := BF.gr hg7 (by simp; omega)
      have BR7 := BR.gr hg7 (by simp; omega)
      clear HS BF BR hc3 hg7 d1
      rcases (show b = 0 ∨ b = 1 ∨ b = 2 ∨ b = 3 ∨ (¬ b = 0 ∧ ¬ b = 1 ∧ ¬ b = 2 ∧ ¬ b = 3) by omega) with rfl | rfl | rfl | rfl | ⟨hn0, hn1, hn2, hn3⟩
      · obtain ⟨gp, rfl, hgp, hgp2⟩ := HS7.own.head (by omega)
        have k2 : w7.cell? ⟨fb, 2, none⟩ = some (.slice (some ⟨gp, 0, none⟩) R.length c') := BF7.cell 2
        have j1 : (0 : Int) < (R.length : Int) := by omega
        have j2 : 0 < R.length := by omega
        have j3 : decide (0 < R.length) = true := decide_eq_true j2
        have j4 : ¬ R = [] := by rintro rfl; simp at j2
        have hne : ¬ fb = gp := BF7.ne_own HS7.own (by decide)
        have hgw : g < w7.heap.size := hc7.lt
        go_upto_region 8 with fail
        have U1 := (World.grownBy_alloc w7 (.cells #[.int .i64 (-1), .int .i64 0, .int .i64 3] 3) (some g))
        have U2 := U1.trans (World.grownBy_alloc (w7.alloc (.cells #[.int .i64 (-1), .int .i64 0, .int .i64 3] 3)) (.cells #[.int .i64 (-1), .int .i64 0, .int .i64 6] 3) (some g))
        have U3 := ((World.grownBy_alloc w7 (.cells #[.int .i64 (-1), .int .i64 0, .int .i64 6] 3) (some g))).trans (World.grownBy_alloc (w7.alloc (.cells #[.int .i64 (-1), .int .i64 0, .int .i64 6] 3)) (.cells #[.int .i64 (-1), .int .i64 0, .int .i64 3] 3) (some g))
        have e1 : (w7.alloc (.cells #[.int .i64 (-1), .int .i64 0, .int .i64 3] 3)).heap.size = w7.heap.size + 1 := by simp
        have e2 : (w7.alloc (.cells #[.int .i64 (-1), .int .i64 0, .int .i64 6] 3)).heap.size = w7.heap.size + 1 := by simp
        have C1 : Cur (w7.alloc (.cells #[.int .i64 (-1), .int .i64 0, .int .i64 3] 3)).drew g A c l (P + 6 + 4 * R.length + 2) := hc7.kept (gr_drew (World.grownBy_alloc w7 _ none)) (by simp)
        have C2 : Cur ((w7.alloc (.cells #[.int .i64 (-1), .int .i64 0, .int .i64 3] 3)).alloc (.cells #[.int .i64 (-1), .int .i64 0, .int .i64 6] 3)).drew g A c l (P + 6 + 4 * R.length + 2) := (hc7.kept (World.grownBy_alloc w7 _ none) (by simp)).kept (gr_drew (World.grownBy_alloc _ _ none)) (by simp)
        have C3 : Cur ((w7.alloc (.cells #[.int .i64 (-1), .int .i64 0, .int .i64 6] 3)).alloc (.cells #[.int .i64 (-1), .int .i64 0, .int .i64 3] 3)).drew g A c l (P + 6 + 4 * R.length + 2) := (hc7.kept (World.grownBy_alloc w7 _ none) (by simp)).kept (gr_drew (World.grownBy_alloc _ _ none)) (by simp)
        have L1 : RdI (w7.alloc (.cells #[.int .i64 (-1), .int .i64 0, .int .i64 3] 3)).drew (some ⟨w7.heap.size, 0, none⟩) [-1, 0, 3] := (lit_rd w7 [-1, 0, 3] _ rfl).below (Below.refl _ _).drew (Nat.le_refl _)
        have L2 : RdI ((w7.alloc (.cells #[.int .i64 (-1), .int .i64 0, .int .i64 3] 3)).alloc (.cells #[.int .i64 (-1), .int .i64 0, .int .i64 6] 3)).drew (some ⟨w7.heap.size, 0, none⟩) [-1, 0, 3] := (lit_rd w7 [-1, 0, 3] _ rfl).below (((Below.refl _ _).alloc (Nat.le_refl _) _).drew) (Nat.le_refl _)
        have L3 : RdI ((w7.alloc (.cells #[.int .i64 (-1), .int .i64 0, .int .i64 6] 3)).alloc (.cells #[.int .i64 (-1), .int .i64 0, .int .i64 3] 3)).drew (some ⟨w7.heap.size + 1, 0, none⟩) [-1, 0, 3] := by
          have := (lit_rd (w7.alloc (.cells #[.int .i64 (-1), .int .i64 0, .int .i64 6] 3)) [-1, 0, 3] _ rfl).below ((Below.refl _ _).drew) (Nat.le_refl _)
          rw [e2] at this; exact this
        have M2 : RdI ((w7.alloc (.cells #[.int .i64 (-1), .int .i64 0, .int .i64 3] 3)).alloc (.cells #[.int .i64 (-1), .int .i64 0, .int .i64 6] 3)).drew (some ⟨w7.heap.size + 1, 0, none⟩) [-1, 0, 6] := by
          have := (lit_rd (w7.alloc (.cells #[.int .i64 (-1), .int .i64 0, .int .i64 3] 3)) [-1, 0, 6] _ rfl).below ((Below.refl _ _).drew) (Nat.le_refl _)
          rw [e1] at this; exact this
        have M3 : RdI ((w7.alloc (.cells #[.int .i64 (-1), .int .i64 0, .int .i64 6] 3)).alloc (.cells #[.int .i64 (-1), .int .i64 0, .int .i64 3] 3)).drew (some ⟨w7.heap.size, 0, none⟩) [-1, 0, 6] := (lit_rd w7 [-1, 0, 6] _ rfl).below (((Below.refl _ _).alloc (Nat.le_refl _) _).drew) (Nat.le_refl _)
        have K1 := among_any g c _ A l _ 3 3 [-1, 0, 3] _ hl (by omega) rfl (by decide) (by decide) C1 L1 (fun b off hA => by cases hA; omega)
        have K2 := among_any g c _ A l _ 3 3 [-1, 0, 3] _ hl (by omega) rfl (by decide) (by decide) C2 L2 (fun b off hA => by cases hA; omega)
        have K3 := among_any g c _ A l _ 3 3 [-1, 0, 3] _ hl (by omega) rfl (by decide) (by decide) C3 L3 (fun b off hA => by cases hA; omega)
        have PK := Lib.hid (And.intro HS7 (And.intro BF7 BR7))
        clear HS7 BF7 BR7 C1 C2 C3 L1 L2 L3
        go_region_held3 (fun wy => wy.cell? ⟨fb, 2, none⟩ = some (.slice (some ⟨gp, 0, none⟩) R.length c'))
          (((try dsimp only) <;> (first
            | (with_reducible assumption) | (with_reducible exact cell_drew k2) | (with_reducible exact cell_drew (box_old k2 _)) | (with_reducible exact cell_drew (box_old (box_old k2 _) _)) | (with_reducible exact box_old t2 _)
            | (exact cell_far1 (cell_far1 p2 hne _ _) hne _ _))))
          (first
            | (go_at_call 68; (with_reducible refine K1.mono ?_); rintro e w8 ⟨z1, _, rfl, hc8, hg8⟩; have G8 := U1.trans (gr_of_drewD hg8); have HS8 := PK.out.1.gr G8 hc8; have BF8 := PK.out.2.1.gr G8 (by simp; omega); have BR8 := PK.out.2.2.gr G8 (by simp; omega); have t2 : w8.cell? ⟨fb, 2, none⟩ = some (.slice (some ⟨gp, 0, none⟩) R.length c') := BF8.cell 2; have L4 : RdI (w8.alloc (.cells #[.int .i64 (-1), .int .i64 0, .int .i64 6] 3)) (some ⟨w8.heap.size, 0, none⟩) [-1, 0, 6] := lit_rd w8 _ _ rfl; have K4 := among_any g c _ A l _ 3 3 [-1, 0, 6] (w8.alloc (.cells #[.int .i64 (-1), .int .i64 0, .int .i64 6] 3)) hl (by omega) rfl (by decide) (by decide) (hc8.kept (World.grownBy_alloc w8 _ none) (by simp)) L4 (fun b off hA => by cases hA; have := hc8.lt; omega))
            | (go_at_call 68; (with_reducible refine K2.mono ?_); rintro e w8 ⟨z1, _, rfl, hc8, hg8⟩; have G8 := U2.trans (gr_of_drewD hg8); have HS8 := PK.out.1.gr G8 hc8; have BF8 := PK.out.2.1.gr G8 (by simp; omega); have BR8 := PK.out.2.2.gr G8 (by simp; omega); have t2 : w8.cell? ⟨fb, 2, none⟩ = some (.slice (some ⟨gp, 0, none⟩) R.length c') := BF8.cell 2; have K5 := among_any g c _ A l _ 3 3 [-1, 0, 6] w8 hl (by omega) rfl (by decide) (by decide) hc8 (M2.grown hg8 (fun _ b off hA => by cases hA; exact (fun e => by have e9 : w7.heap.size + 1 = g := Option.some.inj e; omega))) (fun b off hA => by cases hA; omega))
            | (go_at_call 68; (with_reducible refine K3.mono ?_); rintro e w8 ⟨z1, _, rfl, hc8, hg8⟩; have G8 := U3.trans (gr_of_drewD hg8); have HS8 := PK.out.1.gr G8 hc8; have BF8 := PK.out.2.1.gr G8 (by simp; omega); have BR8 := PK.out.2.2.gr G8 (by simp; omega); have t2 : w8.cell? ⟨fb, 2, none⟩ = some (.slice (some ⟨gp, 0, none⟩) R.length c') := BF8.cell 2; have K5 := among_any g c _ A l _ 3 3 [-1, 0, 6] w8 hl (by omega) rfl (by decide) (by decide) hc8 (M3.grown hg8 (fun _ b off hA => by cases hA; exact (fun e => by have e9 : w7.heap.size = g := Option.some.inj e; omega))) (fun b off hA => by cases hA; omega))
            | (go_at_call 68; (with_reducible refine K4.mono ?_); rintro e w9 ⟨z2, _, rfl, hc9, hg9'⟩; have hg9 := (World.grownBy_alloc w8 (.cells #[.int .i64 (-1), .int .i64 0, .int .i64 6] 3) (some g)).trans hg9'; have HS9 := HS8.gr hg9 hc9; have BF9 := BF8.gr hg9 (by simp; omega); have BR9 := BR8.gr hg9 (by simp; omega); have p2 : w9.cell? ⟨fb, 2, none⟩ = some (.slice (some ⟨gp, 0, none⟩) R.length c') := BF9.cell 2; obtain ⟨_, _, _, s0, s1, f0, f1⟩ := rod_own HS9.own (show 0 < R.length by omega))
            | (go_at_call 68; (with_reducible refine K5.mono ?_); rintro e w9 ⟨z2, _, rfl, hc9, hg9⟩; have HS9 := HS8.gr hg9 hc9; have BF9 := BF8.gr hg9 (by simp; omega); have BR9 := BR8.gr hg9 (by simp; omega); have p2 : w9.cell? ⟨fb, 2, none⟩ = some (.slice (some ⟨gp, 0, none⟩) R.length c') := BF9.cell 2; obtain ⟨_, _, _, s0, s1, f0, f1⟩ := rod_own HS9.own (show 0 < R.length by omega)))
        all_goals
          have HSF := HS9.of_set (k := 0) (show 0 < R.length by omega) (z1, z2)
          have BFF := (BF9.far (p := ⟨gp, 0, none⟩) hne (.int .i64 z1)).far (p := ⟨gp, 1, none⟩) hne (.int .i64 z2)
          have BRF := (BR9.far (p := ⟨gp, 0, none⟩) (BR9.ne_own HS9.own (by decide)) (.int .i64 z1)).far (p := ⟨gp, 1, none⟩) (BR9.ne_own HS9.own (by decide)) (.int .i64 z2)
          obtain ⟨wf, hwf⟩ : ∃ wf : World, wf = (w9.setCell ⟨gp, 0, none⟩ (.int .i64 z1)).setCell ⟨gp, 1, none⟩ (.int .i64 z2) := ⟨_, rfl⟩
          have HSF : Sta rodT w.heap.size w wf g A c l (P + 6 + 4 * R.length + 2 + 2 + 2) (.slice (some ⟨gp, 0, none⟩) (R.set 0 (z1, z2)).length c') (R.set 0 (z1, z2)) := by rw [hwf, List.length_set]; exact HSF
          have BFF : Blk wf fb 71 #[.int .i64 u, .int .i64 v, .slice (some ⟨gp, 0, none⟩) R.length c'] := by rw [hwf]; exact BFF
          have BRF : Blk wf rb 71 #[.int .i64 0, .int .i64 0, .slice none 0 0] := by rw [hwf]; exact BRF
          go_upto_region 16 with fail
          rw [← hwf]
          clear hwf HS9 BF9 BR9
          have hll : (R.set 0 (z1, z2)).length = R.length := List.length_set
          have HLL := Lib.hid hll
          clear hll
          have k0 := BFF.cell 0
          have k1 := BFF.cell 1
          have k2 := BFF.cell 2
          have r0 := BRF.cell 0
          have r1 := BRF.cell 1
          have r2 := BRF.cell 2
          have q0 := BRF.frozen 0
          have q1 := BRF.frozen 1
          have q2 := BRF.frozen 2
          go_wp2
          refine bodyPost_ret (v := .agg #[.int .i64 u, .int .i64 v, .slice (some ⟨gp, 0, none⟩) R.length c']) (by simp [results, Try.results67, go_sem, r0, r1, r2]) rfl ⟨_, _, R.set 0 (z1, z2), some ⟨gp, 0, none⟩, c', ?_, ?_, by rw [HLL.out], ?_⟩
          · rw [HLL.out]; omega
          · rw [HLL.out]; omega
          · have hapr : ApartV (boxV rb) (.slice (some ⟨gp, 0, none⟩) (R.set 0 (z1, z2)).length c') := .inr (BRF.ne_v HSF.own (by decide))
            exact (((HSF.put hapr hrs 0 _).put hapr hrs 1 _).put hapr hrs 2 _).more (by omega)
      · go_wp2_with fail
        refine (among_lit g c _ A l [0, 3] 2 w7 _ rfl rfl hl (by omega) (by decide) (by decide) hc7).mono ?_
        rintro e w8 ⟨z, _, rfl, hc8, hg8⟩
        have HS8 := HS7.gr hg8 hc8
        have BF8 := BF7.gr hg8 (by simp; omega)
        have BR8 := BR7.gr hg8 (by simp; omega)
        clear HS7 BF7 BR7 hc7 hg8
        obtain ⟨w9, hw9⟩ : ∃ w9 : World, w9 = w8.setCell ⟨fb, 0, none⟩ (.int .i64 z) := ⟨_, rfl⟩
        have HS9 : Sta rodT w.heap.size w w9 g A c l (P + 6 + 4 * R.length + 2 + 2) (.slice A' R.length c') R := by rw [hw9]; exact HS8.put (.inr (BF8.ne_v HS8.own (by decide))) (by omega) _ _
        have BF9 : Blk w9 fb 71 #[.int .i64 z, .int .i64 v, .slice A' R.length c'] := by rw [hw9]; exact BF8.set_ 0 _
        have BR9 : Blk w9 rb 71 #[.int .i64 0, .int .i64 0, .slice none 0 0] := by rw [hw9]; exact BR8.far (by simp; omega) _
        have q6 := BF8.frozen 0
        have q7 := BF8.cell 0
        go_upto_region 16 with fail
        rw [← hw9]
        clear hw9 q6 q7 BF8 BR8 HS8
        have k0 := BF9.cell 0
        have k1 := BF9.cell 1
        have k2 := BF9.cell 2
        have r0 := BR9.cell 0
        have r1 := BR9.cell 1
        have r2 := BR9.cell 2
        have q0 := BR9.frozen 0
        have q1 := BR9.frozen 1
        have q2 := BR9.frozen 2
        go_wp2
        refine bodyPost_ret (v := .agg #[.int .i64 z, .int .i64 v, .slice A' R.length c']) (by simp [results, Try.results67, go_sem, r0, r1, r2]) rfl ⟨_, _, R, _, _, ?_, ?_, rfl, ?_⟩
        · omega
        · omega
        · have hapr : ApartV (boxV rb) (.slice A' R.length c') := .inr (BR9.ne_v HS9.own (by decide))
          exact (((HS9.put hapr hrs 0 _).put hapr hrs 1 _).put hapr hrs 2 _).more (by omega)
      · go_wp2_with fail
        refine (among_lit g c _ A l [3, 6] 2 w7 _ rfl rfl hl (by omega) (by decide) (by decide) hc7).mono ?_
        rintro e w8 ⟨z, _, rfl, hc8, hg8⟩
        have HS8 := HS7.gr hg8 hc8
        have BF8 := BF7.gr hg8 (by simp; omega)
        have BR8 := BR7.gr hg8 (by simp; omega)
        clear HS7 BF7 BR7 hc7 hg8
        obtain ⟨w9, hw9⟩ : ∃ w9 : World, w9 = w8.setCell ⟨fb, 1, none⟩ (.int .i64 z) := ⟨_, rfl⟩
        have HS9 : Sta rodT w.heap.size w w9 g A c l (P + 6 + 4 * R.length + 2 + 2) (.slice A' R.length c') R := by rw [hw9]; exact HS8.put (.inr (BF8.ne_v HS8.own (by decide))) (by omega) _ _
        have BF9 : Blk w9 fb 71 #[.int .i64 u, .int .i64 z, .slice A' R.length c'] := by rw [hw9]; exact BF8.set_ 1 _
        have BR9 : Blk w9 rb 71 #[.int .i64 0, .int .i64 0, .slice none 0 0] := by rw [hw9]; exact BR8.far (by simp; omega) _
        have q6 := BF8.frozen 1
        have q7 := BF8.cell 1
        go_upto_region 16 with fail
        rw [← hw9]
        clear hw9 q6 q7 BF8 BR8 HS8
        have k0 := BF9.cell 0
        have k1 := BF9.cell 1
        have k2 := BF9.cell 2
        have r0 := BR9.cell 0
        have r1 := BR9.cell 1
        have r2 := BR9.cell 2
        have q0 := BR9.frozen 0
        have q1 := BR9.frozen 1
        have q2 := BR9.frozen 2
        go_wp2
        refine bodyPost_ret (v := .agg #[.int .i64 u, .int .i64 z, .slice A' R.length c']) (by simp [results, Try.results67, go_sem, r0, r1, r2]) rfl ⟨_, _, R, _, _, ?_, ?_, rfl, ?_⟩
        · omega
        · omega
        · have hapr : ApartV (boxV rb) (.slice A' R.length c') := .inr (BR9.ne_v HS9.own (by decide))
          exact (((HS9.put hapr hrs 0 _).put hapr hrs 1 _).put hapr hrs 2 _).more (by omega)
      · go_wp2_with fail
        go_loopg [] (9 - R.length) (fun gk wy => ∃ (R2 : List (Int × Int)) (A2 : Option Addr) (c2 : Nat), gk = 9 - R2.length ∧ R.length ≤ R2.length ∧ R2.length ≤ 9 ∧ Sta rodT w.heap.size w wy g A c l (P + 40 + 4 * R2.length) (.slice A2 R2.length c2) R2 ∧ Blk wy fb 71 #[.int .i64 u, .int .i64 v, .slice A2 R2.length c2] ∧ Blk wy rb 71 #[.int .i64 0, .int .i64 0, .slice none 0 0])
        case atStart => exact ⟨R, A', c', rfl, Nat.le_refl _, by omega, HS7.more (by omega), BF7, BR7⟩
        case round =>
          obtain ⟨R2, A2, c2, hgk, hl1, hl9, HS, BF, BR⟩ := hrel
          clear HS7 BF7 BR7 hc7
          have k2 : wr.cell? ⟨fb, 2, none⟩ = some (.slice A2 R2.length c2) := BF.cell 2
          have K1 := pick_any g c _ 2 A l wr.drew hl (by omega) (by decide) (by decide) (show Cur wr.drew g A c l (P + 40 + 4 * R2.length) from HS.cur.kept (gr_drew (show wr.grownBy wr none from ⟨rfl, rfl, rfl, Nat.le_refl _, fun _ _ _ => rfl⟩)) (by simp))
          have PK := Lib.hid (And.intro HS (And.intro BF BR))
          have HGK := Lib.hid hgk
          clear HS BF BR hgk
          go_upto_region 14 with fail
          go_region_held3 (fun wy => wy.cell? ⟨fb, 2, none⟩ = some (.slice A2 R2.length c2))
            (((try dsimp only) <;> (first
              | (with_reducible assumption) | (with_reducible exact cell_drew k2))))
            (first
              | (go_at_call 57; refine K1.mono ?_; rintro e w8 ⟨b2, hb2, rfl, hc8, hg8⟩; have G8 := gr_of_drewD hg8; have HS8 := PK.out.1.gr G8 hc8; have BF8 := PK.out.2.1.gr G8 (by simp; omega); have BR8 := PK.out.2.2.gr G8 (by simp; omega); have t2 : w8.cell? ⟨fb, 2, none⟩ = some (.slice A2 R2.length c2) := BF8.cell 2; have i1 : IntKind.i64.wrap (8 + (b2 : Int)) = 8 + (b2 : Int) := IntWalk.i64_in _ (by omega)))
          have HS8 := HS8
          clear K1 PK k2
          by_cases hlt : R2.length < 8 + b2
          · have d1 : decide ((R2.length : Int) < 8 + (b2 : Int)) = true := decide_eq_true (by omega)
            have n2 := BF8.frozen 2
            have hgb := HS8.hgb
            go_wp2_with (at_builtin; refine wpList_appT rodT rfl _ _ rfl w.heap.size _ _ rfl HS8.own g HS8.below ((1 : Int), (4 : Int)) _ rfl 1 1 rfl rfl (by omega) HS8.size (by omega) ?_; intro A3 c3 w9 ho9 hb9 hg9; have BF9 := (BF8.alloc _).gr hg9 (BF8.ne_v HS8.own (by decide)); have m2 := BF9.frozen 2; have m3 := BF9.cell 2)
            have HS9 := HS8.app ho9 hg9
            have BR9 := (BR8.alloc _).gr hg9 (BR8.ne_v HS8.own (by decide))
            have hap : ApartV (boxV fb) (.slice A3 (R2.length + 1) c3) := .inr (BF9.ne_v HS9.own (by decide))
            have HS10 := HS9.put hap (by omega) 2 (.slice A3 (R2.length + 1) c3)
            have BR10 := BR9.far (p := ⟨fb, 2, none⟩) (by simp; omega) (.slice A3 (R2.length + 1) c3)
            have BF10 := BF9.set_ 2 (.slice A3 (R2.length + 1) c3)
            go_roundg (9 - (R2.length + 1))
            case measure => have := HGK.out; omega
            case rel => exact ⟨R2 ++ [((1 : Int), (4 : Int))], A3, c3, by simp, by simp; omega, by simp; omega, by rw [List.length_append]; exact HS10.more (by simp; omega), by rw [List.length_append]; exact BF10, BR10⟩
          · have d1 : decide ((R2.length : Int) < 8 + (b2 : Int)) = false := decide_eq_false (by omega)
            go_upto_region 16 with fail
            have k0 := BF8.cell 0
            have k1 := BF8.cell 1
            have k2 := BF8.cell 2
            have r0 := BR8.cell 0
            have r1 := BR8.cell 1
            have r2 := BR8.cell 2
            have q0 := BR8.frozen 0
            have q1 := BR8.frozen 1
            have q2 := BR8.frozen 2
            go_wp2
            refine bodyPost_ret (v := .agg #[.int .i64 u, .int .i64 v, .slice A2 R2.length c2]) (by simp [results, Try.results67, go_sem, r0, r1, r2]) rfl ⟨_, _, R2, _, _, ?_, ?_, rfl, ?_⟩
            · omega
            · omega
            · have hapr : ApartV (boxV rb) (.slice A2 R2.length c2) := .inr (BR8.ne_v HS8.own (by decide))
              exact (((HS8.put hapr hrs 0 _).put hapr hrs 1 _).put hapr hrs 2 _).more (by omega)
      · have k0 := BF7.cell 0
        have k1 := BF7.cell 1
        have k2 := BF7.cell 2
        have r0 := BR7.cell 0
        have r1 := BR7.cell 1
        have r2 := BR7.cell 2
        have q0 := BR7.frozen 0
        have q1 := BR7.frozen 1
        have q2 := BR7.frozen 2
        go_wp2
        refine bodyPost_ret (v := .agg #[.int .i64 u, .int .i64 v, .slice A' R.length c']) (by simp [results, Try.results67, go_sem, r0, r1, r2]) rfl ⟨_, _, R, _, _, ?_, ?_, rfl, ?_⟩
        · omega
        · omega
        · have hapr : ApartV (boxV rb) (.slice A' R.length c') := .inr (BR7.ne_v HS7.own (by decide))
          exact (((HS7.put hapr hrs 0 _).put hapr hrs 1 _).put hapr hrs 2 _).more (by omega)
    · have d1 : decide (0 < k) = true := decide_eq_true hk
      have i5 : IntKind.i64.wrap ((k : Int) - 1) = ((k - 1 : Nat) : Int) := by rw [IntWalk.i64_in _ (by omega)]; omega
      go_upto_region 5 with fail
      obtain ⟨wx, rfl⟩ : ∃ wx : World, wx = wr := ⟨_, rfl⟩
      have k0 : wx.cell? ⟨fb, 0, none⟩ = some (.int .i64 u) := BF.cell 0
      have k1 : wx.cell? ⟨fb, 1, none⟩ = some (.int .i64 v) := BF.cell 1
      have k2 : wx.cell? ⟨fb, 2, none⟩ = some (.slice A' R.length c') := BF.cell 2
      have x2 : wx.drew.cell? ⟨fb, 2, none⟩ = some (.slice A' R.length c') := BF.cell 2
      have K1 := pick_any g c _ u9 A l wx.drew hl (by omega) u91 (by omega) (show Cur wx.drew g A c l (P + 6 + 4 * R.length) from HS.cur.kept (gr_drew (show wx.grownBy wx none from ⟨rfl, rfl, rfl, Nat.le_refl _, fun _ _ _ => rfl⟩)) (by simp))
      have PK := Lib.hid (And.intro HS (And.intro BF BR))
      clear HS BF BR
      have x0 : wx.drew.cell? ⟨fb, 0, none⟩ = some (.int .i64 u) := k0
      have x1 : wx.drew.cell? ⟨fb, 1, none⟩ = some (.int .i64 v) := k1
      go_region_law (first
          | (go_simp; go_at_call 57; (with_reducible refine K1.mono ?_); rintro e w5 ⟨b1, hb1, rfl, hc5, hg5⟩; have G5 := gr_of_drewD hg5; have HS5 := PK.out.1.gr G5 hc5; have BF5 := PK.out.2.1.gr G5 (by simp; omega); have BR5 := PK.out.2.2.gr G5 (by simp; omega); have t0 : w5.cell? ⟨fb, 0, none⟩ = some (.int .i64 u) := BF5.cell 0; have t1 : w5.cell? ⟨fb, 1, none⟩ = some (.int .i64 v) := BF5.cell 1; have t2 : w5.cell? ⟨fb, 2, none⟩ = some (.slice A' R.length c') := BF5.cell 2; have K2 := pick_any g c _ v9 A l w5 hl (by omega) v91 (by omega) hc5)
          | (go_simp; go_at_call 57; (with_reducible refine K2.mono ?_); rintro e w6 ⟨b2, hb2, rfl, hc6, hg6⟩; have HS6 := HS5.gr hg6 hc6; have BF6 := BF5.gr hg6 (by simp; omega); have BR6 := BR5.gr hg6 (by simp; omega); have p0 : w6.cell? ⟨fb, 0, none⟩ = some (.int .i64 u) := BF6.cell 0; have p1 : w6.cell? ⟨fb, 1, none⟩ = some (.int .i64 v) := BF6.cell 1; have p2 : w6.cell? ⟨fb, 2, none⟩ = some (.slice A' R.length c') := BF6.cell 2; have y2 : (w6.alloc (.cells #[.int .i64 b1, .int .i64 b2] 80)).cell? ⟨fb, 2, none⟩ = some (.slice A' R.length c') := box_old p2 _)
          | (refine step_appT rodT rfl _ _ (by rfl) w.heap.size _ _ (by rfl) HS6.own g HS6.below ((b1 : Int), (b2 : Int)) _ (by rfl) 1 1 (by rfl) (by rfl) (by omega) HS6.size (by have := HS6.hgb; omega) ?_; intro A3 c3 w9 ho9 hb9 hg9; have HS9 := HS6.app ho9 hg9; have BF9 := (BF6.alloc _).gr hg9 (BF6.ne_v HS6.own (by decide)); have BR9 := (BR6.alloc _).gr hg9 (BR6.ne_v HS6.own (by decide)); have q0 : w9.cell? ⟨fb, 0, none⟩ = some (.int .i64 u) := BF9.cell 0; have q1 : w9.cell? ⟨fb, 1, none⟩ = some (.int .i64 v) := BF9.cell 1; have q2 : w9.cell? ⟨fb, 2, none⟩ = some (.slice A' R.length c') := BF9.cell 2; have n2 := BF9.frozen 2; have BFz := BF9.set_ 2 (.slice A3 (R.length + 1) c3); have z0 : (w9.setCell ⟨fb, 2, none⟩ (.slice A3 (R.length + 1) c3)).cell? ⟨fb, 0, none⟩ = some (.int .i64 u) := BFz.cell 0; have z1 : (w9.setCell ⟨fb, 2, none⟩ (.slice A3 (R.length + 1) c3)).cell? ⟨fb, 1, none⟩ = some (.int .i64 v) := BFz.cell 1))
      all_goals
        have hap : ApartV (boxV fb) (.slice A3 (R.length + 1) c3) := .inr (BF9.ne_v HS9.own (by decide))
        have HS10 := HS9.put hap (by omega) 2 (.slice A3 (R.length + 1) c3)
        have BR10 := BR9.far (p := ⟨fb, 2, none⟩) (by simp; omega) (.slice A3 (R.length + 1) c3)
        go_wp2_with fail
        go_roundw
        case rel => exact ⟨k - 1, R ++ [((b1 : Int), (b2 : Int))], A3, c3, by go_num, by simp; omega, by simp; omega, by rw [List.length_append]; exact HS10.more (by simp; omega), by rw [List.length_append]; exact BFz, BR10⟩
        case measure => first | (simp [intOf]; done) | (simp [intOf]; omega)
end Go.Proofs.Ytkcbldaondflmaa
