/-
  The law FnExactPointsMissing: for every scheme and try the program returns what the reference returns. No condition.
-/
import Derived.Test.YthoojcmnkhhokaaGraG
import Derived.Test.YthoojcmnkhhokaaTryC
import Derived.Test.YthoojcmnkhhokaaFramePart
import Derived.Test.YthoojcmnkhhokaaFrameTry
import Derived.Deep.RegionHeld3
namespace Go.Proofs.Ythoojcmnkhhokaa
set_option maxRecDepth 100000
open Go.ChangeShapes Go.WideShapes Go.ChangeAt Go.RowKit

set_option maxRecDepth 100000 in
set_option maxHeartbeats 4000000 in
theorem fnExactPointsMissing_walk (w : World) (A0 : Option Addr) (c0 : Nat) (l0 : List PartV) (hm0 : l0.length ≤ maxLen) (ho0 : ∀ x ∈ l0, x.okw) (h0 : RdT partL w A0 l0) (pu gr : Int) (A1 : Option Addr) (c1 : Nat) (l1 : List Int) (hm1 : l1.length ≤ maxLen) (h1 : RdI w A1 l1) :
    Calls Try.prog 5 #[.slice A0 l0.length c0, .agg #[.int .i64 pu, .int .i64 gr, .slice A1 l1.length c1]] w fun e w' => e = .returned (.bool true) ∧ Below w.heap.size w w' := by
  have hm1' : l1.length ≤ 9223372036854775807 := by unfold maxLen at hm1; omega
  clear hm1
  obtain ⟨wb, hwb⟩ : ∃ wb : World, wb = w.alloc (.cells #[.int .i64 pu, .int .i64 gr, .slice A1 l1.length c1] 31) := ⟨_, rfl⟩
  have hB0 : Below w.heap.size w wb := by rw [hwb]; exact (Below.refl _ _).alloc (Nat.le_refl _) _
  have u0 : wb.cell? ⟨w.heap.size, 0, none⟩ = some (.int .i64 pu) := by rw [hwb]; exact cell_of_row _ _ 0 _ _ (0, 0) (heap_alloc_new w _)
  have u1 : wb.cell? ⟨w.heap.size, 1, none⟩ = some (.int .i64 gr) := by rw [hwb]; exact cell_of_row _ _ 1 _ _ (0, 0) (heap_alloc_new w _)
  have u2 : wb.cell? ⟨w.heap.size, 2, none⟩ = some (.slice A1 l1.length c1) := by rw [hwb]; exact cell_of_row _ _ 2 _ _ (0, 0) (heap_alloc_new w _)
  have HWB := Lib.hid hwb
  clear hwb
  have g0 := h0.below hB0 (Nat.le_refl _)
  have g1 := h1.below hB0 (Nat.le_refl _)
  have hS := fun (hok : ∀ x ∈ l0, x.ok) (hl : l0.length ≤ 16777216) (hl1 : l1.length ≤ 16777216) (A : Option Addr) (c : Nat) (B : Option Addr) (d : Nat) (W : World) (q0 : l0.length ≤ c) (g0 : RdT partT W A l0) (g1 : RdI W B l1) => missS_any A c l0 pu gr B d l1 W hl q0 g0 hok hl1 g1
  have hI := fun (hok : ∀ x ∈ l0, x.ok) (hl : l0.length ≤ 16777216) (hl1 : l1.length ≤ 16777216) (A : Option Addr) (c : Nat) (B : Option Addr) (d : Nat) (W : World) (q0 : l0.length ≤ c) (g0 : RdT partT W A l0) (g1 : RdI W B l1) => missI_any A c l0 pu gr B d l1 W hl q0 g0 hok hl1 g1
  generalize pmV l0 ⟨pu, gr, l1⟩ = r0x at *
  generalize oneB l0 ⟨pu, gr, l1⟩ = r1x at *
  have HS := Lib.hid hS
  have HI := Lib.hid hI
  clear hS hI
  go_enter Try.func5, Try.ntmps5
  go_wp2_with fail
  rw [← HWB.out]
  clear HWB
  refine (szPartS_any A0 c0 l0 _ _ (by omega) (by omega) hm0 g0 ho0).mono ?_
  rintro e w1 ⟨⟨r0, rfl, hr0⟩, hb1⟩
  unfold maxLen at hm0
  have v0 := (hb1.cell (p := ⟨w.heap.size, 0, none⟩) (World.block_lt_of_cell? _ _ u0)).trans u0; have v1 := (hb1.cell (p := ⟨w.heap.size, 1, none⟩) (World.block_lt_of_cell? _ _ u1)).trans u1; have v2 := (hb1.cell (p := ⟨w.heap.size, 2, none⟩) (World.block_lt_of_cell? _ _ u2)).trans u2
  have hB1 := hB0.trans (hb1.mono hB0.size)
  have g01 := g0.below hb1 (Nat.le_refl _)
  have g11 := g1.below hb1 (Nat.le_refl _)
  clear u0 u1 u2 g0 g1 hb1 hB0
  rcases hr0 with hneg | ⟨hr0, hrl, hk⟩
  · go_wp2_with fail
    go_ret
    exact ⟨rfl, hB1⟩
  have HS := Lib.hid (HS.out hk (by omega))
  have HI := Lib.hid (HI.out hk (by omega))
  clear hk ho0
  go_wp2_with fail
  refine (szTry_any pu gr A1 l1.length c1 r0 _ hr0 (by omega) hm1').mono ?_
  rintro e w2 ⟨rfl, hb2⟩
  have z0 := (hb2.cell (p := ⟨w.heap.size, 0, none⟩) (World.block_lt_of_cell? _ _ v0)).trans v0; have z1 := (hb2.cell (p := ⟨w.heap.size, 1, none⟩) (World.block_lt_of_cell? _ _ v1)).trans v1; have z2 := (hb2.cell (p := ⟨w.heap.size, 2, none⟩) (World.block_lt_of_cell? _ _ v2)).trans v2
  have hB2 := hB1.trans (hb2.mono hB1.size)
  have g02 := g01.below hb2 (Nat.le_refl _)
  have g12 := g11.below hb2 (Nat.le_refl _)
  clear v0 v1 v2 g01 g11 hb2 hB1
  by_cases hs : r0 < (l1.length : Int)
  · rw [if_pos hs]
    go_wp2_with fail
    go_ret
    exact ⟨rfl, hB2⟩
  rw [if_neg hs]
  have hn0 : l0.length ≤ 1048576 := by omega
  have hn1 : l1.length ≤ 1048576 := by omega
  have HS := Lib.hid (HS.out (by omega))
  have HI := Lib.hid (HI.out (by omega))
  clear hm0 hm1'
  go_wp2_with fail
  go_region_held3 (fun wx => wx.cell? ⟨w.heap.size, 0, none⟩ = some (.int .i64 pu) ∧ wx.cell? ⟨w.heap.size, 1, none⟩ = some (.int .i64 gr) ∧ wx.cell? ⟨w.heap.size, 2, none⟩ = some (.slice A1 l1.length c1)) (((try dsimp only); (repeat' apply And.intro)) <;> assumption) (first
    | (go_at_call 17; refine (toPartS_any A0 c0 l0 _ hn0 (by exact g02)).mono ?_; rintro e w3 ⟨As, cs, rfl, os, hb3⟩; have t0 : w3.cell? ⟨w.heap.size, 0, none⟩ = some (.int .i64 pu) := (hb3.cell (p := ⟨w.heap.size, 0, none⟩) (World.block_lt_of_cell? _ _ z0)).trans z0; have t1 : w3.cell? ⟨w.heap.size, 1, none⟩ = some (.int .i64 gr) := (hb3.cell (p := ⟨w.heap.size, 1, none⟩) (World.block_lt_of_cell? _ _ z1)).trans z1; have t2 : w3.cell? ⟨w.heap.size, 2, none⟩ = some (.slice A1 l1.length c1) := (hb3.cell (p := ⟨w.heap.size, 2, none⟩) (World.block_lt_of_cell? _ _ z2)).trans z2; have gi3 : RdI w3 A1 l1 := (show RdI w2.drew A1 l1 from g12).below hb3 (Nat.le_refl _))
    | (go_at_call 22; refine (toTry_any pu gr A1 c1 l1 _ hn1 (by exact gi3)).mono ?_; rintro e w4 ⟨Ai, ci, rfl, oi, hb4⟩; have v0 : w4.cell? ⟨w.heap.size, 0, none⟩ = some (.int .i64 pu) := (hb4.cell (p := ⟨w.heap.size, 0, none⟩) (World.block_lt_of_cell? _ _ t0)).trans t0; have v1 : w4.cell? ⟨w.heap.size, 1, none⟩ = some (.int .i64 gr) := (hb4.cell (p := ⟨w.heap.size, 1, none⟩) (World.block_lt_of_cell? _ _ t1)).trans t1; have v2 : w4.cell? ⟨w.heap.size, 2, none⟩ = some (.slice A1 l1.length c1) := (hb4.cell (p := ⟨w.heap.size, 2, none⟩) (World.block_lt_of_cell? _ _ t2)).trans t2; have os4 := os.below hb4 (Nat.le_refl _))
    | (go_at_call 25; refine (HS.out As cs Ai ci _ os4.capn (by exact os4.rd) (by exact OwnI.rd oi)).mono ?_; rintro e w5 ⟨rfl, hb5⟩; have x0 : w5.cell? ⟨w.heap.size, 0, none⟩ = some (.int .i64 pu) := (hb5.cell (p := ⟨w.heap.size, 0, none⟩) (World.block_lt_of_cell? _ _ v0)).trans v0; have x1 : w5.cell? ⟨w.heap.size, 1, none⟩ = some (.int .i64 gr) := (hb5.cell (p := ⟨w.heap.size, 1, none⟩) (World.block_lt_of_cell? _ _ v1)).trans v1; have x2 : w5.cell? ⟨w.heap.size, 2, none⟩ = some (.slice A1 l1.length c1) := (hb5.cell (p := ⟨w.heap.size, 2, none⟩) (World.block_lt_of_cell? _ _ v2)).trans v2))
  all_goals
    have hb23 : Below w2.heap.size w2 w3 := (Below.refl _ _).drew.trans hb3
    have hb24 := hb23.trans (hb4.mono hb23.size)
    have hb25 := hb24.trans (hb5.mono hb24.size)
    have hB5 := hB2.trans (hb25.mono hB2.size)
    have g05 := g02.below hb25 (Nat.le_refl _)
    have g15 := g12.below hb25 (Nat.le_refl _)
    clear t0 t1 t2 v0 v1 v2 os os4 oi hb3 hb4 hb5 hb23 hb24 hb25 g02 g12 gi3 HS z0 z1 z2
    go_wp2_with fail
    refine (toPartS_any A0 c0 l0 _ hn0 g05).mono ?_
    rintro e w6 ⟨Ax, cx, rfl, ox, hb6⟩
    have z0 := (hb6.cell (p := ⟨w.heap.size, 0, none⟩) (World.block_lt_of_cell? _ _ x0)).trans x0; have z1 := (hb6.cell (p := ⟨w.heap.size, 1, none⟩) (World.block_lt_of_cell? _ _ x1)).trans x1; have z2 := (hb6.cell (p := ⟨w.heap.size, 2, none⟩) (World.block_lt_of_cell? _ _ x2)).trans x2
    have hB6 := hB5.trans (hb6.mono hB5.size)
    have g06 := g05.below hb6 (Nat.le_refl _)
    have g16 := g15.below hb6 (Nat.le_refl _)
    clear x0 x1 x2 g05 g15 hb6 hB5
    go_wp2_with fail
    refine (toTry_any pu gr A1 c1 l1 _ hn1 g16).mono ?_
    rintro e wk ⟨Ai, ci, rfl, oi, hb7⟩
    have v0 := (hb7.cell (p := ⟨w.heap.size, 0, none⟩) (World.block_lt_of_cell? _ _ z0)).trans z0; have v1 := (hb7.cell (p := ⟨w.heap.size, 1, none⟩) (World.block_lt_of_cell? _ _ z1)).trans z1; have v2 := (hb7.cell (p := ⟨w.heap.size, 2, none⟩) (World.block_lt_of_cell? _ _ z2)).trans z2
    have hB7 := hB6.trans (hb7.mono hB6.size)
    have g07 := g06.below hb7 (Nat.le_refl _)
    have g17 := g16.below hb7 (Nat.le_refl _)
    have ox7 := ox.below hb7 (Nat.le_refl _)
    clear z0 z1 z2 g06 g16 hb7 hB6 ox
    obtain ⟨wm, hwm⟩ : ∃ wm : World, wm = wk.alloc (.cells #[.int .i64 pu, .int .i64 gr, .slice Ai l1.length ci] 35) := ⟨_, rfl⟩
    have hbm : Below wk.heap.size wk wm := by rw [hwm]; exact (Below.refl _ _).alloc (Nat.le_refl _) _
    have y0 : wm.cell? ⟨wk.heap.size, 0, none⟩ = some (.int .i64 pu) := by rw [hwm]; exact cell_of_row _ _ 0 _ _ (0, 0) (heap_alloc_new wk _)
    have y1 : wm.cell? ⟨wk.heap.size, 1, none⟩ = some (.int .i64 gr) := by rw [hwm]; exact cell_of_row _ _ 1 _ _ (0, 0) (heap_alloc_new wk _)
    have y2 : wm.cell? ⟨wk.heap.size, 2, none⟩ = some (.slice Ai l1.length ci) := by rw [hwm]; exact cell_of_row _ _ 2 _ _ (0, 0) (heap_alloc_new wk _)
    have x0 := (hbm.cell (p := ⟨w.heap.size, 0, none⟩) (World.block_lt_of_cell? _ _ v0)).trans v0; have x1 := (hbm.cell (p := ⟨w.heap.size, 1, none⟩) (World.block_lt_of_cell? _ _ v1)).trans v1; have x2 := (hbm.cell (p := ⟨w.heap.size, 2, none⟩) (World.block_lt_of_cell? _ _ v2)).trans v2
    have hBm := hB7.trans (hbm.mono hB7.size)
    have g0m := g07.below hbm (Nat.le_refl _)
    have g1m := g17.below hbm (Nat.le_refl _)
    have oxm := ox7.below hbm (Nat.le_refl _)
    have oim := OwnI.below oi hbm (Nat.le_refl _)
    have HWM := Lib.hid hwm
    clear hwm v0 v1 v2 g07 g17 ox7 oi hB7 hbm
    go_wp2_with fail
    rw [← HWM.out]
    clear HWM
    refine (HI.out Ax cx Ai ci _ oxm.capn oxm.rd (OwnI.rd oim)).mono ?_
    rintro e w8 ⟨rfl, hb8⟩
    have v0 := (hb8.cell (p := ⟨w.heap.size, 0, none⟩) (World.block_lt_of_cell? _ _ x0)).trans x0; have v1 := (hb8.cell (p := ⟨w.heap.size, 1, none⟩) (World.block_lt_of_cell? _ _ x1)).trans x1; have v2 := (hb8.cell (p := ⟨w.heap.size, 2, none⟩) (World.block_lt_of_cell? _ _ x2)).trans x2
    have z0 := (hb8.cell (p := ⟨wk.heap.size, 0, none⟩) (World.block_lt_of_cell? _ _ y0)).trans y0; have z1 := (hb8.cell (p := ⟨wk.heap.size, 1, none⟩) (World.block_lt_of_cell? _ _ y1)).trans y1; have z2 := (hb8.cell (p := ⟨wk.heap.size, 2, none⟩) (World.block_lt_of_cell? _ _ y2)).trans y2
    have hB8 := hBm.trans (hb8.mono hBm.size)
    have g08 := g0m.below hb8 (Nat.le_refl _)
    have g18 := g1m.below hb8 (Nat.le_refl _)
    have oi8 := OwnI.below oim hb8 (Nat.le_refl _)
    clear x0 x1 x2 y0 y1 y2 g0m g1m oim hBm
    have ox8 := oxm.below hb8 (Nat.le_refl _)
    clear oxm hb8 HI
    go_wp2_with fail
    refine (toPartS_any A0 c0 l0 _ hn0 g08).mono ?_
    rintro e w9 ⟨Ay, cy, rfl, oy, hb9⟩
    have x0 := (hb9.cell (p := ⟨w.heap.size, 0, none⟩) (World.block_lt_of_cell? _ _ v0)).trans v0; have x1 := (hb9.cell (p := ⟨w.heap.size, 1, none⟩) (World.block_lt_of_cell? _ _ v1)).trans v1; have x2 := (hb9.cell (p := ⟨w.heap.size, 2, none⟩) (World.block_lt_of_cell? _ _ v2)).trans v2
    have y0 := (hb9.cell (p := ⟨wk.heap.size, 0, none⟩) (World.block_lt_of_cell? _ _ z0)).trans z0; have y1 := (hb9.cell (p := ⟨wk.heap.size, 1, none⟩) (World.block_lt_of_cell? _ _ z1)).trans z1; have y2 := (hb9.cell (p := ⟨wk.heap.size, 2, none⟩) (World.block_lt_of_cell? _ _ z2)).trans z2
    have hB9 := hB8.trans (hb9.mono hB8.size)
    have g09 := g08.below hb9 (Nat.le_refl _)
    have g19 := g18.below hb9 (Nat.le_refl _)
    have oi9 := OwnI.below oi8 hb9 (Nat.le_refl _)
    clear v0 v1 v2 z0 z1 z2 g08 g18 oi8 hB8
    have ox9 := ox8.below hb9 (Nat.le_refl _)
    clear ox8 hb9
    go_wp2_with fail
    refine (eqPartS_same Ax Ay _ cx cy l0 _ rfl (by omega) ox9.rd oy.rd).mono ?_
    rintro e w10 ⟨rfl, hb10⟩
    have v0 := (hb10.cell (p := ⟨w.heap.size, 0, none⟩) (World.block_lt_of_cell? _ _ x0)).trans x0; have v1 := (hb10.cell (p := ⟨w.heap.size, 1, none⟩) (World.block_lt_of_cell? _ _ x1)).trans x1; have v2 := (hb10.cell (p := ⟨w.heap.size, 2, none⟩) (World.block_lt_of_cell? _ _ x2)).trans x2
    have z0 := (hb10.cell (p := ⟨wk.heap.size, 0, none⟩) (World.block_lt_of_cell? _ _ y0)).trans y0; have z1 := (hb10.cell (p := ⟨wk.heap.size, 1, none⟩) (World.block_lt_of_cell? _ _ y1)).trans y1; have z2 := (hb10.cell (p := ⟨wk.heap.size, 2, none⟩) (World.block_lt_of_cell? _ _ y2)).trans y2
    have hB10 := hB9.trans (hb10.mono hB9.size)
    have g010 := g09.below hb10 (Nat.le_refl _)
    have g110 := g19.below hb10 (Nat.le_refl _)
    have oi10 := OwnI.below oi9 hb10 (Nat.le_refl _)
    clear x0 x1 x2 y0 y1 y2 g09 g19 oi9 hB9
    clear ox9 oy hb10
    go_wp2_with fail
    go_region_held3 (fun wx => (wx.cell? ⟨w.heap.size, 0, none⟩ = some (.int .i64 pu) ∧ wx.cell? ⟨w.heap.size, 1, none⟩ = some (.int .i64 gr) ∧ wx.cell? ⟨w.heap.size, 2, none⟩ = some (.slice A1 l1.length c1)) ∧ (wx.cell? ⟨wk.heap.size, 0, none⟩ = some (.int .i64 pu) ∧ wx.cell? ⟨wk.heap.size, 1, none⟩ = some (.int .i64 gr) ∧ wx.cell? ⟨wk.heap.size, 2, none⟩ = some (.slice Ai l1.length ci))) (((try dsimp only); (repeat' apply And.intro)) <;> assumption) (first
      | (go_at_call 22; refine (toTry_any pu gr A1 c1 l1 _ hn1 (by exact g110)).mono ?_; rintro e w11 ⟨Aj, cj, rfl, oj, hb11⟩; have x0 : w11.cell? ⟨w.heap.size, 0, none⟩ = some (.int .i64 pu) := (hb11.cell (p := ⟨w.heap.size, 0, none⟩) (World.block_lt_of_cell? _ _ v0)).trans v0; have x1 : w11.cell? ⟨w.heap.size, 1, none⟩ = some (.int .i64 gr) := (hb11.cell (p := ⟨w.heap.size, 1, none⟩) (World.block_lt_of_cell? _ _ v1)).trans v1; have x2 : w11.cell? ⟨w.heap.size, 2, none⟩ = some (.slice A1 l1.length c1) := (hb11.cell (p := ⟨w.heap.size, 2, none⟩) (World.block_lt_of_cell? _ _ v2)).trans v2; have y0 : w11.cell? ⟨wk.heap.size, 0, none⟩ = some (.int .i64 pu) := (hb11.cell (p := ⟨wk.heap.size, 0, none⟩) (World.block_lt_of_cell? _ _ z0)).trans z0; have y1 : w11.cell? ⟨wk.heap.size, 1, none⟩ = some (.int .i64 gr) := (hb11.cell (p := ⟨wk.heap.size, 1, none⟩) (World.block_lt_of_cell? _ _ z1)).trans z1; have y2 : w11.cell? ⟨wk.heap.size, 2, none⟩ = some (.slice Ai l1.length ci) := (hb11.cell (p := ⟨wk.heap.size, 2, none⟩) (World.block_lt_of_cell? _ _ z2)).trans z2; have oi11 : RdI w11 Ai l1 := (show RdI w10.drew Ai l1 from OwnI.rd oi10).below hb11 (Nat.le_refl _))
      | (go_at_call 24; refine (eqTry_same pu gr Ai Aj ci cj l1 _ (by omega) (by exact oi11) (by exact OwnI.rd oj)).mono ?_; rintro e w12 ⟨rfl, hb12⟩; have t0 : w12.cell? ⟨w.heap.size, 0, none⟩ = some (.int .i64 pu) := (hb12.cell (p := ⟨w.heap.size, 0, none⟩) (World.block_lt_of_cell? _ _ x0)).trans x0; have t1 : w12.cell? ⟨w.heap.size, 1, none⟩ = some (.int .i64 gr) := (hb12.cell (p := ⟨w.heap.size, 1, none⟩) (World.block_lt_of_cell? _ _ x1)).trans x1; have t2 : w12.cell? ⟨w.heap.size, 2, none⟩ = some (.slice A1 l1.length c1) := (hb12.cell (p := ⟨w.heap.size, 2, none⟩) (World.block_lt_of_cell? _ _ x2)).trans x2; have s0 : w12.cell? ⟨wk.heap.size, 0, none⟩ = some (.int .i64 pu) := (hb12.cell (p := ⟨wk.heap.size, 0, none⟩) (World.block_lt_of_cell? _ _ y0)).trans y0; have s1 : w12.cell? ⟨wk.heap.size, 1, none⟩ = some (.int .i64 gr) := (hb12.cell (p := ⟨wk.heap.size, 1, none⟩) (World.block_lt_of_cell? _ _ y1)).trans y1; have s2 : w12.cell? ⟨wk.heap.size, 2, none⟩ = some (.slice Ai l1.length ci) := (hb12.cell (p := ⟨wk.heap.size, 2, none⟩) (World.block_lt_of_cell? _ _ y2)).trans y2))
    all_goals
      have hb101 : Below w10.heap.size w10 w11 := (Below.refl _ _).drew.trans hb11
      have hb102 := hb101.trans (hb12.mono hb101.size)
      go_wp2_with fail
      go_ret
      exact ⟨rfl, hB10.trans (hb102.mono hB10.size)⟩

set_option maxRecDepth 100000 in
theorem fnExactPointsMissing_lifted (os : Os) (started : os.Started) (H : Type) (enc : TypeId × Value → H) :
    ReturnsInHanded {} Try.checked os 5 .any (Rows.fnExactPointsMissingSpec.pre6 enc Try.prog Try.f5 Rows.fnExactPointsMissingRow.domain false) (Rows.fnExactPointsMissingSpec.post enc Try.prog Try.f5 false true false false) := by
  refine returnsInHanded_of_change (C := Try.checked) ownk started (by kernel_rfl) Try.func5
    (ChangeSpec.witness6 (enc := enc) (C := Try.checked) false ⟨#[], #[.slice none 0 0, .agg #[.int .i64 0, .int .i64 0, .slice none 0 0]], []⟩ 8 (by kernel_rfl) (by kernel_rfl) (by kernel_rfl) (by kernel_rfl)) ?_
  intro W base args ds gs before hval0 hW _ _
  have hval : ∀ (j : Nat) t v, Try.f5.params[j]? = some t → args[j]? = some v → Value.okWide Try.prog W .any base t v := hval0
  have hW' := hW
  obtain ⟨p, q, hA0, hV, rfl, _, _⟩ := hW
  have hA : DataW.TrodAll enc Try.prog W 0 (fun _ => true) true Try.f5.params.toList args.toList ds p := hA0
  rw [Try.params5] at hA hval
  obtain ⟨rfl, rfl⟩ := trodVars_none hV
  simp only [List.append_nil] at hW'
  clear hA0 hval0
  have hargs : ∀ W' : World, Below W.heap.size W W' → DataW.TrodAll enc Try.prog W' 0 (fun b => decide (b < W.heap.size)) true [22, 31] args.toList ds p := fun W' hb => trodAll_below laid_out hb _ _ _ _ (by kernel_rfl) hA (fun x hx => hW'.lt x hx)
  obtain ⟨v0, vs0, d0, ds0, p0, q0, hx, rfl, rfl, h0, r0'⟩ := trodAll_cons hA
  obtain ⟨v1, vs1, d1, ds1, p1, q1, rfl, rfl, rfl, h1, r1'⟩ := trodAll_cons r0'
  obtain ⟨rfl, rfl, rfl⟩ := trodAll_nil r1'
  obtain rfl : args = #[v0, v1] := by cases args; simp_all
  obtain ⟨A0, c0, l0, rfl, m0, o0, r0⟩ := open_rowsP partL (by kernel_rfl) (dec_part W enc) (hval 0 22 v0 rfl rfl) h0
  obtain ⟨pu1, gr1, A1, c1, l1, rfl, m1, r1⟩ := open_try1 W enc (hval 1 31 v1 rfl rfl) h1
  refine (fnExactPointsMissing_walk W A0 c0 l0 m0 o0 r0 pu1 gr1 A1 c1 l1 m1 r1).mono fun e W' ⟨he, hb⟩ => ?_
  subst he
  exact ⟨_, rfl, _, _, _, [], _, [], hW', trodAll_mk1 (shut_bool Try.underlying4 _), hargs W' hb, rfl, hb.frame _, fun h => by cases h⟩
theorem fnExactPointsMissing_proved : Rows.FnExactPointsMissingSaid :=
  OpenClaim.holds_of_wide 5 Try.f5 rfl rfl rfl rfl rfl rfl rfl ⟨rfl, rfl, rfl, rfl, rfl⟩ rfl rfl rfl rfl rfl (by kernel_rfl) Try.func5 (by kernel_rfl)
    (of_decide_eq_true (by kernel_rfl)) (by unfold Func.isWrapper; first | (rw [if_pos (by decide +kernel)]; kernel_rfl) | (rw [if_neg (by decide +kernel)]; exact ⟨rfl, rfl⟩))
    (fun os started H enc _ => fnExactPointsMissing_lifted os started H enc)
#print axioms fnExactPointsMissing_proved
end Go.Proofs.Ythoojcmnkhhokaa
