/-
  The law FnExactWeakParts: for every scheme and every try the program returns what the reference returns. No condition.
-/
import Derived.Test.YthoojcmnkhhokaaGraU
import Derived.Test.YthoojcmnkhhokaaTryC
import Derived.Test.YthoojcmnkhhokaaFramePart
import Derived.Test.YthoojcmnkhhokaaFrameTry
namespace Go.Proofs.Ythoojcmnkhhokaa
set_option maxRecDepth 100000
open Go.ChangeShapes Go.WideShapes Go.ChangeAt Go.RowKit

set_option maxRecDepth 100000 in
set_option maxHeartbeats 8000000 in
theorem fnExactWeakParts_walk (w : World) (A0 : Option Addr) (c0 : Nat) (l0 : List PartV) (hm0 : l0.length ≤ maxLen) (ho0 : ∀ x ∈ l0, x.okw) (h0 : RdT partL w A0 l0) (pu gr : Int) (A1 : Option Addr) (c1 : Nat) (l1 : List Int) (hm1 : l1.length ≤ maxLen) (h1 : RdI w A1 l1) :
    Calls Try.prog 8 #[.slice A0 l0.length c0, .agg #[.int .i64 pu, .int .i64 gr, .slice A1 l1.length c1]] w fun e w' => e = .returned (.bool true) ∧ Below w.heap.size w w' := by
  have hm1' : l1.length ≤ 9223372036854775807 := by unfold maxLen at hm1; omega
  clear hm1
  obtain ⟨wb, hwb⟩ : ∃ wb : World, wb = w.alloc (.cells #[.int .i64 pu, .int .i64 gr, .slice A1 l1.length c1] 31) := ⟨_, rfl⟩
  have hB : Below w.heap.size w wb := by rw [hwb]; exact (Below.refl _ _).alloc (Nat.le_refl _) _
  have cellw0 : wb.cell? ⟨w.heap.size, 0, none⟩ = some (.int .i64 pu) := by rw [hwb]; exact cell_of_row _ _ 0 _ _ (0, 0) (heap_alloc_new w _)
  have cellw1 : wb.cell? ⟨w.heap.size, 1, none⟩ = some (.int .i64 gr) := by rw [hwb]; exact cell_of_row _ _ 1 _ _ (0, 0) (heap_alloc_new w _)
  have cellw2 : wb.cell? ⟨w.heap.size, 2, none⟩ = some (.slice A1 l1.length c1) := by rw [hwb]; exact cell_of_row _ _ 2 _ _ (0, 0) (heap_alloc_new w _)
  have blkw : Blk wb w.heap.size 31 #[.int .i64 pu, .int .i64 gr, .slice A1 l1.length c1] := by rw [hwb]; exact Blk.new _ _ _
  have szb : w.heap.size ≤ wb.heap.size := hB.size
  have HWB := Lib.hid hwb
  clear hwb
  have g0 := h0.below hB (Nat.le_refl _)
  have g1 := h1.below hB (Nat.le_refl _)
  have hS := fun (hok : ∀ x ∈ l0, x.ok) (hl : l0.length ≤ 16777216) (hl1 : l1.length ≤ 16777216) (A : Option Addr) (c : Nat) (B : Option Addr) (d : Nat) (W : World) (q0 : l0.length ≤ c) (g0 : RdT partT W A l0) (g1 : RdI W B l1) => weakS_any A c l0 pu gr B d l1 W hl q0 g0 hok hl1 g1
  have hI := fun (hok : ∀ x ∈ l0, x.ok) (hl : l0.length ≤ 16777216) (hl1 : l1.length ≤ 16777216) (A : Option Addr) (c : Nat) (B : Option Addr) (d : Nat) (W : World) (q0 : l0.length ≤ c) (g0 : RdT partT W A l0) (g1 : RdI W B l1) => weakI_any A c l0 pu gr B d l1 W hl q0 g0 hok hl1 g1
  have hlen := wkV_len l0 ⟨pu, gr, l1⟩
  generalize wkV l0 ⟨pu, gr, l1⟩ = res at *
  generalize oneB l0 ⟨pu, gr, l1⟩ = ok at *
  have HS := Lib.hid hS
  have HI := Lib.hid hI
  clear hS hI
  go_enter Try.func8, Try.ntmps8
  go_wp2_with fail
  rw [← HWB.out]
  clear HWB
  refine (szPartS_any A0 c0 l0 _ _ (by omega) (by omega) hm0 g0 ho0).mono ?_
  rintro e w1 ⟨⟨r0, rfl, hr0⟩, hb1⟩
  unfold maxLen at hm0
  have hB_1 := hB.trans (hb1.mono hB.size)
  have cellw0_2 := (hb1.cell (p := ⟨w.heap.size, 0, none⟩) (World.block_lt_of_cell? _ _ cellw0)).trans cellw0
  have cellw1_3 := (hb1.cell (p := ⟨w.heap.size, 1, none⟩) (World.block_lt_of_cell? _ _ cellw1)).trans cellw1
  have cellw2_4 := (hb1.cell (p := ⟨w.heap.size, 2, none⟩) (World.block_lt_of_cell? _ _ cellw2)).trans cellw2
  have blkw_5 := blkw.below hb1 blkw.lt
  have g0_6 := g0.below hb1 (Nat.le_refl _)
  have g1_7 := g1.below hb1 (Nat.le_refl _)
  clear hB cellw0 cellw1 cellw2 blkw g0 g1
  have sz8 : wb.heap.size ≤ w1.heap.size := hb1.size
  rcases hr0 with hneg | ⟨hr0, hrl, hk⟩
  · go_wp2_with fail
    go_ret
    exact ⟨rfl, hB_1⟩
  have HS := Lib.hid (HS.out hk (by omega))
  have HI := Lib.hid (HI.out hk (by omega))
  clear hk ho0
  go_wp2_with fail
  refine (szTry_any pu gr A1 l1.length c1 r0 _ hr0 (by omega) hm1').mono ?_
  rintro e w2 ⟨rfl, hb2⟩
  have hB_9 := hB_1.trans (hb2.mono hB_1.size)
  have cellw0_10 := (hb2.cell (p := ⟨w.heap.size, 0, none⟩) (World.block_lt_of_cell? _ _ cellw0_2)).trans cellw0_2
  have cellw1_11 := (hb2.cell (p := ⟨w.heap.size, 1, none⟩) (World.block_lt_of_cell? _ _ cellw1_3)).trans cellw1_3
  have cellw2_12 := (hb2.cell (p := ⟨w.heap.size, 2, none⟩) (World.block_lt_of_cell? _ _ cellw2_4)).trans cellw2_4
  have blkw_13 := blkw_5.below hb2 blkw_5.lt
  have g0_14 := g0_6.below hb2 (Nat.le_refl _)
  have g1_15 := g1_7.below hb2 (Nat.le_refl _)
  clear hB_1 cellw0_2 cellw1_3 cellw2_4 blkw_5 g0_6 g1_7
  have sz16 : w1.heap.size ≤ w2.heap.size := hb2.size
  by_cases hs : r0 < (l1.length : Int)
  · rw [if_pos hs]
    go_wp2_with fail
    go_ret
    exact ⟨rfl, hB_9⟩
  rw [if_neg hs]
  have hn0 : l0.length ≤ 1048576 := by omega
  have hn1 : l1.length ≤ 1048576 := by omega
  have HS := Lib.hid (HS.out (by omega))
  have HI := Lib.hid (HI.out (by omega))
  clear hm0 hm1'
  go_wp2_with fail
  go_region_held3 (fun wx => wx.cell? ⟨w.heap.size, 0, none⟩ = some (.int .i64 pu) ∧ wx.cell? ⟨w.heap.size, 1, none⟩ = some (.int .i64 gr) ∧ wx.cell? ⟨w.heap.size, 2, none⟩ = some (.slice A1 l1.length c1)) (((try dsimp only); (repeat' apply And.intro)) <;> assumption) (first
    | (go_at_call 17; refine (toPartS_any A0 c0 l0 _ hn0 (by exact g0_14)).mono ?_; rintro e w3 ⟨As, cAs, rfl, os, hx1⟩; have cellw0_17 : w3.cell? ⟨w.heap.size, 0, none⟩ = some (.int .i64 pu) := (hx1.cell (p := ⟨w.heap.size, 0, none⟩) (World.block_lt_of_cell? _ _ cellw0_10)).trans cellw0_10; have cellw1_18 : w3.cell? ⟨w.heap.size, 1, none⟩ = some (.int .i64 gr) := (hx1.cell (p := ⟨w.heap.size, 1, none⟩) (World.block_lt_of_cell? _ _ cellw1_11)).trans cellw1_11; have cellw2_19 : w3.cell? ⟨w.heap.size, 2, none⟩ = some (.slice A1 l1.length c1) := (hx1.cell (p := ⟨w.heap.size, 2, none⟩) (World.block_lt_of_cell? _ _ cellw2_12)).trans cellw2_12; have gi3 : RdI w3 A1 l1 := (show RdI w2.drew A1 l1 from g1_15).below hx1 (Nat.le_refl _))
    | (go_at_call 22; refine (toTry_any pu gr A1 c1 l1 _ hn1 (by exact gi3)).mono ?_; rintro e w4 ⟨Ae, cAe, rfl, oi0, hx2⟩; have cellw0_20 : w4.cell? ⟨w.heap.size, 0, none⟩ = some (.int .i64 pu) := (hx2.cell (p := ⟨w.heap.size, 0, none⟩) (World.block_lt_of_cell? _ _ cellw0_17)).trans cellw0_17; have cellw1_21 : w4.cell? ⟨w.heap.size, 1, none⟩ = some (.int .i64 gr) := (hx2.cell (p := ⟨w.heap.size, 1, none⟩) (World.block_lt_of_cell? _ _ cellw1_18)).trans cellw1_18; have cellw2_22 : w4.cell? ⟨w.heap.size, 2, none⟩ = some (.slice A1 l1.length c1) := (hx2.cell (p := ⟨w.heap.size, 2, none⟩) (World.block_lt_of_cell? _ _ cellw2_19)).trans cellw2_19; have os4 := os.below hx2 (Nat.le_refl _))
    | (go_at_call 34; refine (HS.out As cAs Ae cAe _ os4.capn (by exact os4.rd) (by exact OwnI.rd oi0)).mono ?_; rintro e w5 ⟨AW, cW, rfl, oW, hx3⟩; have cellw0_23 : w5.cell? ⟨w.heap.size, 0, none⟩ = some (.int .i64 pu) := (hx3.cell (p := ⟨w.heap.size, 0, none⟩) (World.block_lt_of_cell? _ _ cellw0_20)).trans cellw0_20; have cellw1_24 : w5.cell? ⟨w.heap.size, 1, none⟩ = some (.int .i64 gr) := (hx3.cell (p := ⟨w.heap.size, 1, none⟩) (World.block_lt_of_cell? _ _ cellw1_21)).trans cellw1_21; have cellw2_25 : w5.cell? ⟨w.heap.size, 2, none⟩ = some (.slice A1 l1.length c1) := (hx3.cell (p := ⟨w.heap.size, 2, none⟩) (World.block_lt_of_cell? _ _ cellw2_22)).trans cellw2_22))
  all_goals
    have hx12 : Below w2.heap.size w2 w3 := (Below.refl _ _).drew.trans hx1
    have hx13 := hx12.trans (hx2.mono hx12.size)
    have hx14 := hx13.trans (hx3.mono hx13.size)
    have hB_26 := hB_9.trans (hx14.mono hB_9.size)
    have blkw_27 := blkw_13.below hx14 blkw_13.lt
    have g0_28 := g0_14.below hx14 (Nat.le_refl _)
    have g1_29 := g1_15.below hx14 (Nat.le_refl _)
    clear hB_9 blkw_13 g0_14 g1_15
    have sz30 : w2.heap.size ≤ w5.heap.size := hx14.size
    have ltW := Lib.hid oW.lt
    clear os os4 oi0 hx1 hx2 hx3 hx12 hx13 hx14 gi3 cellw0_17 cellw1_18 cellw2_19 cellw0_20 cellw1_21 cellw2_22
    clear HS
    go_wp2_with fail
    refine (toPartS_any A0 c0 l0 _ hn0 g0_28).mono ?_
    rintro e w6 ⟨Ax, cx, rfl, ox, hb6⟩
    have hB_31 := hB_26.trans (hb6.mono hB_26.size)
    have blkw_32 := blkw_27.below hb6 blkw_27.lt
    have g0_33 := g0_28.below hb6 (Nat.le_refl _)
    have g1_34 := g1_29.below hb6 (Nat.le_refl _)
    have cellw0_35 := (hb6.cell (p := ⟨w.heap.size, 0, none⟩) (World.block_lt_of_cell? _ _ cellw0_23)).trans cellw0_23
    have cellw1_36 := (hb6.cell (p := ⟨w.heap.size, 1, none⟩) (World.block_lt_of_cell? _ _ cellw1_24)).trans cellw1_24
    have cellw2_37 := (hb6.cell (p := ⟨w.heap.size, 2, none⟩) (World.block_lt_of_cell? _ _ cellw2_25)).trans cellw2_25
    have oW_38 := oW.below hb6 (Nat.le_refl _)
    clear hB_26 blkw_27 g0_28 g1_29 cellw0_23 cellw1_24 cellw2_25 oW
    have sz39 : w5.heap.size ≤ w6.heap.size := hb6.size
    have ltx := Lib.hid ox.lt
    go_wp2_with fail
    refine (toTry_any pu gr A1 c1 l1 _ hn1 g1_34).mono ?_
    rintro e wk ⟨Ai, ci, rfl, oi, hb7⟩
    have hB_40 := hB_31.trans (hb7.mono hB_31.size)
    have blkw_41 := blkw_32.below hb7 blkw_32.lt
    have g0_42 := g0_33.below hb7 (Nat.le_refl _)
    have g1_43 := g1_34.below hb7 (Nat.le_refl _)
    have cellw0_44 := (hb7.cell (p := ⟨w.heap.size, 0, none⟩) (World.block_lt_of_cell? _ _ cellw0_35)).trans cellw0_35
    have cellw1_45 := (hb7.cell (p := ⟨w.heap.size, 1, none⟩) (World.block_lt_of_cell? _ _ cellw1_36)).trans cellw1_36
    have cellw2_46 := (hb7.cell (p := ⟨w.heap.size, 2, none⟩) (World.block_lt_of_cell? _ _ cellw2_37)).trans cellw2_37
    have oW_47 := oW_38.below hb7 (Nat.le_refl _)
    have ox_48 := ox.below hb7 (Nat.le_refl _)
    clear hB_31 blkw_32 g0_33 g1_34 cellw0_35 cellw1_36 cellw2_37 oW_38 ox
    have sz49 : w6.heap.size ≤ wk.heap.size := hb7.size
    obtain ⟨wm, hwm⟩ : ∃ wm : World, wm = wk.alloc (.cells #[.int .i64 pu, .int .i64 gr, .slice Ai l1.length ci] 35) := ⟨_, rfl⟩
    have hbm : Below wk.heap.size wk wm := by rw [hwm]; exact (Below.refl _ _).alloc (Nat.le_refl _) _
    have blkk : Blk wm wk.heap.size 35 #[.int .i64 pu, .int .i64 gr, .slice Ai l1.length ci] := by rw [hwm]; exact Blk.new _ _ _
    have hB_50 := hB_40.trans (hbm.mono hB_40.size)
    have blkw_51 := blkw_41.below hbm blkw_41.lt
    have g0_52 := g0_42.below hbm (Nat.le_refl _)
    have g1_53 := g1_43.below hbm (Nat.le_refl _)
    have cellw0_54 := (hbm.cell (p := ⟨w.heap.size, 0, none⟩) (World.block_lt_of_cell? _ _ cellw0_44)).trans cellw0_44
    have cellw1_55 := (hbm.cell (p := ⟨w.heap.size, 1, none⟩) (World.block_lt_of_cell? _ _ cellw1_45)).trans cellw1_45
    have cellw2_56 := (hbm.cell (p := ⟨w.heap.size, 2, none⟩) (World.block_lt_of_cell? _ _ cellw2_46)).trans cellw2_46
    have oW_57 := oW_47.below hbm (Nat.le_refl _)
    have ox_58 := ox_48.below hbm (Nat.le_refl _)
    have oi_59 := OwnI.below oi hbm (Nat.le_refl _)
    clear hB_40 blkw_41 g0_42 g1_43 cellw0_44 cellw1_45 cellw2_46 oW_47 ox_48 oi
    have sz60 : wk.heap.size ≤ wm.heap.size := hbm.size
    have cellk0 : wm.cell? ⟨wk.heap.size, 0, none⟩ = some (.int .i64 pu) := blkk.cell 0
    have cellk1 : wm.cell? ⟨wk.heap.size, 1, none⟩ = some (.int .i64 gr) := blkk.cell 1
    have cellk2 : wm.cell? ⟨wk.heap.size, 2, none⟩ = some (.slice Ai l1.length ci) := blkk.cell 2
    have HWM := Lib.hid hwm
    clear hwm hbm
    go_wp2_with fail
    rw [← HWM.out]
    clear HWM
    refine (HI.out Ax cx Ai ci _ ox_58.capn ox_58.rd (OwnI.rd oi_59)).mono ?_
    rintro e w8 ⟨AG, cG, rfl, oG, hb8⟩
    have ltG := Lib.hid oG.lt
    have hzG := hB_50.size
    have hB_61 := hB_50.trans (hb8.mono hB_50.size)
    have blkw_62 := blkw_51.below hb8 blkw_51.lt
    have g0_63 := g0_52.below hb8 (Nat.le_refl _)
    have g1_64 := g1_53.below hb8 (Nat.le_refl _)
    have cellw0_65 := (hb8.cell (p := ⟨w.heap.size, 0, none⟩) (World.block_lt_of_cell? _ _ cellw0_54)).trans cellw0_54
    have cellw1_66 := (hb8.cell (p := ⟨w.heap.size, 1, none⟩) (World.block_lt_of_cell? _ _ cellw1_55)).trans cellw1_55
    have cellw2_67 := (hb8.cell (p := ⟨w.heap.size, 2, none⟩) (World.block_lt_of_cell? _ _ cellw2_56)).trans cellw2_56
    have oW_68 := oW_57.below hb8 (Nat.le_refl _)
    have ox_69 := ox_58.below hb8 (Nat.le_refl _)
    have oi_70 := OwnI.below oi_59 hb8 (Nat.le_refl _)
    have blkk_71 := blkk.below hb8 blkk.lt
    have cellk0_72 := (hb8.cell (p := ⟨wk.heap.size, 0, none⟩) (World.block_lt_of_cell? _ _ cellk0)).trans cellk0
    have cellk1_73 := (hb8.cell (p := ⟨wk.heap.size, 1, none⟩) (World.block_lt_of_cell? _ _ cellk1)).trans cellk1
    have cellk2_74 := (hb8.cell (p := ⟨wk.heap.size, 2, none⟩) (World.block_lt_of_cell? _ _ cellk2)).trans cellk2
    clear hB_50 blkw_51 g0_52 g1_53 cellw0_54 cellw1_55 cellw2_56 oW_57 ox_58 oi_59 blkk cellk0 cellk1 cellk2
    have sz75 : wm.heap.size ≤ w8.heap.size := hb8.size
    go_wp2_with fail
    refine (eqStringS_same AG AW _ cG cW res _ rfl (by omega) oG.rd oW_68.rd).mono ?_
    rintro e w9 ⟨rfl, hbw9⟩
    have hB_76 := hB_61.trans (hbw9.mono hB_61.size)
    have blkw_77 := blkw_62.below hbw9 blkw_62.lt
    have g0_78 := g0_63.below hbw9 (Nat.le_refl _)
    have g1_79 := g1_64.below hbw9 (Nat.le_refl _)
    have cellw0_80 := (hbw9.cell (p := ⟨w.heap.size, 0, none⟩) (World.block_lt_of_cell? _ _ cellw0_65)).trans cellw0_65
    have cellw1_81 := (hbw9.cell (p := ⟨w.heap.size, 1, none⟩) (World.block_lt_of_cell? _ _ cellw1_66)).trans cellw1_66
    have cellw2_82 := (hbw9.cell (p := ⟨w.heap.size, 2, none⟩) (World.block_lt_of_cell? _ _ cellw2_67)).trans cellw2_67
    have oW_83 := oW_68.below hbw9 (Nat.le_refl _)
    have ox_84 := ox_69.below hbw9 (Nat.le_refl _)
    have oi_85 := OwnI.below oi_70 hbw9 (Nat.le_refl _)
    have blkk_86 := blkk_71.below hbw9 blkk_71.lt
    have cellk0_87 := (hbw9.cell (p := ⟨wk.heap.size, 0, none⟩) (World.block_lt_of_cell? _ _ cellk0_72)).trans cellk0_72
    have cellk1_88 := (hbw9.cell (p := ⟨wk.heap.size, 1, none⟩) (World.block_lt_of_cell? _ _ cellk1_73)).trans cellk1_73
    have cellk2_89 := (hbw9.cell (p := ⟨wk.heap.size, 2, none⟩) (World.block_lt_of_cell? _ _ cellk2_74)).trans cellk2_74
    have oG_90 := oG.below hbw9 (Nat.le_refl _)
    clear hB_61 blkw_62 g0_63 g1_64 cellw0_65 cellw1_66 cellw2_67 oW_68 ox_69 oi_70 blkk_71 cellk0_72 cellk1_73 cellk2_74 oG
    have sz91 : w8.heap.size ≤ w9.heap.size := hbw9.size
    go_wp2_with fail
    refine (toPartS_any A0 c0 l0 _ hn0 g0_78).mono ?_
    rintro e w10 ⟨Ay, cy, rfl, oy, hb10⟩
    have hB_92 := hB_76.trans (hb10.mono hB_76.size)
    have blkw_93 := blkw_77.below hb10 blkw_77.lt
    have g0_94 := g0_78.below hb10 (Nat.le_refl _)
    have g1_95 := g1_79.below hb10 (Nat.le_refl _)
    have cellw0_96 := (hb10.cell (p := ⟨w.heap.size, 0, none⟩) (World.block_lt_of_cell? _ _ cellw0_80)).trans cellw0_80
    have cellw1_97 := (hb10.cell (p := ⟨w.heap.size, 1, none⟩) (World.block_lt_of_cell? _ _ cellw1_81)).trans cellw1_81
    have cellw2_98 := (hb10.cell (p := ⟨w.heap.size, 2, none⟩) (World.block_lt_of_cell? _ _ cellw2_82)).trans cellw2_82
    have oW_99 := oW_83.below hb10 (Nat.le_refl _)
    have ox_100 := ox_84.below hb10 (Nat.le_refl _)
    have oi_101 := OwnI.below oi_85 hb10 (Nat.le_refl _)
    have blkk_102 := blkk_86.below hb10 blkk_86.lt
    have cellk0_103 := (hb10.cell (p := ⟨wk.heap.size, 0, none⟩) (World.block_lt_of_cell? _ _ cellk0_87)).trans cellk0_87
    have cellk1_104 := (hb10.cell (p := ⟨wk.heap.size, 1, none⟩) (World.block_lt_of_cell? _ _ cellk1_88)).trans cellk1_88
    have cellk2_105 := (hb10.cell (p := ⟨wk.heap.size, 2, none⟩) (World.block_lt_of_cell? _ _ cellk2_89)).trans cellk2_89
    have oG_106 := oG_90.below hb10 (Nat.le_refl _)
    clear hB_76 blkw_77 g0_78 g1_79 cellw0_80 cellw1_81 cellw2_82 oW_83 ox_84 oi_85 blkk_86 cellk0_87 cellk1_88 cellk2_89 oG_90
    have sz107 : w9.heap.size ≤ w10.heap.size := hb10.size
    go_wp2_with fail
    refine (eqPartS_same Ax Ay _ cx cy l0 _ rfl (by omega) ox_100.rd oy.rd).mono ?_
    rintro e w11 ⟨rfl, hb11⟩
    clear oy
    have hB_108 := hB_92.trans (hb11.mono hB_92.size)
    have blkw_109 := blkw_93.below hb11 blkw_93.lt
    have g0_110 := g0_94.below hb11 (Nat.le_refl _)
    have g1_111 := g1_95.below hb11 (Nat.le_refl _)
    have cellw0_112 := (hb11.cell (p := ⟨w.heap.size, 0, none⟩) (World.block_lt_of_cell? _ _ cellw0_96)).trans cellw0_96
    have cellw1_113 := (hb11.cell (p := ⟨w.heap.size, 1, none⟩) (World.block_lt_of_cell? _ _ cellw1_97)).trans cellw1_97
    have cellw2_114 := (hb11.cell (p := ⟨w.heap.size, 2, none⟩) (World.block_lt_of_cell? _ _ cellw2_98)).trans cellw2_98
    have oW_115 := oW_99.below hb11 (Nat.le_refl _)
    have ox_116 := ox_100.below hb11 (Nat.le_refl _)
    have oi_117 := OwnI.below oi_101 hb11 (Nat.le_refl _)
    have blkk_118 := blkk_102.below hb11 blkk_102.lt
    have cellk0_119 := (hb11.cell (p := ⟨wk.heap.size, 0, none⟩) (World.block_lt_of_cell? _ _ cellk0_103)).trans cellk0_103
    have cellk1_120 := (hb11.cell (p := ⟨wk.heap.size, 1, none⟩) (World.block_lt_of_cell? _ _ cellk1_104)).trans cellk1_104
    have cellk2_121 := (hb11.cell (p := ⟨wk.heap.size, 2, none⟩) (World.block_lt_of_cell? _ _ cellk2_105)).trans cellk2_105
    have oG_122 := oG_106.below hb11 (Nat.le_refl _)
    clear hB_92 blkw_93 g0_94 g1_95 cellw0_96 cellw1_97 cellw2_98 oW_99 ox_100 oi_101 blkk_102 cellk0_103 cellk1_104 cellk2_105 oG_106
    have sz123 : w10.heap.size ≤ w11.heap.size := hb11.size
    go_wp2_with fail
    go_region_held3 (fun wx => (wx.cell? ⟨w.heap.size, 0, none⟩ = some (.int .i64 pu)) ∧ (wx.cell? ⟨w.heap.size, 1, none⟩ = some (.int .i64 gr)) ∧ (wx.cell? ⟨w.heap.size, 2, none⟩ = some (.slice A1 l1.length c1)) ∧ (wx.cell? ⟨wk.heap.size, 0, none⟩ = some (.int .i64 pu)) ∧ (wx.cell? ⟨wk.heap.size, 1, none⟩ = some (.int .i64 gr)) ∧ (wx.cell? ⟨wk.heap.size, 2, none⟩ = some (.slice Ai l1.length ci))) (((try dsimp only); (repeat' apply And.intro)) <;> assumption) (first
      | (go_at_call 22; refine (toTry_any pu gr A1 c1 l1 _ hn1 (by exact g1_111)).mono ?_; rintro e w12 ⟨Aj, cj, rfl, oj, hx1⟩; have cellw0_124 : w12.cell? ⟨w.heap.size, 0, none⟩ = some (.int .i64 pu) := (hx1.cell (p := ⟨w.heap.size, 0, none⟩) (World.block_lt_of_cell? _ _ cellw0_112)).trans cellw0_112; have cellw1_125 : w12.cell? ⟨w.heap.size, 1, none⟩ = some (.int .i64 gr) := (hx1.cell (p := ⟨w.heap.size, 1, none⟩) (World.block_lt_of_cell? _ _ cellw1_113)).trans cellw1_113; have cellw2_126 : w12.cell? ⟨w.heap.size, 2, none⟩ = some (.slice A1 l1.length c1) := (hx1.cell (p := ⟨w.heap.size, 2, none⟩) (World.block_lt_of_cell? _ _ cellw2_114)).trans cellw2_114; have cellk0_127 : w12.cell? ⟨wk.heap.size, 0, none⟩ = some (.int .i64 pu) := (hx1.cell (p := ⟨wk.heap.size, 0, none⟩) (World.block_lt_of_cell? _ _ cellk0_119)).trans cellk0_119; have cellk1_128 : w12.cell? ⟨wk.heap.size, 1, none⟩ = some (.int .i64 gr) := (hx1.cell (p := ⟨wk.heap.size, 1, none⟩) (World.block_lt_of_cell? _ _ cellk1_120)).trans cellk1_120; have cellk2_129 : w12.cell? ⟨wk.heap.size, 2, none⟩ = some (.slice Ai l1.length ci) := (hx1.cell (p := ⟨wk.heap.size, 2, none⟩) (World.block_lt_of_cell? _ _ cellk2_121)).trans cellk2_121; have oi11 : RdI w12 Ai l1 := (show RdI w11.drew Ai l1 from OwnI.rd oi_117).below hx1 (Nat.le_refl _))
      | (go_at_call 24; refine (eqTry_same pu gr Ai Aj ci cj l1 _ (by omega) (by exact oi11) (by exact OwnI.rd oj)).mono ?_; rintro e w13 ⟨rfl, hx2⟩; have cellw0_130 : w13.cell? ⟨w.heap.size, 0, none⟩ = some (.int .i64 pu) := (hx2.cell (p := ⟨w.heap.size, 0, none⟩) (World.block_lt_of_cell? _ _ cellw0_124)).trans cellw0_124; have cellw1_131 : w13.cell? ⟨w.heap.size, 1, none⟩ = some (.int .i64 gr) := (hx2.cell (p := ⟨w.heap.size, 1, none⟩) (World.block_lt_of_cell? _ _ cellw1_125)).trans cellw1_125; have cellw2_132 : w13.cell? ⟨w.heap.size, 2, none⟩ = some (.slice A1 l1.length c1) := (hx2.cell (p := ⟨w.heap.size, 2, none⟩) (World.block_lt_of_cell? _ _ cellw2_126)).trans cellw2_126; have cellk0_133 : w13.cell? ⟨wk.heap.size, 0, none⟩ = some (.int .i64 pu) := (hx2.cell (p := ⟨wk.heap.size, 0, none⟩) (World.block_lt_of_cell? _ _ cellk0_127)).trans cellk0_127; have cellk1_134 : w13.cell? ⟨wk.heap.size, 1, none⟩ = some (.int .i64 gr) := (hx2.cell (p := ⟨wk.heap.size, 1, none⟩) (World.block_lt_of_cell? _ _ cellk1_128)).trans cellk1_128; have cellk2_135 : w13.cell? ⟨wk.heap.size, 2, none⟩ = some (.slice Ai l1.length ci) := (hx2.cell (p := ⟨wk.heap.size, 2, none⟩) (World.block_lt_of_cell? _ _ cellk2_129)).trans cellk2_129))
    all_goals
      have hx12 : Below w11.heap.size w11 w12 := (Below.refl _ _).drew.trans hx1
      have hx13 := hx12.trans (hx2.mono hx12.size)
      have hB_136 := hB_108.trans (hx13.mono hB_108.size)
      have blkw_137 := blkw_109.below hx13 blkw_109.lt
      have g0_138 := g0_110.below hx13 (Nat.le_refl _)
      have g1_139 := g1_111.below hx13 (Nat.le_refl _)
      have oW_140 := oW_115.below hx13 (Nat.le_refl _)
      have ox_141 := ox_116.below hx13 (Nat.le_refl _)
      have oi_142 := OwnI.below oi_117 hx13 (Nat.le_refl _)
      have blkk_143 := blkk_118.below hx13 blkk_118.lt
      have oG_144 := oG_122.below hx13 (Nat.le_refl _)
      clear hB_108 blkw_109 g0_110 g1_111 oW_115 ox_116 oi_117 blkk_118 oG_122
      have sz145 : w11.heap.size ≤ w13.heap.size := hx13.size
      clear hx1 hx2 hx12 hx13 oi11 oj cellw0_124 cellw1_125 cellw2_126 cellk0_127 cellk1_128 cellk2_129
      have lti := Lib.hid (OwnI.lt oi_142)
      go_wp2_with fail
      refine (markPartS_ok _ Ax cx l0 _ _ (by omega) (by omega) (by omega) ox_141).mono ?_
      rintro e w14 ⟨rfl, ox14, gr14⟩
      have hB_146 := below_gr hB_136 gr14 hB_136.size (fun k hk => by have := ltx.out k hk; omega)
      have blkw_147 := blkw_137.gr gr14 (Blk.ne_v blkw_137 ox_141 (by decide))
      have g0_148 := h0.below hB_146 (Nat.le_refl _)
      have g1_149 := h1.below hB_146 (Nat.le_refl _)
      have oW_150 := oW_140.kept gr14 (own_apart oW_140 ox_141 (by decide))
      have oi_151 := OwnI.kept oi_142 gr14 (own_apart oi_142 ox_141 (by decide))
      have blkk_152 := blkk_143.gr gr14 (Blk.ne_v blkk_143 ox_141 (by decide))
      have oG_153 := oG_144.kept gr14 (own_apart oG_144 ox_141 (by decide))
      have sz154 : w13.heap.size ≤ w14.heap.size := gr14.size
      clear hB_136 blkw_137 g0_138 g1_139 oW_140 oi_142 blkk_143 oG_144 cellw0_130 cellw1_131 cellw2_132 cellk0_133 cellk1_134 cellk2_135 ox_141
      clear ox14 gr14
      have cellk0_155 : w14.cell? ⟨wk.heap.size, 0, none⟩ = some (.int .i64 pu) := blkk_152.cell 0
      have cellk1_156 : w14.cell? ⟨wk.heap.size, 1, none⟩ = some (.int .i64 gr) := blkk_152.cell 1
      have cellk2_157 : w14.cell? ⟨wk.heap.size, 2, none⟩ = some (.slice Ai l1.length ci) := blkk_152.cell 2
      go_wp2_with fail
      refine (markTry_ok _ pu gr Ai ci l1 _ _ (by omega) (by omega) (by omega) oi_151).mono ?_
      rintro e w15 ⟨rfl, oi15, gr15⟩
      have hB_158 := below_gr hB_146 gr15 hB_146.size (fun k hk => by have := lti.out k hk; omega)
      have blkw_159 := blkw_147.gr gr15 (Blk.ne_v blkw_147 (own_int.2 oi_151) (by decide))
      have g0_160 := h0.below hB_158 (Nat.le_refl _)
      have g1_161 := h1.below hB_158 (Nat.le_refl _)
      have oW_162 := oW_150.kept gr15 (own_apart oW_150 oi_151 (by decide))
      have blkk_163 := blkk_152.gr gr15 (Blk.ne_v blkk_152 (own_int.2 oi_151) (by decide))
      have oG_164 := oG_153.kept gr15 (own_apart oG_153 oi_151 (by decide))
      have sz165 : w14.heap.size ≤ w15.heap.size := gr15.size
      clear hB_146 blkw_147 g0_148 g1_149 oW_150 blkk_152 oG_153 cellk0_155 cellk1_156 cellk2_157 oi_151
      clear oi15 gr15 blkk_163
      go_wp2_with fail
      refine (eqStringS_same AG AW _ cG cW res _ rfl (by omega) oG_164.rd oW_162.rd).mono ?_
      rintro e w16 ⟨rfl, hbw16⟩
      have hB_166 := hB_158.trans (hbw16.mono hB_158.size)
      have blkw_167 := blkw_159.below hbw16 blkw_159.lt
      have g0_168 := g0_160.below hbw16 (Nat.le_refl _)
      have g1_169 := g1_161.below hbw16 (Nat.le_refl _)
      have oW_170 := oW_162.below hbw16 (Nat.le_refl _)
      have oG_171 := oG_164.below hbw16 (Nat.le_refl _)
      clear hB_158 blkw_159 g0_160 g1_161 oW_162 oG_164
      have sz172 : w15.heap.size ≤ w16.heap.size := hbw16.size
      go_wp2_with fail
      refine (markStringS_ok _ AG cG res _ _ (by omega) (by omega) (by omega) oG_171).mono ?_
      rintro e w17 ⟨rfl, oG17, gr17⟩
      have hB_173 := below_gr hB_166 gr17 hB_166.size (fun k hk => by have := ltG.out k hk; omega)
      have blkw_174 := blkw_167.gr gr17 (Blk.ne_v blkw_167 oG_171 (by decide))
      have g0_175 := h0.below hB_173 (Nat.le_refl _)
      have g1_176 := h1.below hB_173 (Nat.le_refl _)
      have oW_177 := oW_170.kept gr17 (apart_of (B := wm.heap.size) (fun k hk => by have := ltW.out k hk; omega) (fun k hk => by have := ltG.out k hk; omega))
      have sz178 : w16.heap.size ≤ w17.heap.size := gr17.size
      clear hB_166 blkw_167 g0_168 g1_169 oW_170 oG_171
      clear gr17
      go_wp2_with fail
      refine (heldStringS_ok AG res.length cG 1 _ (by omega) (by omega) (by omega) (by have := oG17.rd; exact this)).mono ?_
      rintro e w18 ⟨rfl, hbw18⟩
      have hB_179 := hB_173.trans (hbw18.mono hB_173.size)
      have blkw_180 := blkw_174.below hbw18 blkw_174.lt
      have g0_181 := g0_175.below hbw18 (Nat.le_refl _)
      have g1_182 := g1_176.below hbw18 (Nat.le_refl _)
      have oW_183 := oW_177.below hbw18 (Nat.le_refl _)
      have oG_184 := oG17.below hbw18 (Nat.le_refl _)
      clear hB_173 blkw_174 g0_175 g1_176 oW_177 oG17
      have sz185 : w17.heap.size ≤ w18.heap.size := hbw18.size
      have cellw0_186 : w18.cell? ⟨w.heap.size, 0, none⟩ = some (.int .i64 pu) := blkw_180.cell 0
      have cellw1_187 : w18.cell? ⟨w.heap.size, 1, none⟩ = some (.int .i64 gr) := blkw_180.cell 1
      have cellw2_188 : w18.cell? ⟨w.heap.size, 2, none⟩ = some (.slice A1 l1.length c1) := blkw_180.cell 2
      go_wp2_with fail
      go_region_held3 (fun wx => wx.cell? ⟨w.heap.size, 0, none⟩ = some (.int .i64 pu) ∧ wx.cell? ⟨w.heap.size, 1, none⟩ = some (.int .i64 gr) ∧ wx.cell? ⟨w.heap.size, 2, none⟩ = some (.slice A1 l1.length c1)) (((try dsimp only); (repeat' apply And.intro)) <;> assumption) (first
        | (go_at_call 17; refine (toPartS_any A0 c0 l0 _ hn0 (by exact g0_181)).mono ?_; rintro e w19 ⟨At, cAt, rfl, os, hx1⟩; have cellw0_189 : w19.cell? ⟨w.heap.size, 0, none⟩ = some (.int .i64 pu) := (hx1.cell (p := ⟨w.heap.size, 0, none⟩) (World.block_lt_of_cell? _ _ cellw0_186)).trans cellw0_186; have cellw1_190 : w19.cell? ⟨w.heap.size, 1, none⟩ = some (.int .i64 gr) := (hx1.cell (p := ⟨w.heap.size, 1, none⟩) (World.block_lt_of_cell? _ _ cellw1_187)).trans cellw1_187; have cellw2_191 : w19.cell? ⟨w.heap.size, 2, none⟩ = some (.slice A1 l1.length c1) := (hx1.cell (p := ⟨w.heap.size, 2, none⟩) (World.block_lt_of_cell? _ _ cellw2_188)).trans cellw2_188; have gi3 : RdI w19 A1 l1 := (show RdI w18.drew A1 l1 from g1_182).below hx1 (Nat.le_refl _))
        | (go_at_call 22; refine (toTry_any pu gr A1 c1 l1 _ hn1 (by exact gi3)).mono ?_; rintro e w20 ⟨Au, cAu, rfl, oi0, hx2⟩; have cellw0_192 : w20.cell? ⟨w.heap.size, 0, none⟩ = some (.int .i64 pu) := (hx2.cell (p := ⟨w.heap.size, 0, none⟩) (World.block_lt_of_cell? _ _ cellw0_189)).trans cellw0_189; have cellw1_193 : w20.cell? ⟨w.heap.size, 1, none⟩ = some (.int .i64 gr) := (hx2.cell (p := ⟨w.heap.size, 1, none⟩) (World.block_lt_of_cell? _ _ cellw1_190)).trans cellw1_190; have cellw2_194 : w20.cell? ⟨w.heap.size, 2, none⟩ = some (.slice A1 l1.length c1) := (hx2.cell (p := ⟨w.heap.size, 2, none⟩) (World.block_lt_of_cell? _ _ cellw2_191)).trans cellw2_191; have os4 := os.below hx2 (Nat.le_refl _))
        | (go_at_call 35; refine (HI.out At cAt Au cAu _ os4.capn (by exact os4.rd) (by exact OwnI.rd oi0)).mono ?_; rintro e w21 ⟨AH, cH, rfl, oH, hx3⟩; have cellw0_195 : w21.cell? ⟨w.heap.size, 0, none⟩ = some (.int .i64 pu) := (hx3.cell (p := ⟨w.heap.size, 0, none⟩) (World.block_lt_of_cell? _ _ cellw0_192)).trans cellw0_192; have cellw1_196 : w21.cell? ⟨w.heap.size, 1, none⟩ = some (.int .i64 gr) := (hx3.cell (p := ⟨w.heap.size, 1, none⟩) (World.block_lt_of_cell? _ _ cellw1_193)).trans cellw1_193; have cellw2_197 : w21.cell? ⟨w.heap.size, 2, none⟩ = some (.slice A1 l1.length c1) := (hx3.cell (p := ⟨w.heap.size, 2, none⟩) (World.block_lt_of_cell? _ _ cellw2_194)).trans cellw2_194))
      all_goals
        have hx12 : Below w18.heap.size w18 w19 := (Below.refl _ _).drew.trans hx1
        have hx13 := hx12.trans (hx2.mono hx12.size)
        have hx14 := hx13.trans (hx3.mono hx13.size)
        have hB_198 := hB_179.trans (hx14.mono hB_179.size)
        have blkw_199 := blkw_180.below hx14 blkw_180.lt
        have g0_200 := g0_181.below hx14 (Nat.le_refl _)
        have g1_201 := g1_182.below hx14 (Nat.le_refl _)
        have oW_202 := oW_183.below hx14 (Nat.le_refl _)
        have oG_203 := oG_184.below hx14 (Nat.le_refl _)
        clear hB_179 blkw_180 g0_181 g1_182 oW_183 oG_184
        have sz204 : w18.heap.size ≤ w21.heap.size := hx14.size
        have ltH := Lib.hid oH.lt
        clear os os4 oi0 hx1 hx2 hx3 hx12 hx13 hx14 gi3 cellw0_189 cellw1_190 cellw2_191 cellw0_192 cellw1_193 cellw2_194
        go_wp2_with fail
        refine (eqStringS_same AH AW _ cH cW res _ rfl (by omega) oH.rd oW_202.rd).mono ?_
        rintro e w22 ⟨rfl, hbw22⟩
        have hB_205 := hB_198.trans (hbw22.mono hB_198.size)
        have blkw_206 := blkw_199.below hbw22 blkw_199.lt
        have g0_207 := g0_200.below hbw22 (Nat.le_refl _)
        have g1_208 := g1_201.below hbw22 (Nat.le_refl _)
        have oW_209 := oW_202.below hbw22 (Nat.le_refl _)
        have oG_210 := oG_203.below hbw22 (Nat.le_refl _)
        have cellw0_211 := (hbw22.cell (p := ⟨w.heap.size, 0, none⟩) (World.block_lt_of_cell? _ _ cellw0_195)).trans cellw0_195
        have cellw1_212 := (hbw22.cell (p := ⟨w.heap.size, 1, none⟩) (World.block_lt_of_cell? _ _ cellw1_196)).trans cellw1_196
        have cellw2_213 := (hbw22.cell (p := ⟨w.heap.size, 2, none⟩) (World.block_lt_of_cell? _ _ cellw2_197)).trans cellw2_197
        have oH_214 := oH.below hbw22 (Nat.le_refl _)
        clear hB_198 blkw_199 g0_200 g1_201 oW_202 oG_203 cellw0_195 cellw1_196 cellw2_197 oH
        have sz215 : w21.heap.size ≤ w22.heap.size := hbw22.size
        go_wp2_with fail
        refine (heldStringS_ok AG res.length cG 1 _ (by omega) (by omega) (by omega) (by have := oG_210.rd; exact this)).mono ?_
        rintro e w23 ⟨rfl, hbw23⟩
        have hB_216 := hB_205.trans (hbw23.mono hB_205.size)
        have blkw_217 := blkw_206.below hbw23 blkw_206.lt
        have g0_218 := g0_207.below hbw23 (Nat.le_refl _)
        have g1_219 := g1_208.below hbw23 (Nat.le_refl _)
        have oW_220 := oW_209.below hbw23 (Nat.le_refl _)
        have oG_221 := oG_210.below hbw23 (Nat.le_refl _)
        have cellw0_222 := (hbw23.cell (p := ⟨w.heap.size, 0, none⟩) (World.block_lt_of_cell? _ _ cellw0_211)).trans cellw0_211
        have cellw1_223 := (hbw23.cell (p := ⟨w.heap.size, 1, none⟩) (World.block_lt_of_cell? _ _ cellw1_212)).trans cellw1_212
        have cellw2_224 := (hbw23.cell (p := ⟨w.heap.size, 2, none⟩) (World.block_lt_of_cell? _ _ cellw2_213)).trans cellw2_213
        have oH_225 := oH_214.below hbw23 (Nat.le_refl _)
        clear hB_205 blkw_206 g0_207 g1_208 oW_209 oG_210 cellw0_211 cellw1_212 cellw2_213 oH_214
        have sz226 : w22.heap.size ≤ w23.heap.size := hbw23.size
        go_wp2_with fail
        go_ret
        exact ⟨rfl, hB_216⟩

set_option maxRecDepth 100000 in
theorem fnExactWeakParts_lifted (os : Os) (started : os.Started) (H : Type) (enc : TypeId × Value → H) :
    ReturnsInHanded {} Try.checked os 8 .any (Rows.fnExactWeakPartsSpec.pre6 enc Try.prog Try.f8 Rows.fnExactWeakPartsRow.domain false) (Rows.fnExactWeakPartsSpec.post enc Try.prog Try.f8 false true false false) := by
  refine returnsInHanded_of_change (C := Try.checked) ownk started (by kernel_rfl) Try.func8
    (ChangeSpec.witness6 (enc := enc) (C := Try.checked) false ⟨#[], #[.slice none 0 0, .agg #[.int .i64 0, .int .i64 0, .slice none 0 0]], []⟩ 8 (by kernel_rfl) (by kernel_rfl) (by kernel_rfl) (by kernel_rfl)) ?_
  intro W base args ds gs before hval0 hW _ _
  have hval : ∀ (j : Nat) t v, Try.f8.params[j]? = some t → args[j]? = some v → Value.okWide Try.prog W .any base t v := hval0
  have hW' := hW
  obtain ⟨p, q, hA0, hV, rfl, _, _⟩ := hW
  have hA : DataW.TrodAll enc Try.prog W 0 (fun _ => true) true Try.f8.params.toList args.toList ds p := hA0
  rw [Try.params8] at hA hval
  obtain ⟨rfl, rfl⟩ := trodVars_none hV
  simp only [List.append_nil] at hW'
  clear hA0 hval0
  have hargs : ∀ W' : World, Below W.heap.size W W' → DataW.TrodAll enc Try.prog W' 0 (fun b => decide (b < W.heap.size)) true [22, 31] args.toList ds p := fun W' hb => trodAll_below laid_out hb _ _ _ _ (by kernel_rfl) hA (fun x hx => hW'.lt x hx)
  obtain ⟨v0, vs0, d0, ds0, p0, q0, hx, rfl, rfl, h0, r0'⟩ := trodAll_cons hA
  obtain ⟨v1, vs1, d1, ds1, p1, q1, rfl, rfl, rfl, h1, r1'⟩ := trodAll_cons r0'
  obtain ⟨rfl, rfl, rfl⟩ := trodAll_nil r1'
  obtain rfl : args = #[v0, v1] := by cases args; simp_all
  obtain ⟨A0, c0, l0, rfl, m0, o0, r0⟩ := open_rowsP partL (by kernel_rfl) (dec_part W enc) (hval 0 22 v0 rfl rfl) h0
  obtain ⟨pu1, gr1, A1, c1, l1, rfl, m1, r1⟩ := open_try1 W enc (hval 1 31 v1 rfl rfl) h1
  refine (fnExactWeakParts_walk W A0 c0 l0 m0 o0 r0 pu1 gr1 A1 c1 l1 m1 r1).mono fun e W' ⟨he, hb⟩ => ?_
  subst he
  exact ⟨_, rfl, _, _, _, [], _, [], hW', trodAll_mk1 (shut_bool Try.underlying4 _), hargs W' hb, rfl, hb.frame _, fun h => by cases h⟩
theorem fnExactWeakParts_proved : Rows.FnExactWeakPartsSaid :=
  OpenClaim.holds_of_wide 8 Try.f8 rfl rfl rfl rfl rfl rfl rfl ⟨rfl, rfl, rfl, rfl, rfl⟩ rfl rfl rfl rfl rfl (by kernel_rfl) Try.func8 (by kernel_rfl)
    (of_decide_eq_true (by kernel_rfl)) (by unfold Func.isWrapper; first | (rw [if_pos (by decide +kernel)]; kernel_rfl) | (rw [if_neg (by decide +kernel)]; exact ⟨rfl, rfl⟩))
    (fun os started H enc _ => fnExactWeakParts_lifted os started H enc)
#print axioms fnExactWeakParts_proved
end Go.Proofs.Ythoojcmnkhhokaa
