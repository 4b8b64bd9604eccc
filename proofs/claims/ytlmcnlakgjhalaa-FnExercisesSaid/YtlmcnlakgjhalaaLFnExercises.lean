/-
  The law FnExercises: the digit sums tell how many columns carry, and no chain is longer than all of them.
-/
import Derived.Test.YtlmcnlakgjhalaaExO
import Derived.Test.YtlmcnlakgjhalaaFrameB
namespace Go.Proofs.Ytlmcnlakgjhalaa
open Go.ChangeShapes Go.WideShapes Go.ChangeAt Go.RowKit

set_option maxRecDepth 100000 in
set_option maxHeartbeats 8000000 in
theorem fnExercises_walk (w : World) (A0 : Option Addr) (c0 : Nat) (l0 : List (Fin 256)) (_ : l0.length ≤ maxLen) (r0 : RdT byteT w A0 l0) :
    Calls Try.prog 12 #[.slice A0 l0.length c0] w fun e w' => e = .returned (.bool true) ∧ Below w.heap.size w w' := by

  by_cases hbig : 65536 < l0.length
  · have d0 : decide (65536 < l0.length) = true := decide_eq_true hbig
    go_enter Try.func12, Try.ntmps12
    go_wp2_with (go_at_call 40; refine (vBig_any _ _ _ _).mono ?_; rintro e w' ⟨rfl, rfl⟩)
    go_ret
    exact ⟨rfl, Below.refl _ _⟩
  · have d0 : decide (65536 < l0.length) = false := decide_eq_false hbig
    go_enter Try.func12, Try.ntmps12
    go_wp2_with (go_at_call 40; refine (vBig_any _ _ _ _).mono ?_; rintro e w' ⟨rfl, rfl⟩)
    clear d0
    refine (drawCarry_any A0 c0 l0 _ (by omega) r0).mono ?_
    rintro e w1 ⟨a, b, rfl, hb1⟩
    have HK1 := Lib.hid (fun W => carryColumns_any a b W)
    have HK2 := Lib.hid (fun W => carryColumns2_any a b W)
    have HC1 := Lib.hid (fun W => chainOfI_any a b W)
    have HC2 := Lib.hid (fun W => chainOfS_any a b W)
    have hlen := colsR_len a b
    have hF : exB a b = true → (0 ≤ a ∧ a ≤ 9999) ∧ (0 ≤ b ∧ b ≤ 9999) ∧ dsF 5 a + dsF 5 b - 9 * ((colsR a b).length : Int) = dsF 5 (a + b) ∧ chainR a b ≤ (colsR a b).length ∧ (0 < chainR a b ↔ 0 < (colsR a b).length) := by
      intro hx
      obtain ⟨⟨ha, ha'⟩, hb, hb'⟩ := (exB_iff _ _).1 hx
      have h1 := ds_cols a b ha ha' hb hb'
      have h2 := chain_pos (cols a b 4)
      unfold colsR chainR
      rw [if_pos hx, if_pos hx]
      exact ⟨⟨ha, ha'⟩, ⟨hb, hb'⟩, h1, h2.1.2, h2.2⟩
    generalize colsR a b = L at *
    generalize chainR a b = ch at *
    generalize exB a b = ok at *
    have HF := Lib.hid hF
    clear hF
    go_wp2_with fail
    refine (HK1.out _).mono ?_
    rintro e w2 ⟨A2, c2, rfl, ho2, hb2⟩
    have hB2 := hb1.trans (hb2.mono hb1.size)
    clear hb1
    go_wp2_with fail
    refine (HK2.out _).mono ?_
    rintro e w3 ⟨A3, c3, rfl, ho3, hb3⟩
    have hB3 := hB2.trans (hb3.mono hB2.size)
    have ho2 := ho2.below hb3 (Nat.le_refl _)
    clear hB2
    go_wp2_with fail
    refine (vInts_same A2 A3 _ c2 c3 L _ rfl (by omega) ho2.rd ho3.rd).mono ?_
    rintro e w4 ⟨rfl, hb4⟩
    have hB4 := hB3.trans (hb4.mono hB3.size)
    clear hB3 ho2 ho3 hb2 hb3 hb4
    go_wp2_with fail
    refine (HC1.out _).mono ?_
    rintro e w5 ⟨rfl, hb5⟩
    have hB5 := hB4.trans (hb5.mono hB4.size)
    clear hB4 hb5
    go_wp2_with fail
    refine (HC2.out _).mono ?_
    rintro e w6 ⟨rfl, hb6⟩
    have hB6 := hB5.trans (hb6.mono hB5.size)
    clear hB5 hb6 HK1 HK2 HC1 HC2
    have hP : ok = false ∨ ok = true := by cases ok <;> simp
    rcases hP with rfl | rfl
    · clear HF
      go_wp2_with fail
      refine (drawPartner_any A0 c0 l0 _ (by omega) (r0.below hB6 (Nat.le_refl _))).mono ?_
      rintro e w10 ⟨px, pc, rfl, hb10⟩
      have hB10 := hB6.trans (hb10.mono hB6.size)
      clear hB6 hb10
      have HP1 := Lib.hid (fun W => partnerI_any px pc W)
      have HP2 := Lib.hid (fun W => partnerS_any px pc W)
      have HPF := Lib.hid (@partner_ok px pc)
      generalize (partnerV px pc).1 = pn at *
      generalize (partnerV px pc).2 = fine at *
      go_wp2_with fail
      refine (HP1.out _).mono ?_
      rintro e w11 ⟨rfl, hb11⟩
      have hB11 := hB10.trans (hb11.mono hB10.size)
      clear hB10 hb11
      go_wp2_with fail
      refine (HP2.out _).mono ?_
      rintro e w12 ⟨rfl, hb12⟩
      have hB12 := hB11.trans (hb12.mono hB11.size)
      clear hB11 hb12 HP1 HP2
      have hP2 : fine = false ∨ fine = true := by cases fine <;> simp
      rcases hP2 with rfl | rfl
      · clear HPF
        go_wp2_with fail
        refine (drawFirst_any A0 c0 l0 _ (by omega) (r0.below hB12 (Nat.le_refl _))).mono ?_
        rintro e w20 ⟨fk, fc, rfl, hb20⟩
        have hB20 := hB12.trans (hb20.mono hB12.size)
        clear hB12 hb20
        have HP1 := Lib.hid (fun W => firstOnesI_any fk fc W)
        have HP2 := Lib.hid (fun W => firstOnesS_any fk fc W)
        have HFF := Lib.hid (@first_ok fk fc)
        have hfl := firstV_len fk fc
        generalize firstV fk fc = FL at *
        generalize firstOk fk fc = known at *
        go_wp2_with fail
        refine (HP1.out _).mono ?_
        rintro e w21 ⟨A6, c6, rfl, ho6, hb21⟩
        have hB21 := hB20.trans (hb21.mono hB20.size)
        clear hB20 hb21
        go_wp2_with fail
        refine (HP2.out _).mono ?_
        rintro e w22 ⟨A7, c7, rfl, ho7, hb22⟩
        have ho6 := ho6.below hb22 (Nat.le_refl _)
        have hB22 := hB21.trans (hb22.mono hB21.size)
        clear hB21 hb22 HP1 HP2
        go_wp2_with fail
        refine (vPairs_same A6 A7 _ c6 c7 FL _ rfl (by omega) ho6.rd ho7.rd).mono ?_
        rintro e w23 ⟨rfl, hb23⟩
        have ho6 := ho6.below hb23 (Nat.le_refl _)
        have hB23 := hB22.trans (hb23.mono hB22.size)
        clear hB22 hb23 ho7
        have hrd := ho6.rd
        clear ho6
        go_wp2
        go_loopw [27] (fun i wr => ∃ k : Nat, k ≤ FL.length ∧ i = .int .i64 k ∧ RdT pairT wr A6 FL ∧ Below w'.heap.size w' wr) (fun i _ => FL.length - (intOf i).toNat)
        case atStart => exact ⟨0, by omega, rfl, hrd, hB23⟩
        case round =>
          obtain ⟨k, hk, rfl, hr, hB⟩ := hrel
          clear hrd hB23
          by_cases hlt : k < FL.length
          · obtain ⟨b1, o1, p, q, rfl, hx, hl1, hc1, hd1⟩ := pair_at hr hlt
            obtain ⟨f1, f2⟩ := HFF.out _ (List.mem_of_getElem? hx)
            have HK6 := Lib.hid (fun W => carryColumns_any p q W)
            simp only at f1 f2
            rw [f1] at HK6
            generalize colsR p q = M6 at *
            clear f1 hx
            go_wp2_with fail
            go_region_held3 (fun wx => wx.cell? ⟨b1, o1 + k * 2, none⟩ = some (.int .i64 p) ∧ wx.cell? ⟨b1, o1 + k * 2 + 1, none⟩ = some (.int .i64 q)) (((try dsimp only); (repeat' apply And.intro)) <;> (first | assumption | exact hc1 | exact hd1)) (first | (go_at_call 19; refine (HK6.out _).mono ?_; rintro e w24 ⟨A8, c8, rfl, ho8, hb24⟩; have hb25 : Below wr.heap.size wr w24 := (Below.refl _ _).drew.trans hb24; have t0 := (hb25.cell (p := ⟨b1, o1 + k * 2, none⟩) hl1).trans hc1; have t1 := (hb25.cell (p := ⟨b1, o1 + k * 2 + 1, none⟩) hl1).trans hd1))
            all_goals
              go_wp2
              go_roundw
              case rel => exact ⟨k + 1, by omega, by go_num, hr.below hb25 (Nat.le_refl _), hB.trans (hb25.mono hB.size)⟩
              case measure => simp [intOf]; omega
          · go_wp2_with fail
            refine (drawHow_any A0 c0 l0 _ (by omega) (r0.below hB (Nat.le_refl _))).mono ?_
            rintro e w30 ⟨hd, hc, rfl, hb30⟩
            have hB30 := hB.trans (hb30.mono hB.size)
            have HP1 := Lib.hid (fun W => howManyI_any hd hc W)
            have HP2 := Lib.hid (fun W => howManyS_any hd hc W)
            generalize howV hd hc = hv at *
            generalize howOk hd hc = hok at *
            go_wp2_with fail
            refine (HP1.out _).mono ?_
            rintro e w31 ⟨rfl, hb31⟩
            have hB31 := hB30.trans (hb31.mono hB30.size)
            go_wp2_with fail
            refine (HP2.out _).mono ?_
            rintro e w32 ⟨rfl, hb32⟩
            have hB32 := hB31.trans (hb32.mono hB31.size)
            go_wp2
            go_ret
            exact ⟨by simp, hB32⟩
      · obtain ⟨p1, p2⟩ := HPF.out rfl
        have HK5 := Lib.hid (fun W => carryColumns_any px pn W)
        rw [p1] at HK5
        generalize colsR px pn = M at *
        clear HPF p1
        go_wp2_with fail
        refine (HK5.out _).mono ?_
        rintro e w13 ⟨A5, c5, rfl, ho5, hb13⟩
        have hB12 := hB12.trans (hb13.mono hB12.size)
        clear hb13 ho5
        go_wp2_with fail
        refine (drawFirst_any A0 c0 l0 _ (by omega) (r0.below hB12 (Nat.le_refl _))).mono ?_
        rintro e w20 ⟨fk, fc, rfl, hb20⟩
        have hB20 := hB12.trans (hb20.mono hB12.size)
        clear hB12 hb20
        have HP1 := Lib.hid (fun W => firstOnesI_any fk fc W)
        have HP2 := Lib.hid (fun W => firstOnesS_any fk fc W)
        have HFF := Lib.hid (@first_ok fk fc)
        have hfl := firstV_len fk fc
        generalize firstV fk fc = FL at *
        generalize firstOk fk fc = known at *
        go_wp2_with fail
        refine (HP1.out _).mono ?_
        rintro e w21 ⟨A6, c6, rfl, ho6, hb21⟩
        have hB21 := hB20.trans (hb21.mono hB20.size)
        clear hB20 hb21
        go_wp2_with fail
        refine (HP2.out _).mono ?_
        rintro e w22 ⟨A7, c7, rfl, ho7, hb22⟩
        have ho6 := ho6.below hb22 (Nat.le_refl _)
        have hB22 := hB21.trans (hb22.mono hB21.size)
        clear hB21 hb22 HP1 HP2
        go_wp2_with fail
        refine (vPairs_same A6 A7 _ c6 c7 FL _ rfl (by omega) ho6.rd ho7.rd).mono ?_
        rintro e w23 ⟨rfl, hb23⟩
        have ho6 := ho6.below hb23 (Nat.le_refl _)
        have hB23 := hB22.trans (hb23.mono hB22.size)
        clear hB22 hb23 ho7
        have hrd := ho6.rd
        clear ho6
        go_wp2
        go_loopw [27] (fun i wr => ∃ k : Nat, k ≤ FL.length ∧ i = .int .i64 k ∧ RdT pairT wr A6 FL ∧ Below w'.heap.size w' wr) (fun i _ => FL.length - (intOf i).toNat)
        case atStart => exact ⟨0, by omega, rfl, hrd, hB23⟩
        case round =>
          obtain ⟨k, hk, rfl, hr, hB⟩ := hrel
          clear hrd hB23
          by_cases hlt : k < FL.length
          · obtain ⟨b1, o1, p, q, rfl, hx, hl1, hc1, hd1⟩ := pair_at hr hlt
            obtain ⟨f1, f2⟩ := HFF.out _ (List.mem_of_getElem? hx)
            have HK6 := Lib.hid (fun W => carryColumns_any p q W)
            simp only at f1 f2
            rw [f1] at HK6
            generalize colsR p q = M6 at *
            clear f1 hx
            go_wp2_with fail
            go_region_held3 (fun wx => wx.cell? ⟨b1, o1 + k * 2, none⟩ = some (.int .i64 p) ∧ wx.cell? ⟨b1, o1 + k * 2 + 1, none⟩ = some (.int .i64 q)) (((try dsimp only); (repeat' apply And.intro)) <;> (first | assumption | exact hc1 | exact hd1)) (first | (go_at_call 19; refine (HK6.out _).mono ?_; rintro e w24 ⟨A8, c8, rfl, ho8, hb24⟩; have hb25 : Below wr.heap.size wr w24 := (Below.refl _ _).drew.trans hb24; have t0 := (hb25.cell (p := ⟨b1, o1 + k * 2, none⟩) hl1).trans hc1; have t1 := (hb25.cell (p := ⟨b1, o1 + k * 2 + 1, none⟩) hl1).trans hd1))
            all_goals
              go_wp2
              go_roundw
              case rel => exact ⟨k + 1, by omega, by go_num, hr.below hb25 (Nat.le_refl _), hB.trans (hb25.mono hB.size)⟩
              case measure => simp [intOf]; omega
          · go_wp2_with fail
            refine (drawHow_any A0 c0 l0 _ (by omega) (r0.below hB (Nat.le_refl _))).mono ?_
            rintro e w30 ⟨hd, hc, rfl, hb30⟩
            have hB30 := hB.trans (hb30.mono hB.size)
            have HP1 := Lib.hid (fun W => howManyI_any hd hc W)
            have HP2 := Lib.hid (fun W => howManyS_any hd hc W)
            generalize howV hd hc = hv at *
            generalize howOk hd hc = hok at *
            go_wp2_with fail
            refine (HP1.out _).mono ?_
            rintro e w31 ⟨rfl, hb31⟩
            have hB31 := hB30.trans (hb31.mono hB30.size)
            go_wp2_with fail
            refine (HP2.out _).mono ?_
            rintro e w32 ⟨rfl, hb32⟩
            have hB32 := hB31.trans (hb32.mono hB31.size)
            go_wp2
            go_ret
            exact ⟨by simp, hB32⟩
    · obtain ⟨⟨ha, ha'⟩, ⟨hb, hb'⟩, hq, hq1, hq2⟩ := HF.out rfl
      have HD1 := Lib.hid (fun W => vDigitSum_any a W ha (by omega))
      have HD2 := Lib.hid (fun W => vDigitSum_any b W hb (by omega))
      have HD3 := Lib.hid (fun W => vDigitSum_any (a + b) W (by omega) (by omega))
      have z1 := ds_bd 5 a
      have z2 := ds_bd 5 b
      have i4 : IntKind.i64.wrap (a + b) = a + b := IntWalk.i64_in _ (by omega)
      generalize dsF 5 a = x at *
      generalize dsF 5 b = y at *
      generalize dsF 5 (a + b) = z at *
      have i1 : IntKind.i64.wrap (x + y) = x + y := IntWalk.i64_in _ (by omega)
      have i2 : IntKind.i64.wrap (9 * (L.length : Int)) = 9 * (L.length : Int) := IntWalk.i64_in _ (by omega)
      have i3 : IntKind.i64.wrap (x + y - 9 * (L.length : Int)) = x + y - 9 * (L.length : Int) := IntWalk.i64_in _ (by omega)
      have i5 : IntKind.i64.wrap z = z := by rw [← hq]; exact i3
      have q2 : decide ((L.length : Int) < ch) = false := decide_eq_false (by omega)
      clear HF
      have hzz : ∃ bz : Bool, decide (0 < L.length) = bz ∧ decide (0 < ch) = bz := ⟨_, rfl, by rw [decide_eq_decide]; exact hq2⟩
      obtain ⟨bz, q3, q4⟩ := hzz
      clear hq2
      go_wp2_with fail
      refine (HD1.out _).mono ?_
      rintro e w7 ⟨rfl, rfl⟩
      go_wp2_with fail
      refine (HD2.out _).mono ?_
      rintro e w8 ⟨rfl, rfl⟩
      go_wp2_with fail
      refine (HD3.out _).mono ?_
      rintro e w9 ⟨rfl, rfl⟩
      go_wp2_with fail
      refine (drawPartner_any A0 c0 l0 _ (by omega) (r0.below hB6 (Nat.le_refl _))).mono ?_
      rintro e w10 ⟨px, pc, rfl, hb10⟩
      have hB10 := hB6.trans (hb10.mono hB6.size)
      clear hB6 hb10
      have HP1 := Lib.hid (fun W => partnerI_any px pc W)
      have HP2 := Lib.hid (fun W => partnerS_any px pc W)
      have HPF := Lib.hid (@partner_ok px pc)
      generalize (partnerV px pc).1 = pn at *
      generalize (partnerV px pc).2 = fine at *
      go_wp2_with fail
      refine (HP1.out _).mono ?_
      rintro e w11 ⟨rfl, hb11⟩
      have hB11 := hB10.trans (hb11.mono hB10.size)
      clear hB10 hb11
      go_wp2_with fail
      refine (HP2.out _).mono ?_
      rintro e w12 ⟨rfl, hb12⟩
      have hB12 := hB11.trans (hb12.mono hB11.size)
      clear hB11 hb12 HP1 HP2
      have hP2 : fine = false ∨ fine = true := by cases fine <;> simp
      rcases hP2 with rfl | rfl
      · clear HPF
        go_wp2_with fail
        refine (drawFirst_any A0 c0 l0 _ (by omega) (r0.below hB12 (Nat.le_refl _))).mono ?_
        rintro e w20 ⟨fk, fc, rfl, hb20⟩
        have hB20 := hB12.trans (hb20.mono hB12.size)
        clear hB12 hb20
        have HP1 := Lib.hid (fun W => firstOnesI_any fk fc W)
        have HP2 := Lib.hid (fun W => firstOnesS_any fk fc W)
        have HFF := Lib.hid (@first_ok fk fc)
        have hfl := firstV_len fk fc
        generalize firstV fk fc = FL at *
        generalize firstOk fk fc = known at *
        go_wp2_with fail
        refine (HP1.out _).mono ?_
        rintro e w21 ⟨A6, c6, rfl, ho6, hb21⟩
        have hB21 := hB20.trans (hb21.mono hB20.size)
        clear hB20 hb21
        go_wp2_with fail
        refine (HP2.out _).mono ?_
        rintro e w22 ⟨A7, c7, rfl, ho7, hb22⟩
        have ho6 := ho6.below hb22 (Nat.le_refl _)
        have hB22 := hB21.trans (hb22.mono hB21.size)
        clear hB21 hb22 HP1 HP2
        go_wp2_with fail
        refine (vPairs_same A6 A7 _ c6 c7 FL _ rfl (by omega) ho6.rd ho7.rd).mono ?_
        rintro e w23 ⟨rfl, hb23⟩
        have ho6 := ho6.below hb23 (Nat.le_refl _)
        have hB23 := hB22.trans (hb23.mono hB22.size)
        clear hB22 hb23 ho7
        have hrd := ho6.rd
        clear ho6
        go_wp2
        go_loopw [27] (fun i wr => ∃ k : Nat, k ≤ FL.length ∧ i = .int .i64 k ∧ RdT pairT wr A6 FL ∧ Below w'.heap.size w' wr) (fun i _ => FL.length - (intOf i).toNat)
        case atStart => exact ⟨0, by omega, rfl, hrd, hB23⟩
        case round =>
          obtain ⟨k, hk, rfl, hr, hB⟩ := hrel
          clear hrd hB23
          by_cases hlt : k < FL.length
          · obtain ⟨b1, o1, p, q, rfl, hx, hl1, hc1, hd1⟩ := pair_at hr hlt
            obtain ⟨f1, f2⟩ := HFF.out _ (List.mem_of_getElem? hx)
            have HK6 := Lib.hid (fun W => carryColumns_any p q W)
            simp only at f1 f2
            rw [f1] at HK6
            generalize colsR p q = M6 at *
            clear f1 hx
            go_wp2_with fail
            go_region_held3 (fun wx => wx.cell? ⟨b1, o1 + k * 2, none⟩ = some (.int .i64 p) ∧ wx.cell? ⟨b1, o1 + k * 2 + 1, none⟩ = some (.int .i64 q)) (((try dsimp only); (repeat' apply And.intro)) <;> (first | assumption | exact hc1 | exact hd1)) (first | (go_at_call 19; refine (HK6.out _).mono ?_; rintro e w24 ⟨A8, c8, rfl, ho8, hb24⟩; have hb25 : Below wr.heap.size wr w24 := (Below.refl _ _).drew.trans hb24; have t0 := (hb25.cell (p := ⟨b1, o1 + k * 2, none⟩) hl1).trans hc1; have t1 := (hb25.cell (p := ⟨b1, o1 + k * 2 + 1, none⟩) hl1).trans hd1))
            all_goals
              go_wp2
              go_roundw
              case rel => exact ⟨k + 1, by omega, by go_num, hr.below hb25 (Nat.le_refl _), hB.trans (hb25.mono hB.size)⟩
              case measure => simp [intOf]; omega
          · go_wp2_with fail
            refine (drawHow_any A0 c0 l0 _ (by omega) (r0.below hB (Nat.le_refl _))).mono ?_
            rintro e w30 ⟨hd, hc, rfl, hb30⟩
            have hB30 := hB.trans (hb30.mono hB.size)
            have HP1 := Lib.hid (fun W => howManyI_any hd hc W)
            have HP2 := Lib.hid (fun W => howManyS_any hd hc W)
            generalize howV hd hc = hv at *
            generalize howOk hd hc = hok at *
            go_wp2_with fail
            refine (HP1.out _).mono ?_
            rintro e w31 ⟨rfl, hb31⟩
            have hB31 := hB30.trans (hb31.mono hB30.size)
            go_wp2_with fail
            refine (HP2.out _).mono ?_
            rintro e w32 ⟨rfl, hb32⟩
            have hB32 := hB31.trans (hb32.mono hB31.size)
            go_wp2
            go_ret
            exact ⟨by simp, hB32⟩
      · obtain ⟨p1, p2⟩ := HPF.out rfl
        have HK5 := Lib.hid (fun W => carryColumns_any px pn W)
        rw [p1] at HK5
        generalize colsR px pn = M at *
        clear HPF p1
        go_wp2_with fail
        refine (HK5.out _).mono ?_
        rintro e w13 ⟨A5, c5, rfl, ho5, hb13⟩
        have hB12 := hB12.trans (hb13.mono hB12.size)
        clear hb13 ho5
        go_wp2_with fail
        refine (drawFirst_any A0 c0 l0 _ (by omega) (r0.below hB12 (Nat.le_refl _))).mono ?_
        rintro e w20 ⟨fk, fc, rfl, hb20⟩
        have hB20 := hB12.trans (hb20.mono hB12.size)
        clear hB12 hb20
        have HP1 := Lib.hid (fun W => firstOnesI_any fk fc W)
        have HP2 := Lib.hid (fun W => firstOnesS_any fk fc W)
        have HFF := Lib.hid (@first_ok fk fc)
        have hfl := firstV_len fk fc
        generalize firstV fk fc = FL at *
        generalize firstOk fk fc = known at *
        go_wp2_with fail
        refine (HP1.out _).mono ?_
        rintro e w21 ⟨A6, c6, rfl, ho6, hb21⟩
        have hB21 := hB20.trans (hb21.mono hB20.size)
        clear hB20 hb21
        go_wp2_with fail
        refine (HP2.out _).mono ?_
        rintro e w22 ⟨A7, c7, rfl, ho7, hb22⟩
        have ho6 := ho6.below hb22 (Nat.le_refl _)
        have hB22 := hB21.trans (hb22.mono hB21.size)
        clear hB21 hb22 HP1 HP2
        go_wp2_with fail
        refine (vPairs_same A6 A7 _ c6 c7 FL _ rfl (by omega) ho6.rd ho7.rd).mono ?_
        rintro e w23 ⟨rfl, hb23⟩
        have ho6 := ho6.below hb23 (Nat.le_refl _)
        have hB23 := hB22.trans (hb23.mono hB22.size)
        clear hB22 hb23 ho7
        have hrd := ho6.rd
        clear ho6
        go_wp2
        go_loopw [27] (fun i wr => ∃ k : Nat, k ≤ FL.length ∧ i = .int .i64 k ∧ RdT pairT wr A6 FL ∧ Below w'.heap.size w' wr) (fun i _ => FL.length - (intOf i).toNat)
        case atStart => exact ⟨0, by omega, rfl, hrd, hB23⟩
        case round =>
          obtain ⟨k, hk, rfl, hr, hB⟩ := hrel
          clear hrd hB23
          by_cases hlt : k < FL.length
          · obtain ⟨b1, o1, p, q, rfl, hx, hl1, hc1, hd1⟩ := pair_at hr hlt
            obtain ⟨f1, f2⟩ := HFF.out _ (List.mem_of_getElem? hx)
            have HK6 := Lib.hid (fun W => carryColumns_any p q W)
            simp only at f1 f2
            rw [f1] at HK6
            generalize colsR p q = M6 at *
            clear f1 hx
            go_wp2_with fail
            go_region_held3 (fun wx => wx.cell? ⟨b1, o1 + k * 2, none⟩ = some (.int .i64 p) ∧ wx.cell? ⟨b1, o1 + k * 2 + 1, none⟩ = some (.int .i64 q)) (((try dsimp only); (repeat' apply And.intro)) <;> (first | assumption | exact hc1 | exact hd1)) (first | (go_at_call 19; refine (HK6.out _).mono ?_; rintro e w24 ⟨A8, c8, rfl, ho8, hb24⟩; have hb25 : Below wr.heap.size wr w24 := (Below.refl _ _).drew.trans hb24; have t0 := (hb25.cell (p := ⟨b1, o1 + k * 2, none⟩) hl1).trans hc1; have t1 := (hb25.cell (p := ⟨b1, o1 + k * 2 + 1, none⟩) hl1).trans hd1))
            all_goals
              go_wp2
              go_roundw
              case rel => exact ⟨k + 1, by omega, by go_num, hr.below hb25 (Nat.le_refl _), hB.trans (hb25.mono hB.size)⟩
              case measure => simp [intOf]; omega
          · go_wp2_with fail
            refine (drawHow_any A0 c0 l0 _ (by omega) (r0.below hB (Nat.le_refl _))).mono ?_
            rintro e w30 ⟨hd, hc, rfl, hb30⟩
            have hB30 := hB.trans (hb30.mono hB.size)
            have HP1 := Lib.hid (fun W => howManyI_any hd hc W)
            have HP2 := Lib.hid (fun W => howManyS_any hd hc W)
            generalize howV hd hc = hv at *
            generalize howOk hd hc = hok at *
            go_wp2_with fail
            refine (HP1.out _).mono ?_
            rintro e w31 ⟨rfl, hb31⟩
            have hB31 := hB30.trans (hb31.mono hB30.size)
            go_wp2_with fail
            refine (HP2.out _).mono ?_
            rintro e w32 ⟨rfl, hb32⟩
            have hB32 := hB31.trans (hb32.mono hB31.size)
            go_wp2
            go_ret
            exact ⟨by simp, hB32⟩

set_option maxRecDepth 100000 in
theorem fnExercises_lifted (os : Os) (started : os.Started) (H : Type) (enc : TypeId × Value → H) :
    ReturnsInHanded {} Try.checked os 12 .any (Rows.fnExercisesSpec.pre6 enc Try.prog Try.f12 Rows.fnExercisesRow.domain false) (Rows.fnExercisesSpec.post enc Try.prog Try.f12 false true false false) := by
  refine returnsInHanded_of_change (C := Try.checked) ownk started (by kernel_rfl) Try.func12
    (ChangeSpec.witness6 (enc := enc) (C := Try.checked) false ⟨#[], #[.slice none 0 0], []⟩ 8 (by kernel_rfl) (by kernel_rfl) (by kernel_rfl) (by kernel_rfl)) ?_
  intro W base args ds gs before hval0 hW _ _
  have hval : ∀ (j : Nat) t v, Try.f12.params[j]? = some t → args[j]? = some v → Value.okWide Try.prog W .any base t v := hval0
  have hW' := hW
  obtain ⟨p, q, hA0, hV, rfl, _, _⟩ := hW
  have hA : DataW.TrodAll enc Try.prog W 0 (fun _ => true) true Try.f12.params.toList args.toList ds p := hA0
  rw [Try.params12] at hA hval
  obtain ⟨rfl, rfl⟩ := trodVars_none hV
  simp only [List.append_nil] at hW'
  clear hA0 hval0
  have hargs : ∀ W' : World, Below W.heap.size W W' → DataW.TrodAll enc Try.prog W' 0 (fun b => decide (b < W.heap.size)) true [40] args.toList ds p := fun W' hb => trodAll_below laid_out hb _ _ _ _ (by kernel_rfl) hA (fun x hx => hW'.lt x hx)
  obtain ⟨v0, vs0, d0, ds0, p0, q0, hx, rfl, rfl, h0, r0'⟩ := trodAll_cons hA
  obtain ⟨rfl, rfl, rfl⟩ := trodAll_nil r0'
  obtain rfl : args = #[v0] := by cases args; simp_all
  obtain ⟨A0, c0, l0, rfl, m0, r0⟩ := open_rows byteT (by kernel_rfl) (dec_byte W enc) (hval 0 40 v0 rfl rfl) h0
  refine (fnExercises_walk W A0 c0 l0 m0 r0).mono fun e W' ⟨he, hb⟩ => ?_
  subst he
  exact ⟨_, rfl, _, _, _, [], _, [], hW', trodAll_mk1 (shut_bool Try.underlying4 _), hargs W' hb, rfl, hb.frame _, fun h => by cases h⟩
theorem fnExercises_proved : Rows.FnExercisesSaid :=
  OpenClaim.holds_of_wide 12 Try.f12 rfl rfl rfl rfl rfl rfl rfl ⟨rfl, rfl, rfl, rfl, rfl⟩ rfl rfl rfl rfl rfl (by kernel_rfl) Try.func12 (by kernel_rfl)
    (of_decide_eq_true (by kernel_rfl)) (by unfold Func.isWrapper; first | (rw [if_pos (by decide +kernel)]; kernel_rfl) | (rw [if_neg (by decide +kernel)]; exact ⟨rfl, rfl⟩))
    (fun os started H enc _ => fnExercises_lifted os started H enc)
#print axioms fnExercises_proved
end Go.Proofs.Ytlmcnlakgjhalaa
