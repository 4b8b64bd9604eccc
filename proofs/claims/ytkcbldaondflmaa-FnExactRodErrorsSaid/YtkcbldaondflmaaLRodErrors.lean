/-
  The law FnExactRodErrors: for all recordings and every number of rods the program returns what the reference returns. No condition.
-/
import Derived.Test.YtkcbldaondflmaaRecO
import Derived.Test.YtkcbldaondflmaaFrameMove
namespace Go.Proofs.Ytkcbldaondflmaa
open Go.ChangeShapes Go.WideShapes Go.ChangeAt Go.RowKit

set_option maxRecDepth 100000 in
set_option maxHeartbeats 4000000 in
theorem fnExactRodErrors_walk (w : World) (A0 : Option Addr) (c0 : Nat) (l0 : List (MoveV)) (hm0 : l0.length ≤ maxLen) (h0 : RdT moveL w A0 l0) (A1 : Option Addr) (c1 : Nat) (l1 : List (MoveV)) (hm1 : l1.length ≤ maxLen) (h1 : RdT moveL w A1 l1) (a2 : Int) (_w2 : (Lit.int .i64 a2).wf = true) :
    Calls Try.prog 8 #[.slice A0 l0.length c0, .slice A1 l1.length c1, .int .i64 a2] w fun e w' => e = .returned (.bool true) ∧ Below w.heap.size w w' := by
  unfold maxLen at hm0
  unfold maxLen at hm1
  by_cases hbig0 : (1048576 : Int) < (l0.length : Int)
  · go_enter Try.func8, Try.ntmps8
    go_wp2_with fail
    refine (szBeadMoveS_any A0 _ c0 _ _ (by omega) (by omega) (by omega)).mono ?_
    rintro e w' ⟨rfl, rfl⟩
    rw [if_pos (by omega)]
    go_wp2_with fail
    go_ret
    exact ⟨rfl, Below.refl _ _⟩
  by_cases hbig1 : ((1048576 : Int) - l0.length) < (l1.length : Int)
  · go_enter Try.func8, Try.ntmps8
    go_wp2_with fail
    refine (szBeadMoveS_any A0 _ c0 _ _ (by omega) (by omega) (by omega)).mono ?_
    rintro e w' ⟨rfl, rfl⟩
    rw [if_neg (by omega)]
    go_wp2_with fail
    refine (szBeadMoveS_any A1 _ c1 _ _ (by omega) (by omega) (by omega)).mono ?_
    rintro e w' ⟨rfl, rfl⟩
    rw [if_pos (by omega)]
    go_wp2_with fail
    go_ret
    exact ⟨rfl, Below.refl _ _⟩
  have hS := fun (A0' : Option Addr) (c0' : Nat) (A1' : Option Addr) (c1' : Nat) (W : World) (g0 : RdT moveT W A0' l0) (g1 : RdT moveT W A1' l1) => rodErrorsS_any A0' c0' l0 A1' c1' l1 a2 W (by omega) g0 (by omega) g1
  have hI := fun (A0' : Option Addr) (c0' : Nat) (A1' : Option Addr) (c1' : Nat) (W : World) (g0 : RdT moveT W A0' l0) (g1 : RdT moveT W A1' l1) => rodErrorsI_any A0' c0' l0 A1' c1' l1 a2 W (by omega) g0 (by omega) g1
  have hlen := reV_len l0 l1 a2
  generalize reV l0 l1 a2 = res at *
  generalize reOk l0 l1 a2 = ok at *
  have HS := Lib.hid hS
  have HI := Lib.hid hI
  clear hS hI
  go_enter Try.func8, Try.ntmps8
  have hB0 : Below w.heap.size w w := Below.refl _ _
  go_wp2_with fail
  refine (szBeadMoveS_any A0 _ c0 _ _ (by omega) (by omega) (by omega)).mono ?_
  rintro e w' ⟨rfl, rfl⟩
  rw [if_neg (by omega)]
  go_wp2_with fail
  refine (szBeadMoveS_any A1 _ c1 _ _ (by omega) (by omega) (by omega)).mono ?_
  rintro e w' ⟨rfl, rfl⟩
  rw [if_neg (by omega)]
  go_wp2_with fail
  refine (toBeadMoveS_any A0 c0 l0 _ (by omega) (h0.below hB0 (Nat.le_refl _))).mono ?_
  rintro e w1 ⟨As0, cs0, rfl, os01, hb1⟩
  have lts0 := Lib.hid os01.lt
  have hB1 := hB0.trans (hb1.mono hB0.size)
  have hz1 := hb1.size
  go_wp2_with fail
  refine (toBeadMoveS_any A1 c1 l1 _ (by omega) (h1.below hB1 (Nat.le_refl _))).mono ?_
  rintro e w2 ⟨As1, cs1, rfl, os12, hb2⟩
  have lts1 := Lib.hid os12.lt
  have hB2 := hB1.trans (hb2.mono hB1.size)
  have hz2 := hb2.size
  have os02 := os01.below hb2 (Nat.le_refl _)
  clear os01
  go_wp2_with fail
  refine (HS.out As0 cs0 As1 cs1 _ os02.rd os12.rd).mono ?_
  rintro e w3 ⟨AW, cW, rfl, oW3, hb3⟩
  have ltW := Lib.hid oW3.lt
  have hB3 := hB2.trans (hb3.mono hB2.size)
  have hz3 := hb3.size
  have os03 := os02.below hb3 (Nat.le_refl _)
  clear os02
  have os13 := os12.below hb3 (Nat.le_refl _)
  clear os12
  clear os03 lts0
  clear os13 lts1
  go_wp2_with fail
  refine (toBeadMoveS_any A0 c0 l0 _ (by omega) (h0.below hB3 (Nat.le_refl _))).mono ?_
  rintro e w4 ⟨Ax0, cx0, rfl, ox04, hb4⟩
  have ltx0 := Lib.hid ox04.lt
  have hB4 := hB3.trans (hb4.mono hB3.size)
  have hz4 := hb4.size
  have oW4 := oW3.below hb4 (Nat.le_refl _)
  clear oW3
  go_wp2_with fail
  refine (toBeadMoveS_any A1 c1 l1 _ (by omega) (h1.below hB4 (Nat.le_refl _))).mono ?_
  rintro e w5 ⟨Ax1, cx1, rfl, ox15, hb5⟩
  have ltx1 := Lib.hid ox15.lt
  have hB5 := hB4.trans (hb5.mono hB4.size)
  have hz5 := hb5.size
  have oW5 := oW4.below hb5 (Nat.le_refl _)
  clear oW4
  have ox05 := ox04.below hb5 (Nat.le_refl _)
  clear ox04
  go_wp2_with fail
  refine (HI.out Ax0 cx0 Ax1 cx1 _ ox05.rd ox15.rd).mono ?_
  rintro e w6 ⟨AG, cG, rfl, oG6, hb6⟩
  have ltG := Lib.hid oG6.lt
  have hB6 := hB5.trans (hb6.mono hB5.size)
  have hz6 := hb6.size
  have oW6 := oW5.below hb6 (Nat.le_refl _)
  clear oW5
  have ox06 := ox05.below hb6 (Nat.le_refl _)
  clear ox05
  have ox16 := ox15.below hb6 (Nat.le_refl _)
  clear ox15
  go_wp2_with fail
  refine (eqIntS_same AG AW _ cG cW res _ rfl (by omega) oG6.rd oW6.rd).mono ?_
  rintro e w7 ⟨rfl, hb7⟩
  have hB7 := hB6.trans (hb7.mono hB6.size)
  have hz7 := hb7.size
  have oW7 := oW6.below hb7 (Nat.le_refl _)
  clear oW6
  have ox07 := ox06.below hb7 (Nat.le_refl _)
  clear ox06
  have ox17 := ox16.below hb7 (Nat.le_refl _)
  clear ox16
  have oG7 := oG6.below hb7 (Nat.le_refl _)
  clear oG6
  go_wp2_with fail
  refine (toBeadMoveS_any A0 c0 l0 _ (by omega) (h0.below hB7 (Nat.le_refl _))).mono ?_
  rintro e w8 ⟨Ay0, cy0, rfl, oy08, hb8⟩
  have lty0 := Lib.hid oy08.lt
  have hB8 := hB7.trans (hb8.mono hB7.size)
  have hz8 := hb8.size
  have oW8 := oW7.below hb8 (Nat.le_refl _)
  clear oW7
  have ox08 := ox07.below hb8 (Nat.le_refl _)
  clear ox07
  have ox18 := ox17.below hb8 (Nat.le_refl _)
  clear ox17
  have oG8 := oG7.below hb8 (Nat.le_refl _)
  clear oG7
  go_wp2_with fail
  refine (eqBeadMoveS_same Ax0 Ay0 _ cx0 cy0 l0 _ rfl (by omega) ox08.rd oy08.rd).mono ?_
  rintro e w9 ⟨rfl, hb9⟩
  have hB9 := hB8.trans (hb9.mono hB8.size)
  have hz9 := hb9.size
  have oW9 := oW8.below hb9 (Nat.le_refl _)
  clear oW8
  have ox09 := ox08.below hb9 (Nat.le_refl _)
  clear ox08
  have ox19 := ox18.below hb9 (Nat.le_refl _)
  clear ox18
  have oG9 := oG8.below hb9 (Nat.le_refl _)
  clear oG8
  have oy09 := oy08.below hb9 (Nat.le_refl _)
  clear oy08
  clear oy09 lty0
  go_wp2_with fail
  refine (toBeadMoveS_any A1 c1 l1 _ (by omega) (h1.below hB9 (Nat.le_refl _))).mono ?_
  rintro e w10 ⟨Ay1, cy1, rfl, oy110, hb10⟩
  have lty1 := Lib.hid oy110.lt
  have hB10 := hB9.trans (hb10.mono hB9.size)
  have hz10 := hb10.size
  have oW10 := oW9.below hb10 (Nat.le_refl _)
  clear oW9
  have ox010 := ox09.below hb10 (Nat.le_refl _)
  clear ox09
  have ox110 := ox19.below hb10 (Nat.le_refl _)
  clear ox19
  have oG10 := oG9.below hb10 (Nat.le_refl _)
  clear oG9
  go_wp2_with fail
  refine (eqBeadMoveS_same Ax1 Ay1 _ cx1 cy1 l1 _ rfl (by omega) ox110.rd oy110.rd).mono ?_
  rintro e w11 ⟨rfl, hb11⟩
  have hB11 := hB10.trans (hb11.mono hB10.size)
  have hz11 := hb11.size
  have oW11 := oW10.below hb11 (Nat.le_refl _)
  clear oW10
  have ox011 := ox010.below hb11 (Nat.le_refl _)
  clear ox010
  have ox111 := ox110.below hb11 (Nat.le_refl _)
  clear ox110
  have oG11 := oG10.below hb11 (Nat.le_refl _)
  clear oG10
  have oy111 := oy110.below hb11 (Nat.le_refl _)
  clear oy110
  clear oy111 lty1
  go_wp2_with fail
  refine (markBeadMoveS_ok _ Ax0 cx0 l0 _ _ (by omega) (by omega) (by omega) ox011).mono ?_
  rintro e w12 ⟨rfl, ox012, gr12⟩
  have hB12 := below_gr hB11 gr12 (by omega) (fun k hk => by have := ltx0.out k hk; omega)
  have hz12 := gr12.size
  clear ox011
  have oW12 := oW11.kept gr12 (apart_of (B := w3.heap.size) (fun k hk => by have := ltW.out k hk; omega) (fun k hk => by have := ltx0.out k hk; omega))
  clear oW11
  have ox112 := ox111.kept gr12 (apart_of' (B := w4.heap.size) (fun k hk => by have := ltx1.out k hk; omega) (fun k hk => by have := ltx0.out k hk; omega))
  clear ox111
  have oG12 := oG11.kept gr12 (apart_of' (B := w5.heap.size) (fun k hk => by have := ltG.out k hk; omega) (fun k hk => by have := ltx0.out k hk; omega))
  clear oG11
  go_wp2_with fail
  refine (markBeadMoveS_ok _ Ax1 cx1 l1 _ _ (by omega) (by omega) (by omega) ox112).mono ?_
  rintro e w13 ⟨rfl, ox113, gr13⟩
  have hB13 := below_gr hB12 gr13 (by omega) (fun k hk => by have := ltx1.out k hk; omega)
  have hz13 := gr13.size
  clear ox112
  have oW13 := oW12.kept gr13 (apart_of (B := w4.heap.size) (fun k hk => by have := ltW.out k hk; omega) (fun k hk => by have := ltx1.out k hk; omega))
  clear oW12
  have ox013 := ox012.kept gr13 (apart_of (B := w4.heap.size) (fun k hk => by have := ltx0.out k hk; omega) (fun k hk => by have := ltx1.out k hk; omega))
  clear ox012
  have oG13 := oG12.kept gr13 (apart_of' (B := w5.heap.size) (fun k hk => by have := ltG.out k hk; omega) (fun k hk => by have := ltx1.out k hk; omega))
  clear oG12
  clear ox013 ltx0
  clear ox113 ltx1
  go_wp2_with fail
  refine (eqIntS_same AG AW _ cG cW res _ rfl (by omega) oG13.rd oW13.rd).mono ?_
  rintro e w14 ⟨rfl, hb14⟩
  have hB14 := hB13.trans (hb14.mono hB13.size)
  have hz14 := hb14.size
  have oW14 := oW13.below hb14 (Nat.le_refl _)
  clear oW13
  have oG14 := oG13.below hb14 (Nat.le_refl _)
  clear oG13
  go_wp2_with fail
  refine (markIntS_ok _ AG cG res _ _ (by omega) (by omega) (by omega) oG14).mono ?_
  rintro e w15 ⟨rfl, oG15, gr15⟩
  have hB15 := below_gr hB14 gr15 (by omega) (fun k hk => by have := ltG.out k hk; omega)
  have hz15 := gr15.size
  clear oG14
  have oW15 := oW14.kept gr15 (apart_of (B := w5.heap.size) (fun k hk => by have := ltW.out k hk; omega) (fun k hk => by have := ltG.out k hk; omega))
  clear oW14
  go_wp2_with fail
  refine (heldIntS_ok AG res.length cG 1 _ (by omega) (by omega) (by omega) (by have := oG15.rd; exact this)).mono ?_
  rintro e w16' ⟨rfl, rfl⟩
  go_wp2_with fail
  refine (toBeadMoveS_any A0 c0 l0 _ (by omega) (h0.below hB15 (Nat.le_refl _))).mono ?_
  rintro e w16 ⟨Az0, cz0, rfl, oz016, hb16⟩
  have ltz0 := Lib.hid oz016.lt
  have hB16 := hB15.trans (hb16.mono hB15.size)
  have hz16 := hb16.size
  have oW16 := oW15.below hb16 (Nat.le_refl _)
  clear oW15
  have oG16 := oG15.below hb16 (Nat.le_refl _)
  clear oG15
  go_wp2_with fail
  refine (toBeadMoveS_any A1 c1 l1 _ (by omega) (h1.below hB16 (Nat.le_refl _))).mono ?_
  rintro e w17 ⟨Az1, cz1, rfl, oz117, hb17⟩
  have ltz1 := Lib.hid oz117.lt
  have hB17 := hB16.trans (hb17.mono hB16.size)
  have hz17 := hb17.size
  have oW17 := oW16.below hb17 (Nat.le_refl _)
  clear oW16
  have oG17 := oG16.below hb17 (Nat.le_refl _)
  clear oG16
  have oz017 := oz016.below hb17 (Nat.le_refl _)
  clear oz016
  go_wp2_with fail
  refine (HI.out Az0 cz0 Az1 cz1 _ oz017.rd oz117.rd).mono ?_
  rintro e w18 ⟨AH, cH, rfl, oH18, hb18⟩
  have ltH := Lib.hid oH18.lt
  have hB18 := hB17.trans (hb18.mono hB17.size)
  have hz18 := hb18.size
  have oW18 := oW17.below hb18 (Nat.le_refl _)
  clear oW17
  have oG18 := oG17.below hb18 (Nat.le_refl _)
  clear oG17
  have oz018 := oz017.below hb18 (Nat.le_refl _)
  clear oz017
  have oz118 := oz117.below hb18 (Nat.le_refl _)
  clear oz117
  go_wp2_with fail
  refine (eqIntS_same AH AW _ cH cW res _ rfl (by omega) oH18.rd oW18.rd).mono ?_
  rintro e w19 ⟨rfl, hb19⟩
  have hB19 := hB18.trans (hb19.mono hB18.size)
  have hz19 := hb19.size
  have oW19 := oW18.below hb19 (Nat.le_refl _)
  clear oW18
  have oG19 := oG18.below hb19 (Nat.le_refl _)
  clear oG18
  have oz019 := oz018.below hb19 (Nat.le_refl _)
  clear oz018
  have oz119 := oz118.below hb19 (Nat.le_refl _)
  clear oz118
  have oH19 := oH18.below hb19 (Nat.le_refl _)
  clear oH18
  go_wp2_with fail
  refine (heldIntS_ok AG res.length cG 1 _ (by omega) (by omega) (by omega) (by have := oG19.rd; exact this)).mono ?_
  rintro e w20' ⟨rfl, rfl⟩
  go_wp2_with fail
  go_ret
  exact ⟨rfl, hB19⟩

set_option maxRecDepth 100000 in
theorem fnExactRodErrors_lifted (os : Os) (started : os.Started) (H : Type) (enc : TypeId × Value → H) :
    ReturnsInHanded {} Try.checked os 8 .any (Rows.fnExactRodErrorsSpec.pre6 enc Try.prog Try.f8 Rows.fnExactRodErrorsRow.domain false) (Rows.fnExactRodErrorsSpec.post enc Try.prog Try.f8 false true false false) := by
  refine returnsInHanded_of_change (C := Try.checked) ownk started (by kernel_rfl) Try.func8
    (ChangeSpec.witness6 (enc := enc) (C := Try.checked) false ⟨#[], #[.slice none 0 0, .slice none 0 0, .int .i64 0], []⟩ 8 (by kernel_rfl) (by kernel_rfl) (by kernel_rfl) (by kernel_rfl)) ?_
  intro W base args ds gs before hval0 hW _ _
  have hval : ∀ (j : Nat) t v, Try.f8.params[j]? = some t → args[j]? = some v → Value.okWide Try.prog W .any base t v := hval0
  have hW' := hW
  obtain ⟨p, q, hA0, hV, rfl, _, _⟩ := hW
  have hA : DataW.TrodAll enc Try.prog W 0 (fun _ => true) true Try.f8.params.toList args.toList ds p := hA0
  rw [Try.params8] at hA hval
  obtain ⟨rfl, rfl⟩ := trodVars_none hV
  simp only [List.append_nil] at hW'
  clear hA0 hval0
  have hargs : ∀ W' : World, Below W.heap.size W W' → DataW.TrodAll enc Try.prog W' 0 (fun b => decide (b < W.heap.size)) true [22, 22, 3] args.toList ds p := fun W' hb => trodAll_below laid_out hb _ _ _ _ (by kernel_rfl) hA (fun x hx => hW'.lt x hx)
  obtain ⟨v0, vs0, d0, ds0, p0, q0, hx, rfl, rfl, h0, r0'⟩ := trodAll_cons hA
  obtain ⟨v1, vs1, d1, ds1, p1, q1, rfl, rfl, rfl, h1, r1'⟩ := trodAll_cons r0'
  obtain ⟨v2, vs2, d2, ds2, p2, q2, rfl, rfl, rfl, h2, r2'⟩ := trodAll_cons r1'
  obtain ⟨rfl, rfl, rfl⟩ := trodAll_nil r2'
  obtain rfl : args = #[v0, v1, v2] := by cases args; simp_all
  obtain ⟨A0, c0, l0, rfl, m0, r0⟩ := open_rows moveL (by kernel_rfl) (dec_move W enc) (hval 0 22 v0 rfl rfl) h0
  obtain ⟨A1, c1, l1, rfl, m1, r1⟩ := open_rows moveL (by kernel_rfl) (dec_move W enc) (hval 1 22 v1 rfl rfl) h1
  obtain ⟨a2, rfl, rfl, rfl, w2⟩ := open_int Try.underlying3 (hval 2 3 v2 rfl rfl) h2
  refine (fnExactRodErrors_walk W A0 c0 l0 m0 r0 A1 c1 l1 m1 r1 a2 w2).mono fun e W' ⟨he, hb⟩ => ?_
  subst he
  exact ⟨_, rfl, _, _, _, [], _, [], hW', trodAll_mk1 (shut_bool Try.underlying4 _), hargs W' hb, rfl, hb.frame _, fun h => by cases h⟩
theorem fnExactRodErrors_proved : Rows.FnExactRodErrorsSaid :=
  OpenClaim.holds_of_wide 8 Try.f8 rfl rfl rfl rfl rfl rfl rfl ⟨rfl, rfl, rfl, rfl, rfl⟩ rfl rfl rfl rfl rfl (by kernel_rfl) Try.func8 (by kernel_rfl)
    (of_decide_eq_true (by kernel_rfl)) (by unfold Func.isWrapper; first | (rw [if_pos (by decide +kernel)]; kernel_rfl) | (rw [if_neg (by decide +kernel)]; exact ⟨rfl, rfl⟩))
    (fun os started H enc _ => fnExactRodErrors_lifted os started H enc)
#print axioms fnExactRodErrors_proved
end Go.Proofs.Ytkcbldaondflmaa
