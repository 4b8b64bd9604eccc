/-
  The law FnExactMoveDistance: for every two lists of moves the program returns what the reference returns. No condition.
-/
import Derived.Test.YtkcbldaondflmaaRecK
import Derived.Test.YtkcbldaondflmaaFrameMove
namespace Go.Proofs.Ytkcbldaondflmaa
open Go.ChangeShapes Go.WideShapes Go.ChangeAt Go.RowKit

set_option maxRecDepth 100000 in
set_option maxHeartbeats 4000000 in
theorem fnExactMoveDistance_walk (w : World) (A0 : Option Addr) (c0 : Nat) (l0 : List (MoveV)) (hm0 : l0.length ≤ maxLen) (h0 : RdT moveL w A0 l0) (A1 : Option Addr) (c1 : Nat) (l1 : List (MoveV)) (hm1 : l1.length ≤ maxLen) (h1 : RdT moveL w A1 l1) :
    Calls Try.prog 7 #[.slice A0 l0.length c0, .slice A1 l1.length c1] w fun e w' => e = .returned (.bool true) ∧ Below w.heap.size w w' := by
  unfold maxLen at hm0
  unfold maxLen at hm1
  by_cases hbig0 : (1048576 : Int) < (l0.length : Int)
  · go_enter Try.func7, Try.ntmps7
    go_wp2_with fail
    refine (szBeadMoveS_any A0 _ c0 _ _ (by omega) (by omega) (by omega)).mono ?_
    rintro e w' ⟨rfl, rfl⟩
    rw [if_pos (by omega)]
    go_wp2_with fail
    go_ret
    exact ⟨rfl, Below.refl _ _⟩
  by_cases hbig1 : ((1048576 : Int) - l0.length) < (l1.length : Int)
  · go_enter Try.func7, Try.ntmps7
    go_wp2_with fail
    refine (szBeadMoveS_any A0 _ c0 _ _ (by omega) (by omega) (by omega)).mono ?_
    rintro e w' ⟨rfl, rfl⟩
    rw [if_neg (by omega)]
    go_wp2_with fail
    refine (szBeadMoveS_any A1 _ c1 _ _ (by omega) (by omega) (by omega)).mono ?_
    rintro e w' ⟨rfl, rfl⟩
    rw [if_pos (by omega)]
    go_wp2_with fail
    go_ret
    exact ⟨rfl, Below.refl _ _⟩
  have hS := fun (A0' : Option Addr) (c0' : Nat) (A1' : Option Addr) (c1' : Nat) (W : World) (g0 : RdT moveT W A0' l0) (g1 : RdT moveT W A1' l1) => moveDistanceS_any A0' c0' l0 A1' c1' l1 W (by omega) g0 (by omega) g1
  have hI := fun (A0' : Option Addr) (c0' : Nat) (A1' : Option Addr) (c1' : Nat) (W : World) (g0 : RdT moveT W A0' l0) (g1 : RdT moveT W A1' l1) => moveDistanceI_any A0' c0' l0 A1' c1' l1 W (by omega) g0 (by omega) g1
  generalize mdV l0 l1 = r0 at *
  generalize (recB l0 && recB l1) = r1 at *
  have HS := Lib.hid hS
  have HI := Lib.hid hI
  clear hS hI
  go_enter Try.func7, Try.ntmps7
  have hB0 : Below w.heap.size w w := Below.refl _ _
  go_wp2_with fail
  refine (szBeadMoveS_any A0 _ c0 _ _ (by omega) (by omega) (by omega)).mono ?_
  rintro e w' ⟨rfl, rfl⟩
  rw [if_neg (by omega)]
  go_wp2_with fail
  refine (szBeadMoveS_any A1 _ c1 _ _ (by omega) (by omega) (by omega)).mono ?_
  rintro e w' ⟨rfl, rfl⟩
  rw [if_neg (by omega)]
  go_wp2_with fail
  refine (toBeadMoveS_any A0 c0 l0 _ (by omega) (h0.below hB0 (Nat.le_refl _))).mono ?_
  rintro e w1 ⟨As0, cs0, rfl, os01, hb1⟩
  have lts0 := Lib.hid os01.lt
  have hB1 := hB0.trans (hb1.mono hB0.size)
  have hz1 := hb1.size
  go_wp2_with fail
  refine (toBeadMoveS_any A1 c1 l1 _ (by omega) (h1.below hB1 (Nat.le_refl _))).mono ?_
  rintro e w2 ⟨As1, cs1, rfl, os12, hb2⟩
  have lts1 := Lib.hid os12.lt
  have hB2 := hB1.trans (hb2.mono hB1.size)
  have hz2 := hb2.size
  have os02 := os01.below hb2 (Nat.le_refl _)
  clear os01
  go_wp2_with fail
  refine (HS.out As0 cs0 As1 cs1 _ os02.rd os12.rd).mono ?_
  rintro e w3 ⟨rfl, hb3⟩
  have hB3 := hB2.trans (hb3.mono hB2.size)
  have hz3 := hb3.size
  have os03 := os02.below hb3 (Nat.le_refl _)
  clear os02
  have os13 := os12.below hb3 (Nat.le_refl _)
  clear os12
  clear os03 lts0
  clear os13 lts1
  go_wp2_with fail
  refine (toBeadMoveS_any A0 c0 l0 _ (by omega) (h0.below hB3 (Nat.le_refl _))).mono ?_
  rintro e w4 ⟨Ax0, cx0, rfl, ox04, hb4⟩
  have ltx0 := Lib.hid ox04.lt
  have hB4 := hB3.trans (hb4.mono hB3.size)
  have hz4 := hb4.size
  go_wp2_with fail
  refine (toBeadMoveS_any A1 c1 l1 _ (by omega) (h1.below hB4 (Nat.le_refl _))).mono ?_
  rintro e w5 ⟨Ax1, cx1, rfl, ox15, hb5⟩
  have ltx1 := Lib.hid ox15.lt
  have hB5 := hB4.trans (hb5.mono hB4.size)
  have hz5 := hb5.size
  have ox05 := ox04.below hb5 (Nat.le_refl _)
  clear ox04
  go_wp2_with fail
  refine (HI.out Ax0 cx0 Ax1 cx1 _ ox05.rd ox15.rd).mono ?_
  rintro e w6 ⟨rfl, hb6⟩
  have hB6 := hB5.trans (hb6.mono hB5.size)
  have hz6 := hb6.size
  have ox06 := ox05.below hb6 (Nat.le_refl _)
  clear ox05
  have ox16 := ox15.below hb6 (Nat.le_refl _)
  clear ox15
  go_wp2_with fail
  refine (toBeadMoveS_any A0 c0 l0 _ (by omega) (h0.below hB6 (Nat.le_refl _))).mono ?_
  rintro e w7 ⟨Ay0, cy0, rfl, oy07, hb7⟩
  have lty0 := Lib.hid oy07.lt
  have hB7 := hB6.trans (hb7.mono hB6.size)
  have hz7 := hb7.size
  have ox07 := ox06.below hb7 (Nat.le_refl _)
  clear ox06
  have ox17 := ox16.below hb7 (Nat.le_refl _)
  clear ox16
  go_wp2_with fail
  refine (eqBeadMoveS_same Ax0 Ay0 _ cx0 cy0 l0 _ rfl (by omega) ox07.rd oy07.rd).mono ?_
  rintro e w8 ⟨rfl, hb8⟩
  have hB8 := hB7.trans (hb8.mono hB7.size)
  have hz8 := hb8.size
  have ox08 := ox07.below hb8 (Nat.le_refl _)
  clear ox07
  have ox18 := ox17.below hb8 (Nat.le_refl _)
  clear ox17
  have oy08 := oy07.below hb8 (Nat.le_refl _)
  clear oy07
  clear oy08 lty0
  go_wp2_with fail
  refine (toBeadMoveS_any A1 c1 l1 _ (by omega) (h1.below hB8 (Nat.le_refl _))).mono ?_
  rintro e w9 ⟨Ay1, cy1, rfl, oy19, hb9⟩
  have lty1 := Lib.hid oy19.lt
  have hB9 := hB8.trans (hb9.mono hB8.size)
  have hz9 := hb9.size
  have ox09 := ox08.below hb9 (Nat.le_refl _)
  clear ox08
  have ox19 := ox18.below hb9 (Nat.le_refl _)
  clear ox18
  go_wp2_with fail
  refine (eqBeadMoveS_same Ax1 Ay1 _ cx1 cy1 l1 _ rfl (by omega) ox19.rd oy19.rd).mono ?_
  rintro e w10 ⟨rfl, hb10⟩
  have hB10 := hB9.trans (hb10.mono hB9.size)
  have hz10 := hb10.size
  have ox010 := ox09.below hb10 (Nat.le_refl _)
  clear ox09
  have ox110 := ox19.below hb10 (Nat.le_refl _)
  clear ox19
  have oy110 := oy19.below hb10 (Nat.le_refl _)
  clear oy19
  clear oy110 lty1
  go_wp2_with fail
  go_ret
  exact ⟨rfl, hB10⟩

set_option maxRecDepth 100000 in
theorem fnExactMoveDistance_lifted (os : Os) (started : os.Started) (H : Type) (enc : TypeId × Value → H) :
    ReturnsInHanded {} Try.checked os 7 .any (Rows.fnExactMoveDistanceSpec.pre6 enc Try.prog Try.f7 Rows.fnExactMoveDistanceRow.domain false) (Rows.fnExactMoveDistanceSpec.post enc Try.prog Try.f7 false true false false) := by
  refine returnsInHanded_of_change (C := Try.checked) ownk started (by kernel_rfl) Try.func7
    (ChangeSpec.witness6 (enc := enc) (C := Try.checked) false ⟨#[], #[.slice none 0 0, .slice none 0 0], []⟩ 8 (by kernel_rfl) (by kernel_rfl) (by kernel_rfl) (by kernel_rfl)) ?_
  intro W base args ds gs before hval0 hW _ _
  have hval : ∀ (j : Nat) t v, Try.f7.params[j]? = some t → args[j]? = some v → Value.okWide Try.prog W .any base t v := hval0
  have hW' := hW
  obtain ⟨p, q, hA0, hV, rfl, _, _⟩ := hW
  have hA : DataW.TrodAll enc Try.prog W 0 (fun _ => true) true Try.f7.params.toList args.toList ds p := hA0
  rw [Try.params7] at hA hval
  obtain ⟨rfl, rfl⟩ := trodVars_none hV
  simp only [List.append_nil] at hW'
  clear hA0 hval0
  have hargs : ∀ W' : World, Below W.heap.size W W' → DataW.TrodAll enc Try.prog W' 0 (fun b => decide (b < W.heap.size)) true [22, 22] args.toList ds p := fun W' hb => trodAll_below laid_out hb _ _ _ _ (by kernel_rfl) hA (fun x hx => hW'.lt x hx)
  obtain ⟨v0, vs0, d0, ds0, p0, q0, hx, rfl, rfl, h0, r0'⟩ := trodAll_cons hA
  obtain ⟨v1, vs1, d1, ds1, p1, q1, rfl, rfl, rfl, h1, r1'⟩ := trodAll_cons r0'
  obtain ⟨rfl, rfl, rfl⟩ := trodAll_nil r1'
  obtain rfl : args = #[v0, v1] := by cases args; simp_all
  obtain ⟨A0, c0, l0, rfl, m0, r0⟩ := open_rows moveL (by kernel_rfl) (dec_move W enc) (hval 0 22 v0 rfl rfl) h0
  obtain ⟨A1, c1, l1, rfl, m1, r1⟩ := open_rows moveL (by kernel_rfl) (dec_move W enc) (hval 1 22 v1 rfl rfl) h1
  refine (fnExactMoveDistance_walk W A0 c0 l0 m0 r0 A1 c1 l1 m1 r1).mono fun e W' ⟨he, hb⟩ => ?_
  subst he
  exact ⟨_, rfl, _, _, _, [], _, [], hW', trodAll_mk1 (shut_bool Try.underlying4 _), hargs W' hb, rfl, hb.frame _, fun h => by cases h⟩
theorem fnExactMoveDistance_proved : Rows.FnExactMoveDistanceSaid :=
  OpenClaim.holds_of_wide 7 Try.f7 rfl rfl rfl rfl rfl rfl rfl ⟨rfl, rfl, rfl, rfl, rfl⟩ rfl rfl rfl rfl rfl (by kernel_rfl) Try.func7 (by kernel_rfl)
    (of_decide_eq_true (by kernel_rfl)) (by unfold Func.isWrapper; first | (rw [if_pos (by decide +kernel)]; kernel_rfl) | (rw [if_neg (by decide +kernel)]; exact ⟨rfl, rfl⟩))
    (fun os started H enc _ => fnExactMoveDistance_lifted os started H enc)
#print axioms fnExactMoveDistance_proved
end Go.Proofs.Ytkcbldaondflmaa
