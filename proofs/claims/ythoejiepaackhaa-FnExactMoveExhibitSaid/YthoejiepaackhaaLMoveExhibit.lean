/-
  The law FnExactMoveExhibit: for all exhibits, every number and every case the program returns what the reference returns. No condition.
-/
import Derived.Test.YthoejiepaackhaaMusL
import Derived.Test.YthoejiepaackhaaFrameExhibit
namespace Go.Proofs.Ythoejiepaackhaa
open Go.ChangeShapes Go.WideShapes Go.ChangeAt Go.RowKit

set_option maxRecDepth 100000 in
set_option maxHeartbeats 4000000 in
theorem fnExactMoveExhibit_walk (w : World) (A0 : Option Addr) (c0 : Nat) (l0 : List (ExhibitV)) (hm0 : l0.length ≤ maxLen) (ho0 : ∀ x ∈ l0, x.okw) (h0 : RdT exhibitL w A0 l0) (a1 : Int) (_w1 : (Lit.int .i64 a1).wf = true) (a2 : Int) (_w2 : (Lit.int .i64 a2).wf = true) :
    Calls Try.prog 10 #[.slice A0 l0.length c0, .int .i64 a1, .int .i64 a2] w fun e w' => e = .returned (.bool true) ∧ Below w.heap.size w w' := by
  go_enter Try.func10, Try.ntmps10
  have hB0 : Below w.heap.size w w := Below.refl _ _
  go_wp2_with fail
  refine (szExhibitS_any A0 c0 l0 _ _ (by omega) (by omega) hm0 (h0.below hB0 (Nat.le_refl _)) ho0).mono ?_
  rintro e w1 ⟨⟨r0, rfl, hr0⟩, hb1⟩
  have hB1 := hB0.trans (hb1.mono hB0.size)
  have hz1 := hb1.size
  rcases hr0 with hneg0 | ⟨hr0, hrl0, hk0⟩
  · go_wp2_with fail
    go_ret
    exact ⟨rfl, hB1⟩
  have hS := fun (A' : Option Addr) (c' : Nat) (W : World) (g0 : RdT exhibitT W A' l0) => mvS_any A' c' l0 a1 a2 W (by omega) g0 hk0
  have hI := fun (A' : Option Addr) (c' : Nat) (W : World) (g0 : RdT exhibitT W A' l0) => mvI_any A' c' l0 a1 a2 W (by omega) g0 hk0
  have hlen := mvV_len l0 a1 a2
  generalize mvV l0 a1 a2 = res at *
  generalize mvB l0 a1 a2 = ok at *
  have HS := Lib.hid hS
  have HI := Lib.hid hI
  clear hS hI
  go_wp2_with fail
  refine (toExhibitS_any A0 c0 l0 _ (by omega) (h0.below hB1 (Nat.le_refl _))).mono ?_
  rintro e w2 ⟨As0, cs0, rfl, os02, hb2⟩
  have lts0 := Lib.hid os02.lt
  have hB2 := hB1.trans (hb2.mono hB1.size)
  have hz2 := hb2.size
  go_wp2_with fail
  refine (HS.out As0 cs0 _ os02.rd).mono ?_
  rintro e w3 ⟨AW, cW, rfl, oW3, hb3⟩
  have ltW := Lib.hid oW3.lt
  have hB3 := hB2.trans (hb3.mono hB2.size)
  have hz3 := hb3.size
  have os03 := os02.below hb3 (Nat.le_refl _)
  clear os02
  clear os03 lts0
  go_wp2_with fail
  refine (toExhibitS_any A0 c0 l0 _ (by omega) (h0.below hB3 (Nat.le_refl _))).mono ?_
  rintro e w4 ⟨Ax0, cx0, rfl, ox04, hb4⟩
  have ltx0 := Lib.hid ox04.lt
  have hB4 := hB3.trans (hb4.mono hB3.size)
  have hz4 := hb4.size
  have oW4 := oW3.below hb4 (Nat.le_refl _)
  clear oW3
  go_wp2_with fail
  refine (HI.out Ax0 cx0 _ ox04.rd).mono ?_
  rintro e w5 ⟨AG, cG, rfl, oG5, hb5⟩
  have ltG := Lib.hid oG5.lt
  have hB5 := hB4.trans (hb5.mono hB4.size)
  have hz5 := hb5.size
  have oW5 := oW4.below hb5 (Nat.le_refl _)
  clear oW4
  have ox05 := ox04.below hb5 (Nat.le_refl _)
  clear ox04
  go_wp2_with fail
  refine (eqExhibitS_same AG AW _ cG cW res _ rfl (by omega) oG5.rd oW5.rd).mono ?_
  rintro e w6 ⟨rfl, hb6⟩
  have hB6 := hB5.trans (hb6.mono hB5.size)
  have hz6 := hb6.size
  have oW6 := oW5.below hb6 (Nat.le_refl _)
  clear oW5
  have ox06 := ox05.below hb6 (Nat.le_refl _)
  clear ox05
  have oG6 := oG5.below hb6 (Nat.le_refl _)
  clear oG5
  go_wp2_with fail
  refine (toExhibitS_any A0 c0 l0 _ (by omega) (h0.below hB6 (Nat.le_refl _))).mono ?_
  rintro e w7 ⟨Ay0, cy0, rfl, oy07, hb7⟩
  have lty0 := Lib.hid oy07.lt
  have hB7 := hB6.trans (hb7.mono hB6.size)
  have hz7 := hb7.size
  have oW7 := oW6.below hb7 (Nat.le_refl _)
  clear oW6
  have ox07 := ox06.below hb7 (Nat.le_refl _)
  clear ox06
  have oG7 := oG6.below hb7 (Nat.le_refl _)
  clear oG6
  go_wp2_with fail
  refine (eqExhibitS_same Ax0 Ay0 _ cx0 cy0 l0 _ rfl (by omega) ox07.rd oy07.rd).mono ?_
  rintro e w8 ⟨rfl, hb8⟩
  have hB8 := hB7.trans (hb8.mono hB7.size)
  have hz8 := hb8.size
  have oW8 := oW7.below hb8 (Nat.le_refl _)
  clear oW7
  have ox08 := ox07.below hb8 (Nat.le_refl _)
  clear ox07
  have oG8 := oG7.below hb8 (Nat.le_refl _)
  clear oG7
  have oy08 := oy07.below hb8 (Nat.le_refl _)
  clear oy07
  clear oy08 lty0
  go_wp2_with fail
  refine (markExhibitS_ok _ Ax0 cx0 l0 _ _ (by omega) (by omega) (by omega) ox08).mono ?_
  rintro e w9 ⟨rfl, ox09, gr9⟩
  have hB9 := below_gr hB8 gr9 (by omega) (fun k hk => by have := ltx0.out k hk; omega)
  have hz9 := gr9.size
  clear ox08
  have oW9 := oW8.kept gr9 (apart_of (B := w3.heap.size) (fun k hk => by have := ltW.out k hk; omega) (fun k hk => by have := ltx0.out k hk; omega))
  clear oW8
  have oG9 := oG8.kept gr9 (apart_of' (B := w4.heap.size) (fun k hk => by have := ltG.out k hk; omega) (fun k hk => by have := ltx0.out k hk; omega))
  clear oG8
  clear ox09 ltx0
  go_wp2_with fail
  refine (eqExhibitS_same AG AW _ cG cW res _ rfl (by omega) oG9.rd oW9.rd).mono ?_
  rintro e w10 ⟨rfl, hb10⟩
  have hB10 := hB9.trans (hb10.mono hB9.size)
  have hz10 := hb10.size
  have oW10 := oW9.below hb10 (Nat.le_refl _)
  clear oW9
  have oG10 := oG9.below hb10 (Nat.le_refl _)
  clear oG9
  go_wp2_with fail
  refine (markExhibitS_ok _ AG cG res _ _ (by omega) (by omega) (by omega) oG10).mono ?_
  rintro e w11 ⟨rfl, oG11, gr11⟩
  have hB11 := below_gr hB10 gr11 (by omega) (fun k hk => by have := ltG.out k hk; omega)
  have hz11 := gr11.size
  clear oG10
  have oW11 := oW10.kept gr11 (apart_of (B := w4.heap.size) (fun k hk => by have := ltW.out k hk; omega) (fun k hk => by have := ltG.out k hk; omega))
  clear oW10
  go_wp2_with fail
  refine (heldExhibitS_ok AG res.length cG 1 _ (by omega) (by omega) (by omega) (by have := oG11.rd; exact this)).mono ?_
  rintro e w12 ⟨rfl, hb12⟩
  have hB12 := hB11.trans (hb12.mono hB11.size)
  have hz12 := hb12.size
  have oW12 := oW11.below hb12 (Nat.le_refl _)
  clear oW11
  have oG12 := oG11.below hb12 (Nat.le_refl _)
  clear oG11
  go_wp2_with fail
  refine (toExhibitS_any A0 c0 l0 _ (by omega) (h0.below hB12 (Nat.le_refl _))).mono ?_
  rintro e w13 ⟨Az0, cz0, rfl, oz013, hb13⟩
  have ltz0 := Lib.hid oz013.lt
  have hB13 := hB12.trans (hb13.mono hB12.size)
  have hz13 := hb13.size
  have oW13 := oW12.below hb13 (Nat.le_refl _)
  clear oW12
  have oG13 := oG12.below hb13 (Nat.le_refl _)
  clear oG12
  go_wp2_with fail
  refine (HI.out Az0 cz0 _ oz013.rd).mono ?_
  rintro e w14 ⟨AH, cH, rfl, oH14, hb14⟩
  have ltH := Lib.hid oH14.lt
  have hB14 := hB13.trans (hb14.mono hB13.size)
  have hz14 := hb14.size
  have oW14 := oW13.below hb14 (Nat.le_refl _)
  clear oW13
  have oG14 := oG13.below hb14 (Nat.le_refl _)
  clear oG13
  have oz014 := oz013.below hb14 (Nat.le_refl _)
  clear oz013
  go_wp2_with fail
  refine (eqExhibitS_same AH AW _ cH cW res _ rfl (by omega) oH14.rd oW14.rd).mono ?_
  rintro e w15 ⟨rfl, hb15⟩
  have hB15 := hB14.trans (hb15.mono hB14.size)
  have hz15 := hb15.size
  have oW15 := oW14.below hb15 (Nat.le_refl _)
  clear oW14
  have oG15 := oG14.below hb15 (Nat.le_refl _)
  clear oG14
  have oz015 := oz014.below hb15 (Nat.le_refl _)
  clear oz014
  have oH15 := oH14.below hb15 (Nat.le_refl _)
  clear oH14
  go_wp2_with fail
  refine (heldExhibitS_ok AG res.length cG 1 _ (by omega) (by omega) (by omega) (by have := oG15.rd; exact this)).mono ?_
  rintro e w16 ⟨rfl, hb16⟩
  have hB16 := hB15.trans (hb16.mono hB15.size)
  have hz16 := hb16.size
  have oW16 := oW15.below hb16 (Nat.le_refl _)
  clear oW15
  have oG16 := oG15.below hb16 (Nat.le_refl _)
  clear oG15
  have oz016 := oz015.below hb16 (Nat.le_refl _)
  clear oz015
  have oH16 := oH15.below hb16 (Nat.le_refl _)
  clear oH15
  go_wp2_with fail
  go_ret
  exact ⟨rfl, hB16⟩

set_option maxRecDepth 100000 in
theorem fnExactMoveExhibit_lifted (os : Os) (started : os.Started) (H : Type) (enc : TypeId × Value → H) :
    ReturnsInHanded {} Try.checked os 10 .any (Rows.fnExactMoveExhibitSpec.pre6 enc Try.prog Try.f10 Rows.fnExactMoveExhibitRow.domain false) (Rows.fnExactMoveExhibitSpec.post enc Try.prog Try.f10 false true false false) := by
  refine returnsInHanded_of_change (C := Try.checked) ownk started (by kernel_rfl) Try.func10
    (ChangeSpec.witness6 (enc := enc) (C := Try.checked) false ⟨#[], #[.slice none 0 0, .int .i64 0, .int .i64 0], []⟩ 8 (by kernel_rfl) (by kernel_rfl) (by kernel_rfl) (by kernel_rfl)) ?_
  intro W base args ds gs before hval0 hW _ _
  have hval : ∀ (j : Nat) t v, Try.f10.params[j]? = some t → args[j]? = some v → Value.okWide Try.prog W .any base t v := hval0
  have hW' := hW
  obtain ⟨p, q, hA0, hV, rfl, _, _⟩ := hW
  have hA : DataW.TrodAll enc Try.prog W 0 (fun _ => true) true Try.f10.params.toList args.toList ds p := hA0
  rw [Try.params10] at hA hval
  obtain ⟨rfl, rfl⟩ := trodVars_none hV
  simp only [List.append_nil] at hW'
  clear hA0 hval0
  have hargs : ∀ W' : World, Below W.heap.size W W' → DataW.TrodAll enc Try.prog W' 0 (fun b => decide (b < W.heap.size)) true [33, 3, 3] args.toList ds p := fun W' hb => trodAll_below laid_out hb _ _ _ _ (by kernel_rfl) hA (fun x hx => hW'.lt x hx)
  obtain ⟨v0, vs0, d0, ds0, p0, q0, hx, rfl, rfl, h0, r0'⟩ := trodAll_cons hA
  obtain ⟨v1, vs1, d1, ds1, p1, q1, rfl, rfl, rfl, h1, r1'⟩ := trodAll_cons r0'
  obtain ⟨v2, vs2, d2, ds2, p2, q2, rfl, rfl, rfl, h2, r2'⟩ := trodAll_cons r1'
  obtain ⟨rfl, rfl, rfl⟩ := trodAll_nil r2'
  obtain rfl : args = #[v0, v1, v2] := by cases args; simp_all
  obtain ⟨A0, c0, l0, rfl, m0, o0, r0⟩ := open_rowsP exhibitL (by kernel_rfl) (dec_exhibit W enc) (hval 0 33 v0 rfl rfl) h0
  obtain ⟨a1, rfl, rfl, rfl, w1⟩ := open_int Try.underlying3 (hval 1 3 v1 rfl rfl) h1
  obtain ⟨a2, rfl, rfl, rfl, w2⟩ := open_int Try.underlying3 (hval 2 3 v2 rfl rfl) h2
  refine (fnExactMoveExhibit_walk W A0 c0 l0 m0 o0 r0 a1 w1 a2 w2).mono fun e W' ⟨he, hb⟩ => ?_
  subst he
  exact ⟨_, rfl, _, _, _, [], _, [], hW', trodAll_mk1 (shut_bool Try.underlying4 _), hargs W' hb, rfl, hb.frame _, fun h => by cases h⟩
theorem fnExactMoveExhibit_proved : Rows.FnExactMoveExhibitSaid :=
  OpenClaim.holds_of_wide 10 Try.f10 rfl rfl rfl rfl rfl rfl rfl ⟨rfl, rfl, rfl, rfl, rfl⟩ rfl rfl rfl rfl rfl (by kernel_rfl) Try.func10 (by kernel_rfl)
    (of_decide_eq_true (by kernel_rfl)) (by unfold Func.isWrapper; first | (rw [if_pos (by decide +kernel)]; kernel_rfl) | (rw [if_neg (by decide +kernel)]; exact ⟨rfl, rfl⟩))
    (fun os started H enc _ => fnExactMoveExhibit_lifted os started H enc)
#print axioms fnExactMoveExhibit_proved
end Go.Proofs.Ythoejiepaackhaa
