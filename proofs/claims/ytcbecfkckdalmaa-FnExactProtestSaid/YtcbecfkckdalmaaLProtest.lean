/-
  The law FnExactProtest: for every list of rows, every pupil and every heat the program returns what the reference returns. No condition.
-/
import Derived.Test.YtcbecfkckdalmaaConQ
import Derived.Test.YtcbecfkckdalmaaFrameSolved
namespace Go.Proofs.Ytcbecfkckdalmaa
open Go.ChangeShapes Go.WideShapes Go.ChangeAt Go.RowKit

set_option maxRecDepth 100000 in
set_option maxHeartbeats 4000000 in
theorem fnExactProtest_walk (w : World) (A0 : Option Addr) (c0 : Nat) (l0 : List (SolvedV)) (hm0 : l0.length ≤ maxLen) (h0 : RdT solvedL w A0 l0) (a1 : Int) (_w1 : (Lit.int .i64 a1).wf = true) (a2 : Int) (_w2 : (Lit.int .i64 a2).wf = true) :
    Calls Try.prog 8 #[.slice A0 l0.length c0, .int .i64 a1, .int .i64 a2] w fun e w' => e = .returned (.bool true) ∧ Below w.heap.size w w' := by
  unfold maxLen at hm0
  by_cases hbig0 : (1048576 : Int) < (l0.length : Int)
  · go_enter Try.func8, Try.ntmps8
    go_wp2_with fail
    refine (szSolvedS_any A0 _ c0 _ _ (by omega) (by omega) (by omega)).mono ?_
    rintro e w' ⟨rfl, rfl⟩
    rw [if_pos (by omega)]
    go_wp2_with fail
    go_ret
    exact ⟨rfl, Below.refl _ _⟩
  have hS := fun (A' : Option Addr) (c' : Nat) (W : World) (g0 : RdT solvedT W A' l0) => protestS_any A' c' l0 a1 a2 W (by omega) g0
  have hI := fun (A' : Option Addr) (c' : Nat) (W : World) (g0 : RdT solvedT W A' l0) => protestI_any A' c' l0 a1 a2 W (by omega) g0
  have hlen := (proV_len l0 a1 a2)
  generalize (proV l0 a1 a2) = res at *
  generalize (proOk l0 a1 a2) = ok at *
  have HS := Lib.hid hS
  have HI := Lib.hid hI
  clear hS hI
  go_enter Try.func8, Try.ntmps8
  have hB0 : Below w.heap.size w w := Below.refl _ _
  go_wp2_with fail
  refine (szSolvedS_any A0 _ c0 _ _ (by omega) (by omega) (by omega)).mono ?_
  rintro e w' ⟨rfl, rfl⟩
  rw [if_neg (by omega)]
  go_wp2_with fail
  refine (toSolvedS_any A0 c0 l0 _ (by omega) (h0.below hB0 (Nat.le_refl _))).mono ?_
  rintro e w1 ⟨As0, cs0, rfl, os01, hb1⟩
  have lts0 := Lib.hid os01.lt
  have hB1 := hB0.trans (hb1.mono hB0.size)
  have hz1 := hb1.size
  go_wp2_with fail
  refine (HS.out As0 cs0 _ os01.rd).mono ?_
  rintro e w2 ⟨AW, cW, rfl, oW2, hb2⟩
  have ltW := Lib.hid oW2.lt
  have hB2 := hB1.trans (hb2.mono hB1.size)
  have hz2 := hb2.size
  have os02 := os01.below hb2 (Nat.le_refl _)
  clear os01
  clear os02 lts0
  go_wp2_with fail
  refine (toSolvedS_any A0 c0 l0 _ (by omega) (h0.below hB2 (Nat.le_refl _))).mono ?_
  rintro e w3 ⟨Ax0, cx0, rfl, ox03, hb3⟩
  have ltx0 := Lib.hid ox03.lt
  have hB3 := hB2.trans (hb3.mono hB2.size)
  have hz3 := hb3.size
  have oW3 := oW2.below hb3 (Nat.le_refl _)
  clear oW2
  go_wp2_with fail
  refine (HI.out Ax0 cx0 _ ox03.rd).mono ?_
  rintro e w4 ⟨AG, cG, rfl, oG4, hb4⟩
  have ltG := Lib.hid oG4.lt
  have hB4 := hB3.trans (hb4.mono hB3.size)
  have hz4 := hb4.size
  have oW4 := oW3.below hb4 (Nat.le_refl _)
  clear oW3
  have ox04 := ox03.below hb4 (Nat.le_refl _)
  clear ox03
  go_wp2_with fail
  refine (eqSolvedS_same AG AW _ cG cW res _ rfl (by omega) oG4.rd oW4.rd).mono ?_
  rintro e w5 ⟨rfl, hb5⟩
  have hB5 := hB4.trans (hb5.mono hB4.size)
  have hz5 := hb5.size
  have oW5 := oW4.below hb5 (Nat.le_refl _)
  clear oW4
  have ox05 := ox04.below hb5 (Nat.le_refl _)
  clear ox04
  have oG5 := oG4.below hb5 (Nat.le_refl _)
  clear oG4
  go_wp2_with fail
  refine (toSolvedS_any A0 c0 l0 _ (by omega) (h0.below hB5 (Nat.le_refl _))).mono ?_
  rintro e w6 ⟨Ay0, cy0, rfl, oy06, hb6⟩
  have lty0 := Lib.hid oy06.lt
  have hB6 := hB5.trans (hb6.mono hB5.size)
  have hz6 := hb6.size
  have oW6 := oW5.below hb6 (Nat.le_refl _)
  clear oW5
  have ox06 := ox05.below hb6 (Nat.le_refl _)
  clear ox05
  have oG6 := oG5.below hb6 (Nat.le_refl _)
  clear oG5
  go_wp2_with fail
  refine (eqSolvedS_same Ax0 Ay0 _ cx0 cy0 l0 _ rfl (by omega) ox06.rd oy06.rd).mono ?_
  rintro e w7 ⟨rfl, hb7⟩
  have hB7 := hB6.trans (hb7.mono hB6.size)
  have hz7 := hb7.size
  have oW7 := oW6.below hb7 (Nat.le_refl _)
  clear oW6
  have ox07 := ox06.below hb7 (Nat.le_refl _)
  clear ox06
  have oG7 := oG6.below hb7 (Nat.le_refl _)
  clear oG6
  have oy07 := oy06.below hb7 (Nat.le_refl _)
  clear oy06
  clear oy07 lty0
  go_wp2_with fail
  refine (markSolvedS_ok _ Ax0 cx0 l0 _ _ (by omega) (by omega) (by omega) ox07).mono ?_
  rintro e w8 ⟨rfl, ox08, gr8⟩
  have hB8 := below_gr hB7 gr8 (by omega) (fun k hk => by have := ltx0.out k hk; omega)
  have hz8 := gr8.size
  clear ox07
  have oW8 := oW7.kept gr8 (apart_of (B := w2.heap.size) (fun k hk => by have := ltW.out k hk; omega) (fun k hk => by have := ltx0.out k hk; omega))
  clear oW7
  have oG8 := oG7.kept gr8 (apart_of' (B := w3.heap.size) (fun k hk => by have := ltG.out k hk; omega) (fun k hk => by have := ltx0.out k hk; omega))
  clear oG7
  clear ox08 ltx0
  go_wp2_with fail
  refine (eqSolvedS_same AG AW _ cG cW res _ rfl (by omega) oG8.rd oW8.rd).mono ?_
  rintro e w9 ⟨rfl, hb9⟩
  have hB9 := hB8.trans (hb9.mono hB8.size)
  have hz9 := hb9.size
  have oW9 := oW8.below hb9 (Nat.le_refl _)
  clear oW8
  have oG9 := oG8.below hb9 (Nat.le_refl _)
  clear oG8
  go_wp2_with fail
  refine (markSolvedS_ok _ AG cG res _ _ (by omega) (by omega) (by omega) oG9).mono ?_
  rintro e w10 ⟨rfl, oG10, gr10⟩
  have hB10 := below_gr hB9 gr10 (by omega) (fun k hk => by have := ltG.out k hk; omega)
  have hz10 := gr10.size
  clear oG9
  have oW10 := oW9.kept gr10 (apart_of (B := w3.heap.size) (fun k hk => by have := ltW.out k hk; omega) (fun k hk => by have := ltG.out k hk; omega))
  clear oW9
  go_wp2_with fail
  refine (heldSolvedS_ok AG res.length cG 1 _ (by omega) (by omega) (by omega) (by have := oG10.rd; exact this)).mono ?_
  rintro e w11' ⟨rfl, rfl⟩
  go_wp2_with fail
  refine (toSolvedS_any A0 c0 l0 _ (by omega) (h0.below hB10 (Nat.le_refl _))).mono ?_
  rintro e w11 ⟨Az0, cz0, rfl, oz011, hb11⟩
  have ltz0 := Lib.hid oz011.lt
  have hB11 := hB10.trans (hb11.mono hB10.size)
  have hz11 := hb11.size
  have oW11 := oW10.below hb11 (Nat.le_refl _)
  clear oW10
  have oG11 := oG10.below hb11 (Nat.le_refl _)
  clear oG10
  go_wp2_with fail
  refine (HI.out Az0 cz0 _ oz011.rd).mono ?_
  rintro e w12 ⟨AH, cH, rfl, oH12, hb12⟩
  have ltH := Lib.hid oH12.lt
  have hB12 := hB11.trans (hb12.mono hB11.size)
  have hz12 := hb12.size
  have oW12 := oW11.below hb12 (Nat.le_refl _)
  clear oW11
  have oG12 := oG11.below hb12 (Nat.le_refl _)
  clear oG11
  have oz012 := oz011.below hb12 (Nat.le_refl _)
  clear oz011
  go_wp2_with fail
  refine (eqSolvedS_same AH AW _ cH cW res _ rfl (by omega) oH12.rd oW12.rd).mono ?_
  rintro e w13 ⟨rfl, hb13⟩
  have hB13 := hB12.trans (hb13.mono hB12.size)
  have hz13 := hb13.size
  have oW13 := oW12.below hb13 (Nat.le_refl _)
  clear oW12
  have oG13 := oG12.below hb13 (Nat.le_refl _)
  clear oG12
  have oz013 := oz012.below hb13 (Nat.le_refl _)
  clear oz012
  have oH13 := oH12.below hb13 (Nat.le_refl _)
  clear oH12
  go_wp2_with fail
  refine (heldSolvedS_ok AG res.length cG 1 _ (by omega) (by omega) (by omega) (by have := oG13.rd; exact this)).mono ?_
  rintro e w14' ⟨rfl, rfl⟩
  go_wp2_with fail
  go_ret
  exact ⟨rfl, hB13⟩

set_option maxRecDepth 100000 in
theorem fnExactProtest_lifted (os : Os) (started : os.Started) (H : Type) (enc : TypeId × Value → H) :
    ReturnsInHanded {} Try.checked os 8 .any (Rows.fnExactProtestSpec.pre6 enc Try.prog Try.f8 Rows.fnExactProtestRow.domain false) (Rows.fnExactProtestSpec.post enc Try.prog Try.f8 false true false false) := by
  refine returnsInHanded_of_change (C := Try.checked) ownk started (by kernel_rfl) Try.func8
    (ChangeSpec.witness6 (enc := enc) (C := Try.checked) false ⟨#[], #[.slice none 0 0, .int .i64 0, .int .i64 0], []⟩ 8 (by kernel_rfl) (by kernel_rfl) (by kernel_rfl) (by kernel_rfl)) ?_
  intro W base args ds gs before hval0 hW _ _
  have hval : ∀ (j : Nat) t v, Try.f8.params[j]? = some t → args[j]? = some v → Value.okWide Try.prog W .any base t v := hval0
  have hW' := hW
  obtain ⟨p, q, hA0, hV, rfl, _, _⟩ := hW
  have hA : DataW.TrodAll enc Try.prog W 0 (fun _ => true) true Try.f8.params.toList args.toList ds p := hA0
  rw [Try.params8] at hA hval
  obtain ⟨rfl, rfl⟩ := trodVars_none hV
  simp only [List.append_nil] at hW'
  clear hA0 hval0
  have hargs : ∀ W' : World, Below W.heap.size W W' → DataW.TrodAll enc Try.prog W' 0 (fun b => decide (b < W.heap.size)) true [30, 3, 3] args.toList ds p := fun W' hb => trodAll_below laid_out hb _ _ _ _ (by kernel_rfl) hA (fun x hx => hW'.lt x hx)
  obtain ⟨v0, vs0, d0, ds0, p0, q0, hx, rfl, rfl, h0, r0'⟩ := trodAll_cons hA
  obtain ⟨v1, vs1, d1, ds1, p1, q1, rfl, rfl, rfl, h1, r1'⟩ := trodAll_cons r0'
  obtain ⟨v2, vs2, d2, ds2, p2, q2, rfl, rfl, rfl, h2, r2'⟩ := trodAll_cons r1'
  obtain ⟨rfl, rfl, rfl⟩ := trodAll_nil r2'
  obtain rfl : args = #[v0, v1, v2] := by cases args; simp_all
  obtain ⟨A0, c0, l0, rfl, m0, r0⟩ := open_rows solvedL (by kernel_rfl) (dec_solved W enc) (hval 0 30 v0 rfl rfl) h0
  obtain ⟨a1, rfl, rfl, rfl, w1⟩ := open_int Try.underlying3 (hval 1 3 v1 rfl rfl) h1
  obtain ⟨a2, rfl, rfl, rfl, w2⟩ := open_int Try.underlying3 (hval 2 3 v2 rfl rfl) h2
  refine (fnExactProtest_walk W A0 c0 l0 m0 r0 a1 w1 a2 w2).mono fun e W' ⟨he, hb⟩ => ?_
  subst he
  exact ⟨_, rfl, _, _, _, [], _, [], hW', trodAll_mk1 (shut_bool Try.underlying4 _), hargs W' hb, rfl, hb.frame _, fun h => by cases h⟩
theorem fnExactProtest_proved : Rows.FnExactProtestSaid :=
  OpenClaim.holds_of_wide 8 Try.f8 rfl rfl rfl rfl rfl rfl rfl ⟨rfl, rfl, rfl, rfl, rfl⟩ rfl rfl rfl rfl rfl (by kernel_rfl) Try.func8 (by kernel_rfl)
    (of_decide_eq_true (by kernel_rfl)) (by unfold Func.isWrapper; first | (rw [if_pos (by decide +kernel)]; kernel_rfl) | (rw [if_neg (by decide +kernel)]; exact ⟨rfl, rfl⟩))
    (fun os started H enc _ => fnExactProtest_lifted os started H enc)
#print axioms fnExactProtest_proved
end Go.Proofs.Ytcbecfkckdalmaa
