/-
  The law FnExactNeededRight: for every list of rows and every pupil the program returns what the reference returns. No condition.
-/
import Derived.Test.YtcbecfkckdalmaaConS
import Derived.Test.YtcbecfkckdalmaaConT
import Derived.Test.YtcbecfkckdalmaaFrameSolved
namespace Go.Proofs.Ytcbecfkckdalmaa
open Go.ChangeShapes Go.WideShapes Go.ChangeAt Go.RowKit

set_option maxRecDepth 100000 in
set_option maxHeartbeats 4000000 in
theorem fnExactNeededRight_walk (w : World) (A0 : Option Addr) (c0 : Nat) (l0 : List (SolvedV)) (hm0 : l0.length ≤ maxLen) (h0 : RdT solvedL w A0 l0) (a1 : Int) (_w1 : (Lit.int .i64 a1).wf = true) :
    Calls Try.prog 9 #[.slice A0 l0.length c0, .int .i64 a1] w fun e w' => e = .returned (.bool true) ∧ Below w.heap.size w w' := by
  unfold maxLen at hm0
  by_cases hbig0 : (1048576 : Int) < (l0.length : Int)
  · go_enter Try.func9, Try.ntmps9
    go_wp2_with fail
    refine (szSolvedS_any A0 _ c0 _ _ (by omega) (by omega) (by omega)).mono ?_
    rintro e w' ⟨rfl, rfl⟩
    rw [if_pos (by omega)]
    go_wp2_with fail
    go_ret
    exact ⟨rfl, Below.refl _ _⟩
  have hS := fun (A' : Option Addr) (c' : Nat) (W : World) (g0 : RdT solvedT W A' l0) => neededS_any A' c' l0 a1 W (by omega) g0
  have hI := fun (A' : Option Addr) (c' : Nat) (W : World) (g0 : RdT solvedT W A' l0) => neededI_any A' c' l0 a1 W (by omega) g0
  generalize ndV l0 a1 = r0 at *
  generalize (ndOk l0 a1) = r1 at *
  have HS := Lib.hid hS
  have HI := Lib.hid hI
  clear hS hI
  go_enter Try.func9, Try.ntmps9
  have hB0 : Below w.heap.size w w := Below.refl _ _
  go_wp2_with fail
  refine (szSolvedS_any A0 _ c0 _ _ (by omega) (by omega) (by omega)).mono ?_
  rintro e w' ⟨rfl, rfl⟩
  rw [if_neg (by omega)]
  go_wp2_with fail
  refine (toSolvedS_any A0 c0 l0 _ (by omega) (h0.below hB0 (Nat.le_refl _))).mono ?_
  rintro e w1 ⟨As0, cs0, rfl, os01, hb1⟩
  have lts0 := Lib.hid os01.lt
  have hB1 := hB0.trans (hb1.mono hB0.size)
  have hz1 := hb1.size
  go_wp2_with fail
  refine (HS.out As0 cs0 _ os01.rd).mono ?_
  rintro e w2 ⟨rfl, hb2⟩
  have hB2 := hB1.trans (hb2.mono hB1.size)
  have hz2 := hb2.size
  have os02 := os01.below hb2 (Nat.le_refl _)
  clear os01
  clear os02 lts0
  go_wp2_with fail
  refine (toSolvedS_any A0 c0 l0 _ (by omega) (h0.below hB2 (Nat.le_refl _))).mono ?_
  rintro e w3 ⟨Ax0, cx0, rfl, ox03, hb3⟩
  have ltx0 := Lib.hid ox03.lt
  have hB3 := hB2.trans (hb3.mono hB2.size)
  have hz3 := hb3.size
  go_wp2_with fail
  refine (HI.out Ax0 cx0 _ ox03.rd).mono ?_
  rintro e w4 ⟨rfl, hb4⟩
  have hB4 := hB3.trans (hb4.mono hB3.size)
  have hz4 := hb4.size
  have ox04 := ox03.below hb4 (Nat.le_refl _)
  clear ox03
  go_wp2_with fail
  refine (toSolvedS_any A0 c0 l0 _ (by omega) (h0.below hB4 (Nat.le_refl _))).mono ?_
  rintro e w5 ⟨Ay0, cy0, rfl, oy05, hb5⟩
  have lty0 := Lib.hid oy05.lt
  have hB5 := hB4.trans (hb5.mono hB4.size)
  have hz5 := hb5.size
  have ox05 := ox04.below hb5 (Nat.le_refl _)
  clear ox04
  go_wp2_with fail
  refine (eqSolvedS_same Ax0 Ay0 _ cx0 cy0 l0 _ rfl (by omega) ox05.rd oy05.rd).mono ?_
  rintro e w6 ⟨rfl, hb6⟩
  have hB6 := hB5.trans (hb6.mono hB5.size)
  have hz6 := hb6.size
  have ox06 := ox05.below hb6 (Nat.le_refl _)
  clear ox05
  have oy06 := oy05.below hb6 (Nat.le_refl _)
  clear oy05
  clear oy06 lty0
  go_wp2_with fail
  go_ret
  exact ⟨rfl, hB6⟩

set_option maxRecDepth 100000 in
theorem fnExactNeededRight_lifted (os : Os) (started : os.Started) (H : Type) (enc : TypeId × Value → H) :
    ReturnsInHanded {} Try.checked os 9 .any (Rows.fnExactNeededRightSpec.pre6 enc Try.prog Try.f9 Rows.fnExactNeededRightRow.domain false) (Rows.fnExactNeededRightSpec.post enc Try.prog Try.f9 false true false false) := by
  refine returnsInHanded_of_change (C := Try.checked) ownk started (by kernel_rfl) Try.func9
    (ChangeSpec.witness6 (enc := enc) (C := Try.checked) false ⟨#[], #[.slice none 0 0, .int .i64 0], []⟩ 8 (by kernel_rfl) (by kernel_rfl) (by kernel_rfl) (by kernel_rfl)) ?_
  intro W base args ds gs before hval0 hW _ _
  have hval : ∀ (j : Nat) t v, Try.f9.params[j]? = some t → args[j]? = some v → Value.okWide Try.prog W .any base t v := hval0
  have hW' := hW
  obtain ⟨p, q, hA0, hV, rfl, _, _⟩ := hW
  have hA : DataW.TrodAll enc Try.prog W 0 (fun _ => true) true Try.f9.params.toList args.toList ds p := hA0
  rw [Try.params9] at hA hval
  obtain ⟨rfl, rfl⟩ := trodVars_none hV
  simp only [List.append_nil] at hW'
  clear hA0 hval0
  have hargs : ∀ W' : World, Below W.heap.size W W' → DataW.TrodAll enc Try.prog W' 0 (fun b => decide (b < W.heap.size)) true [30, 3] args.toList ds p := fun W' hb => trodAll_below laid_out hb _ _ _ _ (by kernel_rfl) hA (fun x hx => hW'.lt x hx)
  obtain ⟨v0, vs0, d0, ds0, p0, q0, hx, rfl, rfl, h0, r0'⟩ := trodAll_cons hA
  obtain ⟨v1, vs1, d1, ds1, p1, q1, rfl, rfl, rfl, h1, r1'⟩ := trodAll_cons r0'
  obtain ⟨rfl, rfl, rfl⟩ := trodAll_nil r1'
  obtain rfl : args = #[v0, v1] := by cases args; simp_all
  obtain ⟨A0, c0, l0, rfl, m0, r0⟩ := open_rows solvedL (by kernel_rfl) (dec_solved W enc) (hval 0 30 v0 rfl rfl) h0
  obtain ⟨a1, rfl, rfl, rfl, w1⟩ := open_int Try.underlying3 (hval 1 3 v1 rfl rfl) h1
  refine (fnExactNeededRight_walk W A0 c0 l0 m0 r0 a1 w1).mono fun e W' ⟨he, hb⟩ => ?_
  subst he
  exact ⟨_, rfl, _, _, _, [], _, [], hW', trodAll_mk1 (shut_bool Try.underlying4 _), hargs W' hb, rfl, hb.frame _, fun h => by cases h⟩
theorem fnExactNeededRight_proved : Rows.FnExactNeededRightSaid :=
  OpenClaim.holds_of_wide 9 Try.f9 rfl rfl rfl rfl rfl rfl rfl ⟨rfl, rfl, rfl, rfl, rfl⟩ rfl rfl rfl rfl rfl (by kernel_rfl) Try.func9 (by kernel_rfl)
    (of_decide_eq_true (by kernel_rfl)) (by unfold Func.isWrapper; first | (rw [if_pos (by decide +kernel)]; kernel_rfl) | (rw [if_neg (by decide +kernel)]; exact ⟨rfl, rfl⟩))
    (fun os started H enc _ => fnExactNeededRight_lifted os started H enc)
#print axioms fnExactNeededRight_proved
end Go.Proofs.Ytcbecfkckdalmaa
