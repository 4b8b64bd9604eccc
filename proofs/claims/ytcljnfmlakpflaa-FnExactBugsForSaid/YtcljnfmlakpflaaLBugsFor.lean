/-
  The law FnExactBugsFor: for all numbers the program returns what the reference returns. No condition.
-/
import Derived.Test.YtcljnfmlakpflaaBugF
import Derived.Test.YtcljnfmlakpflaaFrame
namespace Go.Proofs.Ytcljnfmlakpflaa
open Go.ChangeShapes Go.WideShapes Go.ChangeAt Go.RowKit

set_option maxRecDepth 100000 in
set_option maxHeartbeats 4000000 in
theorem fnExactBugsFor_walk (w : World) (a0 : Int) (_w0 : (Lit.int .i64 a0).wf = true) (a1 : Int) (_w1 : (Lit.int .i64 a1).wf = true) (a2 : Int) (_w2 : (Lit.int .i64 a2).wf = true) :
    Calls Try.prog 8 #[.int .i64 a0, .int .i64 a1, .int .i64 a2] w fun e w' => e = .returned (.bool true) ∧ Below w.heap.size w w' := by
  have hS := fun  (W : World)  => bugsForS_any a0 a1 a2 W 
  have hI := fun  (W : World)  => bugsForI_any a0 a1 a2 W 
  have hlen := baV_len [(a0, a1, a2)]
  generalize baV [(a0, a1, a2)] = res at *
  generalize listB [(a0, a1, a2)] = ok at *
  have HS := Lib.hid hS
  have HI := Lib.hid hI
  clear hS hI
  go_enter Try.func8, Try.ntmps8
  have hB0 : Below w.heap.size w w := Below.refl _ _
  go_wp2_with fail
  refine (HS.out  _ ).mono ?_
  rintro e w1 ⟨AW, cW, rfl, oW1, hb1⟩
  have ltW := Lib.hid oW1.lt
  have hB1 := hB0.trans (hb1.mono hB0.size)
  have hz1 := hb1.size
  go_wp2_with fail
  refine (HI.out  _ ).mono ?_
  rintro e w2 ⟨AG, cG, rfl, oG2, hb2⟩
  have ltG := Lib.hid oG2.lt
  have hB2 := hB1.trans (hb2.mono hB1.size)
  have hz2 := hb2.size
  have oW2 := oW1.below hb2 (Nat.le_refl _)
  clear oW1
  go_wp2_with fail
  refine (eqIntS_same AG AW _ cG cW res _ rfl (by omega) oG2.rd oW2.rd).mono ?_
  rintro e w3 ⟨rfl, hb3⟩
  have hB3 := hB2.trans (hb3.mono hB2.size)
  have hz3 := hb3.size
  have oW3 := oW2.below hb3 (Nat.le_refl _)
  clear oW2
  have oG3 := oG2.below hb3 (Nat.le_refl _)
  clear oG2
  go_wp2_with fail
  refine (markIntS_ok _ AG cG res _ _ (by omega) (by omega) (by omega) oG3).mono ?_
  rintro e w4 ⟨rfl, oG4, gr4⟩
  have hB4 := below_gr hB3 gr4 (by omega) (fun k hk => by have := ltG.out k hk; omega)
  have hz4 := gr4.size
  clear oG3
  have oW4 := oW3.kept gr4 (apart_of (B := w1.heap.size) (fun k hk => by have := ltW.out k hk; omega) (fun k hk => by have := ltG.out k hk; omega))
  clear oW3
  go_wp2_with fail
  refine (heldIntS_ok AG res.length cG 1 _ (by omega) (by omega) (by omega) (by have := oG4.rd; exact this)).mono ?_
  rintro e w5' ⟨rfl, rfl⟩
  go_wp2_with fail
  refine (HI.out  _ ).mono ?_
  rintro e w5 ⟨AH, cH, rfl, oH5, hb5⟩
  have ltH := Lib.hid oH5.lt
  have hB5 := hB4.trans (hb5.mono hB4.size)
  have hz5 := hb5.size
  have oW5 := oW4.below hb5 (Nat.le_refl _)
  clear oW4
  have oG5 := oG4.below hb5 (Nat.le_refl _)
  clear oG4
  go_wp2_with fail
  refine (eqIntS_same AH AW _ cH cW res _ rfl (by omega) oH5.rd oW5.rd).mono ?_
  rintro e w6 ⟨rfl, hb6⟩
  have hB6 := hB5.trans (hb6.mono hB5.size)
  have hz6 := hb6.size
  have oW6 := oW5.below hb6 (Nat.le_refl _)
  clear oW5
  have oG6 := oG5.below hb6 (Nat.le_refl _)
  clear oG5
  have oH6 := oH5.below hb6 (Nat.le_refl _)
  clear oH5
  go_wp2_with fail
  refine (heldIntS_ok AG res.length cG 1 _ (by omega) (by omega) (by omega) (by have := oG6.rd; exact this)).mono ?_
  rintro e w7' ⟨rfl, rfl⟩
  go_wp2_with fail
  go_ret
  exact ⟨rfl, hB6⟩

set_option maxRecDepth 100000 in
theorem fnExactBugsFor_lifted (os : Os) (started : os.Started) (H : Type) (enc : TypeId × Value → H) :
    ReturnsInHanded {} Try.checked os 8 .any (Rows.fnExactBugsForSpec.pre6 enc Try.prog Try.f8 Rows.fnExactBugsForRow.domain false) (Rows.fnExactBugsForSpec.post enc Try.prog Try.f8 false true false false) := by
  refine returnsInHanded_of_change (C := Try.checked) ownk started (by kernel_rfl) Try.func8
    (ChangeSpec.witness6 (enc := enc) (C := Try.checked) false ⟨#[], #[.int .i64 0, .int .i64 0, .int .i64 0], []⟩ 8 (by kernel_rfl) (by kernel_rfl) (by kernel_rfl) (by kernel_rfl)) ?_
  intro W base args ds gs before hval0 hW _ _
  have hval : ∀ (j : Nat) t v, Try.f8.params[j]? = some t → args[j]? = some v → Value.okWide Try.prog W .any base t v := hval0
  have hW' := hW
  obtain ⟨p, q, hA0, hV, rfl, _, _⟩ := hW
  have hA : DataW.TrodAll enc Try.prog W 0 (fun _ => true) true Try.f8.params.toList args.toList ds p := hA0
  rw [Try.params8] at hA hval
  obtain ⟨rfl, rfl⟩ := trodVars_none hV
  simp only [List.append_nil] at hW'
  clear hA0 hval0
  have hargs : ∀ W' : World, Below W.heap.size W W' → DataW.TrodAll enc Try.prog W' 0 (fun b => decide (b < W.heap.size)) true [3, 3, 3] args.toList ds p := fun W' hb => trodAll_below laid_out hb _ _ _ _ (by kernel_rfl) hA (fun x hx => hW'.lt x hx)
  obtain ⟨v0, vs0, d0, ds0, p0, q0, hx, rfl, rfl, h0, r0'⟩ := trodAll_cons hA
  obtain ⟨v1, vs1, d1, ds1, p1, q1, rfl, rfl, rfl, h1, r1'⟩ := trodAll_cons r0'
  obtain ⟨v2, vs2, d2, ds2, p2, q2, rfl, rfl, rfl, h2, r2'⟩ := trodAll_cons r1'
  obtain ⟨rfl, rfl, rfl⟩ := trodAll_nil r2'
  obtain rfl : args = #[v0, v1, v2] := by cases args; simp_all
  obtain ⟨a0, rfl, rfl, rfl, w0⟩ := open_int Try.underlying3 (hval 0 3 v0 rfl rfl) h0
  obtain ⟨a1, rfl, rfl, rfl, w1⟩ := open_int Try.underlying3 (hval 1 3 v1 rfl rfl) h1
  obtain ⟨a2, rfl, rfl, rfl, w2⟩ := open_int Try.underlying3 (hval 2 3 v2 rfl rfl) h2
  refine (fnExactBugsFor_walk W a0 w0 a1 w1 a2 w2).mono fun e W' ⟨he, hb⟩ => ?_
  subst he
  exact ⟨_, rfl, _, _, _, [], _, [], hW', trodAll_mk1 (shut_bool Try.underlying4 _), hargs W' hb, rfl, hb.frame _, fun h => by cases h⟩
theorem fnExactBugsFor_proved : Rows.FnExactBugsForSaid :=
  OpenClaim.holds_of_wide 8 Try.f8 rfl rfl rfl rfl rfl rfl rfl ⟨rfl, rfl, rfl, rfl, rfl⟩ rfl rfl rfl rfl rfl (by kernel_rfl) Try.func8 (by kernel_rfl)
    (of_decide_eq_true (by kernel_rfl)) (by unfold Func.isWrapper; first | (rw [if_pos (by decide +kernel)]; kernel_rfl) | (rw [if_neg (by decide +kernel)]; exact ⟨rfl, rfl⟩))
    (fun os started H enc _ => fnExactBugsFor_lifted os started H enc)
#print axioms fnExactBugsFor_proved
end Go.Proofs.Ytcljnfmlakpflaa
