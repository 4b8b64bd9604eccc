/-
  The law FnExactExhibitText: for every exhibit the program returns what the reference returns. No condition.
-/
import Derived.Test.YthoejiepaackhaaMusM
import Derived.Test.YthoejiepaackhaaFrameExhibit
namespace Go.Proofs.Ythoejiepaackhaa
open Go.ChangeShapes Go.WideShapes Go.ChangeAt Go.RowKit

set_option maxRecDepth 100000 in
set_option maxHeartbeats 4000000 in
theorem fnExactExhibitText_walk (w : World) (x0 : ExhibitV) (ho0 : x0.okw) :
    Calls Try.prog 5 #[.agg #[.int .i64 x0.id_, .string x0.land, .int .i64 x0.made, .int .i64 x0.upper, .int .i64 x0.lower, .int .i64 x0.rods, .int .i64 x0.case_]] w fun e w' => e = .returned (.bool true) ∧ Below w.heap.size w w' := by
  have hw0 : x0.land.size ≤ 9223372036854775807 := by have h : x0.land.size ≤ maxLen := ho0; unfold maxLen at h; omega
  go_enter Try.func5, Try.ntmps5
  have hB0 : Below w.heap.size w (w.alloc (.cells #[.int .i64 x0.id_, .string x0.land, .int .i64 x0.made, .int .i64 x0.upper, .int .i64 x0.lower, .int .i64 x0.rods, .int .i64 x0.case_] 23)) := (Below.refl _ _).alloc (Nat.le_refl _) _
  have hA0 : Below (w.alloc (.cells #[.int .i64 x0.id_, .string x0.land, .int .i64 x0.made, .int .i64 x0.upper, .int .i64 x0.lower, .int .i64 x0.rods, .int .i64 x0.case_] 23)).heap.size (w.alloc (.cells #[.int .i64 x0.id_, .string x0.land, .int .i64 x0.made, .int .i64 x0.upper, .int .i64 x0.lower, .int .i64 x0.rods, .int .i64 x0.case_] 23)) (w.alloc (.cells #[.int .i64 x0.id_, .string x0.land, .int .i64 x0.made, .int .i64 x0.upper, .int .i64 x0.lower, .int .i64 x0.rods, .int .i64 x0.case_] 23)) := Below.refl _ _
  go_wp2_with fail
  by_cases hv0 : (1048576 : Int) < x0.land.size
  · refine (szExhibit_lt x0.id_ x0.land x0.made x0.upper x0.lower x0.rods x0.case_ _ _ (by omega) (by omega) hw0 hv0).mono ?_
    rintro e w1 ⟨rfl, hb1⟩
    go_wp2_with fail
    go_ret
    exact ⟨rfl, hB0.trans (hb1.mono (by have := hB0.size; first | exact this | (simp; omega)))⟩
  have hk0 : x0.ok := by show x0.land.size ≤ 1048576; omega
  refine (szExhibit_ge x0.id_ x0.land x0.made x0.upper x0.lower x0.rods x0.case_ _ _ (by omega) (by omega) hw0 hv0).mono ?_
  rintro e w1 ⟨rfl, hb1⟩
  have hB1 := hB0.trans (hb1.mono hB0.size)
  have hz1 := hb1.size
  have hA1 := hA0.trans (hb1.mono hA0.size)
  have hbx1 := (box_cells hA1).2
  obtain ⟨r0, er0⟩ : ∃ r : Int, r = 1048576 - x0.land.size := ⟨_, rfl⟩
  have hr0 : 0 ≤ r0 ∧ r0 ≤ 1048576 := by omega
  rw [← er0]
  clear er0
  have hS := fun  (W : World)  => etS_any x0 W hk0
  have hI := fun  (W : World)  => etI_any x0 W hk0
  generalize etV x0 = r0x at *
  generalize exhB x0 = r1x at *
  have HS := Lib.hid hS
  have HI := Lib.hid hI
  clear hS hI
  go_wp2_with fail
  refine (toExhibit_any x0.id_ x0.land x0.made x0.upper x0.lower x0.rods x0.case_ _).mono ?_
  rintro e w2 ⟨rfl, hb2⟩
  have hB2 := hB1.trans (hb2.mono hB1.size)
  have hz2 := hb2.size
  have hA2 := hA1.trans (hb2.mono hA1.size)
  clear hbx1
  have hbx2 := (box_cells hA2).2
  go_wp2_with fail
  refine (HS.out  _ ).mono ?_
  rintro e w3 ⟨rfl, hb3⟩
  have hB3 := hB2.trans (hb3.mono hB2.size)
  have hz3 := hb3.size
  have hA3 := hA2.trans (hb3.mono hA2.size)
  clear hbx2
  have hbx3 := (box_cells hA3).2
  go_wp2_with fail
  refine (toExhibit_any x0.id_ x0.land x0.made x0.upper x0.lower x0.rods x0.case_ _).mono ?_
  rintro e w4 ⟨rfl, hb4⟩
  have hB4 := hB3.trans (hb4.mono hB3.size)
  have hz4 := hb4.size
  have hA4 := hA3.trans (hb4.mono hA3.size)
  clear hbx3
  have hbx4 := (box_cells hA4).2
  go_wp2_with fail
  refine (HI.out  _ ).mono ?_
  rintro e w5 ⟨rfl, hb5⟩
  have hB5 := hB4.trans (hb5.mono hB4.size)
  have hz5 := hb5.size
  have hA5 := hA4.trans (hb5.mono hA4.size)
  clear hbx4
  have hbx5 := (box_cells hA5).2
  go_wp2_with fail
  go_ret
  exact ⟨rfl, hB5⟩

set_option maxRecDepth 100000 in
theorem fnExactExhibitText_lifted (os : Os) (started : os.Started) (H : Type) (enc : TypeId × Value → H) :
    ReturnsInHanded {} Try.checked os 5 .any (Rows.fnExactExhibitTextSpec.pre6 enc Try.prog Try.f5 Rows.fnExactExhibitTextRow.domain false) (Rows.fnExactExhibitTextSpec.post enc Try.prog Try.f5 false true false false) := by
  refine returnsInHanded_of_change (C := Try.checked) ownk started (by kernel_rfl) Try.func5
    (ChangeSpec.witness6 (enc := enc) (C := Try.checked) false ⟨#[], #[.agg #[.int .i64 0, .string ByteArray.empty, .int .i64 0, .int .i64 0, .int .i64 0, .int .i64 0, .int .i64 0]], []⟩ 8 (by kernel_rfl) (by kernel_rfl) (by kernel_rfl) (by kernel_rfl)) ?_
  intro W base args ds gs before hval0 hW _ _
  have hval : ∀ (j : Nat) t v, Try.f5.params[j]? = some t → args[j]? = some v → Value.okWide Try.prog W .any base t v := hval0
  have hW' := hW
  obtain ⟨p, q, hA0, hV, rfl, _, _⟩ := hW
  have hA : DataW.TrodAll enc Try.prog W 0 (fun _ => true) true Try.f5.params.toList args.toList ds p := hA0
  rw [Try.params5] at hA hval
  obtain ⟨rfl, rfl⟩ := trodVars_none hV
  simp only [List.append_nil] at hW'
  clear hA0 hval0
  have hargs : ∀ W' : World, Below W.heap.size W W' → DataW.TrodAll enc Try.prog W' 0 (fun b => decide (b < W.heap.size)) true [23] args.toList ds p := fun W' hb => trodAll_below laid_out hb _ _ _ _ (by kernel_rfl) hA (fun x hx => hW'.lt x hx)
  obtain ⟨v0, vs0, d0, ds0, p0, q0, hx, rfl, rfl, h0, r0'⟩ := trodAll_cons hA
  obtain ⟨rfl, rfl, rfl⟩ := trodAll_nil r0'
  obtain rfl : args = #[v0] := by cases args; simp_all
  obtain ⟨x0, rfl, o0⟩ := open_exhibit W enc (hval 0 23 v0 rfl rfl) h0
  refine (fnExactExhibitText_walk W x0 o0).mono fun e W' ⟨he, hb⟩ => ?_
  subst he
  exact ⟨_, rfl, _, _, _, [], _, [], hW', trodAll_mk1 (shut_bool Try.underlying4 _), hargs W' hb, rfl, hb.frame _, fun h => by cases h⟩
theorem fnExactExhibitText_proved : Rows.FnExactExhibitTextSaid :=
  OpenClaim.holds_of_wide 5 Try.f5 rfl rfl rfl rfl rfl rfl rfl ⟨rfl, rfl, rfl, rfl, rfl⟩ rfl rfl rfl rfl rfl (by kernel_rfl) Try.func5 (by kernel_rfl)
    (of_decide_eq_true (by kernel_rfl)) (by unfold Func.isWrapper; first | (rw [if_pos (by decide +kernel)]; kernel_rfl) | (rw [if_neg (by decide +kernel)]; exact ⟨rfl, rfl⟩))
    (fun os started H enc _ => fnExactExhibitText_lifted os started H enc)
#print axioms fnExactExhibitText_proved
end Go.Proofs.Ythoejiepaackhaa
