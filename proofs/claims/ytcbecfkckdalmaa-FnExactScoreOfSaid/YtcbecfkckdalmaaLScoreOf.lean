/-
  The law FnExactScoreOf: for every row the program returns what the reference returns. No condition.
-/
import Derived.Test.YtcbecfkckdalmaaConC
import Derived.Test.YtcbecfkckdalmaaFrameSolved
namespace Go.Proofs.Ytcbecfkckdalmaa
open Go.ChangeShapes Go.WideShapes Go.ChangeAt Go.RowKit

set_option maxHeartbeats 1600000 in
theorem fnExactScoreOf_walk (w : World) (x : SolvedV) (_ : True) :
    Calls Try.prog 4 #[.agg #[.int .i64 x.pupil, .int .i64 x.heat, .int .i64 x.right, .int .i64 x.wrong, .int .i64 x.time]] w fun e w' => e = .returned (.bool true) ∧ Below w.heap.size w w' := by
  obtain ⟨p, h, r, q, t⟩ := x
  have hS := fun W => scoreOfS_any p h r q t W
  have hI := fun W => scoreOfI_any p h r q t W
  generalize solvedB ⟨p, h, r, q, t⟩ = ok at *
  generalize scoreV ⟨p, h, r, q, t⟩ = n at *
  have HS := Lib.hid hS
  have HI := Lib.hid hI
  clear hS hI
  go_enter Try.func4, Try.ntmps4
  go_wp2_with fail
  refine (toSolved_any p h r q t _).mono ?_
  rintro e w1 ⟨rfl, hb1⟩
  have hB1 : Below (w.heap.size + 1) (w.alloc (.cells #[.int .i64 p, .int .i64 h, .int .i64 r, .int .i64 q, .int .i64 t] 23)) w1 := hb1.mono (by simp)
  go_wp2_with fail
  refine (HS.out _).mono ?_
  rintro e w2 ⟨rfl, hb2⟩
  have hB2 := hB1.trans (hb2.mono (by have := hb1.size; simp at this; omega))
  have hbx := (box_cells (hB2.mono (by simp))).2
  go_wp2_with fail
  refine (toSolved_any p h r q t _).mono ?_
  rintro e w3 ⟨rfl, hb3⟩
  have hB3 := hB2.trans (hb3.mono (by have := hB2.size; simp at this; omega))
  go_wp2_with fail
  refine (HI.out _).mono ?_
  rintro e w4 ⟨rfl, hb4⟩
  have hB4 := hB3.trans (hb4.mono (by have := hB3.size; simp at this; omega))
  go_wp2_with fail
  go_ret
  exact ⟨rfl, ((Below.refl _ _).alloc (Nat.le_refl _) _).trans (hB4.mono (by omega))⟩

set_option maxRecDepth 100000 in
theorem fnExactScoreOf_lifted (os : Os) (started : os.Started) (H : Type) (enc : TypeId × Value → H) :
    ReturnsInHanded {} Try.checked os 4 .any (Rows.fnExactScoreOfSpec.pre6 enc Try.prog Try.f4 Rows.fnExactScoreOfRow.domain false) (Rows.fnExactScoreOfSpec.post enc Try.prog Try.f4 false true false false) := by
  refine returnsInHanded_of_change (C := Try.checked) ownk started (by kernel_rfl) Try.func4
    (ChangeSpec.witness6 (enc := enc) (C := Try.checked) false ⟨#[], #[.agg #[.int .i64 0, .int .i64 0, .int .i64 0, .int .i64 0, .int .i64 0]], []⟩ 8 (by kernel_rfl) (by kernel_rfl) (by kernel_rfl) (by kernel_rfl)) ?_
  intro W base args ds gs before hval0 hW _ _
  have hval : ∀ (j : Nat) t v, Try.f4.params[j]? = some t → args[j]? = some v → Value.okWide Try.prog W .any base t v := hval0
  have hW' := hW
  obtain ⟨p, q, hA0, hV, rfl, _, _⟩ := hW
  have hA : DataW.TrodAll enc Try.prog W 0 (fun _ => true) true Try.f4.params.toList args.toList ds p := hA0
  rw [Try.params4] at hA hval
  obtain ⟨rfl, rfl⟩ := trodVars_none hV
  simp only [List.append_nil] at hW'
  clear hA0 hval0
  have hargs : ∀ W' : World, Below W.heap.size W W' → DataW.TrodAll enc Try.prog W' 0 (fun b => decide (b < W.heap.size)) true [23] args.toList ds p := fun W' hb => trodAll_below laid_out hb _ _ _ _ (by kernel_rfl) hA (fun x hx => hW'.lt x hx)
  obtain ⟨v0, vs0, d0, ds0, p0, q0, hx, rfl, rfl, h0, r0'⟩ := trodAll_cons hA
  obtain ⟨rfl, rfl, rfl⟩ := trodAll_nil r0'
  obtain rfl : args = #[v0] := by cases args; simp_all
  obtain ⟨x0, rfl, r0⟩ := open_solved W enc (hval 0 23 v0 rfl rfl) h0
  refine (fnExactScoreOf_walk W x0 r0).mono fun e W' ⟨he, hb⟩ => ?_
  subst he
  exact ⟨_, rfl, _, _, _, [], _, [], hW', trodAll_mk1 (shut_bool Try.underlying4 _), hargs W' hb, rfl, hb.frame _, fun h => by cases h⟩
theorem fnExactScoreOf_proved : Rows.FnExactScoreOfSaid :=
  OpenClaim.holds_of_wide 4 Try.f4 rfl rfl rfl rfl rfl rfl rfl ⟨rfl, rfl, rfl, rfl, rfl⟩ rfl rfl rfl rfl rfl (by kernel_rfl) Try.func4 (by kernel_rfl)
    (of_decide_eq_true (by kernel_rfl)) (by unfold Func.isWrapper; first | (rw [if_pos (by decide +kernel)]; kernel_rfl) | (rw [if_neg (by decide +kernel)]; exact ⟨rfl, rfl⟩))
    (fun os started H enc _ => fnExactScoreOf_lifted os started H enc)
#print axioms fnExactScoreOf_proved
end Go.Proofs.Ytcbecfkckdalmaa
