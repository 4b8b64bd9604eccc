/-
  The columns that carry and the chains: what the program returns and what the reference returns are the same. FnExactCarryColumns and FnExactChainOf, for every two numbers.
-/
import Derived.Test.YtlmcnlakgjhalaaExB
import Derived.Test.YtlmcnlakgjhalaaFrame
namespace Go.Proofs.Ytlmcnlakgjhalaa
open Go.ChangeShapes Go.WideShapes Go.ChangeAt Go.RowKit

def colsR (a b : Int) : List Int := if exB a b = true then cols a b 4 else []
theorem colsR_len (a b : Int) : (colsR a b).length ≤ 4 := by
  unfold colsR
  split
  · exact cols_len _ _ _
  · simp
set_option maxHeartbeats 400000 in
theorem carryColumns_any (a b : Int) (w : World) : Calls Try.prog 19 #[.int .i64 a, .int .i64 b] w (RetI w (colsR a b) (exB a b)) := by
  cases hx : exB a b
  · have e : colsR a b = [] := if_neg (by simp [hx])
    rw [e]
    go_enter Try.func19, Try.ntmps19
    go_wp2_with (go_at_call 61; refine (isExercise_any _ _ _).mono ?_; rintro e w' ⟨rfl, rfl⟩)
    go_ret2
    exact ⟨_, _, rfl, OwnI.nil _ _, Below.refl _ _⟩
  · have e : colsR a b = cols a b 4 := if_pos hx
    rw [e]
    obtain ⟨⟨ha, ha'⟩, hb, hb'⟩ := (exB_iff _ _).1 hx
    go_enter Try.func19, Try.ntmps19
    go_wp2_with (first | (go_at_call 61; refine (isExercise_any _ _ _).mono ?_; rintro e w' ⟨rfl, rfl⟩) | (go_at_call 56; refine (carry_any a b _ ha ha' hb hb').mono ?_; rintro e w1 ⟨A, c, rfl, hown, hbl⟩))
    go_ret2
    exact ⟨A, c, rfl, hown, hbl⟩
set_option maxHeartbeats 400000 in
theorem carryColumns2_any (a b : Int) (w : World) : Calls Try.prog 18 #[.int .i64 a, .int .i64 b] w (RetI w (colsR a b) (exB a b)) := by
  cases hx : exB a b
  · have e : colsR a b = [] := if_neg (by simp [hx])
    rw [e]
    go_enter Try.func18, Try.ntmps18
    go_wp2_with (go_at_call 60; refine (l20Good_any _ _ _).mono ?_; rintro e w' ⟨rfl, rfl⟩)
    go_ret2
    exact ⟨_, _, rfl, OwnI.empty _ _ (Nat.le_refl _), (Below.refl _ _).alloc (Nat.le_refl _) _⟩
  · have e : colsR a b = cols a b 4 := if_pos hx
    rw [e]
    obtain ⟨⟨ha, ha'⟩, hb, hb'⟩ := (exB_iff _ _).1 hx
    go_enter Try.func18, Try.ntmps18
    go_wp2_with (first | (go_at_call 60; refine (l20Good_any _ _ _).mono ?_; rintro e w' ⟨rfl, rfl⟩) | (go_at_call 53; refine (columns_any a b _ ha ha' hb hb').mono ?_; rintro e w1 ⟨A, c, rfl, hown, hbl⟩))
    go_ret2
    exact ⟨A, c, rfl, hown, hbl⟩

set_option maxHeartbeats 1000000 in
theorem fnExactCarryColumns_walk (w : World) (a : Int) (_ : (Lit.int .i64 a).wf = true) (b : Int) (_ : (Lit.int .i64 b).wf = true) :
    Calls Try.prog 5 #[.int .i64 a, .int .i64 b] w fun e w' => e = .returned (.bool true) ∧ Below w.heap.size w w' := by
  have hS := fun W => carryColumns2_any a b W
  have hI := fun W => carryColumns_any a b W
  have hn := colsR_len a b
  generalize colsR a b = l at *
  generalize exB a b = ok at *
  have HS := Lib.hid hS
  have HI := Lib.hid hI
  clear hS hI
  go_enter Try.func5, Try.ntmps5
  go_wp2_with fail
  refine (HS.out _).mono ?_
  rintro e w1 ⟨A1, c1, rfl, hown1, hb1⟩
  go_wp2_with fail
  refine (HI.out _).mono ?_
  rintro e w2 ⟨A2, c2, rfl, hown2, hb2⟩
  go_wp2_with fail
  refine (eqIntS_same A2 A1 _ c2 c1 l _ rfl (by omega) hown2.rd (hown1.below hb2 (Nat.le_refl _)).rd).mono ?_
  rintro e w3 ⟨rfl, hb3⟩
  go_wp2_with fail
  refine (markIntS_ok _ A2 c2 l 1 _ (by omega) (by omega) (by omega) (hown2.below hb3 (Nat.le_refl _))).mono ?_
  rintro e w4 ⟨rfl, hown4, hgr4⟩
  have hown14 := ((hown1.below hb2 (Nat.le_refl _)).below hb3 (Nat.le_refl _)).kept hgr4 (apart_of (fun k hk => (hown1.lt k hk).2) (fun k hk => (hown2.lt k hk).1))
  have hb4 := below_gr (hb1.trans ((hb2.mono hb1.size).trans (hb3.mono (Nat.le_trans hb1.size hb2.size)))) hgr4 (by have := hb1.size; have := hb2.size; have := hb3.size; omega) (fun k hk => by have := (hown2.lt k hk).1; have := hb1.size; omega)
  go_wp2_with fail
  refine (heldIntS_ok A2 l.length c2 1 _ (by omega) (by omega) (by omega) (by have := hown4.rd; exact this)).mono ?_
  rintro e w5 ⟨rfl, rfl⟩
  go_wp2_with fail
  refine (HI.out _).mono ?_
  rintro e w6 ⟨A6, c6, rfl, hown6, hb6⟩
  go_wp2_with fail
  refine (eqIntS_same A6 A1 _ c6 c1 l _ rfl (by omega) hown6.rd (hown14.below hb6 (Nat.le_refl _)).rd).mono ?_
  rintro e w7 ⟨rfl, hb7⟩
  go_wp2_with fail
  refine (heldIntS_ok A2 l.length c2 1 _ (by omega) (by omega) (by omega) (by have := ((hown4.below hb6 (Nat.le_refl _)).below hb7 (Nat.le_refl _)).rd; exact this)).mono ?_
  rintro e w8 ⟨rfl, rfl⟩
  go_wp2_with fail
  go_ret
  exact ⟨rfl, hb4.trans ((hb6.mono hb4.size).trans (hb7.mono (Nat.le_trans hb4.size hb6.size)))⟩

set_option maxRecDepth 100000 in
theorem fnExactCarryColumns_lifted (os : Os) (started : os.Started) (H : Type) (enc : TypeId × Value → H) :
    ReturnsInHanded {} Try.checked os 5 .any (Rows.fnExactCarryColumnsSpec.pre6 enc Try.prog Try.f5 Rows.fnExactCarryColumnsRow.domain false) (Rows.fnExactCarryColumnsSpec.post enc Try.prog Try.f5 false true false false) := by
  refine returnsInHanded_of_change (C := Try.checked) ownk started (by kernel_rfl) Try.func5
    (ChangeSpec.witness6 (enc := enc) (C := Try.checked) false ⟨#[], #[.int .i64 0, .int .i64 0], []⟩ 8 (by kernel_rfl) (by kernel_rfl) (by kernel_rfl) (by kernel_rfl)) ?_
  intro W base args ds gs before hval0 hW _ _
  have hval : ∀ (j : Nat) t v, Try.f5.params[j]? = some t → args[j]? = some v → Value.okWide Try.prog W .any base t v := hval0
  have hW' := hW
  obtain ⟨p, q, hA0, hV, rfl, _, _⟩ := hW
  have hA : DataW.TrodAll enc Try.prog W 0 (fun _ => true) true Try.f5.params.toList args.toList ds p := hA0
  rw [Try.params5] at hA hval
  obtain ⟨rfl, rfl⟩ := trodVars_none hV
  simp only [List.append_nil] at hW'
  clear hA0 hval0
  have hargs : ∀ W' : World, Below W.heap.size W W' → DataW.TrodAll enc Try.prog W' 0 (fun b => decide (b < W.heap.size)) true [3, 3] args.toList ds p := fun W' hb => trodAll_below laid_out hb _ _ _ _ (by kernel_rfl) hA (fun x hx => hW'.lt x hx)
  obtain ⟨v0, vs0, d0, ds0, p0, q0, hx, rfl, rfl, h0, r0'⟩ := trodAll_cons hA
  obtain ⟨v1, vs1, d1, ds1, p1, q1, rfl, rfl, rfl, h1, r1'⟩ := trodAll_cons r0'
  obtain ⟨rfl, rfl, rfl⟩ := trodAll_nil r1'
  obtain rfl : args = #[v0, v1] := by cases args; simp_all
  obtain ⟨a0, rfl, rfl, rfl, w0⟩ := open_int Try.underlying3 (hval 0 3 v0 rfl rfl) h0
  obtain ⟨a1, rfl, rfl, rfl, w1⟩ := open_int Try.underlying3 (hval 1 3 v1 rfl rfl) h1
  refine (fnExactCarryColumns_walk W a0 w0 a1 w1).mono fun e W' ⟨he, hb⟩ => ?_
  subst he
  exact ⟨_, rfl, _, _, _, [], _, [], hW', trodAll_mk1 (shut_bool Try.underlying4 _), hargs W' hb, rfl, hb.frame _, fun h => by cases h⟩
theorem fnExactCarryColumns_proved : Rows.FnExactCarryColumnsSaid :=
  OpenClaim.holds_of_wide 5 Try.f5 rfl rfl rfl rfl rfl rfl rfl ⟨rfl, rfl, rfl, rfl, rfl⟩ rfl rfl rfl rfl rfl (by kernel_rfl) Try.func5 (by kernel_rfl)
    (of_decide_eq_true (by kernel_rfl)) (by unfold Func.isWrapper; first | (rw [if_pos (by decide +kernel)]; kernel_rfl) | (rw [if_neg (by decide +kernel)]; exact ⟨rfl, rfl⟩))
    (fun os started H enc _ => fnExactCarryColumns_lifted os started H enc)
#print axioms fnExactCarryColumns_proved
end Go.Proofs.Ytlmcnlakgjhalaa
