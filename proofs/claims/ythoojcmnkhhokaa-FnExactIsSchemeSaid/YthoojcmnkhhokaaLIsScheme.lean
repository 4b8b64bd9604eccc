/-
  The law FnExactIsScheme: for every scheme the program returns what the reference returns. No condition.
-/
import Derived.Test.YthoojcmnkhhokaaGraB
import Derived.Test.YthoojcmnkhhokaaFramePart
namespace Go.Proofs.Ythoojcmnkhhokaa
set_option maxRecDepth 100000
open Go.ChangeShapes Go.WideShapes Go.ChangeAt Go.RowKit

set_option maxRecDepth 100000 in
set_option maxHeartbeats 4000000 in
theorem fnExactIsScheme_walk (w : World) (A0 : Option Addr) (c0 : Nat) (l0 : List (PartV)) (hm0 : l0.length ≤ maxLen) (ho0 : ∀ x ∈ l0, x.okw) (h0 : RdT partL w A0 l0) :
    Calls Try.prog 3 #[.slice A0 l0.length c0] w fun e w' => e = .returned (.bool true) ∧ Below w.heap.size w w' := by
  go_enter Try.func3, Try.ntmps3
  have hB0 : Below w.heap.size w w := Below.refl _ _
  go_wp2_with fail
  refine (szPartS_any A0 c0 l0 _ _ (by omega) (by omega) hm0 (h0.below hB0 (Nat.le_refl _)) ho0).mono ?_
  rintro e w1 ⟨⟨r0, rfl, hr0⟩, hb1⟩
  have hB1 := hB0.trans (hb1.mono hB0.size)
  have hz1 := hb1.size
  rcases hr0 with hneg0 | ⟨hr0, hrl0, hk0⟩
  · go_wp2_with fail
    go_ret
    exact ⟨rfl, hB1⟩
  have hS := fun (A' : Option Addr) (c' : Nat) (W : World) (q0 : l0.length ≤ c') (g0 : RdT partT W A' l0) => isSchemeS_any A' c' l0 W (by omega) q0 g0 hk0
  have hI := fun (A' : Option Addr) (c' : Nat) (W : World) (q0 : l0.length ≤ c') (g0 : RdT partT W A' l0) => isScheme_any A' c' l0 W (by omega) q0 g0 hk0
  generalize schB l0 = r0x at *
  have HS := Lib.hid hS
  have HI := Lib.hid hI
  clear hS hI
  go_wp2_with fail
  refine (toPartS_any A0 c0 l0 _ (by omega) (h0.below hB1 (Nat.le_refl _))).mono ?_
  rintro e w2 ⟨As0, cs0, rfl, os02, hb2⟩
  have lts0 := Lib.hid os02.lt
  have hB2 := hB1.trans (hb2.mono hB1.size)
  have hz2 := hb2.size
  go_wp2_with fail
  refine (HS.out As0 cs0 _ os02.capn os02.rd).mono ?_
  rintro e w3 ⟨rfl, hb3⟩
  have hB3 := hB2.trans (hb3.mono hB2.size)
  have hz3 := hb3.size
  have os03 := os02.below hb3 (Nat.le_refl _)
  clear os02
  clear os03 lts0
  go_wp2_with fail
  refine (toPartS_any A0 c0 l0 _ (by omega) (h0.below hB3 (Nat.le_refl _))).mono ?_
  rintro e w4 ⟨Ax0, cx0, rfl, ox04, hb4⟩
  have ltx0 := Lib.hid ox04.lt
  have hB4 := hB3.trans (hb4.mono hB3.size)
  have hz4 := hb4.size
  go_wp2_with fail
  refine (HI.out Ax0 cx0 _ ox04.capn ox04.rd).mono ?_
  rintro e w5 ⟨rfl, hb5⟩
  have hB5 := hB4.trans (hb5.mono hB4.size)
  have hz5 := hb5.size
  have ox05 := ox04.below hb5 (Nat.le_refl _)
  clear ox04
  go_wp2_with fail
  refine (toPartS_any A0 c0 l0 _ (by omega) (h0.below hB5 (Nat.le_refl _))).mono ?_
  rintro e w6 ⟨Ay0, cy0, rfl, oy06, hb6⟩
  have lty0 := Lib.hid oy06.lt
  have hB6 := hB5.trans (hb6.mono hB5.size)
  have hz6 := hb6.size
  have ox06 := ox05.below hb6 (Nat.le_refl _)
  clear ox05
  go_wp2_with fail
  refine (eqPartS_same Ax0 Ay0 _ cx0 cy0 l0 _ rfl (by omega) ox06.rd oy06.rd).mono ?_
  rintro e w7 ⟨rfl, hb7⟩
  have hB7 := hB6.trans (hb7.mono hB6.size)
  have hz7 := hb7.size
  have ox07 := ox06.below hb7 (Nat.le_refl _)
  clear ox06
  have oy07 := oy06.below hb7 (Nat.le_refl _)
  clear oy06
  clear oy07 lty0
  go_wp2_with fail
  go_ret
  exact ⟨rfl, hB7⟩

set_option maxRecDepth 100000 in
theorem fnExactIsScheme_lifted (os : Os) (started : os.Started) (H : Type) (enc : TypeId × Value → H) :
    ReturnsInHanded {} Try.checked os 3 .any (Rows.fnExactIsSchemeSpec.pre6 enc Try.prog Try.f3 Rows.fnExactIsSchemeRow.domain false) (Rows.fnExactIsSchemeSpec.post enc Try.prog Try.f3 false true false false) := by
  refine returnsInHanded_of_change (C := Try.checked) ownk started (by kernel_rfl) Try.func3
    (ChangeSpec.witness6 (enc := enc) (C := Try.checked) false ⟨#[], #[.slice none 0 0], []⟩ 8 (by kernel_rfl) (by kernel_rfl) (by kernel_rfl) (by kernel_rfl)) ?_
  intro W base args ds gs before hval0 hW _ _
  have hval : ∀ (j : Nat) t v, Try.f3.params[j]? = some t → args[j]? = some v → Value.okWide Try.prog W .any base t v := hval0
  have hW' := hW
  obtain ⟨p, q, hA0, hV, rfl, _, _⟩ := hW
  have hA : DataW.TrodAll enc Try.prog W 0 (fun _ => true) true Try.f3.params.toList args.toList ds p := hA0
  rw [Try.params3] at hA hval
  obtain ⟨rfl, rfl⟩ := trodVars_none hV
  simp only [List.append_nil] at hW'
  clear hA0 hval0
  have hargs : ∀ W' : World, Below W.heap.size W W' → DataW.TrodAll enc Try.prog W' 0 (fun b => decide (b < W.heap.size)) true [22] args.toList ds p := fun W' hb => trodAll_below laid_out hb _ _ _ _ (by kernel_rfl) hA (fun x hx => hW'.lt x hx)
  obtain ⟨v0, vs0, d0, ds0, p0, q0, hx, rfl, rfl, h0, r0'⟩ := trodAll_cons hA
  obtain ⟨rfl, rfl, rfl⟩ := trodAll_nil r0'
  obtain rfl : args = #[v0] := by cases args; simp_all
  obtain ⟨A0, c0, l0, rfl, m0, o0, r0⟩ := open_rowsP partL (by kernel_rfl) (dec_part W enc) (hval 0 22 v0 rfl rfl) h0
  refine (fnExactIsScheme_walk W A0 c0 l0 m0 o0 r0).mono fun e W' ⟨he, hb⟩ => ?_
  subst he
  exact ⟨_, rfl, _, _, _, [], _, [], hW', trodAll_mk1 (shut_bool Try.underlying4 _), hargs W' hb, rfl, hb.frame _, fun h => by cases h⟩
theorem fnExactIsScheme_proved : Rows.FnExactIsSchemeSaid :=
  OpenClaim.holds_of_wide 3 Try.f3 rfl rfl rfl rfl rfl rfl rfl ⟨rfl, rfl, rfl, rfl, rfl⟩ rfl rfl rfl rfl rfl (by kernel_rfl) Try.func3 (by kernel_rfl)
    (of_decide_eq_true (by kernel_rfl)) (by unfold Func.isWrapper; first | (rw [if_pos (by decide +kernel)]; kernel_rfl) | (rw [if_neg (by decide +kernel)]; exact ⟨rfl, rfl⟩))
    (fun os started H enc _ => fnExactIsScheme_lifted os started H enc)
#print axioms fnExactIsScheme_proved
end Go.Proofs.Ythoojcmnkhhokaa
