/-
  The law FnExactOldestIn: for all exhibits and every land the program returns what the reference returns. No condition.
-/
import Derived.Test.YthoejiepaackhaaMusH
import Derived.Test.YthoejiepaackhaaFrameExhibit
namespace Go.Proofs.Ythoejiepaackhaa
open Go.ChangeShapes Go.WideShapes Go.ChangeAt Go.ChangeMaps Go.RowKit

set_option maxRecDepth 100000 in
set_option maxHeartbeats 4000000 in
theorem fnExactOldestIn_walk (w : World) (A0 : Option Addr) (c0 : Nat) (l0 : List (ExhibitV)) (hm0 : l0.length ≤ maxLen) (ho0 : ∀ x ∈ l0, x.okw) (h0 : RdT exhibitL w A0 l0) (s1 : ByteArray) (hs1 : s1.size ≤ maxLen) :
    Calls Try.prog 8 #[.slice A0 l0.length c0, .string s1] w fun e w' => e = .returned (.bool true) ∧ Below w.heap.size w w' := by
  unfold maxLen at hs1
  by_cases hbs1 : 1048576 < s1.size
  · have hdb : decide ((1048576 : Int) < (s1.size : Int)) = true := decide_eq_true (by omega)
    go_enter Try.func8, Try.ntmps8
    go_wp2_with fail
    go_ret
    exact ⟨rfl, Below.refl _ _⟩
  have hdb1 : decide ((1048576 : Int) < (s1.size : Int)) = false := decide_eq_false (by omega)
  go_enter Try.func8, Try.ntmps8
  have hB0 : Below w.heap.size w w := Below.refl _ _
  go_wp2_with fail
  refine (szExhibitS_any A0 c0 l0 _ _ (by omega) (by omega) hm0 (h0.below hB0 (Nat.le_refl _)) ho0).mono ?_
  rintro e w1 ⟨⟨r0, rfl, hr0⟩, hb1⟩
  have hB1 := hB0.trans (hb1.mono hB0.size)
  have hz1 := hb1.size
  rcases hr0 with hneg0 | ⟨hr0, hrl0, hk0⟩
  · go_wp2_with fail
    go_ret
    exact ⟨rfl, hB1⟩
  have hS := fun (A' : Option Addr) (c' : Nat) (W : World) (g0 : RdT exhibitT W A' l0) => oldestS_any A' c' l0 s1 W (by omega) (by omega) g0 hk0
  have hI := fun (A' : Option Addr) (c' : Nat) (W : World) (g0 : RdT exhibitT W A' l0) => oldestI_any A' c' l0 s1 W (by omega) (by omega) g0 hk0
  generalize olV l0 s1 = r0x at *
  generalize olB l0 s1 = r1x at *
  have HS := Lib.hid hS
  have HI := Lib.hid hI
  clear hS hI
  go_wp2_with fail
  refine (toExhibitS_any A0 c0 l0 _ (by omega) (h0.below hB1 (Nat.le_refl _))).mono ?_
  rintro e w2 ⟨As0, cs0, rfl, os02, hb2⟩
  have lts0 := Lib.hid os02.lt
  have hB2 := hB1.trans (hb2.mono hB1.size)
  have hz2 := hb2.size
  go_wp2_with fail
  refine (HS.out As0 cs0 _ os02.rd).mono ?_
  rintro e w3 ⟨rfl, hb3⟩
  have hB3 := hB2.trans (hb3.mono hB2.size)
  have hz3 := hb3.size
  have os03 := os02.below hb3 (Nat.le_refl _)
  clear os02
  clear os03 lts0
  go_wp2_with fail
  refine (toExhibitS_any A0 c0 l0 _ (by omega) (h0.below hB3 (Nat.le_refl _))).mono ?_
  rintro e w4 ⟨Ax0, cx0, rfl, ox04, hb4⟩
  have ltx0 := Lib.hid ox04.lt
  have hB4 := hB3.trans (hb4.mono hB3.size)
  have hz4 := hb4.size
  go_wp2_with fail
  refine (HI.out Ax0 cx0 _ ox04.rd).mono ?_
  rintro e w5 ⟨rfl, hb5⟩
  have hB5 := hB4.trans (hb5.mono hB4.size)
  have hz5 := hb5.size
  have ox05 := ox04.below hb5 (Nat.le_refl _)
  clear ox04
  go_wp2_with fail
  refine (toExhibitS_any A0 c0 l0 _ (by omega) (h0.below hB5 (Nat.le_refl _))).mono ?_
  rintro e w6 ⟨Ay0, cy0, rfl, oy06, hb6⟩
  have lty0 := Lib.hid oy06.lt
  have hB6 := hB5.trans (hb6.mono hB5.size)
  have hz6 := hb6.size
  have ox06 := ox05.below hb6 (Nat.le_refl _)
  clear ox05
  go_wp2_with fail
  refine (eqExhibitS_same Ax0 Ay0 _ cx0 cy0 l0 _ rfl (by omega) ox06.rd oy06.rd).mono ?_
  rintro e w7 ⟨rfl, hb7⟩
  have hB7 := hB6.trans (hb7.mono hB6.size)
  have hz7 := hb7.size
  have ox07 := ox06.below hb7 (Nat.le_refl _)
  clear ox06
  have oy07 := oy06.below hb7 (Nat.le_refl _)
  clear oy06
  clear oy07 lty0
  go_wp2_with fail
  go_ret
  exact ⟨rfl, hB7⟩

set_option maxRecDepth 100000 in
theorem fnExactOldestIn_lifted (os : Os) (started : os.Started) (H : Type) (enc : TypeId × Value → H) :
    ReturnsInHanded {} Try.checked os 8 .any (Rows.fnExactOldestInSpec.pre6 enc Try.prog Try.f8 Rows.fnExactOldestInRow.domain false) (Rows.fnExactOldestInSpec.post enc Try.prog Try.f8 false true false false) := by
  refine returnsInHanded_of_change (C := Try.checked) ownk started (by kernel_rfl) Try.func8
    (ChangeSpec.witness6 (enc := enc) (C := Try.checked) false ⟨#[], #[.slice none 0 0, .string ByteArray.empty], []⟩ 8 (by kernel_rfl) (by kernel_rfl) (by kernel_rfl) (by kernel_rfl)) ?_
  intro W base args ds gs before hval0 hW _ _
  have hval : ∀ (j : Nat) t v, Try.f8.params[j]? = some t → args[j]? = some v → Value.okWide Try.prog W .any base t v := hval0
  have hW' := hW
  obtain ⟨p, q, hA0, hV, rfl, _, _⟩ := hW
  have hA : DataW.TrodAll enc Try.prog W 0 (fun _ => true) true Try.f8.params.toList args.toList ds p := hA0
  rw [Try.params8] at hA hval
  obtain ⟨rfl, rfl⟩ := trodVars_none hV
  simp only [List.append_nil] at hW'
  clear hA0 hval0
  have hargs : ∀ W' : World, Below W.heap.size W W' → DataW.TrodAll enc Try.prog W' 0 (fun b => decide (b < W.heap.size)) true [33, 9] args.toList ds p := fun W' hb => trodAll_below laid_out hb _ _ _ _ (by kernel_rfl) hA (fun x hx => hW'.lt x hx)
  obtain ⟨v0, vs0, d0, ds0, p0, q0, hx, rfl, rfl, h0, r0'⟩ := trodAll_cons hA
  obtain ⟨v1, vs1, d1, ds1, p1, q1, rfl, rfl, rfl, h1, r1'⟩ := trodAll_cons r0'
  obtain ⟨rfl, rfl, rfl⟩ := trodAll_nil r1'
  obtain rfl : args = #[v0, v1] := by cases args; simp_all
  obtain ⟨A0, c0, l0, rfl, m0, o0, r0⟩ := open_rowsP exhibitL (by kernel_rfl) (dec_exhibit W enc) (hval 0 33 v0 rfl rfl) h0
  obtain ⟨s1, rfl, rfl, rfl, m1⟩ := open_string Try.underlying9 (hval 1 9 v1 rfl rfl) h1
  refine (fnExactOldestIn_walk W A0 c0 l0 m0 o0 r0 s1 m1).mono fun e W' ⟨he, hb⟩ => ?_
  subst he
  exact ⟨_, rfl, _, _, _, [], _, [], hW', trodAll_mk1 (shut_bool Try.underlying4 _), hargs W' hb, rfl, hb.frame _, fun h => by cases h⟩
theorem fnExactOldestIn_proved : Rows.FnExactOldestInSaid :=
  OpenClaim.holds_of_wide 8 Try.f8 rfl rfl rfl rfl rfl rfl rfl ⟨rfl, rfl, rfl, rfl, rfl⟩ rfl rfl rfl rfl rfl (by kernel_rfl) Try.func8 (by kernel_rfl)
    (of_decide_eq_true (by kernel_rfl)) (by unfold Func.isWrapper; first | (rw [if_pos (by decide +kernel)]; kernel_rfl) | (rw [if_neg (by decide +kernel)]; exact ⟨rfl, rfl⟩))
    (fun os started H enc _ => fnExactOldestIn_lifted os started H enc)
#print axioms fnExactOldestIn_proved
end Go.Proofs.Ythoejiepaackhaa
