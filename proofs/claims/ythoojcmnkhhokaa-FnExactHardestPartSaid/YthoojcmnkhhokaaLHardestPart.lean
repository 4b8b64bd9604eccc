/-
  The law FnExactHardestPart: for every scheme and all tries the program returns what the reference returns. No condition.
-/
import Derived.Test.YthoojcmnkhhokaaGraK
import Derived.Test.YthoojcmnkhhokaaTryC
import Derived.Test.YthoojcmnkhhokaaFramePart
import Derived.Test.YthoojcmnkhhokaaFrameTry
namespace Go.Proofs.Ythoojcmnkhhokaa
set_option maxRecDepth 100000
open Go.ChangeShapes Go.WideShapes Go.ChangeAt Go.RowKit

set_option maxRecDepth 100000 in
set_option maxHeartbeats 8000000 in
theorem fnExactHardestPart_walk (w : World) (A0 : Option Addr) (c0 : Nat) (l0 : List PartV) (hm0 : l0.length ≤ maxLen) (ho0 : ∀ x ∈ l0, x.okw) (h0 : RdT partL w A0 l0) (A1 : Option Addr) (c1 : Nat) (l1 : List (TryH × List Int)) (hm1 : l1.length ≤ maxLen) (ho1 : ∀ q ∈ l1, q.2.length ≤ maxLen) (h1 : RdY tryL w A1 l1) :
    Calls Try.prog 9 #[.slice A0 l0.length c0, .slice A1 l1.length c1] w fun e w' => e = .returned (.bool true) ∧ Below w.heap.size w w' := by
  go_enter Try.func9, Try.ntmps9
  have hB0 : Below w.heap.size w w := Below.refl _ _
  go_wp2_with fail
  refine (szPartS_any A0 c0 l0 _ _ (by omega) (by omega) hm0 (h0.below hB0 (Nat.le_refl _)) ho0).mono ?_
  rintro e w1 ⟨⟨r0, rfl, hr0⟩, hb1⟩
  have hB1 := hB0.trans (hb1.mono hB0.size)
  have hz1 := hb1.size
  rcases hr0 with hneg0 | ⟨hr0, hrl0, hk0⟩
  · go_wp2_with fail
    go_ret
    exact ⟨rfl, hB1⟩
  go_wp2_with fail
  refine (szTryS_any A1 c1 l1 _ _ (by omega) (by omega) hm1 (h1.below hB1 (Nat.le_refl _)) ho1).mono ?_
  rintro e w2 ⟨⟨r1, rfl, hr1⟩, hb2⟩
  have hB2 := hB1.trans (hb2.mono hB1.size)
  have hz2 := hb2.size
  rcases hr1 with hneg1 | ⟨hr1, hrl1, hk1⟩
  · go_wp2_with fail
    go_ret
    exact ⟨rfl, hB2⟩
  have hl1 : l1.length ≤ 1048576 := by omega
  have HSM := Lib.hid (fun (ps : List (TryH × List Int)) (h : ps.map toV = l1.map toV) => tries_small h (show (l1.length : Int) + totY l1 ≤ 1048576 by omega))
  clear hk1
  obtain ⟨ts, hts⟩ : ∃ ts, ts = l1.map toV := ⟨_, rfl⟩
  have HTS := Lib.hid hts
  clear hts
  have hS := fun (A0' : Option Addr) (c0' : Nat) (A1' : Option Addr) (c1' : Nat) (ps' : List (TryH × List Int)) (sv : ps'.map toV = l1.map toV) (W : World) (q0 : l0.length ≤ c0') (g0 : RdT partT W A0' l0) (g1 : RdY tryT W A1' ps') => hardS_t A0' c0' l0 A1' c1' ps' ts (sv.trans HTS.out.symm) W (by omega) q0 g0 hk0 (by have := (HSM.out ps' sv).1; omega) (fun p hp => by have := (HSM.out ps' sv).2.1 p hp; omega) g1
  have hI := fun (A0' : Option Addr) (c0' : Nat) (A1' : Option Addr) (c1' : Nat) (ps' : List (TryH × List Int)) (sv : ps'.map toV = l1.map toV) (W : World) (q0 : l0.length ≤ c0') (g0 : RdT partT W A0' l0) (g1 : RdY tryT W A1' ps') => hardI_t A0' c0' l0 A1' c1' ps' ts (sv.trans HTS.out.symm) W (by omega) q0 g0 hk0 (by have := (HSM.out ps' sv).1; omega) (fun p hp => by have := (HSM.out ps' sv).2.1 p hp; omega) g1
  generalize harV l0 ts = r0x at *
  generalize harO l0 ts = r1x at *
  have HS := Lib.hid hS
  have HI := Lib.hid hI
  clear hS hI
  go_wp2_with fail
  refine (toPartS_any A0 c0 l0 _ (by omega) (h0.below hB2 (Nat.le_refl _))).mono ?_
  rintro e w3 ⟨As0, cs0, rfl, os03, hb3⟩
  have lts0 := Lib.hid os03.lt
  have hB3 := hB2.trans (hb3.mono hB2.size)
  have hz3 := hb3.size
  go_wp2_with fail
  refine (toTryS_any A1 c1 l1 _ hl1 (fun p hp => (HSM.out l1 rfl).2.1 p hp) (h1.below hB3 (Nat.le_refl _))).mono ?_
  rintro e w4 ⟨As1, cs1, ps1, rfl, svs1, os14, hb4⟩
  have SVs1 := Lib.hid svs1
  clear svs1
  have lts1 := Lib.hid os14.lt
  have hB4 := hB3.trans (hb4.mono hB3.size)
  have hz4 := hb4.size
  have os04 := os03.below hb4 (Nat.le_refl _)
  clear os03
  go_wp2_with fail
  refine (HS.out As0 cs0 As1 cs1 ps1 SVs1.out _ os04.capn os04.rd os14.rd).mono ?_
  rintro e w5 ⟨rfl, hb5⟩
  have hB5 := hB4.trans (hb5.mono hB4.size)
  have hz5 := hb5.size
  have os05 := os04.below hb5 (Nat.le_refl _)
  clear os04
  have os15 := os14.below hb5 (Nat.le_refl _)
  clear os14
  clear os05 lts0
  clear os15 lts1
  go_wp2_with fail
  refine (toPartS_any A0 c0 l0 _ (by omega) (h0.below hB5 (Nat.le_refl _))).mono ?_
  rintro e w6 ⟨Ax0, cx0, rfl, ox06, hb6⟩
  have ltx0 := Lib.hid ox06.lt
  have hB6 := hB5.trans (hb6.mono hB5.size)
  have hz6 := hb6.size
  go_wp2_with fail
  refine (toTryS_any A1 c1 l1 _ hl1 (fun p hp => (HSM.out l1 rfl).2.1 p hp) (h1.below hB6 (Nat.le_refl _))).mono ?_
  rintro e w7 ⟨Ax1, cx1, px1, rfl, svx1, ox17, hb7⟩
  have SVx1 := Lib.hid svx1
  clear svx1
  have ltx1 := Lib.hid ox17.lt
  have hB7 := hB6.trans (hb7.mono hB6.size)
  have hz7 := hb7.size
  have ox07 := ox06.below hb7 (Nat.le_refl _)
  clear ox06
  go_wp2_with fail
  refine (HI.out Ax0 cx0 Ax1 cx1 px1 SVx1.out _ ox07.capn ox07.rd ox17.rd).mono ?_
  rintro e w8 ⟨rfl, hb8⟩
  have hB8 := hB7.trans (hb8.mono hB7.size)
  have hz8 := hb8.size
  have ox08 := ox07.below hb8 (Nat.le_refl _)
  clear ox07
  have ox18 := ox17.below hb8 (Nat.le_refl _)
  clear ox17
  go_wp2_with fail
  refine (toPartS_any A0 c0 l0 _ (by omega) (h0.below hB8 (Nat.le_refl _))).mono ?_
  rintro e w9 ⟨Ay0, cy0, rfl, oy09, hb9⟩
  have lty0 := Lib.hid oy09.lt
  have hB9 := hB8.trans (hb9.mono hB8.size)
  have hz9 := hb9.size
  have ox09 := ox08.below hb9 (Nat.le_refl _)
  clear ox08
  have ox19 := ox18.below hb9 (Nat.le_refl _)
  clear ox18
  go_wp2_with fail
  refine (eqPartS_same Ax0 Ay0 _ cx0 cy0 l0 _ rfl (by omega) ox09.rd oy09.rd).mono ?_
  rintro e w10 ⟨rfl, hb10⟩
  have hB10 := hB9.trans (hb10.mono hB9.size)
  have hz10 := hb10.size
  have ox010 := ox09.below hb10 (Nat.le_refl _)
  clear ox09
  have ox110 := ox19.below hb10 (Nat.le_refl _)
  clear ox19
  have oy010 := oy09.below hb10 (Nat.le_refl _)
  clear oy09
  clear oy010 lty0
  go_wp2_with fail
  refine (toTryS_any A1 c1 l1 _ hl1 (fun p hp => (HSM.out l1 rfl).2.1 p hp) (h1.below hB10 (Nat.le_refl _))).mono ?_
  rintro e w11 ⟨Ay1, cy1, py1, rfl, svy1, oy111, hb11⟩
  have SVy1 := Lib.hid svy1
  clear svy1
  have lty1 := Lib.hid oy111.lt
  have hB11 := hB10.trans (hb11.mono hB10.size)
  have hz11 := hb11.size
  have ox011 := ox010.below hb11 (Nat.le_refl _)
  clear ox010
  have ox111 := ox110.below hb11 (Nat.le_refl _)
  clear ox110
  go_wp2_with fail
  refine (eqTryS_same Ax1 Ay1 _ _ cx1 cy1 px1 py1 _ rfl rfl (by have := (HSM.out px1 SVx1.out).1; omega) (SVx1.out.trans SVy1.out.symm) (fun p hp => by have := (HSM.out px1 SVx1.out).2.1 p hp; omega) ox111.rd oy111.rd).mono ?_
  rintro e w12 ⟨rfl, hb12⟩
  have hB12 := hB11.trans (hb12.mono hB11.size)
  have hz12 := hb12.size
  have ox012 := ox011.below hb12 (Nat.le_refl _)
  clear ox011
  have ox112 := ox111.below hb12 (Nat.le_refl _)
  clear ox111
  have oy112 := oy111.below hb12 (Nat.le_refl _)
  clear oy111
  clear oy112 lty1
  go_wp2_with fail
  go_ret
  exact ⟨rfl, hB12⟩

set_option maxRecDepth 100000 in
theorem fnExactHardestPart_lifted (os : Os) (started : os.Started) (H : Type) (enc : TypeId × Value → H) :
    ReturnsInHanded {} Try.checked os 9 .any (Rows.fnExactHardestPartSpec.pre6 enc Try.prog Try.f9 Rows.fnExactHardestPartRow.domain false) (Rows.fnExactHardestPartSpec.post enc Try.prog Try.f9 false true false false) := by
  refine returnsInHanded_of_change (C := Try.checked) ownk started (by kernel_rfl) Try.func9
    (ChangeSpec.witness6 (enc := enc) (C := Try.checked) false ⟨#[], #[.slice none 0 0, .slice none 0 0], []⟩ 8 (by kernel_rfl) (by kernel_rfl) (by kernel_rfl) (by kernel_rfl)) ?_
  intro W base args ds gs before hval0 hW _ _
  have hval : ∀ (j : Nat) t v, Try.f9.params[j]? = some t → args[j]? = some v → Value.okWide Try.prog W .any base t v := hval0
  have hW' := hW
  obtain ⟨p, q, hA0, hV, rfl, _, _⟩ := hW
  have hA : DataW.TrodAll enc Try.prog W 0 (fun _ => true) true Try.f9.params.toList args.toList ds p := hA0
  rw [Try.params9] at hA hval
  obtain ⟨rfl, rfl⟩ := trodVars_none hV
  simp only [List.append_nil] at hW'
  clear hA0 hval0
  have hargs : ∀ W' : World, Below W.heap.size W W' → DataW.TrodAll enc Try.prog W' 0 (fun b => decide (b < W.heap.size)) true [22, 39] args.toList ds p := fun W' hb => trodAll_below laid_out hb _ _ _ _ (by kernel_rfl) hA (fun x hx => hW'.lt x hx)
  obtain ⟨v0, vs0, d0, ds0, p0, q0, hx, rfl, rfl, h0, r0'⟩ := trodAll_cons hA
  obtain ⟨v1, vs1, d1, ds1, p1, q1, rfl, rfl, rfl, h1, r1'⟩ := trodAll_cons r0'
  obtain ⟨rfl, rfl, rfl⟩ := trodAll_nil r1'
  obtain rfl : args = #[v0, v1] := by cases args; simp_all
  obtain ⟨A0, c0, l0, rfl, m0, o0, r0⟩ := open_rowsP partL (by kernel_rfl) (dec_part W enc) (hval 0 22 v0 rfl rfl) h0
  obtain ⟨A1, c1, l1, rfl, m1, o1, r1⟩ := open_tries W enc (hval 1 39 v1 rfl rfl) h1
  refine (fnExactHardestPart_walk W A0 c0 l0 m0 o0 r0 A1 c1 l1 m1 o1 r1).mono fun e W' ⟨he, hb⟩ => ?_
  subst he
  exact ⟨_, rfl, _, _, _, [], _, [], hW', trodAll_mk1 (shut_bool Try.underlying4 _), hargs W' hb, rfl, hb.frame _, fun h => by cases h⟩
theorem fnExactHardestPart_proved : Rows.FnExactHardestPartSaid :=
  OpenClaim.holds_of_wide 9 Try.f9 rfl rfl rfl rfl rfl rfl rfl ⟨rfl, rfl, rfl, rfl, rfl⟩ rfl rfl rfl rfl rfl (by kernel_rfl) Try.func9 (by kernel_rfl)
    (of_decide_eq_true (by kernel_rfl)) (by unfold Func.isWrapper; first | (rw [if_pos (by decide +kernel)]; kernel_rfl) | (rw [if_neg (by decide +kernel)]; exact ⟨rfl, rfl⟩))
    (fun os started H enc _ => fnExactHardestPart_lifted os started H enc)
#print axioms fnExactHardestPart_proved
end Go.Proofs.Ythoojcmnkhhokaa
