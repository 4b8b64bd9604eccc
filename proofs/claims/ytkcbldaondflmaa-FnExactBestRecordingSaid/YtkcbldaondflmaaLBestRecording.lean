/-
  The law FnExactBestRecording: for all recordings and every right list the program returns what the reference returns. No condition.
-/
import Derived.Test.YtkcbldaondflmaaRecN
import Derived.Test.YtkcbldaondflmaaFrameMSS
namespace Go.Proofs.Ytkcbldaondflmaa
open Go.ChangeShapes Go.WideShapes Go.ChangeAt Go.RowKit

set_option maxRecDepth 100000 in
set_option maxHeartbeats 8000000 in
theorem fnExactBestRecording_walk (w : World) (A0 : Option Addr) (c0 : Nat) (l0 : List (HdrV × List MoveV)) (hm0 : l0.length ≤ maxLen) (ho0 : ∀ q ∈ l0, q.2.length ≤ maxLen) (h0 : RdM hdrL moveL w A0 l0) (A1 : Option Addr) (c1 : Nat) (l1 : List MoveV) (hm1 : l1.length ≤ maxLen) (h1 : RdT moveL w A1 l1) :
    Calls Try.prog 9 #[.slice A0 l0.length c0, .slice A1 l1.length c1] w fun e w' => e = .returned (.bool true) ∧ Below w.heap.size w w' := by
  unfold maxLen at hm1
  have hm1' : l1.length ≤ 9223372036854775807 := by omega
  clear hm1
  obtain ⟨ls, hls⟩ : ∃ ls, ls = l0.map Prod.snd := ⟨_, rfl⟩
  have HLS := Lib.hid hls
  clear hls
  have hS := fun (hn : l1.length ≤ 1048576) (A c ps) (sv : List.map Prod.snd ps = ls) (B d W) (hl : List.length ps ≤ 1048576) (hsm : ∀ p ∈ ps, p.2.length ≤ 1048576) g g2 => bestS_any A c ps ls sv B d l1 W (by omega) (fun p hp => by have := hsm p hp; omega) g (by omega) g2
  have hI := fun (hn : l1.length ≤ 1048576) (A c ps) (sv : List.map Prod.snd ps = ls) (B d W) (hl : List.length ps ≤ 1048576) (hsm : ∀ p ∈ ps, p.2.length ≤ 1048576) g g2 => bestI_any A c ps ls sv B d l1 W (by omega) (fun p hp => by have := hsm p hp; omega) g (by omega) g2
  generalize brV ls l1 = r0x at *
  generalize brB ls l1 = r1x at *
  go_enter Try.func9, Try.ntmps9
  go_wp2_with fail
  refine (szMSS_any A0 c0 l0 _ _ (by omega) (by omega) hm0 h0 ho0).mono ?_
  rintro e w1 ⟨⟨r0, rfl, hr0⟩, hb1⟩
  have hz1 := hb1.size
  rcases hr0 with hneg0 | ⟨hr0, hrl0, hk0, hsm0⟩
  · go_wp2_with fail
    go_ret
    exact ⟨rfl, hb1⟩
  go_wp2_with fail
  refine (szBeadMoveS_any A1 l1.length c1 r0 _ hr0 (by omega) hm1').mono ?_
  rintro e wz ⟨rfl, rfl⟩
  by_cases hs : r0 < (l1.length : Int)
  · rw [if_pos hs]
    go_wp2_with fail
    go_ret
    exact ⟨rfl, hb1⟩
  rw [if_neg hs]
  have hn1 : l1.length ≤ 1048576 := by omega
  have hn0 : l0.length ≤ 1048576 := by omega
  have HS := Lib.hid (hS hn1)
  have HI := Lib.hid (hI hn1)
  have HSMP := Lib.hid (fun (qs : List (HdrV × List MoveV)) (h : qs.map Prod.snd = l0.map Prod.snd) => (⟨by have := congrArg List.length h; simp at this; omega, fun p hp => by
    have hm : p.2 ∈ l0.map Prod.snd := by rw [← h]; exact List.mem_map.2 ⟨p, hp, rfl⟩
    obtain ⟨q, hq, e⟩ := List.mem_map.1 hm
    rw [← e]; exact hsm0 q hq⟩ : qs.length ≤ 1048576 ∧ ∀ p ∈ qs, p.2.length ≤ 1048576))
  have hrn : (l1.length : Int) ≤ r0 := by omega
  clear hS hI hk0 hrl0
  have g0 := h0.below hb1 (Nat.le_refl _)
  have g1 := h1.below hb1 (Nat.le_refl _)
  go_wp2_with fail
  refine (toMSS_any A0 c0 l0 _ hn0 hsm0 g0).mono ?_
  rintro e w2 ⟨As, cs, qs, rfl, svs, os, hb2⟩
  have SVS := Lib.hid svs
  clear svs
  have hB2 := hb1.trans (hb2.mono hz1)
  go_wp2_with fail
  refine (toBeadMoveS_any A1 c1 l1 _ hn1 (h1.below hB2 (Nat.le_refl _))).mono ?_
  rintro e w3 ⟨At, ct, rfl, ot, hb3⟩
  have hB3 := hB2.trans (hb3.mono hB2.size)
  have os3 := os.below hb3 (Nat.le_refl _)
  go_wp2_with fail
  refine (HS.out As cs qs (SVS.out.trans HLS.out.symm) At ct _ (HSMP.out qs SVS.out).1 (HSMP.out qs SVS.out).2 os3.rd ot.rd).mono ?_
  rintro e w4 ⟨rfl, hb4⟩
  have hB4 := hB3.trans (hb4.mono hB3.size)
  clear os os3 ot hb2 hb3 hb4 hB2 hB3
  go_wp2_with fail
  refine (toMSS_any A0 c0 l0 _ hn0 hsm0 (h0.below hB4 (Nat.le_refl _))).mono ?_
  rintro e w5 ⟨Ax, cx, xs, rfl, svx, ox, hb5⟩
  have SVX := Lib.hid svx
  clear svx
  have hB5 := hB4.trans (hb5.mono hB4.size)
  go_wp2_with fail
  refine (toBeadMoveS_any A1 c1 l1 _ hn1 (h1.below hB5 (Nat.le_refl _))).mono ?_
  rintro e w6 ⟨Ay, cy, rfl, oy, hb6⟩
  have hB6 := hB5.trans (hb6.mono hB5.size)
  have ox6 := ox.below hb6 (Nat.le_refl _)
  go_wp2_with fail
  refine (HI.out Ax cx xs (SVX.out.trans HLS.out.symm) Ay cy _ (HSMP.out xs SVX.out).1 (HSMP.out xs SVX.out).2 ox6.rd oy.rd).mono ?_
  rintro e w7 ⟨rfl, hb7⟩
  have hB7 := hB6.trans (hb7.mono hB6.size)
  have ox7 := ox6.below hb7 (Nat.le_refl _)
  have oy7 := oy.below hb7 (Nat.le_refl _)
  clear ox ox6 oy hb5 hb6 hb7 hB4 hB5 hB6
  go_wp2_with fail
  refine (toMSS_any A0 c0 l0 _ hn0 hsm0 (h0.below hB7 (Nat.le_refl _))).mono ?_
  rintro e w8 ⟨Az, cz, zs, rfl, svz, oz, hb8⟩
  have SVZ := Lib.hid svz
  clear svz
  have hB8 := hB7.trans (hb8.mono hB7.size)
  have ox8 := ox7.below hb8 (Nat.le_refl _)
  have oy8 := oy7.below hb8 (Nat.le_refl _)
  go_wp2_with fail
  refine (eqMSS_same Ax Az _ _ cx cz xs zs _ rfl rfl (by have := (HSMP.out xs SVX.out).1; omega) (SVX.out.trans SVZ.out.symm) (fun p hp => by have := (HSMP.out xs SVX.out).2 p hp; omega) ox8.rd oz.rd).mono ?_
  rintro e w9 ⟨rfl, hb9⟩
  have hB9 := hB8.trans (hb9.mono hB8.size)
  have oy9 := oy8.below hb9 (Nat.le_refl _)
  clear ox7 ox8 oy7 oy8 oz hb8 hb9 hB7 hB8
  go_wp2_with fail
  refine (toBeadMoveS_any A1 c1 l1 _ hn1 (h1.below hB9 (Nat.le_refl _))).mono ?_
  rintro e w10 ⟨Av, cv, rfl, ov, hb10⟩
  have hB10 := hB9.trans (hb10.mono hB9.size)
  have oy10 := oy9.below hb10 (Nat.le_refl _)
  go_wp2_with fail
  refine (eqBeadMoveS_same Ay Av _ cy cv l1 _ rfl (by omega) oy10.rd ov.rd).mono ?_
  rintro e w11 ⟨rfl, hb11⟩
  have hB11 := hB10.trans (hb11.mono hB10.size)
  go_wp2_with fail
  go_ret
  exact ⟨rfl, hB11⟩

set_option maxRecDepth 100000 in
theorem fnExactBestRecording_lifted (os : Os) (started : os.Started) (H : Type) (enc : TypeId × Value → H) :
    ReturnsInHanded {} Try.checked os 9 .any (Rows.fnExactBestRecordingSpec.pre6 enc Try.prog Try.f9 Rows.fnExactBestRecordingRow.domain false) (Rows.fnExactBestRecordingSpec.post enc Try.prog Try.f9 false true false false) := by
  refine returnsInHanded_of_change (C := Try.checked) ownk started (by kernel_rfl) Try.func9
    (ChangeSpec.witness6 (enc := enc) (C := Try.checked) false ⟨#[], #[.slice none 0 0, .slice none 0 0], []⟩ 8 (by kernel_rfl) (by kernel_rfl) (by kernel_rfl) (by kernel_rfl)) ?_
  intro W base args ds gs before hval0 hW _ _
  have hval : ∀ (j : Nat) t v, Try.f9.params[j]? = some t → args[j]? = some v → Value.okWide Try.prog W .any base t v := hval0
  have hW' := hW
  obtain ⟨p, q, hA0, hV, rfl, _, _⟩ := hW
  have hA : DataW.TrodAll enc Try.prog W 0 (fun _ => true) true Try.f9.params.toList args.toList ds p := hA0
  rw [Try.params9] at hA hval
  obtain ⟨rfl, rfl⟩ := trodVars_none hV
  simp only [List.append_nil] at hW'
  clear hA0 hval0
  have hargs : ∀ W' : World, Below W.heap.size W W' → DataW.TrodAll enc Try.prog W' 0 (fun b => decide (b < W.heap.size)) true [38, 22] args.toList ds p := fun W' hb => trodAll_below laid_out hb _ _ _ _ (by kernel_rfl) hA (fun x hx => hW'.lt x hx)
  obtain ⟨v0, vs0, d0, ds0, p0, q0, hx, rfl, rfl, h0, r0'⟩ := trodAll_cons hA
  obtain ⟨v1, vs1, d1, ds1, p1, q1, rfl, rfl, rfl, h1, r1'⟩ := trodAll_cons r0'
  obtain ⟨rfl, rfl, rfl⟩ := trodAll_nil r1'
  obtain rfl : args = #[v0, v1] := by cases args; simp_all
  obtain ⟨A0, c0, l0, rfl, m0, o0, r0⟩ := open_movess W enc (hval 0 38 v0 rfl rfl) h0
  obtain ⟨A1, c1, l1, rfl, m1, r1⟩ := open_rows moveL (by kernel_rfl) (dec_move W enc) (hval 1 22 v1 rfl rfl) h1
  refine (fnExactBestRecording_walk W A0 c0 l0 m0 o0 r0 A1 c1 l1 m1 r1).mono fun e W' ⟨he, hb⟩ => ?_
  subst he
  exact ⟨_, rfl, _, _, _, [], _, [], hW', trodAll_mk1 (shut_bool Try.underlying4 _), hargs W' hb, rfl, hb.frame _, fun h => by cases h⟩
theorem fnExactBestRecording_proved : Rows.FnExactBestRecordingSaid :=
  OpenClaim.holds_of_wide 9 Try.f9 rfl rfl rfl rfl rfl rfl rfl ⟨rfl, rfl, rfl, rfl, rfl⟩ rfl rfl rfl rfl rfl (by kernel_rfl) Try.func9 (by kernel_rfl)
    (of_decide_eq_true (by kernel_rfl)) (by unfold Func.isWrapper; first | (rw [if_pos (by decide +kernel)]; kernel_rfl) | (rw [if_neg (by decide +kernel)]; exact ⟨rfl, rfl⟩))
    (fun os started H enc _ => fnExactBestRecording_lifted os started H enc)
#print axioms fnExactBestRecording_proved
end Go.Proofs.Ytkcbldaondflmaa
