/-
  The law FnBugs: a task without borrowing has the same answer with all bugs, and each told bug gives the answer.
-/
import Derived.Test.YtcljnfmlakpflaaBugO
import Derived.Test.YtcljnfmlakpflaaFrameB
namespace Go.Proofs.Ytcljnfmlakpflaa
open Go.ChangeShapes Go.WideShapes Go.ChangeAt Go.RowKit

set_option maxRecDepth 100000 in
set_option maxHeartbeats 8000000 in
theorem fnBugs_walk (w : World) (A0 : Option Addr) (c0 : Nat) (l0 : List (Fin 256)) (_ : l0.length ≤ maxLen) (r0 : RdT byteT w A0 l0) :
    Calls Try.prog 12 #[.slice A0 l0.length c0] w fun e w' => e = .returned (.bool true) ∧ Below w.heap.size w w' := by
  by_cases hbig : 65536 < l0.length
  · have d0 : decide (65536 < l0.length) = true := decide_eq_true hbig
    go_enter Try.func12, Try.ntmps12
    go_wp2_with (go_at_call 42; refine (vBig_any _ _ _ _).mono ?_; rintro e w' ⟨rfl, rfl⟩)
    go_ret
    exact ⟨rfl, Below.refl _ _⟩
  · have d0 : decide (65536 < l0.length) = false := decide_eq_false hbig
    go_enter Try.func12, Try.ntmps12
    go_wp2_with (go_at_call 42; refine (vBig_any _ _ _ _).mono ?_; rintro e w' ⟨rfl, rfl⟩)
    clear d0
    refine (drawBugs_any A0 c0 l0 _ (by omega) r0).mono ?_
    rintro e w1 ⟨a, b, r, rfl, hB1⟩
    have HP1 := Lib.hid (fun W => bugsForI_any a b r W)
    have HP2 := Lib.hid (fun W => bugsForS_any a b r W)
    have HFF := Lib.hid (@bugs_ok a b r)
    have hfl := baV_len [(a, b, r)]
    generalize baV [(a, b, r)] = FL at *
    generalize listB [(a, b, r)] = known at *
    go_wp2_with fail
    refine (HP1.out _).mono ?_
    rintro e w21 ⟨A6, c6, rfl, ho6, hb21⟩
    have hB21 := hB1.trans (hb21.mono hB1.size)
    clear hB1 hb21
    go_wp2_with fail
    refine (HP2.out _).mono ?_
    rintro e w22 ⟨A7, c7, rfl, ho7, hb22⟩
    have ho6 := ho6.below hb22 (Nat.le_refl _)
    have hB22 := hB21.trans (hb22.mono hB21.size)
    clear hB21 hb22 HP1 HP2
    go_wp2_with fail
    refine (vInts_same A6 A7 _ c6 c7 FL _ rfl (by omega) ho6.rd ho7.rd).mono ?_
    rintro e w23 ⟨rfl, hb23⟩
    have ho6 := ho6.below hb23 (Nat.le_refl _)
    have hB23 := hB22.trans (hb23.mono hB22.size)
    clear hB22 hb23 ho7
    have hrd := ho6.rd
    clear ho6
    go_wp2
    go_loopw [10] (fun i wr => ∃ k : Nat, k ≤ FL.length ∧ i = .int .i64 k ∧ RdI wr A6 FL ∧ Below w'.heap.size w' wr) (fun i _ => FL.length - (intOf i).toNat)
    case atStart => exact ⟨0, by omega, rfl, hrd, hB23⟩
    case round =>
      obtain ⟨k, hk, rfl, hr, hB⟩ := hrel
      clear hrd hB23
      by_cases hlt : k < FL.length
      · obtain ⟨b1, o1, q, rfl, hx, hl1, hc1⟩ := hr.at_ hlt
        obtain ⟨f1, f2, f3⟩ := HFF.out _ (List.mem_of_getElem? hx)
        have HK6 := Lib.hid (fun W => answerWithI_any q a b W)
        rw [f3, f1, f2] at HK6
        clear f1 f2 f3 hx
        go_wp2_with fail
        refine (HK6.out _).mono ?_
        rintro e w24 ⟨rfl, hb24⟩
        go_wp2
        go_roundw
        case rel => exact ⟨k + 1, by omega, by go_num, hr.below hb24 (Nat.le_refl _), hB.trans (hb24.mono hB.size)⟩
        case measure => simp [intOf]; omega
      · clear hr HFF hfl
        go_wp2_with fail
        refine (drawAll_any A0 c0 l0 _ (by omega) (r0.below hB (Nat.le_refl _))).mono ?_
        rintro e w30 ⟨x, y, rfl, hb30⟩
        have hB30 := hB.trans (hb30.mono hB.size)
        clear hB hb30
        have HA1 := Lib.hid (fun W => allAnswersI_any x y W)
        have HA2 := Lib.hid (fun W => allAnswersS_any x y W)
        have HC1 := Lib.hid (fun W => borrowColumnsI_any x y W)
        have HC2 := Lib.hid (fun W => borrowColumnsS_any x y W)
        have HT1 := Lib.hid (fun W => tellingOfI_any x y W)
        have HT2 := Lib.hid (fun W => tellingOfS_any x y W)
        have hZ := fun W => answerWithI_any 0 x y W
        rw [show (inB (0 : Int) 0 5 && taskB x y) = taskB x y from rfl] at hZ
        have HZ := Lib.hid hZ
        have HF := Lib.hid (@tell_facts x y)
        have hl1 := allW_len x y
        have hl2 := borW_len x y
        clear hZ
        generalize allW x y = LA at *
        generalize borW x y = LB at *
        generalize telW x y = T at *
        generalize ansW 0 x y = z at *
        generalize taskB x y = tk at *
        go_wp2_with fail
        refine (HA1.out _).mono ?_
        rintro e w31 ⟨A1, c1, rfl, ho1, hb31⟩
        have hB31 := hB30.trans (hb31.mono hB30.size)
        go_wp2_with fail
        refine (HA2.out _).mono ?_
        rintro e w32 ⟨A2, c2, rfl, ho2, hb32⟩
        have hB32 := hB31.trans (hb32.mono hB31.size)
        have ho1 := ho1.below hb32 (Nat.le_refl _)
        go_wp2_with fail
        refine (vInts_same A1 A2 _ c1 c2 LA _ rfl (by omega) ho1.rd ho2.rd).mono ?_
        rintro e w33 ⟨rfl, hb33⟩
        have hB33 := hB32.trans (hb33.mono hB32.size)
        clear hB30 hB31 hB32 hb31 hb32 hb33 ho1 ho2
        go_wp2_with fail
        refine (HC1.out _).mono ?_
        rintro e w34 ⟨A3, c3, rfl, ho3, hb34⟩
        have hB34 := hB33.trans (hb34.mono hB33.size)
        go_wp2_with fail
        refine (HC2.out _).mono ?_
        rintro e w35 ⟨A4, c4, rfl, ho4, hb35⟩
        have hB35 := hB34.trans (hb35.mono hB34.size)
        have ho3 := ho3.below hb35 (Nat.le_refl _)
        go_wp2_with fail
        refine (vInts_same A3 A4 _ c3 c4 LB _ rfl (by omega) ho3.rd ho4.rd).mono ?_
        rintro e w36 ⟨rfl, hb36⟩
        have hB36 := hB35.trans (hb36.mono hB35.size)
        clear hB33 hB34 hB35 hb34 hb35 hb36 ho3 ho4
        go_wp2_with fail
        refine (HT1.out _).mono ?_
        rintro e w37 ⟨rfl, hb37⟩
        have hB37 := hB36.trans (hb37.mono hB36.size)
        go_wp2_with fail
        refine (HT2.out _).mono ?_
        rintro e w38 ⟨rfl, hb38⟩
        have hB38 := hB37.trans (hb38.mono hB37.size)
        clear hB36 hB37 hb37 hb38 HA1 HA2 HC1 HC2 HT1 HT2
        have hP : tk = false ∨ tk = true := by cases tk <;> simp
        rcases hP with rfl | rfl
        · clear HF HZ
          go_wp2_with fail
          refine (drawAnswer_any A0 c0 l0 _ (by omega) (r0.below hB38 (Nat.le_refl _))).mono ?_
          rintro e w40 ⟨bg, p, q, rfl, hb40⟩
          have hB40 := hB38.trans (hb40.mono hB38.size)
          have HP1 := Lib.hid (fun W => answerWithI_any bg p q W)
          have HP2 := Lib.hid (fun W => answerWithS_any bg p q W)
          generalize ansW bg p q = hv at *
          generalize (inB bg 0 5 && taskB p q) = hok at *
          go_wp2_with fail
          refine (HP1.out _).mono ?_
          rintro e w41 ⟨rfl, hb41⟩
          have hB41 := hB40.trans (hb41.mono hB40.size)
          go_wp2_with fail
          refine (HP2.out _).mono ?_
          rintro e w42 ⟨rfl, hb42⟩
          have hB42 := hB41.trans (hb42.mono hB41.size)
          go_wp2
          go_ret
          exact ⟨by simp, hB42⟩
        · obtain ⟨rfl, ⟨hx0, hx1, hy0, hy1⟩, t1, t6, ht⟩ := HF.out rfl
          have i1 : IntKind.i64.wrap (x - y) = x - y := IntWalk.i64_in _ (by omega)
          have q1 : decide (T < 1) = false := decide_eq_false (by omega)
          have q2 : decide (6 < T) = false := decide_eq_false (by omega)
          clear HF
          rcases Nat.eq_zero_or_pos LB.length with hz | hz
          · obtain rfl : T = 1 := ht hz
            clear ht q1 q2 t1 t6
            go_wp2_with fail
            refine (HZ.out _).mono ?_
            rintro e w39 ⟨rfl, hb39⟩
            have hB38 := hB38.trans (hb39.mono hB38.size)
            clear hb39
            go_wp2_with fail
            refine (drawAnswer_any A0 c0 l0 _ (by omega) (r0.below hB38 (Nat.le_refl _))).mono ?_
            rintro e w40 ⟨bg, p, q, rfl, hb40⟩
            have hB40 := hB38.trans (hb40.mono hB38.size)
            have HP1 := Lib.hid (fun W => answerWithI_any bg p q W)
            have HP2 := Lib.hid (fun W => answerWithS_any bg p q W)
            generalize ansW bg p q = hv at *
            generalize (inB bg 0 5 && taskB p q) = hok at *
            go_wp2_with fail
            refine (HP1.out _).mono ?_
            rintro e w41 ⟨rfl, hb41⟩
            have hB41 := hB40.trans (hb41.mono hB40.size)
            go_wp2_with fail
            refine (HP2.out _).mono ?_
            rintro e w42 ⟨rfl, hb42⟩
            have hB42 := hB41.trans (hb42.mono hB41.size)
            go_wp2
            go_ret
            exact ⟨by simp, hB42⟩
          · clear ht
            have q3 : decide (LB.length = 0) = false := decide_eq_false (by omega)
            have q4 : ¬ LB.length = 0 := by omega
            go_wp2_with fail
            refine (HZ.out _).mono ?_
            rintro e w39 ⟨rfl, hb39⟩
            have hB38 := hB38.trans (hb39.mono hB38.size)
            clear hb39
            go_wp2_with fail
            refine (drawAnswer_any A0 c0 l0 _ (by omega) (r0.below hB38 (Nat.le_refl _))).mono ?_
            rintro e w40 ⟨bg, p, q, rfl, hb40⟩
            have hB40 := hB38.trans (hb40.mono hB38.size)
            have HP1 := Lib.hid (fun W => answerWithI_any bg p q W)
            have HP2 := Lib.hid (fun W => answerWithS_any bg p q W)
            generalize ansW bg p q = hv at *
            generalize (inB bg 0 5 && taskB p q) = hok at *
            go_wp2_with fail
            refine (HP1.out _).mono ?_
            rintro e w41 ⟨rfl, hb41⟩
            have hB41 := hB40.trans (hb41.mono hB40.size)
            go_wp2_with fail
            refine (HP2.out _).mono ?_
            rintro e w42 ⟨rfl, hb42⟩
            have hB42 := hB41.trans (hb42.mono hB41.size)
            go_wp2
            go_ret
            exact ⟨by simp, hB42⟩

set_option maxRecDepth 100000 in
theorem fnBugs_lifted (os : Os) (started : os.Started) (H : Type) (enc : TypeId × Value → H) :
    ReturnsInHanded {} Try.checked os 12 .any (Rows.fnBugsSpec.pre6 enc Try.prog Try.f12 Rows.fnBugsRow.domain false) (Rows.fnBugsSpec.post enc Try.prog Try.f12 false true false false) := by
  refine returnsInHanded_of_change (C := Try.checked) ownk started (by kernel_rfl) Try.func12
    (ChangeSpec.witness6 (enc := enc) (C := Try.checked) false ⟨#[], #[.slice none 0 0], []⟩ 8 (by kernel_rfl) (by kernel_rfl) (by kernel_rfl) (by kernel_rfl)) ?_
  intro W base args ds gs before hval0 hW _ _
  have hval : ∀ (j : Nat) t v, Try.f12.params[j]? = some t → args[j]? = some v → Value.okWide Try.prog W .any base t v := hval0
  have hW' := hW
  obtain ⟨p, q, hA0, hV, rfl, _, _⟩ := hW
  have hA : DataW.TrodAll enc Try.prog W 0 (fun _ => true) true Try.f12.params.toList args.toList ds p := hA0
  rw [Try.params12] at hA hval
  obtain ⟨rfl, rfl⟩ := trodVars_none hV
  simp only [List.append_nil] at hW'
  clear hA0 hval0
  have hargs : ∀ W' : World, Below W.heap.size W W' → DataW.TrodAll enc Try.prog W' 0 (fun b => decide (b < W.heap.size)) true [47] args.toList ds p := fun W' hb => trodAll_below laid_out hb _ _ _ _ (by kernel_rfl) hA (fun x hx => hW'.lt x hx)
  obtain ⟨v0, vs0, d0, ds0, p0, q0, hx, rfl, rfl, h0, r0'⟩ := trodAll_cons hA
  obtain ⟨rfl, rfl, rfl⟩ := trodAll_nil r0'
  obtain rfl : args = #[v0] := by cases args; simp_all
  obtain ⟨A0, c0, l0, rfl, m0, r0⟩ := open_rows byteT (by kernel_rfl) (dec_byte W enc) (hval 0 47 v0 rfl rfl) h0
  refine (fnBugs_walk W A0 c0 l0 m0 r0).mono fun e W' ⟨he, hb⟩ => ?_
  subst he
  exact ⟨_, rfl, _, _, _, [], _, [], hW', trodAll_mk1 (shut_bool Try.underlying4 _), hargs W' hb, rfl, hb.frame _, fun h => by cases h⟩
theorem fnBugs_proved : Rows.FnBugsSaid :=
  OpenClaim.holds_of_wide 12 Try.f12 rfl rfl rfl rfl rfl rfl rfl ⟨rfl, rfl, rfl, rfl, rfl⟩ rfl rfl rfl rfl rfl (by kernel_rfl) Try.func12 (by kernel_rfl)
    (of_decide_eq_true (by kernel_rfl)) (by unfold Func.isWrapper; first | (rw [if_pos (by decide +kernel)]; kernel_rfl) | (rw [if_neg (by decide +kernel)]; exact ⟨rfl, rfl⟩))
    (fun os started H enc _ => fnBugs_lifted os started H enc)
#print axioms fnBugs_proved
end Go.Proofs.Ytcljnfmlakpflaa
