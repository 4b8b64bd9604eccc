/-
  The law FnExactGradesOf: for every scheme and all tries the program returns what the reference returns. No condition.
-/
import Derived.Test.YthoojcmnkhhokaaGraT
import Derived.Test.YthoojcmnkhhokaaTryC
import Derived.Test.YthoojcmnkhhokaaFramePart
import Derived.Test.YthoojcmnkhhokaaFrameTry
namespace Go.Proofs.Ythoojcmnkhhokaa
set_option maxRecDepth 100000
open Go.ChangeShapes Go.WideShapes Go.ChangeAt Go.RowKit

theorem OwnT.same {α : Type} {T : Ty α} {w w' : World} {base : Nat} {v : Value} {l : List α} (h : OwnT T w base v l) (hs : ∀ k, v.ownBlock = some k → w'.heap[k]? = w.heap[k]?) : OwnT T w' base v l := own_same h hs

set_option maxRecDepth 100000 in
set_option maxHeartbeats 8000000 in
theorem fnExactGradesOf_walk (w : World) (A0 : Option Addr) (c0 : Nat) (l0 : List PartV) (hm0 : l0.length ≤ maxLen) (ho0 : ∀ x ∈ l0, x.okw) (h0 : RdT partL w A0 l0) (A1 : Option Addr) (c1 : Nat) (l1 : List (TryH × List Int)) (hm1 : l1.length ≤ maxLen) (ho1 : ∀ q ∈ l1, q.2.length ≤ maxLen) (h1 : RdY tryL w A1 l1) :
    Calls Try.prog 12 #[.slice A0 l0.length c0, .slice A1 l1.length c1] w fun e w' => e = .returned (.bool true) ∧ Below w.heap.size w w' := by
  go_enter Try.func12, Try.ntmps12
  have hB0 : Below w.heap.size w w := Below.refl _ _
  go_wp2_with fail
  refine (szPartS_any A0 c0 l0 _ _ (by omega) (by omega) hm0 (h0.below hB0 (Nat.le_refl _)) ho0).mono ?_
  rintro e w1 ⟨⟨r0, rfl, hr0⟩, hb1⟩
  have hB1 := hB0.trans (hb1.mono hB0.size)
  have hz1 := hb1.size
  rcases hr0 with hneg0 | ⟨hr0, hrl0, hk0⟩
  · go_wp2_with fail
    go_ret
    exact ⟨rfl, hB1⟩
  go_wp2_with fail
  refine (szTryS_any A1 c1 l1 _ _ (by omega) (by omega) hm1 (h1.below hB1 (Nat.le_refl _)) ho1).mono ?_
  rintro e w2 ⟨⟨r1, rfl, hr1⟩, hb2⟩
  have hB2 := hB1.trans (hb2.mono hB1.size)
  have hz2 := hb2.size
  rcases hr1 with hneg1 | ⟨hr1, hrl1, hk1⟩
  · go_wp2_with fail
    go_ret
    exact ⟨rfl, hB2⟩
  have hl1 : l1.length ≤ 1048576 := by omega
  have HSM := Lib.hid (fun (ps : List (TryH × List Int)) (h : ps.map toV = l1.map toV) => tries_small h (show (l1.length : Int) + totY l1 ≤ 1048576 by omega))
  clear hk1
  obtain ⟨ts, hts⟩ : ∃ ts, ts = l1.map toV := ⟨_, rfl⟩
  have HTS := Lib.hid hts
  clear hts
  have hS := fun (A0' : Option Addr) (c0' : Nat) (A1' : Option Addr) (c1' : Nat) (ps' : List (TryH × List Int)) (sv : ps'.map toV = l1.map toV) (W : World) (q0 : l0.length ≤ c0') (g0 : RdT partT W A0' l0) (g1 : RdY tryT W A1' ps') => gradesS_t A0' c0' l0 A1' c1' ps' ts (sv.trans HTS.out.symm) W (by omega) q0 g0 hk0 (by have := (HSM.out ps' sv).1; omega) (fun p hp => by have := (HSM.out ps' sv).2.1 p hp; omega) g1
  have hI := fun (A0' : Option Addr) (c0' : Nat) (A1' : Option Addr) (c1' : Nat) (ps' : List (TryH × List Int)) (sv : ps'.map toV = l1.map toV) (W : World) (q0 : l0.length ≤ c0') (g0 : RdT partT W A0' l0) (g1 : RdY tryT W A1' ps') => gradesI_t A0' c0' l0 A1' c1' ps' ts (sv.trans HTS.out.symm) W (by omega) q0 g0 hk0 (by have := (HSM.out ps' sv).1; omega) (fun p hp => by have := (HSM.out ps' sv).2.1 p hp; omega) g1
  have hlen := grV_small l0 ts
  generalize grV l0 ts = res at *
  generalize goodB l0 ts = ok at *
  have HS := Lib.hid hS
  have HI := Lib.hid hI
  clear hS hI
  go_wp2_with fail
  refine (toPartS_any A0 c0 l0 _ (by omega) (h0.below hB2 (Nat.le_refl _))).mono ?_
  rintro e w3 ⟨As0, cs0, rfl, os03, hb3⟩
  have lts0 := Lib.hid os03.lt
  have hB3 := hB2.trans (hb3.mono hB2.size)
  have hz3 := hb3.size
  go_wp2_with fail
  refine (toTryS_any A1 c1 l1 _ hl1 (fun p hp => (HSM.out l1 rfl).2.1 p hp) (h1.below hB3 (Nat.le_refl _))).mono ?_
  rintro e w4 ⟨As1, cs1, ps1, rfl, svs1, os14, hb4⟩
  have SVs1 := Lib.hid svs1
  clear svs1
  have lts1 := Lib.hid os14.lt
  have hB4 := hB3.trans (hb4.mono hB3.size)
  have hz4 := hb4.size
  have os04 := os03.below hb4 (Nat.le_refl _)
  clear os03
  go_wp2_with fail
  refine (HS.out As0 cs0 As1 cs1 ps1 SVs1.out _ os04.capn os04.rd os14.rd).mono ?_
  rintro e w5 ⟨AW, cW, pW, rfl, snW, oW5, hb5⟩
  have ltW := Lib.hid oW5.lt
  have smW := Lib.hid (small_rows snW hlen)
  have SNW := Lib.hid snW
  clear snW
  have hB5 := hB4.trans (hb5.mono hB4.size)
  have hz5 := hb5.size
  have os05 := os04.below hb5 (Nat.le_refl _)
  clear os04
  have os15 := os14.below hb5 (Nat.le_refl _)
  clear os14
  clear os05 lts0
  clear os15 lts1
  go_wp2_with fail
  refine (toPartS_any A0 c0 l0 _ (by omega) (h0.below hB5 (Nat.le_refl _))).mono ?_
  rintro e w6 ⟨Ax0, cx0, rfl, ox06, hb6⟩
  have ltx0 := Lib.hid ox06.lt
  have hB6 := hB5.trans (hb6.mono hB5.size)
  have hz6 := hb6.size
  have oW6 := oW5.below hb6 (Nat.le_refl _)
  clear oW5
  go_wp2_with fail
  refine (toTryS_any A1 c1 l1 _ hl1 (fun p hp => (HSM.out l1 rfl).2.1 p hp) (h1.below hB6 (Nat.le_refl _))).mono ?_
  rintro e w7 ⟨Ax1, cx1, px1, rfl, svx1, ox17, hb7⟩
  have SVx1 := Lib.hid svx1
  clear svx1
  have ltx1 := Lib.hid ox17.lt
  have hB7 := hB6.trans (hb7.mono hB6.size)
  have hz7 := hb7.size
  have oW7 := oW6.below hb7 (Nat.le_refl _)
  clear oW6
  have ox07 := ox06.below hb7 (Nat.le_refl _)
  clear ox06
  go_wp2_with fail
  refine (HI.out Ax0 cx0 Ax1 cx1 px1 SVx1.out _ ox07.capn ox07.rd ox17.rd).mono ?_
  rintro e w8 ⟨AG, cG, pG, rfl, snG, oG8, hb8⟩
  have ltG := Lib.hid oG8.lt
  have smG := Lib.hid (small_rows snG hlen)
  have SNG := Lib.hid snG
  clear snG
  have hB8 := hB7.trans (hb8.mono hB7.size)
  have hz8 := hb8.size
  have oW8 := oW7.below hb8 (Nat.le_refl _)
  clear oW7
  have ox08 := ox07.below hb8 (Nat.le_refl _)
  clear ox07
  have ox18 := ox17.below hb8 (Nat.le_refl _)
  clear ox17
  go_wp2_with fail
  refine (eqIntSS_same AG AW _ _ cG cW pG pW _ rfl rfl (by have := smG.out.1; omega) (SNG.out.trans SNW.out.symm) smG.out.2.1 oG8.rd oW8.rd).mono ?_
  rintro e w9 ⟨rfl, hb9⟩
  have hB9 := hB8.trans (hb9.mono hB8.size)
  have hz9 := hb9.size
  have oW9 := oW8.below hb9 (Nat.le_refl _)
  clear oW8
  have ox09 := ox08.below hb9 (Nat.le_refl _)
  clear ox08
  have ox19 := ox18.below hb9 (Nat.le_refl _)
  clear ox18
  have oG9 := oG8.below hb9 (Nat.le_refl _)
  clear oG8
  go_wp2_with fail
  refine (toPartS_any A0 c0 l0 _ (by omega) (h0.below hB9 (Nat.le_refl _))).mono ?_
  rintro e w10 ⟨Ay0, cy0, rfl, oy010, hb10⟩
  have lty0 := Lib.hid oy010.lt
  have hB10 := hB9.trans (hb10.mono hB9.size)
  have hz10 := hb10.size
  have oW10 := oW9.below hb10 (Nat.le_refl _)
  clear oW9
  have ox010 := ox09.below hb10 (Nat.le_refl _)
  clear ox09
  have ox110 := ox19.below hb10 (Nat.le_refl _)
  clear ox19
  have oG10 := oG9.below hb10 (Nat.le_refl _)
  clear oG9
  go_wp2_with fail
  refine (eqPartS_same Ax0 Ay0 _ cx0 cy0 l0 _ rfl (by omega) ox010.rd oy010.rd).mono ?_
  rintro e w11 ⟨rfl, hb11⟩
  have hB11 := hB10.trans (hb11.mono hB10.size)
  have hz11 := hb11.size
  have oW11 := oW10.below hb11 (Nat.le_refl _)
  clear oW10
  have ox011 := ox010.below hb11 (Nat.le_refl _)
  clear ox010
  have ox111 := ox110.below hb11 (Nat.le_refl _)
  clear ox110
  have oG11 := oG10.below hb11 (Nat.le_refl _)
  clear oG10
  have oy011 := oy010.below hb11 (Nat.le_refl _)
  clear oy010
  clear oy011 lty0
  go_wp2_with fail
  refine (toTryS_any A1 c1 l1 _ hl1 (fun p hp => (HSM.out l1 rfl).2.1 p hp) (h1.below hB11 (Nat.le_refl _))).mono ?_
  rintro e w12 ⟨Ay1, cy1, py1, rfl, svy1, oy112, hb12⟩
  have SVy1 := Lib.hid svy1
  clear svy1
  have lty1 := Lib.hid oy112.lt
  have hB12 := hB11.trans (hb12.mono hB11.size)
  have hz12 := hb12.size
  have oW12 := oW11.below hb12 (Nat.le_refl _)
  clear oW11
  have ox012 := ox011.below hb12 (Nat.le_refl _)
  clear ox011
  have ox112 := ox111.below hb12 (Nat.le_refl _)
  clear ox111
  have oG12 := oG11.below hb12 (Nat.le_refl _)
  clear oG11
  go_wp2_with fail
  refine (eqTryS_same Ax1 Ay1 _ _ cx1 cy1 px1 py1 _ rfl rfl (by have := (HSM.out px1 SVx1.out).1; omega) (SVx1.out.trans SVy1.out.symm) (fun p hp => by have := (HSM.out px1 SVx1.out).2.1 p hp; omega) ox112.rd oy112.rd).mono ?_
  rintro e w13 ⟨rfl, hb13⟩
  have hB13 := hB12.trans (hb13.mono hB12.size)
  have hz13 := hb13.size
  have oW13 := oW12.below hb13 (Nat.le_refl _)
  clear oW12
  have ox013 := ox012.below hb13 (Nat.le_refl _)
  clear ox012
  have ox113 := ox112.below hb13 (Nat.le_refl _)
  clear ox112
  have oG13 := oG12.below hb13 (Nat.le_refl _)
  clear oG12
  have oy113 := oy112.below hb13 (Nat.le_refl _)
  clear oy112
  clear oy113 lty1
  have hbs14 := hB13.size
  go_wp2_with fail
  refine (markPartS_ok _ Ax0 cx0 l0 _ _ (by omega) (by omega) (by omega) ox013).mono ?_
  rintro e w14 ⟨rfl, ox014, gr14⟩
  have hB14 := below_gr hB13 gr14 (by omega) (fun k hk => by have := ltx0.out k hk; omega)
  have hz14 := gr14.size
  clear ox013
  have oW14 := oW13.kept gr14 (fun k hk hg => by have := ltx0.out k hk; have := ltW.out k hg; omega)
  clear oW13
  have ox114 := ox113.kept gr14 (fun k hk hg => by have := ltx0.out k hk; have := ltx1.out k hg; omega)
  clear ox113
  have oG14 := oG13.kept gr14 (fun k hk hg => by have := ltx0.out k hk; have := ltG.out k hg; omega)
  clear oG13
  have hbs15 := hB14.size
  go_wp2_with fail
  have tm15 := (HSM.out px1 SVx1.out)
  obtain ⟨tma15, tmb15, tmc15⟩ := tm15
  clear tmb15
  refine (markTryS_ok w6.heap.size Ax1 cx1 px1 _ _ (by omega) (by omega) (by omega) (by omega) (by omega) ox114).mono ?_
  rintro e w15 ⟨rfl, hbm15, fr15⟩
  have FR15 := Lib.hid fr15
  have hB15 := hB14.trans (hbm15.mono (by omega))
  have hz15 := hbm15.size
  clear fr15
  clear ox114
  have oW15 := oW14.same (fun k hk => FR15.out k (by have := (ltW.out k hk).2; omega) (fun hg => by have := (ltW.out k hk); have := (ltx1.out k hg); omega))
  clear oW14
  have ox015 := ox014.same (fun k hk => FR15.out k (by have := (ltx0.out k hk).2; omega) (fun hg => by have := (ltx0.out k hk); have := (ltx1.out k hg); omega))
  clear ox014
  have oG15 := oG14.same (fun k hk => FR15.out k (by have := (ltG.out k hk).2; omega) (fun hg => by have := (ltG.out k hk); have := (ltx1.out k hg); omega))
  clear oG14
  clear ltx1
  clear ox015 ltx0
  go_wp2_with fail
  refine (eqIntSS_same AG AW _ _ cG cW pG pW _ rfl rfl (by have := smG.out.1; omega) (SNG.out.trans SNW.out.symm) smG.out.2.1 oG15.rd oW15.rd).mono ?_
  rintro e w16 ⟨rfl, hb16⟩
  have hB16 := hB15.trans (hb16.mono hB15.size)
  have hz16 := hb16.size
  have oW16 := oW15.below hb16 (Nat.le_refl _)
  clear oW15
  have oG16 := oG15.below hb16 (Nat.le_refl _)
  clear oG15
  have hbs17 := hB16.size
  go_wp2_with fail
  refine (markIntSS_ok w7.heap.size AG cG pG _ _ (by omega) (by omega) (by have := smG.out.1; omega) smG.out.2.2 (by omega) oG16).mono ?_
  rintro e w17 ⟨rfl, oG17, hbm17, fr17⟩
  have tt17 := smG.out.2.2
  have FR17 := Lib.hid fr17
  have hB17 := hB16.trans (hbm17.mono (by omega))
  have hz17 := hbm17.size
  clear fr17
  clear oG16
  have oW17 := oW16.same (fun k hk => FR17.out k (by have := (ltW.out k hk).2; omega) (fun hg => by have := (ltW.out k hk); have := (ltG.out k hg); omega))
  clear oW16
  go_wp2_with fail
  refine (heldIntSS_ok AG _ cG pG 1 _ rfl (by omega) (by omega) (by have := smG.out.1; omega) smG.out.2.2 (by have := oG17.rd; exact this)).mono ?_
  rintro e w18' ⟨rfl, rfl⟩
  go_wp2_with fail
  refine (toPartS_any A0 c0 l0 _ (by omega) (h0.below hB17 (Nat.le_refl _))).mono ?_
  rintro e w18 ⟨Az0, cz0, rfl, oz018, hb18⟩
  have ltz0 := Lib.hid oz018.lt
  have hB18 := hB17.trans (hb18.mono hB17.size)
  have hz18 := hb18.size
  have oW18 := oW17.below hb18 (Nat.le_refl _)
  clear oW17
  have oG18 := oG17.below hb18 (Nat.le_refl _)
  clear oG17
  go_wp2_with fail
  refine (toTryS_any A1 c1 l1 _ hl1 (fun p hp => (HSM.out l1 rfl).2.1 p hp) (h1.below hB18 (Nat.le_refl _))).mono ?_
  rintro e w19 ⟨Az1, cz1, pz1, rfl, svz1, oz119, hb19⟩
  have SVz1 := Lib.hid svz1
  clear svz1
  have ltz1 := Lib.hid oz119.lt
  have hB19 := hB18.trans (hb19.mono hB18.size)
  have hz19 := hb19.size
  have oW19 := oW18.below hb19 (Nat.le_refl _)
  clear oW18
  have oG19 := oG18.below hb19 (Nat.le_refl _)
  clear oG18
  have oz019 := oz018.below hb19 (Nat.le_refl _)
  clear oz018
  go_wp2_with fail
  refine (HI.out Az0 cz0 Az1 cz1 pz1 SVz1.out _ oz019.capn oz019.rd oz119.rd).mono ?_
  rintro e w20 ⟨AH, cH, pH, rfl, snH, oH20, hb20⟩
  have ltH := Lib.hid oH20.lt
  have smH := Lib.hid (small_rows snH hlen)
  have SNH := Lib.hid snH
  clear snH
  have hB20 := hB19.trans (hb20.mono hB19.size)
  have hz20 := hb20.size
  have oW20 := oW19.below hb20 (Nat.le_refl _)
  clear oW19
  have oG20 := oG19.below hb20 (Nat.le_refl _)
  clear oG19
  have oz020 := oz019.below hb20 (Nat.le_refl _)
  clear oz019
  have oz120 := oz119.below hb20 (Nat.le_refl _)
  clear oz119
  go_wp2_with fail
  refine (eqIntSS_same AH AW _ _ cH cW pH pW _ rfl rfl (by have := smH.out.1; omega) (SNH.out.trans SNW.out.symm) smH.out.2.1 oH20.rd oW20.rd).mono ?_
  rintro e w21 ⟨rfl, hb21⟩
  have hB21 := hB20.trans (hb21.mono hB20.size)
  have hz21 := hb21.size
  have oW21 := oW20.below hb21 (Nat.le_refl _)
  clear oW20
  have oG21 := oG20.below hb21 (Nat.le_refl _)
  clear oG20
  have oz021 := oz020.below hb21 (Nat.le_refl _)
  clear oz020
  have oz121 := oz120.below hb21 (Nat.le_refl _)
  clear oz120
  have oH21 := oH20.below hb21 (Nat.le_refl _)
  clear oH20
  go_wp2_with fail
  refine (heldIntSS_ok AG _ cG pG 1 _ rfl (by omega) (by omega) (by have := smG.out.1; omega) smG.out.2.2 (by have := oG21.rd; exact this)).mono ?_
  rintro e w22' ⟨rfl, rfl⟩
  go_wp2_with fail
  go_ret
  exact ⟨rfl, hB21⟩

set_option maxRecDepth 100000 in
theorem fnExactGradesOf_lifted (os : Os) (started : os.Started) (H : Type) (enc : TypeId × Value → H) :
    ReturnsInHanded {} Try.checked os 12 .any (Rows.fnExactGradesOfSpec.pre6 enc Try.prog Try.f12 Rows.fnExactGradesOfRow.domain false) (Rows.fnExactGradesOfSpec.post enc Try.prog Try.f12 false true false false) := by
  refine returnsInHanded_of_change (C := Try.checked) ownk started (by kernel_rfl) Try.func12
    (ChangeSpec.witness6 (enc := enc) (C := Try.checked) false ⟨#[], #[.slice none 0 0, .slice none 0 0], []⟩ 8 (by kernel_rfl) (by kernel_rfl) (by kernel_rfl) (by kernel_rfl)) ?_
  intro W base args ds gs before hval0 hW _ _
  have hval : ∀ (j : Nat) t v, Try.f12.params[j]? = some t → args[j]? = some v → Value.okWide Try.prog W .any base t v := hval0
  have hW' := hW
  obtain ⟨p, q, hA0, hV, rfl, _, _⟩ := hW
  have hA : DataW.TrodAll enc Try.prog W 0 (fun _ => true) true Try.f12.params.toList args.toList ds p := hA0
  rw [Try.params12] at hA hval
  obtain ⟨rfl, rfl⟩ := trodVars_none hV
  simp only [List.append_nil] at hW'
  clear hA0 hval0
  have hargs : ∀ W' : World, Below W.heap.size W W' → DataW.TrodAll enc Try.prog W' 0 (fun b => decide (b < W.heap.size)) true [22, 39] args.toList ds p := fun W' hb => trodAll_below laid_out hb _ _ _ _ (by kernel_rfl) hA (fun x hx => hW'.lt x hx)
  obtain ⟨v0, vs0, d0, ds0, p0, q0, hx, rfl, rfl, h0, r0'⟩ := trodAll_cons hA
  obtain ⟨v1, vs1, d1, ds1, p1, q1, rfl, rfl, rfl, h1, r1'⟩ := trodAll_cons r0'
  obtain ⟨rfl, rfl, rfl⟩ := trodAll_nil r1'
  obtain rfl : args = #[v0, v1] := by cases args; simp_all
  obtain ⟨A0, c0, l0, rfl, m0, o0, r0⟩ := open_rowsP partL (by kernel_rfl) (dec_part W enc) (hval 0 22 v0 rfl rfl) h0
  obtain ⟨A1, c1, l1, rfl, m1, o1, r1⟩ := open_tries W enc (hval 1 39 v1 rfl rfl) h1
  refine (fnExactGradesOf_walk W A0 c0 l0 m0 o0 r0 A1 c1 l1 m1 o1 r1).mono fun e W' ⟨he, hb⟩ => ?_
  subst he
  exact ⟨_, rfl, _, _, _, [], _, [], hW', trodAll_mk1 (shut_bool Try.underlying4 _), hargs W' hb, rfl, hb.frame _, fun h => by cases h⟩
theorem fnExactGradesOf_proved : Rows.FnExactGradesOfSaid :=
  OpenClaim.holds_of_wide 12 Try.f12 rfl rfl rfl rfl rfl rfl rfl ⟨rfl, rfl, rfl, rfl, rfl⟩ rfl rfl rfl rfl rfl (by kernel_rfl) Try.func12 (by kernel_rfl)
    (of_decide_eq_true (by kernel_rfl)) (by unfold Func.isWrapper; first | (rw [if_pos (by decide +kernel)]; kernel_rfl) | (rw [if_neg (by decide +kernel)]; exact ⟨rfl, rfl⟩))
    (fun os started H enc _ => fnExactGradesOf_lifted os started H enc)
#print axioms fnExactGradesOf_proved
end Go.Proofs.Ythoojcmnkhhokaa
