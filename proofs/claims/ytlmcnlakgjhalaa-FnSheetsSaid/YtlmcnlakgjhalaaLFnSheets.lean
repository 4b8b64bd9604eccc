/-
  The law FnSheets: the order by hardness has each exercise once, and leaving out repeats keeps each of them.
-/
import Derived.Test.YtlmcnlakgjhalaaExQ
import Derived.Test.YtlmcnlakgjhalaaFrameB
import Derived.Deep.RegionHeld3
namespace Go.Proofs.Ytlmcnlakgjhalaa
open Go.ChangeShapes Go.WideShapes Go.ChangeAt Go.RowKit

def befV (f : Int → Int) (L : List Int) : Nat → Int
  | 0 => -1
  | k + 1 => f (L.getD k 0)
set_option maxRecDepth 100000 in
set_option maxHeartbeats 8000000 in
theorem fnSheets_walk (w : World) (A0 : Option Addr) (c0 : Nat) (l0 : List (Fin 256)) (_ : l0.length ≤ maxLen) (r0 : RdT byteT w A0 l0) :
    Calls Try.prog 13 #[.slice A0 l0.length c0] w fun e w' => e = .returned (.bool true) ∧ Below w.heap.size w w' := by
  by_cases hbig : 65536 < l0.length
  · have d0 : decide (65536 < l0.length) = true := decide_eq_true hbig
    go_enter Try.func13, Try.ntmps13
    go_wp2_with (go_at_call 40; refine (vBig_any _ _ _ _).mono ?_; rintro e w' ⟨rfl, rfl⟩)
    go_ret
    exact ⟨rfl, Below.refl _ _⟩
  · have d0 : decide (65536 < l0.length) = false := decide_eq_false hbig
    go_enter Try.func13, Try.ntmps13
    go_wp2_with (go_at_call 40; refine (vBig_any _ _ _ _).mono ?_; rintro e w' ⟨rfl, rfl⟩)
    clear d0
    refine (drawHard_any A0 c0 l0 _ (by omega) r0).mono ?_
    rintro e w1 ⟨X, AX, cX, hX, rfl, hrX, hB1⟩
    have HO1 := Lib.hid (fun A c W g => byHardnessI_any A c X W (by omega) g)
    have HO2 := Lib.hid (fun A c W g => byHardnessS_any A c X W (by omega) g)
    have HC1 := Lib.hid (fun A c W g => sheetCarriesI_any A c X W (by omega) g)
    have HC2 := Lib.hid (fun A c W g => sheetCarriesS_any A c X W (by omega) g)
    have HF := Lib.hid (@order_facts X)
    have HE := Lib.hid (@sheetB_iff X)
    have hll := hoV_len X
    generalize hoV X = L at *
    generalize carV X = cv at *
    generalize sheetB X = ok at *
    go_wp2_with fail
    refine (HO1.out _ _ _ hrX).mono ?_
    rintro e w2 ⟨A2, c2, rfl, ho2, hb2⟩
    have hrX := hrX.below hb2 (Nat.le_refl _)
    have hB2 := hB1.trans (hb2.mono hB1.size)
    go_wp2_with fail
    refine (HO2.out _ _ _ hrX).mono ?_
    rintro e w3 ⟨A3, c3, rfl, ho3, hb3⟩
    have hrX := hrX.below hb3 (Nat.le_refl _)
    have ho2 := ho2.below hb3 (Nat.le_refl _)
    have hB3 := hB2.trans (hb3.mono hB2.size)
    go_wp2_with fail
    refine (vInts_same A2 A3 _ c2 c3 L _ rfl (by omega) ho2.rd ho3.rd).mono ?_
    rintro e w4 ⟨rfl, hb4⟩
    have hrX := hrX.below hb4 (Nat.le_refl _)
    have ho2 := ho2.below hb4 (Nat.le_refl _)
    have hB4 := hB3.trans (hb4.mono hB3.size)
    clear hB1 hB2 hB3 hb2 hb3 hb4 ho3 HO1 HO2
    go_wp2_with fail
    refine (HC1.out _ _ _ hrX).mono ?_
    rintro e w5 ⟨rfl, hb5⟩
    have hrX := hrX.below hb5 (Nat.le_refl _)
    have ho2 := ho2.below hb5 (Nat.le_refl _)
    have hB5 := hB4.trans (hb5.mono hB4.size)
    go_wp2_with fail
    refine (HC2.out _ _ _ hrX).mono ?_
    rintro e w6 ⟨rfl, hb6⟩
    have hrX := hrX.below hb6 (Nat.le_refl _)
    have ho2 := ho2.below hb6 (Nat.le_refl _)
    have hB6 := hB5.trans (hb6.mono hB5.size)
    have hr2 := ho2.rd
    clear hB4 hB5 hb5 hb6 ho2 HC1 HC2
    have hP : ok = false ∨ ok = true := by cases ok <;> simp
    rcases hP with rfl | rfl
    · have hB5 := hB6
      clear hB6 HF HE
      go_wp2_with fail
      refine (drawNo_any A0 c0 l0 _ (by omega) (r0.below hB5 (Nat.le_refl _))).mono ?_
      rintro e w60 ⟨Z, AZ, cZ, hZ, rfl, hrZ, hb60⟩
      have hB60 := hB5.trans (hb60.mono hB5.size)
      clear hB5 hb60
      have HN1 := Lib.hid (fun A c W g => noRepeatsI_any A c Z W (by omega) g)
      have HN2 := Lib.hid (fun A c W g => noRepeatsS_any A c Z W (by omega) g)
      have HNF := Lib.hid (fun (h : sheetB Z = true) => nr_facts h)
      have hnl := nrV_len Z
      have HN3 := Lib.hid (fun A c W g => noRepeatsI_any A c (nrV Z) W (by omega) g)
      generalize nrV Z = NZ at *
      generalize sheetB Z = fine at *
      go_wp2_with fail
      refine (HN1.out _ _ _ hrZ).mono ?_
      rintro e w61 ⟨A61, c61, rfl, ho61, hb61⟩
      have hrZ := hrZ.below hb61 (Nat.le_refl _)
      have hB61 := hB60.trans (hb61.mono hB60.size)
      go_wp2_with fail
      refine (HN2.out _ _ _ hrZ).mono ?_
      rintro e w62 ⟨A62, c62, rfl, ho62, hb62⟩
      have ho61 := ho61.below hb62 (Nat.le_refl _)
      have hB62 := hB61.trans (hb62.mono hB61.size)
      go_wp2_with fail
      refine (vPairs_same A61 A62 _ c61 c62 NZ _ rfl (by omega) ho61.rd ho62.rd).mono ?_
      rintro e w63 ⟨rfl, hb63⟩
      have ho61 := ho61.below hb63 (Nat.le_refl _)
      have hB9 := hB62.trans (hb63.mono hB62.size)
      have hr61 := ho61.rd
      clear hB60 hB61 hB62 hb61 hb62 hb63 ho62 hrZ HN1 HN2 ho61
      have hPf : fine = false ∨ fine = true := by cases fine <;> simp
      rcases hPf with rfl | rfl
      · clear HNF HN3
        go_wp2_with fail
        refine (drawTotal_any A0 c0 l0 _ (by omega) (r0.below hB9 (Nat.le_refl _))).mono ?_
        rintro e w80 ⟨Y, AY, cY, hY, rfl, hrY, hb80⟩
        have hB80 := hB9.trans (hb80.mono hB9.size)
        have HP1 := Lib.hid (fun A c W g => sheetTotalI_any A c Y W (by omega) g)
        have HP2 := Lib.hid (fun A c W g => sheetTotalS_any A c Y W (by omega) g)
        generalize totV Y = hv at *
        generalize sheetB Y = hok at *
        go_wp2_with fail
        refine (HP1.out _ _ _ hrY).mono ?_
        rintro e w81 ⟨rfl, hb81⟩
        have hrY := hrY.below hb81 (Nat.le_refl _)
        have hB81 := hB80.trans (hb81.mono hB80.size)
        go_wp2_with fail
        refine (HP2.out _ _ _ hrY).mono ?_
        rintro e w82 ⟨rfl, hb82⟩
        have hB82 := hB81.trans (hb82.mono hB81.size)
        go_wp2
        go_ret
        exact ⟨by simp, hB82⟩
      · obtain ⟨n1, n2, n3, n4⟩ := HNF.out rfl
        rw [n1, n2] at HN3
        clear n1 n2 HNF
        have q1 : decide (Z.length < NZ.length) = false := decide_eq_false (by omega)
        obtain ⟨bz, q2, q3⟩ : ∃ bz : Bool, decide (0 < Z.length) = bz ∧ decide (0 < NZ.length) = bz := ⟨_, rfl, by rw [decide_eq_decide]; exact n4.symm⟩
        clear n3 n4
        go_wp2_with fail
        refine (HN3.out _ _ _ hr61).mono ?_
        rintro e w64 ⟨A64, c64, rfl, ho64, hb64⟩
        have hr61 := hr61.below hb64 (Nat.le_refl _)
        have hB9 := hB9.trans (hb64.mono hB9.size)
        go_wp2_with fail
        refine (vPairs_same A64 A61 _ c64 c61 NZ _ rfl (by omega) ho64.rd hr61).mono ?_
        rintro e w65 ⟨rfl, hb65⟩
        have hB9 := hB9.trans (hb65.mono hB9.size)
        clear hb64 hb65 ho64 hr61 HN3
        go_wp2_with fail
        refine (drawTotal_any A0 c0 l0 _ (by omega) (r0.below hB9 (Nat.le_refl _))).mono ?_
        rintro e w80 ⟨Y, AY, cY, hY, rfl, hrY, hb80⟩
        have hB80 := hB9.trans (hb80.mono hB9.size)
        have HP1 := Lib.hid (fun A c W g => sheetTotalI_any A c Y W (by omega) g)
        have HP2 := Lib.hid (fun A c W g => sheetTotalS_any A c Y W (by omega) g)
        generalize totV Y = hv at *
        generalize sheetB Y = hok at *
        go_wp2_with fail
        refine (HP1.out _ _ _ hrY).mono ?_
        rintro e w81 ⟨rfl, hb81⟩
        have hrY := hrY.below hb81 (Nat.le_refl _)
        have hB81 := hB80.trans (hb81.mono hB80.size)
        go_wp2_with fail
        refine (HP2.out _ _ _ hrY).mono ?_
        rintro e w82 ⟨rfl, hb82⟩
        have hB82 := hB81.trans (hb82.mono hB81.size)
        go_wp2
        go_ret
        exact ⟨by simp, hB82⟩
    · obtain ⟨g1, g2, g3, g4⟩ := HF.out rfl
      have HN := Lib.hid g1
      have HS := Lib.hid g2
      have HM := Lib.hid g3
      have HQ := Lib.hid g4
      clear g1 g2 g3 g4 HF
      go_wp2
      go_loopw [12, 13, 14] (fun n bf i wr => ∃ k : Nat, k ≤ L.length ∧ i = .int .i64 k ∧ n = .int .i64 (sumTo (carK X) L k) ∧ bf = .int .i64 (befV (carK X) L k) ∧ RdI wr A2 L ∧ RdT pairT wr AX X ∧ Below w'.heap.size w' wr) (fun _ _ i _ => L.length - (intOf i).toNat)
      case atStart => exact ⟨0, by omega, rfl, by rw [sumTo_zero], rfl, hr2, hrX, hB6⟩
      case round =>
        obtain ⟨k, hk, rfl, rfl, rfl, hr, hx, hB⟩ := hrel
        clear hr2 hrX hB6
        by_cases hlt : k < L.length
        · obtain ⟨b1, o1, o, rfl, hox, hl1, hc1⟩ := hr.at_ hlt
          have hom := HM.out o (List.mem_of_getElem? hox)
          obtain ⟨on, rfl⟩ : ∃ on : Nat, o = (on : Int) := ⟨o.toNat, by omega⟩
          obtain ⟨b2, o2, p, q, rfl, hpx, hl2, hp1, hp2⟩ := pair_at hx (k := on) (by omega)
          have hbd := (HE.out (by first | rfl | trivial)).2 on p q hpx
          have HK := Lib.hid (fun W => carryColumns_any p q W)
          have hex : exB p q = true := (exB_iff p q).2 hbd
          rw [hex, show colsR p q = cols p q 4 from if_pos hex] at HK
          have hck := carK_at hpx
          have hml := cols_len p q 4
          have hbf : befV (carK X) L k ≤ ((cols p q 4).length : Int) := by
            cases k with
            | zero => show (-1 : Int) ≤ _; omega
            | succ m =>
              have hm : L[m]? = some (L[m]'(by omega)) := List.getElem?_eq_getElem (by omega)
              have := HQ.out m _ _ hm hox
              rw [hck] at this
              show carK X (L.getD m 0) ≤ _
              rw [List.getD_eq_getElem?_getD, hm]
              exact this
          have HB1 := Lib.hid (show befV (carK X) L (k + 1) = ((cols p q 4).length : Int) by show carK X (L.getD k 0) = _; rw [List.getD_eq_getElem?_getD, hox]; exact hck)
          have HS1 := Lib.hid (show sumTo (carK X) L (k + 1) = sumTo (carK X) L k + ((cols p q 4).length : Int) by rw [sumTo_succ (carK X) hox, hck])
          have hsb := sumTo_bd (carK X) 4 L (fun x _ => by
            unfold carK carP
            have := cols_len (X.getD x.toNat (0, 0)).1 (X.getD x.toNat (0, 0)).2 4
            omega) k
          clear hck hox hpx hex hbd
          generalize cols p q 4 = M at *
          generalize befV (carK X) L k = bf at *
          generalize sumTo (carK X) L k = sn at *
          have q1 : decide ((M.length : Int) < bf) = false := decide_eq_false (by omega)
          have i1 : IntKind.i64.wrap (sn + (M.length : Int)) = sn + (M.length : Int) := IntWalk.i64_in _ (by omega)
          have j1 : (on : Int) < (X.length : Int) := by omega
          have j2 : (0 : Int) ≤ on := by omega
          have j3 : (k : Int) < (L.length : Int) := by omega
          clear hbf
          go_wp2_with fail
          go_region_held3 (fun wx => wx.cell? ⟨b1, o1 + k, none⟩ = some (.int .i64 on) ∧ wx.cell? ⟨b2, o2 + on * 2, none⟩ = some (.int .i64 p) ∧ wx.cell? ⟨b2, o2 + on * 2 + 1, none⟩ = some (.int .i64 q)) (((try dsimp only); (repeat' apply And.intro)) <;> (first | assumption | exact hc1 | exact hp1 | exact hp2)) (first | (go_at_call 19; refine (HK.out _).mono ?_; rintro e w24 ⟨A8, c8, rfl, ho8, hb24⟩; have hb25 : Below wr.heap.size wr w24 := (Below.refl _ _).drew.trans hb24; have t0 := (hb25.cell (p := ⟨b1, o1 + k, none⟩) hl1).trans hc1; have t1 := (hb25.cell (p := ⟨b2, o2 + on * 2, none⟩) hl2).trans hp1; have t2 := (hb25.cell (p := ⟨b2, o2 + on * 2 + 1, none⟩) hl2).trans hp2))
          all_goals
            go_wp2
            go_roundw
            case rel => exact ⟨k + 1, by omega, by go_num, by rw [HS1.out], by rw [HB1.out], hr.below hb25 (Nat.le_refl _), hx.below hb25 (Nat.le_refl _), hB.trans (hb25.mono hB.size)⟩
            case measure => simp [intOf]; omega
        · obtain rfl : k = L.length := by omega
          rw [HS.out]
          generalize befV (carK X) L L.length = bf
          have hn := HN.out
          have hB5 := hB
          clear hB hr hx HM HQ HE HS
          go_wp2_with fail
          refine (drawNo_any A0 c0 l0 _ (by omega) (r0.below hB5 (Nat.le_refl _))).mono ?_
          rintro e w60 ⟨Z, AZ, cZ, hZ, rfl, hrZ, hb60⟩
          have hB60 := hB5.trans (hb60.mono hB5.size)
          clear hB5 hb60
          have HN1 := Lib.hid (fun A c W g => noRepeatsI_any A c Z W (by omega) g)
          have HN2 := Lib.hid (fun A c W g => noRepeatsS_any A c Z W (by omega) g)
          have HNF := Lib.hid (fun (h : sheetB Z = true) => nr_facts h)
          have hnl := nrV_len Z
          have HN3 := Lib.hid (fun A c W g => noRepeatsI_any A c (nrV Z) W (by omega) g)
          generalize nrV Z = NZ at *
          generalize sheetB Z = fine at *
          go_wp2_with fail
          refine (HN1.out _ _ _ hrZ).mono ?_
          rintro e w61 ⟨A61, c61, rfl, ho61, hb61⟩
          have hrZ := hrZ.below hb61 (Nat.le_refl _)
          have hB61 := hB60.trans (hb61.mono hB60.size)
          go_wp2_with fail
          refine (HN2.out _ _ _ hrZ).mono ?_
          rintro e w62 ⟨A62, c62, rfl, ho62, hb62⟩
          have ho61 := ho61.below hb62 (Nat.le_refl _)
          have hB62 := hB61.trans (hb62.mono hB61.size)
          go_wp2_with fail
          refine (vPairs_same A61 A62 _ c61 c62 NZ _ rfl (by omega) ho61.rd ho62.rd).mono ?_
          rintro e w63 ⟨rfl, hb63⟩
          have ho61 := ho61.below hb63 (Nat.le_refl _)
          have hB9 := hB62.trans (hb63.mono hB62.size)
          have hr61 := ho61.rd
          clear hB60 hB61 hB62 hb61 hb62 hb63 ho62 hrZ HN1 HN2 ho61
          have hPf : fine = false ∨ fine = true := by cases fine <;> simp
          rcases hPf with rfl | rfl
          · clear HNF HN3
            go_wp2_with fail
            refine (drawTotal_any A0 c0 l0 _ (by omega) (r0.below hB9 (Nat.le_refl _))).mono ?_
            rintro e w80 ⟨Y, AY, cY, hY, rfl, hrY, hb80⟩
            have hB80 := hB9.trans (hb80.mono hB9.size)
            have HP1 := Lib.hid (fun A c W g => sheetTotalI_any A c Y W (by omega) g)
            have HP2 := Lib.hid (fun A c W g => sheetTotalS_any A c Y W (by omega) g)
            generalize totV Y = hv at *
            generalize sheetB Y = hok at *
            go_wp2_with fail
            refine (HP1.out _ _ _ hrY).mono ?_
            rintro e w81 ⟨rfl, hb81⟩
            have hrY := hrY.below hb81 (Nat.le_refl _)
            have hB81 := hB80.trans (hb81.mono hB80.size)
            go_wp2_with fail
            refine (HP2.out _ _ _ hrY).mono ?_
            rintro e w82 ⟨rfl, hb82⟩
            have hB82 := hB81.trans (hb82.mono hB81.size)
            go_wp2
            go_ret
            exact ⟨by simp, hB82⟩
          · obtain ⟨n1, n2, n3, n4⟩ := HNF.out rfl
            rw [n1, n2] at HN3
            clear n1 n2 HNF
            have q1 : decide (Z.length < NZ.length) = false := decide_eq_false (by omega)
            obtain ⟨bz, q2, q3⟩ : ∃ bz : Bool, decide (0 < Z.length) = bz ∧ decide (0 < NZ.length) = bz := ⟨_, rfl, by rw [decide_eq_decide]; exact n4.symm⟩
            clear n3 n4
            go_wp2_with fail
            refine (HN3.out _ _ _ hr61).mono ?_
            rintro e w64 ⟨A64, c64, rfl, ho64, hb64⟩
            have hr61 := hr61.below hb64 (Nat.le_refl _)
            have hB9 := hB9.trans (hb64.mono hB9.size)
            go_wp2_with fail
            refine (vPairs_same A64 A61 _ c64 c61 NZ _ rfl (by omega) ho64.rd hr61).mono ?_
            rintro e w65 ⟨rfl, hb65⟩
            have hB9 := hB9.trans (hb65.mono hB9.size)
            clear hb64 hb65 ho64 hr61 HN3
            go_wp2_with fail
            refine (drawTotal_any A0 c0 l0 _ (by omega) (r0.below hB9 (Nat.le_refl _))).mono ?_
            rintro e w80 ⟨Y, AY, cY, hY, rfl, hrY, hb80⟩
            have hB80 := hB9.trans (hb80.mono hB9.size)
            have HP1 := Lib.hid (fun A c W g => sheetTotalI_any A c Y W (by omega) g)
            have HP2 := Lib.hid (fun A c W g => sheetTotalS_any A c Y W (by omega) g)
            generalize totV Y = hv at *
            generalize sheetB Y = hok at *
            go_wp2_with fail
            refine (HP1.out _ _ _ hrY).mono ?_
            rintro e w81 ⟨rfl, hb81⟩
            have hrY := hrY.below hb81 (Nat.le_refl _)
            have hB81 := hB80.trans (hb81.mono hB80.size)
            go_wp2_with fail
            refine (HP2.out _ _ _ hrY).mono ?_
            rintro e w82 ⟨rfl, hb82⟩
            have hB82 := hB81.trans (hb82.mono hB81.size)
            go_wp2
            go_ret
            exact ⟨by simp, hB82⟩

set_option maxRecDepth 100000 in
theorem fnSheets_lifted (os : Os) (started : os.Started) (H : Type) (enc : TypeId × Value → H) :
    ReturnsInHanded {} Try.checked os 13 .any (Rows.fnSheetsSpec.pre6 enc Try.prog Try.f13 Rows.fnSheetsRow.domain false) (Rows.fnSheetsSpec.post enc Try.prog Try.f13 false true false false) := by
  refine returnsInHanded_of_change (C := Try.checked) ownk started (by kernel_rfl) Try.func13
    (ChangeSpec.witness6 (enc := enc) (C := Try.checked) false ⟨#[], #[.slice none 0 0], []⟩ 8 (by kernel_rfl) (by kernel_rfl) (by kernel_rfl) (by kernel_rfl)) ?_
  intro W base args ds gs before hval0 hW _ _
  have hval : ∀ (j : Nat) t v, Try.f13.params[j]? = some t → args[j]? = some v → Value.okWide Try.prog W .any base t v := hval0
  have hW' := hW
  obtain ⟨p, q, hA0, hV, rfl, _, _⟩ := hW
  have hA : DataW.TrodAll enc Try.prog W 0 (fun _ => true) true Try.f13.params.toList args.toList ds p := hA0
  rw [Try.params13] at hA hval
  obtain ⟨rfl, rfl⟩ := trodVars_none hV
  simp only [List.append_nil] at hW'
  clear hA0 hval0
  have hargs : ∀ W' : World, Below W.heap.size W W' → DataW.TrodAll enc Try.prog W' 0 (fun b => decide (b < W.heap.size)) true [40] args.toList ds p := fun W' hb => trodAll_below laid_out hb _ _ _ _ (by kernel_rfl) hA (fun x hx => hW'.lt x hx)
  obtain ⟨v0, vs0, d0, ds0, p0, q0, hx, rfl, rfl, h0, r0'⟩ := trodAll_cons hA
  obtain ⟨rfl, rfl, rfl⟩ := trodAll_nil r0'
  obtain rfl : args = #[v0] := by cases args; simp_all
  obtain ⟨A0, c0, l0, rfl, m0, r0⟩ := open_rows byteT (by kernel_rfl) (dec_byte W enc) (hval 0 40 v0 rfl rfl) h0
  refine (fnSheets_walk W A0 c0 l0 m0 r0).mono fun e W' ⟨he, hb⟩ => ?_
  subst he
  exact ⟨_, rfl, _, _, _, [], _, [], hW', trodAll_mk1 (shut_bool Try.underlying4 _), hargs W' hb, rfl, hb.frame _, fun h => by cases h⟩
theorem fnSheets_proved : Rows.FnSheetsSaid :=
  OpenClaim.holds_of_wide 13 Try.f13 rfl rfl rfl rfl rfl rfl rfl ⟨rfl, rfl, rfl, rfl, rfl⟩ rfl rfl rfl rfl rfl (by kernel_rfl) Try.func13 (by kernel_rfl)
    (of_decide_eq_true (by kernel_rfl)) (by unfold Func.isWrapper; first | (rw [if_pos (by decide +kernel)]; kernel_rfl) | (rw [if_neg (by decide +kernel)]; exact ⟨rfl, rfl⟩))
    (fun os started H enc _ => fnSheets_lifted os started H enc)
#print axioms fnSheets_proved
end Go.Proofs.Ytlmcnlakgjhalaa
