/-
  The law FnGrades: for every code it is true. No condition.
-/
import Derived.Test.YthoojcmnkhhokaaDrwE
import Derived.Test.YthoojcmnkhhokaaDrwG
import Derived.Test.YthoojcmnkhhokaaGraT
import Derived.Test.YthoojcmnkhhokaaTabA
import Derived.Test.YthoojcmnkhhokaaTabG
import Derived.Test.YthoojcmnkhhokaaFrameB
import Derived.Deep.RegionHeld3
import Derived.Deep.DeepCutAuto
namespace Go.Proofs.Ythoojcmnkhhokaa
set_option maxRecDepth 100000
open Go.ChangeShapes Go.WideShapes Go.ChangeAt Go.RowKit

structure GrSt (w wN : World) (tb : Nat) (A1 : Option Addr) (s : List PartV) (A2 : Option Addr) (c2 : Nat) (lp : List Int) (pu gr : Int) : Prop where
  rs : RdT partT wN A1 s
  rl : RdI wN A2 lp
  bt : Blk wN tb 35 #[.int .i64 pu, .int .i64 gr, .slice A2 lp.length c2]
  hb : Below w.heap.size w wN
theorem GrSt.below {w wN wM : World} {tb : Nat} {A1 : Option Addr} {s : List PartV} {A2 : Option Addr} {c2 : Nat} {lp : List Int} {pu gr : Int} (h : GrSt w wN tb A1 s A2 c2 lp pu gr) (hb : Below wN.heap.size wN wM) : GrSt w wM tb A1 s A2 c2 lp pu gr :=
  ⟨h.rs.below hb (Nat.le_refl _), h.rl.below hb (Nat.le_refl _), h.bt.below hb h.bt.lt, h.hb.trans (hb.mono h.hb.size)⟩
structure GrS2 (w wN : World) (A1 : Option Addr) (s : List PartV) (A2 : Option Addr) (ps : List (TryH × List Int)) : Prop where
  rs : RdT partT wN A1 s
  ry : RdY tryT wN A2 ps
  hb : Below w.heap.size w wN
theorem GrS2.below {w wN wM : World} {A1 : Option Addr} {s : List PartV} {A2 : Option Addr} {ps : List (TryH × List Int)} (h : GrS2 w wN A1 s A2 ps) (hb : Below wN.heap.size wN wM) : GrS2 w wM A1 s A2 ps :=
  ⟨h.rs.below hb (Nat.le_refl _), h.ry.below hb (Nat.le_refl _), h.hb.trans (hb.mono h.hb.size)⟩
theorem RdS.after {w wM : World} {A : Option Addr} {ps : List (HdrV × List Int)} (h : RdS w A ps) (hb : Below w.heap.size w wM) : RdS wM A ps := h.below hb (Nat.le_refl _)
theorem rs_list {s : List PartV} {t : TryV} (h : oneB s t = true) : ((rsV s t).toList == [102, 97, 105, 108, 101, 100]) = !passB s t.points := by
  rw [rsV_yes h]
  cases hp : passB s t.points
  · rw [resV_bad hp]
    first | decide | rfl | simp
  · rcases resV_ok hp with e | e
    · rw [e]; first | decide | rfl | simp
    · rw [e]; first | decide | rfl | simp
theorem miss_fail {s : List PartV} {t : TryV} (h : oneB s t = true) : ∃ bz : Bool, (pmV s t == 0) = bz ∧ (rsV s t != ⟨#[102, 97, 105, 108, 101, 100]⟩) = bz ∧ ((rsV s t).toList == [102, 97, 105, 108, 101, 100]) = !bz := by
  refine ⟨passB s t.points, ?_, rs_fail h, rs_list h⟩
  have := (pm_pass h).1
  cases hp : passB s t.points
  · rw [beq_eq_false_iff_ne]; intro e; rw [hp] at this; exact absurd (this.1 e) (by decide)
  · rw [beq_iff_eq]; exact this.2 hp
set_option maxRecDepth 100000 in
set_option maxHeartbeats 8000000 in
theorem fnGrades_walk (w : World) (A0 : Option Addr) (c0 : Nat) (l0 : List (Fin 256)) (_ : l0.length ≤ maxLen) (r0 : RdT byteT w A0 l0) :
    Calls Try.prog 14 #[.slice A0 l0.length c0] w fun e w' => e = .returned (.bool true) ∧ Below w.heap.size w w' := by
  by_cases hbig : 65536 < l0.length
  · have d0 : decide (65536 < l0.length) = true := decide_eq_true hbig
    go_enter Try.func14, Try.ntmps14
    go_wp2_with (go_at_call 56; refine (rBig_any _ _ _ _).mono ?_; rintro e w' ⟨rfl, rfl⟩)
    go_ret
    exact ⟨rfl, Below.refl _ _⟩
  · have d0 : decide (65536 < l0.length) = false := decide_eq_false hbig
    go_enter Try.func14, Try.ntmps14
    go_wp2_with (go_at_call 56; refine (rBig_any _ _ _ _).mono ?_; rintro e w' ⟨rfl, rfl⟩)
    clear d0
    refine (drawResult_any A0 c0 l0 _ (by omega) r0).mono ?_
    rintro e w1 ⟨s, A1, c1, pu, gr, lp, A2, c2, rfl, hn1, hcap, hs1, hrs, hlp, hrl, hB1⟩
    have hok : ∀ x ∈ s, x.ok := fun x hx => by have := (hs1 x hx).1; show x.name.size ≤ 1048576; omega
    have KR1 := Lib.hid (fun W g1 g2 => resultI_any A1 c1 s pu gr A2 c2 lp W (by omega) hcap g1 hok (by omega) g2)
    have KR2 := Lib.hid (fun W g1 g2 => resultS_any A1 c1 s pu gr A2 c2 lp W (by omega) hcap g1 hok (by omega) g2)
    have KM1 := Lib.hid (fun W g1 g2 => missI_any A1 c1 s pu gr A2 c2 lp W (by omega) hcap g1 hok (by omega) g2)
    have KM2 := Lib.hid (fun W g1 g2 => missS_any A1 c1 s pu gr A2 c2 lp W (by omega) hcap g1 hok (by omega) g2)
    have KW1 := Lib.hid (fun W g1 g2 => weakI_any A1 c1 s pu gr A2 c2 lp W (by omega) hcap g1 hok (by omega) g2)
    have KW2 := Lib.hid (fun W g1 g2 => weakS_any A1 c1 s pu gr A2 c2 lp W (by omega) hcap g1 hok (by omega) g2)
    have KP1 := Lib.hid (fun W g1 g2 => percentI_any A1 c1 s pu gr A2 c2 lp W (by omega) hcap g1 hok (by omega) g2)
    have KP2 := Lib.hid (fun W g1 g2 => percentS_any A1 c1 s pu gr A2 c2 lp W (by omega) hcap g1 hok (by omega) g2)
    have HMF := Lib.hid (@miss_fail s ⟨pu, gr, lp⟩)
    have HWM := Lib.hid (wk_miss s ⟨pu, gr, lp⟩)
    have hwl := wkV_len s ⟨pu, gr, lp⟩
    obtain ⟨hp0, hp1⟩ := per_in s ⟨pu, gr, lp⟩
    generalize rsV s ⟨pu, gr, lp⟩ = R at *
    generalize pmV s ⟨pu, gr, lp⟩ = M at *
    generalize perV s ⟨pu, gr, lp⟩ = PC at *
    generalize wkV s ⟨pu, gr, lp⟩ = WK at *
    generalize oneB s ⟨pu, gr, lp⟩ = ok at *
    obtain ⟨w2, hw2⟩ : ∃ w2 : World, w2 = w1.alloc (.cells #[.int .i64 pu, .int .i64 gr, .slice A2 lp.length c2] 35) := ⟨_, rfl⟩
    obtain ⟨tb, htb⟩ : ∃ tb : Nat, tb = w1.heap.size := ⟨_, rfl⟩
    have HG : GrSt w' w2 tb A1 s A2 c2 lp pu gr := by
      have hb := (Below.refl w1.heap.size w1).alloc (Nat.le_refl _) (.cells #[.int .i64 pu, .int .i64 gr, .slice A2 lp.length c2] 35)
      rw [hw2, htb]
      exact ⟨hrs.below hb (Nat.le_refl _), hrl.below hb (Nat.le_refl _), Blk.new w1 _ _, hB1.alloc hB1.size _⟩
    clear hrs hrl hB1
    go_upto_region 4 with fail
    rw [← hw2, ← htb]
    clear hw2 htb
    have b0 := HG.bt.cell 0
    have b1 := HG.bt.cell 1
    have b2 := HG.bt.cell 2
    go_wp2_with fail
    refine (KR1.out _ HG.rs HG.rl).mono ?_
    rintro e w3 ⟨rfl, hb3⟩
    have HG := HG.below hb3
    clear b0 b1 b2 hb3 KR1
    have b0 := HG.bt.cell 0
    have b1 := HG.bt.cell 1
    have b2 := HG.bt.cell 2
    go_wp2_with fail
    refine (KR2.out _ HG.rs HG.rl).mono ?_
    rintro e w4 ⟨rfl, hb4⟩
    have HG := HG.below hb4
    clear b0 b1 b2 hb4 KR2
    have b0 := HG.bt.cell 0
    have b1 := HG.bt.cell 1
    have b2 := HG.bt.cell 2
    go_wp2_with fail
    refine (KM1.out _ HG.rs HG.rl).mono ?_
    rintro e w5 ⟨rfl, hb5⟩
    have HG := HG.below hb5
    clear b0 b1 b2 hb5 KM1
    have b0 := HG.bt.cell 0
    have b1 := HG.bt.cell 1
    have b2 := HG.bt.cell 2
    go_wp2_with fail
    refine (KM2.out _ HG.rs HG.rl).mono ?_
    rintro e w6 ⟨rfl, hb6⟩
    have HG := HG.below hb6
    clear b0 b1 b2 hb6 KM2
    go_upto_region 10 with fail
    go_cut [94] (fun s94 wx => s94 = .bool false ∧ wx = w6)
    case first =>
      have hP : ok = false ∨ ok = true := by cases ok <;> simp
      rcases hP with rfl | rfl
      · go_wp2_with fail
        go_meet
        exact ⟨rfl, rfl⟩
      · obtain ⟨bz, q1, q2, q3⟩ := HMF.out rfl
        go_wp2_with fail
        go_meet
        exact ⟨by cases bz <;> simp, rfl⟩
    case rest =>
      obtain ⟨rfl, rfl⟩ := hcut
      clear HMF
      have b0 := HG.bt.cell 0
      have b1 := HG.bt.cell 1
      have b2 := HG.bt.cell 2
      go_wp2_with fail
      refine (KW1.out _ HG.rs HG.rl).mono ?_
      rintro e w7 ⟨A3, c3, rfl, ho7, hb7⟩
      have HG := HG.below hb7
      clear b0 b1 b2 hb7 KW1
      have b0 := HG.bt.cell 0
      have b1 := HG.bt.cell 1
      have b2 := HG.bt.cell 2
      go_wp2_with fail
      refine (KW2.out _ HG.rs HG.rl).mono ?_
      rintro e w8 ⟨A4, c4, rfl, ho8, hb8⟩
      have HG := HG.below hb8
      have h7 := (ho7.rd).below hb8 (Nat.le_refl _)
      have h8 := ho8.rd
      have dw : decide (M < (WK.length : Int)) = false := decide_eq_false (by have := HWM.out; omega)
      clear b0 b1 b2 hb8 KW2 ho7 ho8 HWM
      go_wp2_with fail
      refine (rTexts_same A3 A4 _ c3 c4 WK _ rfl (by omega) h7 h8).mono ?_
      rintro e w9 ⟨rfl, hb9⟩
      have HG := HG.below hb9
      clear h7 h8 hb9
      have b0 := HG.bt.cell 0
      have b1 := HG.bt.cell 1
      have b2 := HG.bt.cell 2
      go_wp2_with fail
      refine (KP1.out _ HG.rs HG.rl).mono ?_
      rintro e w10 ⟨rfl, hb10⟩
      have HG := HG.below hb10
      clear b0 b1 b2 hb10 KP1 dw
      have b0 := HG.bt.cell 0
      have b1 := HG.bt.cell 1
      have b2 := HG.bt.cell 2
      go_wp2_with fail
      refine (KP2.out _ HG.rs HG.rl).mono ?_
      rintro e w11 ⟨rfl, hb11⟩
      have hB11 := (HG.below hb11).hb
      have dp0 : decide (PC < 0) = false := decide_eq_false (by omega)
      have dp1 : decide (100 < PC) = false := decide_eq_false (by omega)
      clear b0 b1 b2 hb11 KP2 HG
      go_wp2_with fail
      refine (drawGradesOf_any A0 c0 l0 _ (by omega) (r0.below hB11 (Nat.le_refl _))).mono ?_
      rintro e w12 ⟨s2, A11, c11, ps2, A12, c12, rfl, hn2, hcap2, hs2, hrs2, hm2, hp82, hry2, hb12⟩
      clear dp0 dp1
      have HG : GrS2 w' w12 A11 s2 A12 ps2 := ⟨hrs2, hry2, hB11.trans (hb12.mono hB11.size)⟩
      clear hB11 hb12 hrs2 hry2
      obtain ⟨ts2, hts2⟩ : ∃ ts, ts = ps2.map toV := ⟨_, rfl⟩
      have hok2 : ∀ x ∈ s2, x.ok := fun x hx => by have := (hs2 x hx).1; show x.name.size ≤ 1048576; omega
      have hsm2 : ∀ p ∈ ps2, p.2.length ≤ 16777216 := fun p hp => by have := hp82 p hp; omega
      have KG1 := Lib.hid (fun W h1 h2 => gradesI_t A11 c11 s2 A12 c12 ps2 ts2 hts2.symm W (by omega) hcap2 h1 hok2 (by omega) hsm2 h2)
      have KG2 := Lib.hid (fun W h1 h2 => gradesS_t A11 c11 s2 A12 c12 ps2 ts2 hts2.symm W (by omega) hcap2 h1 hok2 (by omega) hsm2 h2)
      have KC1 := Lib.hid (fun W h1 h2 => countI_t A11 c11 s2 A12 c12 ps2 ts2 hts2.symm W (by omega) hcap2 h1 hok2 (by omega) hsm2 h2)
      have KC2 := Lib.hid (fun W h1 h2 => countS_t A11 c11 s2 A12 c12 ps2 ts2 hts2.symm W (by omega) hcap2 h1 hok2 (by omega) hsm2 h2)
      have KS1 := Lib.hid (fun W g => isScheme_any A11 c11 s2 W (by omega) hcap2 g hok2)
      have KS2 := Lib.hid (fun W g => isSchemeS_any A11 c11 s2 W (by omega) hcap2 g hok2)
      have HRow := Lib.hid (fun k r h => @gr_row s2 ts2 k r h)
      have HDone := Lib.hid (@grN_done s2 ts2)
      have HSml := Lib.hid (fun (gs : List (HdrV × List Int)) (h : gs.map Prod.snd = grV s2 ts2) => small_rows h (grV_small s2 ts2))
      have hcl := cvV_len s2 ts2
      have HN0 : Hid (grN s2 ts2 0 = 0) := Lib.hid (by unfold grN; rfl)
      clear hts2
      generalize goodB s2 ts2 = ok2 at *
      generalize grV s2 ts2 = G at *
      generalize cvV s2 ts2 = C at *
      generalize grN s2 ts2 = GN at *
      go_wp2_with fail
      refine (KG1.out _ HG.rs HG.ry).mono ?_
      rintro e w13 ⟨A13, c13, gs, rfl, hg1, ho13, hb13⟩
      have HG := HG.below hb13
      clear hb13 KG1
      go_wp2_with fail
      refine (KG2.out _ HG.rs HG.ry).mono ?_
      rintro e w14 ⟨A14, c14, gq, rfl, hg2, ho14, hb14⟩
      have HG := HG.below hb14
      have h13 := (ho13.rd).after hb14
      have h14 := ho14.rd
      obtain ⟨hgl, hgsm, _⟩ := HSml.out gs hg1
      have HGS := Lib.hid hg1
      have hgg : gs.map Prod.snd = gq.map Prod.snd := hg1.trans hg2.symm
      have KT := Lib.hid (fun W g1 g2 => rTable_same A13 A14 gs.length gq.length c13 c14 gs gq W rfl rfl (by omega) hgg hgsm g1 g2)
      clear hb14 KG2 ho13 ho14 HSml hg1 hg2 hgg
      go_wp2_with fail
      refine (KT.out _ h13 h14).mono ?_
      rintro e w15 ⟨rfl, hb15⟩
      have HG := HG.below hb15
      have h13 := h13.after hb15
      clear hb15 KT h14
      go_wp2_with fail
      refine (KC1.out _ HG.rs HG.ry).mono ?_
      rintro e w16 ⟨A15, c15, rfl, ho16, hb16⟩
      have HG := HG.below hb16
      have h13 := h13.after hb16
      clear hb16 KC1
      go_wp2_with fail
      refine (KC2.out _ HG.rs HG.ry).mono ?_
      rintro e w17 ⟨A16, c16, rfl, ho17, hb17⟩
      have HG := HG.below hb17
      have h13 := h13.after hb17
      have h16 := (ho16.below hb17 (Nat.le_refl _)).rd
      have h17 := ho17.rd
      clear hb17 KC2 ho16 ho17
      go_wp2_with fail
      refine (rInts_same A15 A16 C.length c15 c16 C _ rfl (by omega) h16 h17).mono ?_
      rintro e w18 ⟨rfl, hb18⟩
      have HG := HG.below hb18
      have h13 := h13.after hb18
      clear hb18 h16 h17
      go_wp2_with fail
      go_loopw [31, 32] (fun n i wr => ∃ k : Nat, k ≤ gs.length ∧ i = .int .i64 k ∧ n = .int .i64 (GN k : Nat) ∧ RdS wr A13 gs ∧ GrS2 w' wr A11 s2 A12 ps2) (fun _ i _ => gs.length - (intOf i).toNat)
      case atStart => exact ⟨0, by omega, rfl, by rw [HN0.out]; rfl, h13, HG⟩
      case round =>
        obtain ⟨k, hk, rfl, rfl, h3, HG5⟩ := hrel
        clear h13 HG
        by_cases hlt : k < gs.length
        · obtain ⟨b1, o1, A3, c3, l1, rfl, hx1, hl1, hc1, hr1⟩ := h3.at_ hlt
          have hx2 : G[k]? = some l1 := by rw [← HGS.out, List.getElem?_map, hx1]; rfl
          obtain ⟨p, m, rfl, hp, hm, hN, hNb⟩ := HRow.out k l1 hx2
          obtain ⟨b2, o2, x, rfl, hxp, hl2, hc2⟩ := hr1.at_ (k := 0) (by simp)
          obtain rfl : p = x := by simpa using hxp
          have hc2' : wr.cell? ⟨b2, o2, none⟩ = some (.int .i64 p) := hc2
          have KS := Lib.hid (fun W g => rSum_two (some ⟨b2, o2, none⟩) c3 p m W (by omega) (by omega) g)
          have i1 : IntKind.i64.wrap ((GN k : Nat) + (p + (m : Int))) = (GN k : Nat) + (p + (m : Int)) := IntWalk.i64_in _ (by omega)
          have i2 : IntKind.i64.wrap ((GN k : Nat) + (p + (m : Int)) - p) = ((GN (k + 1) : Nat) : Int) := by rw [IntWalk.i64_in _ (by omega)]; omega
          have j1 : (k : Int) < (gs.length : Int) := by omega
          clear hx1 hx2 hxp hc2
          simp only [List.length_cons, List.length_nil, Nat.zero_add] at hc1
          go_wp2_with fail
          go_quiet ((go_at_call 65; exact Calls.quiet_of_same (KS.out _ (by exact hr1))))
          go_wp2
          go_roundw
          case rel => exact ⟨k + 1, by omega, by go_num, congrArg (Value.int .i64) (by omega), h3.after (below_drewN (Below.refl _ _) _), HG5.below (below_drewN (Below.refl _ _) _)⟩
          case measure => first | (simp [intOf]; done) | (simp [intOf]; omega)
        · obtain rfl : k = gs.length := by omega
          have hd := HDone.out
          rw [← HGS.out, List.length_map] at hd
          have de : ((GN gs.length : Nat) : Int) = (C.length : Int) := hd
          have db : (((GN gs.length : Nat) : Int) == (C.length : Int)) = true := by rw [beq_iff_eq]; exact de
          go_wp2_with fail
          refine (KS1.out _ HG5.rs).mono ?_
          rintro e w20 ⟨rfl, hb20⟩
          have HG6 := HG5.below hb20
          go_wp2_with fail
          refine (KS2.out _ HG6.rs).mono ?_
          rintro e w21 ⟨rfl, hb21⟩
          have HG7 := HG6.below hb21
          go_wp2_with fail
          go_ret
          exact ⟨by simp, HG7.hb⟩
set_option maxRecDepth 100000 in
theorem fnGrades_lifted (os : Os) (started : os.Started) (H : Type) (enc : TypeId × Value → H) :
    ReturnsInHanded {} Try.checked os 14 .any (Rows.fnGradesSpec.pre6 enc Try.prog Try.f14 Rows.fnGradesRow.domain false) (Rows.fnGradesSpec.post enc Try.prog Try.f14 false true false false) := by
  refine returnsInHanded_of_change (C := Try.checked) ownk started (by kernel_rfl) Try.func14
    (ChangeSpec.witness6 (enc := enc) (C := Try.checked) false ⟨#[], #[.slice none 0 0], []⟩ 8 (by kernel_rfl) (by kernel_rfl) (by kernel_rfl) (by kernel_rfl)) ?_
  intro W base args ds gs before hval0 hW _ _
  have hval : ∀ (j : Nat) t v, Try.f14.params[j]? = some t → args[j]? = some v → Value.okWide Try.prog W .any base t v := hval0
  have hW' := hW
  obtain ⟨p, q, hA0, hV, rfl, _, _⟩ := hW
  have hA : DataW.TrodAll enc Try.prog W 0 (fun _ => true) true Try.f14.params.toList args.toList ds p := hA0
  rw [Try.params14] at hA hval
  obtain ⟨rfl, rfl⟩ := trodVars_none hV
  simp only [List.append_nil] at hW'
  clear hA0 hval0
  have hargs : ∀ W' : World, Below W.heap.size W W' → DataW.TrodAll enc Try.prog W' 0 (fun b => decide (b < W.heap.size)) true [66] args.toList ds p := fun W' hb => trodAll_below laid_out hb _ _ _ _ (by kernel_rfl) hA (fun x hx => hW'.lt x hx)
  obtain ⟨v0, vs0, d0, ds0, p0, q0, hx, rfl, rfl, h0, r0'⟩ := trodAll_cons hA
  obtain ⟨rfl, rfl, rfl⟩ := trodAll_nil r0'
  obtain rfl : args = #[v0] := by cases args; simp_all
  obtain ⟨A0, c0, l0, rfl, m0, r0⟩ := open_rows byteT (by kernel_rfl) (dec_byte W enc) (hval 0 66 v0 rfl rfl) h0
  refine (fnGrades_walk W A0 c0 l0 m0 r0).mono fun e W' ⟨he, hb⟩ => ?_
  subst he
  exact ⟨_, rfl, _, _, _, [], _, [], hW', trodAll_mk1 (shut_bool Try.underlying4 _), hargs W' hb, rfl, hb.frame _, fun h => by cases h⟩
theorem fnGrades_proved : Rows.FnGradesSaid :=
  OpenClaim.holds_of_wide 14 Try.f14 rfl rfl rfl rfl rfl rfl rfl ⟨rfl, rfl, rfl, rfl, rfl⟩ rfl rfl rfl rfl rfl (by kernel_rfl) Try.func14 (by kernel_rfl)
    (of_decide_eq_true (by kernel_rfl)) (by unfold Func.isWrapper; first | (rw [if_pos (by decide +kernel)]; kernel_rfl) | (rw [if_neg (by decide +kernel)]; exact ⟨rfl, rfl⟩))
    (fun os started H enc _ => fnGrades_lifted os started H enc)
#print axioms fnGrades_proved
end Go.Proofs.Ythoojcmnkhhokaa
