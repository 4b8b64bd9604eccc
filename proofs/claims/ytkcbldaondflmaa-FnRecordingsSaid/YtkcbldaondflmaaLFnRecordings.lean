/-
  The law FnRecordings: for every code it is true. No condition.
-/
import Derived.Test.YtkcbldaondflmaaFrmP
import Derived.Test.YtkcbldaondflmaaFrmQ
import Derived.Test.YtkcbldaondflmaaRecP
import Derived.Test.YtkcbldaondflmaaRecF
import Derived.Test.YtkcbldaondflmaaRecC
import Derived.Test.YtkcbldaondflmaaCurC
import Derived.Test.YtkcbldaondflmaaFrameB
import Derived.Deep.RegionHeld3
import Derived.Deep.DeepCutAuto
namespace Go.Proofs.Ytkcbldaondflmaa
open Go.ChangeShapes Go.WideShapes Go.ChangeAt Go.RowKit

structure ReSt (w wN : World) (A1 : Option Addr) (a : List MoveV) (A2 : Option Addr) (b : List MoveV) : Prop where
  ra : RdT moveT wN A1 a
  rb : RdT moveT wN A2 b
  hb : Below w.heap.size w wN
theorem ReSt.below {w wN wM : World} {A1 A2 : Option Addr} {a b : List MoveV} (h : ReSt w wN A1 a A2 b) (hb : Below wN.heap.size wN wM) : ReSt w wM A1 a A2 b :=
  ⟨h.ra.below hb (Nat.le_refl _), h.rb.below hb (Nat.le_refl _), h.hb.trans (hb.mono h.hb.size)⟩
structure LiSt (w wN : World) (A1 : Option Addr) (ps : List (HdrV × List MoveV)) (A2 : Option Addr) (b : List MoveV) : Prop where
  ra : RdM hdrM moveT wN A1 ps
  rb : RdT moveT wN A2 b
  hb : Below w.heap.size w wN
theorem LiSt.below {w wN wM : World} {A1 A2 : Option Addr} {ps : List (HdrV × List MoveV)} {b : List MoveV} (h : LiSt w wN A1 ps A2 b) (hb : Below wN.heap.size wN wM) : LiSt w wM A1 ps A2 b :=
  ⟨h.ra.below hb (Nat.le_refl _), h.rb.below hb (Nat.le_refl _), h.hb.trans (hb.mono h.hb.size)⟩
theorem pair_facts {a b : List MoveV} (h : (recB a && recB b) = true) :
    (recB b && recB a) = true ∧ mdV b a = mdV a b ∧ (mdV a b = 0 ↔ a = b) ∧ rafV a b ≤ kpV a b ∧ mdV a b ≤ 2 * ((a.length : Int) + b.length - 2 * kpV a b) ∧ kpV a b ≤ a.length ∧ kpV a b ≤ b.length ∧ 0 ≤ kpV a b ∧ (scV a b = 100 ↔ a = b) := by
  rw [Bool.and_eq_true] at h
  obtain ⟨h1, h2⟩ := h
  obtain ⟨k1, k2, k3, k4⟩ := dist_kept a b
  rw [mdV_yes h1 h2, mdV_yes h2 h1, kpV_yes h1 h2, rafV_yes h1 h2]
  exact ⟨by rw [h1, h2]; rfl, dist_comm b a, dist_zero a b, raf_kept a b, k1, k2, k3, k4, score_full h1 h2⟩
theorem list_facts {ps : List (HdrV × List MoveV)} {b : List MoveV} (h : brB (ps.map Prod.snd) b = true) :
    ∃ k : Nat, brV (ps.map Prod.snd) b = k ∧ k < ps.length ∧ ∃ m : Int, (∀ p, ps[k]? = some p → (recB p.2 && recB b) = true ∧ mdV p.2 b = m) ∧ ∀ (i : Nat) p, ps[i]? = some p → (recB p.2 && recB b) = true ∧ m ≤ mdV p.2 b := by
  obtain ⟨k, h1, h2, h3, h4, best, h5, h6⟩ := br_facts h
  have hb := h4 best (List.mem_of_getElem? h5)
  refine ⟨k, h1, by simpa using h2, mdV best b, fun p hp => ?_, fun i p hp => ?_⟩
  · rw [List.getElem?_map, hp] at h5
    injection h5 with h5
    rw [h5]
    exact ⟨by rw [hb, h3]; rfl, rfl⟩
  · have hm : p.2 ∈ ps.map Prod.snd := List.mem_map.2 ⟨p, List.mem_of_getElem? hp, rfl⟩
    have hp2 := h4 _ hm
    rw [mdV_yes hb h3, mdV_yes hp2 h3]
    exact ⟨by rw [hp2, h3]; rfl, h6 _ hm⟩
set_option maxRecDepth 100000 in
set_option maxHeartbeats 8000000 in
theorem fnRecordings_walk (w : World) (A0 : Option Addr) (c0 : Nat) (l0 : List (Fin 256)) (_ : l0.length ≤ maxLen) (r0 : RdT byteT w A0 l0) :
    Calls Try.prog 10 #[.slice A0 l0.length c0] w fun e w' => e = .returned (.bool true) ∧ Below w.heap.size w w' := by
  by_cases hbig : 65536 < l0.length
  · have d0 : decide (65536 < l0.length) = true := decide_eq_true hbig
    go_enter Try.func10, Try.ntmps10
    go_wp2_with (go_at_call 35; refine (vBig_any _ _ _ _).mono ?_; rintro e w' ⟨rfl, rfl⟩)
    go_ret
    exact ⟨rfl, Below.refl _ _⟩
  · have d0 : decide (65536 < l0.length) = false := decide_eq_false hbig
    go_enter Try.func10, Try.ntmps10
    go_wp2_with (go_at_call 35; refine (vBig_any _ _ _ _).mono ?_; rintro e w' ⟨rfl, rfl⟩)
    clear d0
    refine (drawMoveDistance_any A0 c0 l0 _ (by omega) r0).mono ?_
    rintro e w1 ⟨a, A1, c1, b, A2, c2, rfl, hna, hnb, hra, hrb, hB1⟩
    have HG : ReSt w' w1 A1 a A2 b := ⟨hra, hrb, hB1⟩
    clear hra hrb hB1
    have KM1 := Lib.hid (fun W g1 g2 => moveDistanceI_any A1 c1 a A2 c2 b W (by omega) g1 (by omega) g2)
    have KM2 := Lib.hid (fun W g1 g2 => moveDistanceS_any A1 c1 a A2 c2 b W (by omega) g1 (by omega) g2)
    have KM3 := Lib.hid (fun W g1 g2 => moveDistanceI_any A2 c2 b A1 c1 a W (by omega) g1 (by omega) g2)
    have KK1 := Lib.hid (fun W g1 g2 => keptMovesI_any A1 c1 a A2 c2 b W (by omega) g1 (by omega) g2)
    have KK2 := Lib.hid (fun W g1 g2 => keptMovesS_any A1 c1 a A2 c2 b W (by omega) g1 (by omega) g2)
    have KR1 := Lib.hid (fun W g1 g2 => rightAtFirstI_any A1 c1 a A2 c2 b W (by omega) g1 (by omega) g2)
    have KR2 := Lib.hid (fun W g1 g2 => rightAtFirstS_any A1 c1 a A2 c2 b W (by omega) g1 (by omega) g2)
    have KS1 := Lib.hid (fun W g1 g2 => recordingScoreI_any A1 c1 a A2 c2 b W (by omega) g1 (by omega) g2)
    have KS2 := Lib.hid (fun W g1 g2 => recordingScoreS_any A1 c1 a A2 c2 b W (by omega) g1 (by omega) g2)
    have HPF := Lib.hid (@pair_facts a b)
    generalize mdV a b = n at *
    generalize mdV b a = back at *
    generalize kpV a b = kp at *
    generalize rafV a b = fi at *
    generalize scV a b = sc at *
    generalize (recB a && recB b) = ok at *
    generalize (recB b && recB a) = one at *
    go_wp2_with fail
    refine (KM1.out _ HG.ra HG.rb).mono ?_
    rintro e w2 ⟨rfl, hb2⟩
    have HG := HG.below hb2
    clear hb2 KM1
    go_wp2_with fail
    refine (KM2.out _ HG.ra HG.rb).mono ?_
    rintro e w3 ⟨rfl, hb3⟩
    have HG := HG.below hb3
    clear hb3 KM2
    go_wp2_with fail
    refine (KK1.out _ HG.ra HG.rb).mono ?_
    rintro e w4 ⟨rfl, hb4⟩
    have HG := HG.below hb4
    clear hb4 KK1
    go_wp2_with fail
    refine (KK2.out _ HG.ra HG.rb).mono ?_
    rintro e w5 ⟨rfl, hb5⟩
    have HG := HG.below hb5
    clear hb5 KK2
    go_wp2_with fail
    refine (KR1.out _ HG.ra HG.rb).mono ?_
    rintro e w6 ⟨rfl, hb6⟩
    have HG := HG.below hb6
    clear hb6 KR1
    go_wp2_with fail
    refine (KR2.out _ HG.ra HG.rb).mono ?_
    rintro e w7 ⟨rfl, hb7⟩
    have HG := HG.below hb7
    clear hb7 KR2
    go_wp2_with fail
    refine (KS1.out _ HG.ra HG.rb).mono ?_
    rintro e w8 ⟨rfl, hb8⟩
    have HG := HG.below hb8
    clear hb8 KS1
    go_wp2_with fail
    refine (KS2.out _ HG.ra HG.rb).mono ?_
    rintro e w9 ⟨rfl, hb9⟩
    have HG := HG.below hb9
    clear hb9 KS2
    go_upto_if 143 with fail
    go_cut [] (fun wx => Below w'.heap.size w' wx)
    case first => as_aux_lemma =>
      have hP : ok = false ∨ ok = true := by cases ok <;> simp
      rcases hP with rfl | rfl
      · go_wp2_with fail
        go_meet
        exact HG.hb
      · obtain ⟨e1, e2, e3, e4, e5, e6, e7, e8, e9⟩ := HPF.out rfl
        subst e1 e2
        have P3 := Lib.hid e3
        have P9 := Lib.hid e9
        clear e3 e9 HPF
        have i1 : IntKind.i64.wrap ((a.length : Int) + (b.length : Int)) = (a.length : Int) + (b.length : Int) := IntWalk.i64_in _ (by omega)
        have i2 : IntKind.i64.wrap (2 * kp) = 2 * kp := IntWalk.i64_in _ (by omega)
        have i3 : IntKind.i64.wrap ((a.length : Int) + (b.length : Int) - 2 * kp) = (a.length : Int) + (b.length : Int) - 2 * kp := IntWalk.i64_in _ (by omega)
        have i4 : IntKind.i64.wrap (2 * ((a.length : Int) + (b.length : Int) - 2 * kp)) = 2 * ((a.length : Int) + (b.length : Int) - 2 * kp) := IntWalk.i64_in _ (by omega)
        have d1 : decide (kp < fi) = false := decide_eq_false (by omega)
        have d2 : decide (2 * ((a.length : Int) + (b.length : Int) - 2 * kp) < back) = false := decide_eq_false (by omega)
        go_wp2_with fail
        refine (KM3.out _ HG.rb HG.ra).mono ?_
        rintro e w10 ⟨rfl, hb10⟩
        have HG := HG.below hb10
        clear hb10 KM3
        go_wp2_with fail
        refine (vMoves_any A1 c1 a A2 c2 b _ (by omega) HG.ra (by omega) HG.rb).mono ?_
        rintro e w11 ⟨s, rfl, hs, hb11⟩
        have HG := HG.below hb11
        have q1 : (back == 0) = s := by
          have := P3.out
          cases s
          · rw [beq_eq_false_iff_ne]; intro h; exact absurd (hs.2 (this.1 h)) (by decide)
          · rw [beq_iff_eq]; exact this.2 (hs.1 rfl)
        have q2 : (sc == 100) = s := by
          have := P9.out
          cases s
          · rw [beq_eq_false_iff_ne]; intro h; exact absurd (hs.2 (this.1 h)) (by decide)
          · rw [beq_iff_eq]; exact this.2 (hs.1 rfl)
        clear hb11 hs P3 P9
        cases s
        all_goals
          go_wp2_with fail
          go_meet
          exact HG.hb
    case rest => as_aux_lemma =>
      have hB := hcut
      clear HPF KM3 HG
      go_wp2_with fail
      refine (drawBest_any A0 c0 l0 _ (by omega) (r0.below hB (Nat.le_refl _))).mono ?_
      rintro e w10 ⟨ps, A3, c3, r, A4, c4, rfl, hnp, hsm, hnr, hrp, hrr, hb10⟩
      have HG : LiSt w' w10 A3 ps A4 r := ⟨hrp, hrr, hB.trans (hb10.mono hB.size)⟩
      clear hB hrp hrr hb10
      have HSM := Lib.hid (fun (i : Nat) p (hp : ps[i]? = some p) => hsm p (List.mem_of_getElem? hp))
      have KB1 := Lib.hid (fun W g1 g2 => bestI_any A3 c3 ps _ rfl A4 c4 r W (by omega) (fun p hp => by have := hsm p hp; omega) g1 (by omega) g2)
      have KB2 := Lib.hid (fun W g1 g2 => bestS_any A3 c3 ps _ rfl A4 c4 r W (by omega) (fun p hp => by have := hsm p hp; omega) g1 (by omega) g2)
      have HLF := Lib.hid (@list_facts ps r)
      generalize brV (ps.map Prod.snd) r = bv at *
      generalize brB (ps.map Prod.snd) r = some_ at *
      clear hsm
      go_wp2_with fail
      refine (KB1.out _ HG.ra HG.rb).mono ?_
      rintro e w11 ⟨rfl, hb11⟩
      have HG := HG.below hb11
      clear hb11 KB1
      go_wp2_with fail
      refine (KB2.out _ HG.ra HG.rb).mono ?_
      rintro e w12 ⟨rfl, hb12⟩
      have HG := HG.below hb12
      clear hb12 KB2
      go_upto_if 215 with fail
      go_cut [] (fun wx => Below w'.heap.size w' wx)
      case first => as_aux_lemma =>
        have hP : some_ = false ∨ some_ = true := by cases some_ <;> simp
        rcases hP with rfl | rfl
        · go_wp2_with fail
          go_meet
          exact HG.hb
        · obtain ⟨k, rfl, hk, m, hbest, hall⟩ := HLF.out rfl
          have HA := Lib.hid hall
          clear hall HLF
          obtain ⟨b', off, A', c', l, rfl, hx, hlb, f0, hrl⟩ := HG.ra.atM hk
          obtain ⟨o1, o2⟩ := hbest _ hx
          have hl9 := HSM.out k _ hx
          dsimp only at o1 o2 hl9
          have K := moveDistanceI_any A' c' l A4 c4 r w12 (by omega) hrl (by omega) HG.rb
          rw [o1, o2] at K
          have j0 : (0 : Int) ≤ (k : Int) := by omega
          have j1 : (k : Int) < (ps.length : Int) := by omega
          clear hx o1 o2 hbest hrl
          go_wp2_with fail
          refine K.mono ?_
          rintro e w13 ⟨rfl, hb13⟩
          have HG := HG.below hb13
          clear hb13 K f0
          go_wp2_with fail
          go_loopw [32] (fun i wr => ∃ k : Nat, k ≤ ps.length ∧ i = .int .i64 k ∧ LiSt w' wr (some ⟨b', off, none⟩) ps A4 r) (fun i _ => ps.length - (intOf i).toNat)
          case atStart => exact ⟨0, by omega, rfl, HG⟩
          case round =>
            obtain ⟨j, hj, rfl, QG⟩ := hrel
            clear HG
            by_cases hlt : j < ps.length
            · have d1 : decide (j < ps.length) = true := decide_eq_true hlt
              obtain ⟨b2, off2, A5, c5, l5, hAA, hx, hlb2, f1, hrl⟩ := QG.ra.atM hlt
              injection hAA with hAA
              injection hAA with z1 z2 _
              subst z1 z2
              obtain ⟨o1, o2⟩ := HA.out j _ hx
              have hl9 := HSM.out j _ hx
              dsimp only at o1 o2 hl9
              have K := moveDistanceI_any A5 c5 l5 A4 c4 r wr (by omega) hrl (by omega) QG.rb
              rw [o1] at K
              generalize mdV l5 r = m2 at *
              have d2 : decide (m2 < m) = false := decide_eq_false (by omega)
              have j2 : (j : Int) < (ps.length : Int) := by omega
              clear hx o1 o2 hrl
              go_wp2_with fail
              refine K.mono ?_
              rintro e w14 ⟨rfl, hb14⟩
              have QG := QG.below hb14
              clear hb14 K f1
              go_wp2_with fail
              go_roundw
              case rel => exact ⟨j + 1, by omega, by go_num, QG⟩
              case measure => first | (simp [intOf]; done) | (simp [intOf]; omega)
            · have d1 : decide (j < ps.length) = false := decide_eq_false hlt
              go_wp2_with fail
              go_meet
              exact QG.hb
      case rest => as_aux_lemma =>
        have hB := hcut
        clear HSM HLF HG
        go_wp2_with fail
        refine (drawSwappedAt_any A0 c0 l0 _ (by omega) (r0.below hB (Nat.le_refl _))).mono ?_
        rintro e w15 ⟨x, A5, c5, y, A6, c6, rfl, hnx, hny, hrx, hry, hb15⟩
        have HG : ReSt w' w15 A5 x A6 y := ⟨hrx, hry, hB.trans (hb15.mono hB.size)⟩
        clear hB hrx hry hb15
        have KW1 := Lib.hid (fun W g1 g2 => swappedAtI_any A5 c5 x A6 c6 y W (by omega) g1 (by omega) g2)
        have KW2 := Lib.hid (fun W g1 g2 => swappedAtS_any A5 c5 x A6 c6 y W (by omega) g1 (by omega) g2)
        have hsl := swV_len x y
        generalize swV x y = SV at *
        generalize (recB x && recB y) = last at *
        go_wp2_with fail
        refine (KW1.out _ HG.ra HG.rb).mono ?_
        rintro e w16 ⟨A7, c7, rfl, ho7, hb16⟩
        have HG := HG.below hb16
        clear hb16 KW1
        go_wp2_with fail
        refine (KW2.out _ HG.ra HG.rb).mono ?_
        rintro e w17 ⟨A8, c8, rfl, ho8, hb17⟩
        have HG := HG.below hb17
        have ho7 := ho7.below hb17 (Nat.le_refl _)
        clear hb17 KW2
        go_wp2_with fail
        refine (vInts_same A7 A8 SV.length c7 c8 SV _ rfl (by omega) ho7.rd ho8.rd).mono ?_
        rintro e w18 ⟨rfl, hb18⟩
        have HG := HG.below hb18
        go_wp2_with fail
        go_ret
        exact ⟨by simp, HG.hb⟩
set_option maxRecDepth 100000 in
theorem fnRecordings_lifted (os : Os) (started : os.Started) (H : Type) (enc : TypeId × Value → H) :
    ReturnsInHanded {} Try.checked os 10 .any (Rows.fnRecordingsSpec.pre6 enc Try.prog Try.f10 Rows.fnRecordingsRow.domain false) (Rows.fnRecordingsSpec.post enc Try.prog Try.f10 false true false false) := by
  refine returnsInHanded_of_change (C := Try.checked) ownk started (by kernel_rfl) Try.func10
    (ChangeSpec.witness6 (enc := enc) (C := Try.checked) false ⟨#[], #[.slice none 0 0], []⟩ 8 (by kernel_rfl) (by kernel_rfl) (by kernel_rfl) (by kernel_rfl)) ?_
  intro W base args ds gs before hval0 hW _ _
  have hval : ∀ (j : Nat) t v, Try.f10.params[j]? = some t → args[j]? = some v → Value.okWide Try.prog W .any base t v := hval0
  have hW' := hW
  obtain ⟨p, q, hA0, hV, rfl, _, _⟩ := hW
  have hA : DataW.TrodAll enc Try.prog W 0 (fun _ => true) true Try.f10.params.toList args.toList ds p := hA0
  rw [Try.params10] at hA hval
  obtain ⟨rfl, rfl⟩ := trodVars_none hV
  simp only [List.append_nil] at hW'
  clear hA0 hval0
  have hargs : ∀ W' : World, Below W.heap.size W W' → DataW.TrodAll enc Try.prog W' 0 (fun b => decide (b < W.heap.size)) true [45] args.toList ds p := fun W' hb => trodAll_below laid_out hb _ _ _ _ (by kernel_rfl) hA (fun x hx => hW'.lt x hx)
  obtain ⟨v0, vs0, d0, ds0, p0, q0, hx, rfl, rfl, h0, r0'⟩ := trodAll_cons hA
  obtain ⟨rfl, rfl, rfl⟩ := trodAll_nil r0'
  obtain rfl : args = #[v0] := by cases args; simp_all
  obtain ⟨A0, c0, l0, rfl, m0, r0⟩ := open_rows byteT (by kernel_rfl) (dec_byte W enc) (hval 0 45 v0 rfl rfl) h0
  refine (fnRecordings_walk W A0 c0 l0 m0 r0).mono fun e W' ⟨he, hb⟩ => ?_
  subst he
  exact ⟨_, rfl, _, _, _, [], _, [], hW', trodAll_mk1 (shut_bool Try.underlying4 _), hargs W' hb, rfl, hb.frame _, fun h => by cases h⟩
theorem fnRecordings_proved : Rows.FnRecordingsSaid :=
  OpenClaim.holds_of_wide 10 Try.f10 rfl rfl rfl rfl rfl rfl rfl ⟨rfl, rfl, rfl, rfl, rfl⟩ rfl rfl rfl rfl rfl (by kernel_rfl) Try.func10 (by kernel_rfl)
    (of_decide_eq_true (by kernel_rfl)) (by unfold Func.isWrapper; first | (rw [if_pos (by decide +kernel)]; kernel_rfl) | (rw [if_neg (by decide +kernel)]; exact ⟨rfl, rfl⟩))
    (fun os started H enc _ => fnRecordings_lifted os started H enc)
#print axioms fnRecordings_proved
end Go.Proofs.Ytkcbldaondflmaa
