/-
  The law FnProtests: for every code it is true. No condition.
-/
import Derived.Test.YtcbecfkckdalmaaConW
import Derived.Test.YtcbecfkckdalmaaConY
import Derived.Test.YtcbecfkckdalmaaConQ
import Derived.Test.YtcbecfkckdalmaaConT
import Derived.Test.YtcbecfkckdalmaaConS
import Derived.Test.YtcbecfkckdalmaaConI
import Derived.Test.YtcbecfkckdalmaaConF
import Derived.Test.YtcbecfkckdalmaaConC
import Derived.Test.YtcbecfkckdalmaaTabC
import Derived.Test.YtcbecfkckdalmaaFrameB
import Derived.Deep.RegionHeld3
import Derived.Deep.DeepCutAuto
namespace Go.Proofs.Ytcbecfkckdalmaa
open Go.ChangeShapes Go.WideShapes Go.ChangeAt Go.RowKit

structure CoSt (w wN : World) (A1 : Option Addr) (s : List SolvedV) : Prop where
  rs : RdT solvedT wN A1 s
  hb : Below w.heap.size w wN
theorem CoSt.below {w wN wM : World} {A1 : Option Addr} {s : List SolvedV} (h : CoSt w wN A1 s) (hb : Below wN.heap.size wN wM) : CoSt w wM A1 s :=
  ⟨h.rs.below hb (Nat.le_refl _), h.hb.trans (hb.mono h.hb.size)⟩
theorem drawScore_raw (A : Option Addr) (c : Nat) (l : List (Fin 256)) (w : World) (hl : l.length ≤ 65536) (h : RdT byteT w A l) :
    Calls Try.prog 55 #[.slice A l.length c] w fun e w' => ∃ p h r q t : Int, e = .returned (.agg #[.int .i64 p, .int .i64 h, .int .i64 r, .int .i64 q, .int .i64 t]) ∧ Below w.heap.size w w' :=
  (drawScore_any A c l w hl h).mono fun _ _ ⟨x, h1, h2⟩ => ⟨x.pupil, x.heat, x.right, x.wrong, x.time, h1, h2⟩
set_option maxRecDepth 100000 in
set_option maxHeartbeats 8000000 in
theorem fnProtests_walk (w : World) (A0 : Option Addr) (c0 : Nat) (l0 : List (Fin 256)) (_ : l0.length ≤ maxLen) (r0 : RdT byteT w A0 l0) :
    Calls Try.prog 14 #[.slice A0 l0.length c0] w fun e w' => e = .returned (.bool true) ∧ Below w.heap.size w w' := by
  by_cases hbig : 65536 < l0.length
  · have d0 : decide (65536 < l0.length) = true := decide_eq_true hbig
    go_enter Try.func14, Try.ntmps14
    go_wp2_with (go_at_call 50; refine (rBig_any _ _ _ _).mono ?_; rintro e w' ⟨rfl, rfl⟩)
    go_ret
    exact ⟨rfl, Below.refl _ _⟩
  · have d0 : decide (65536 < l0.length) = false := decide_eq_false hbig
    go_enter Try.func14, Try.ntmps14
    go_wp2_with (go_at_call 50; refine (rBig_any _ _ _ _).mono ?_; rintro e w' ⟨rfl, rfl⟩)
    clear d0
    refine (drawProtest_any A0 c0 l0 _ (by omega) r0).mono ?_
    rintro e w1 ⟨s, A1, c1, p, h, rfl, hn1, hrs, hB1⟩
    have HG : CoSt w' w1 A1 s := ⟨hrs, hB1⟩
    clear hrs hB1
    have hol := proV_len s p h
    have KP1 := Lib.hid (fun W g => protestI_any A1 c1 s p h W (by omega) g)
    have KP2 := Lib.hid (fun W g => protestS_any A1 c1 s p h W (by omega) g)
    have KT1 := Lib.hid (fun W g => totalOfI_any A1 c1 s p W (by omega) g)
    have KT2 := Lib.hid (fun A c W g => totalOfI_any A c (proV s p h) p W (by omega) g)
    have HPF := Lib.hid (@pro_facts s p h)
    obtain ⟨b1, b2⟩ := totV_bd s p
    obtain ⟨b3, b4⟩ := totV_bd (proV s p h) p
    generalize proV s p h = out at *
    generalize proOk s p h = ok at *
    generalize totV s p = ta at *
    generalize totV out p = tb at *
    generalize totOk s p = oa at *
    generalize totOk out p = ob at *
    go_wp2_with fail
    refine (KP1.out _ HG.rs).mono ?_
    rintro e w2 ⟨A3, c3, rfl, ho3, hb2⟩
    have HG := HG.below hb2
    clear hb2 KP1
    go_wp2_with fail
    refine (KP2.out _ HG.rs).mono ?_
    rintro e w3 ⟨A4, c4, rfl, ho4, hb3⟩
    have HG := HG.below hb3
    have h3 := (ho3.rd).below hb3 (Nat.le_refl _)
    have h4 := ho4.rd
    clear hb3 KP2 ho3 ho4
    go_wp2_with fail
    refine (rSolves_same A3 A4 out.length c3 c4 out _ rfl (by omega) h3 h4).mono ?_
    rintro e w4 ⟨rfl, hb4⟩
    have HG := HG.below hb4
    have h3 := h3.below hb4 (Nat.le_refl _)
    clear hb4 h4
    go_upto_if 76 with fail
    go_cut [] (fun wx => Below w'.heap.size w' wx)
    case first => as_aux_lemma =>
      have hP : ok = false ∨ ok = true := by cases ok <;> simp
      rcases hP with rfl | rfl
      · go_wp2_with fail
        go_meet
        exact HG.hb
      · obtain ⟨e1, e2, e3, e4⟩ := HPF.out rfl
        subst e1 e2
        have i1 : IntKind.i64.wrap (ta + 15) = ta + 15 := IntWalk.i64_in _ (by omega)
        have d1 : decide (tb < ta) = false := decide_eq_false (by omega)
        have d2 : decide (ta + 15 < tb) = false := decide_eq_false (by omega)
        go_wp2_with fail
        refine (KT1.out _ HG.rs).mono ?_
        rintro e w5 ⟨rfl, hb5⟩
        have HG := HG.below hb5
        have h3 := h3.below hb5 (Nat.le_refl _)
        go_wp2_with fail
        refine (KT2.out A3 c3 _ h3).mono ?_
        rintro e w6 ⟨rfl, hb6⟩
        have HG := HG.below hb6
        go_wp2_with fail
        go_meet
        exact HG.hb
    case rest => as_aux_lemma =>
      have hB := hcut
      clear HPF KT1 KT2 HG h3 b1 b2 b3 b4 hol
      go_wp2_with fail
      refine (drawNeeded_any A0 c0 l0 _ (by omega) (r0.below hB (Nat.le_refl _))).mono ?_
      rintro e w7 ⟨s2, A5, c5, x, rfl, hn2, hrs2, hb7⟩
      have HG : CoSt w' w7 A5 s2 := ⟨hrs2, hB.trans (hb7.mono hB.size)⟩
      clear hB hrs2 hb7
      have KN1 := Lib.hid (fun W g => neededI_any A5 c5 s2 x W (by omega) g)
      have KN2 := Lib.hid (fun W g => neededS_any A5 c5 s2 x W (by omega) g)
      have KT := Lib.hid (fun p W g => totalOfI_any A5 c5 s2 p W (by omega) g)
      have HNF := Lib.hid (@nd_facts s2 x)
      have HTB := Lib.hid (fun p => totV_bd s2 p)
      generalize ndV s2 x = nd at *
      generalize ndOk s2 x = fine at *
      go_wp2_with fail
      refine (KN1.out _ HG.rs).mono ?_
      rintro e w8 ⟨rfl, hb8⟩
      have HG := HG.below hb8
      clear hb8 KN1
      go_wp2_with fail
      refine (KN2.out _ HG.rs).mono ?_
      rintro e w9 ⟨rfl, hb9⟩
      have HG := HG.below hb9
      clear hb9 KN2
      go_upto_if 131 with fail
      go_cut [] (fun wx => Below w'.heap.size w' wx)
      case first => as_aux_lemma =>
        have hP : fine = false ∨ fine = true := by cases fine <;> simp
        rcases hP with rfl | rfl
        · go_wp2_with fail
          go_meet
          exact HG.hb
        · obtain ⟨e1, ⟨e2, e3⟩, hall⟩ := HNF.out rfl
          have HA := Lib.hid hall
          have K := KT.out x w9 HG.rs
          rw [e1] at K
          obtain ⟨t1, t2⟩ := HTB.out x
          generalize totV s2 x = mine at *
          clear hall HNF e1
          have i1 : IntKind.i64.wrap (10 * nd) = 10 * nd := IntWalk.i64_in _ (by omega)
          have i2 : IntKind.i64.wrap (mine + 10 * nd) = mine + 10 * nd := IntWalk.i64_in _ (by omega)
          go_wp2_with fail
          refine K.mono ?_
          rintro e w10 ⟨rfl, hb10⟩
          have HG := HG.below hb10
          clear hb10 K
          go_wp2_with fail
          go_loopw [22] (fun i wr => ∃ k : Nat, k ≤ s2.length ∧ i = .int .i64 k ∧ CoSt w' wr A5 s2) (fun i _ => s2.length - (intOf i).toNat)
          case atStart => exact ⟨0, by omega, rfl, HG⟩
          case round =>
            obtain ⟨k, hk, rfl, QG⟩ := hrel
            clear HG
            by_cases hlt : k < s2.length
            · have d1 : decide (k < s2.length) = true := decide_eq_true hlt
              obtain ⟨b, off, pu, he, ri, wg, ti, rfl, hx, hlb, e0, _, _, _, _⟩ := solvedT_at QG.rs hlt
              obtain ⟨o1, o2⟩ := HA.out k _ hx
              dsimp only at o1 o2
              have K := KT.out pu wr QG.rs
              rw [o1] at K
              obtain ⟨u1, u2⟩ := HTB.out pu
              generalize totV s2 pu = oth at *
              have j1 : (k : Int) < (s2.length : Int) := by omega
              clear hx o1
              go_wp2_with fail
              refine K.mono ?_
              rintro e w11 ⟨rfl, hb11⟩
              have f0 := (hb11.cell (p := ⟨b, off + k * 5, none⟩) hlb).trans e0
              have QG := QG.below hb11
              clear hb11 K e0
              by_cases hp : pu = x
              · have dp : (pu != x) = false := by simp [hp]
                clear hp o2
                go_wp2_with fail
                go_roundw
                case rel => exact ⟨k + 1, by omega, by go_num, QG⟩
                case measure => first | (simp [intOf]; done) | (simp [intOf]; omega)
              · have dp : (pu != x) = true := by simp [hp]
                have dq : (pu == x) = false := by simp [hp]
                have hlo := o2 hp
                have d3 : decide (mine + 10 * nd ≤ oth) = false := decide_eq_false (by omega)
                clear o2
                go_wp2_with fail
                go_roundw
                case rel => exact ⟨k + 1, by omega, by go_num, QG⟩
                case measure => first | (simp [intOf]; done) | (simp [intOf]; omega)
            · have d1 : decide (k < s2.length) = false := decide_eq_false hlt
              go_wp2_with fail
              go_meet
              exact QG.hb
      case rest => as_aux_lemma =>
        have hB := hcut
        clear HNF HTB HG KT
        go_wp2_with fail
        refine (drawTotal_any A0 c0 l0 _ (by omega) (r0.below hB (Nat.le_refl _))).mono ?_
        rintro e w12 ⟨s3, A6, c6, y, rfl, hn3, hrs3, hb12⟩
        have HG : CoSt w' w12 A6 s3 := ⟨hrs3, hB.trans (hb12.mono hB.size)⟩
        clear hB hrs3 hb12
        have KT1 := Lib.hid (fun W g => totalOfI_any A6 c6 s3 y W (by omega) g)
        have KT2 := Lib.hid (fun W g => totalOfS_any A6 c6 s3 y W (by omega) g)
        have L0 := Lib.hid (lft_zero s3 y)
        have L1 := Lib.hid (fun h k z hx hp => @lft_hit s3 y h k z hx hp)
        have L2 := Lib.hid (fun k z hx hp => @lft_miss s3 y k z hx hp)
        have L3 := Lib.hid (@lft_all s3 y)
        have L4 := Lib.hid (@lft_bd s3 y)
        have L5 := Lib.hid (@tot_good s3 y)
        generalize totV s3 y = tot at *
        generalize totOk s3 y = told at *
        generalize lft s3 y = F at *
        go_wp2_with fail
        refine (KT1.out _ HG.rs).mono ?_
        rintro e w13 ⟨rfl, hb13⟩
        have HG := HG.below hb13
        clear hb13 KT1
        go_wp2_with fail
        refine (KT2.out _ HG.rs).mono ?_
        rintro e w14 ⟨rfl, hb14⟩
        have HG := HG.below hb14
        clear hb14 KT2
        go_wp2_with fail
        go_loopw [27, 31] (fun t i wr => ∃ k : Nat, k ≤ s3.length ∧ (told = false → k = 0) ∧ i = .int .i64 k ∧ t = .int .i64 (F k) ∧ CoSt w' wr A6 s3) (fun _ i _ => s3.length - (intOf i).toNat)
        case atStart => exact ⟨0, by omega, fun _ => rfl, rfl, by rw [L0.out], HG⟩
        case round =>
          obtain ⟨k, hk, hk0, rfl, rfl, QG⟩ := hrel
          clear HG
          have hE : (k < s3.length ∧ told = true) ∨ (¬ k < s3.length ∧ told = true) ∨ told = false := by
            cases told
            · exact .inr (.inr rfl)
            · by_cases hlt : k < s3.length
              · exact .inl ⟨hlt, rfl⟩
              · exact .inr (.inl ⟨hlt, rfl⟩)
          rcases hE with ⟨hlt, rfl⟩ | hrest
          · have hg := L5.out rfl
            have d1 : decide (k < s3.length) = true := decide_eq_true hlt
            obtain ⟨b, off, pu, he, ri, wg, ti, rfl, hx, hlb, e0, e1, e2, e3, e4⟩ := solvedT_at QG.rs hlt
            have hsv : solvedB ⟨pu, he, ri, wg, ti⟩ = true := (good_pair hg).2.1 _ (List.mem_of_getElem? hx)
            have hsw := scoreW_in hsv
            have K := scoreOfI_any pu he ri wg ti wr
            have hsc : scoreV ⟨pu, he, ri, wg, ti⟩ = scoreW ⟨pu, he, ri, wg, ti⟩ := by unfold scoreV; rw [if_pos hsv]
            rw [hsc, hsv] at K
            have M1 := Lib.hid (fun hp => L1.out rfl k _ hx hp)
            have M2 := Lib.hid (fun hp => L2.out k _ hx hp)
            dsimp only at M1 M2
            have hbd := L4.out rfl k (by omega)
            have hs2 := hsw.2
            generalize scoreW ⟨pu, he, ri, wg, ti⟩ = sc at *
            have i1 : IntKind.i64.wrap (F k - sc) = F k - sc := IntWalk.i64_in _ (by omega)
            have j1 : (k : Int) < (s3.length : Int) := by omega
            clear hx hsv hsc hk0 hsw
            go_wp2_with fail
            refine K.mono ?_
            rintro e w15 ⟨rfl, hb15⟩
            have f0 := (hb15.cell (p := ⟨b, off + k * 5, none⟩) hlb).trans e0
            have QG := QG.below hb15
            clear K e0 e1 e2 e3 e4 hb15
            by_cases hp : pu = y
            · have dp : (pu == y) = true := by rw [beq_iff_eq]; exact hp
              have EM := Lib.hid (M1.out hp)
              clear hp
              go_wp2_with fail
              go_roundw
              case rel => exact ⟨k + 1, by omega, (fun h => by cases h), by go_num, by rw [EM.out], QG⟩
              case measure => first | (simp [intOf]; done) | (simp [intOf]; omega)
            · have dp : (pu == y) = false := by rw [beq_eq_false_iff_ne]; exact hp
              have EM := Lib.hid (M2.out hp)
              clear hp
              go_wp2_with fail
              go_roundw
              case rel => exact ⟨k + 1, by omega, (fun h => by cases h), by go_num, by rw [EM.out], QG⟩
              case measure => first | (simp [intOf]; done) | (simp [intOf]; omega)
          · have hz : told = true → F k = 0 := by
              intro ht
              rcases hrest with ⟨h1, _⟩ | h1
              · obtain rfl : k = s3.length := by omega
                exact L3.out ht
              · rw [ht] at h1; cases h1
            have HZ := Lib.hid hz
            clear L0 L1 L2 L3 L4 L5 hz hk0
            go_upto_region 34 with fail
            go_cut [206] (fun s206 wx => s206 = .bool false ∧ wx = wr)
            case first => as_aux_lemma =>
              rcases hrest with ⟨h1, rfl⟩ | rfl
              · have d1 : decide (k < s3.length) = false := decide_eq_false h1
                go_wp2_with fail
                go_meet
                exact ⟨rfl, rfl⟩
              · by_cases h1 : k < s3.length
                · have d1 : decide (k < s3.length) = true := decide_eq_true h1
                  go_wp2_with fail
                  go_meet
                  exact ⟨rfl, rfl⟩
                · have d1 : decide (k < s3.length) = false := decide_eq_false h1
                  go_wp2_with fail
                  go_meet
                  exact ⟨rfl, rfl⟩
            case rest => as_aux_lemma =>
              obtain ⟨rfl, rfl⟩ := hcut
              clear hrest
              obtain ⟨wz, rfl⟩ : ∃ wz : World, wz = wc := ⟨_, rfl⟩
              go_upto_region 41 with fail
              go_cut [233] (fun s233 wx => s233 = .bool false ∧ wx = wz)
              case first => as_aux_lemma =>
                have hP : told = false ∨ told = true := by cases told <;> simp
                rcases hP with rfl | rfl
                · go_wp2_with fail
                  go_meet
                  exact ⟨rfl, rfl⟩
                · have hz := HZ.out rfl
                  have dz : (F k != 0) = false := by simp [hz]
                  clear hz
                  go_wp2_with fail
                  go_meet
                  exact ⟨rfl, rfl⟩
              case rest => as_aux_lemma =>
                obtain ⟨rfl, rfl⟩ := hcut
                clear HZ
                have hB := QG.hb
                clear QG
                go_wp2_with fail
                refine (drawScore_raw A0 c0 l0 _ (by omega) (r0.below hB (Nat.le_refl _))).mono ?_
                rintro e w21 ⟨zp, zh, zr, zq, zt, rfl, hb21⟩
                have hB21 := hB.trans (hb21.mono hB.size)
                obtain ⟨w22, hw22⟩ : ∃ w22 : World, w22 = w21.alloc (.cells #[.int .i64 zp, .int .i64 zh, .int .i64 zr, .int .i64 zq, .int .i64 zt] 25) := ⟨_, rfl⟩
                obtain ⟨tb, htb⟩ : ∃ tb : Nat, tb = w21.heap.size := ⟨_, rfl⟩
                have BT : Blk w22 tb 25 #[.int .i64 zp, .int .i64 zh, .int .i64 zr, .int .i64 zq, .int .i64 zt] := by rw [hw22, htb]; exact Blk.new w21 _ _
                have hB22 : Below w'.heap.size w' w22 := by rw [hw22]; exact hB21.alloc hB21.size _
                clear hB hb21 hB21
                go_upto_region 44 with fail
                rw [← hw22, ← htb]
                clear hw22 htb
                have K1 := Lib.hid (fun W => scoreOfI_any zp zh zr zq zt W)
                have K2 := Lib.hid (fun W => scoreOfS_any zp zh zr zq zt W)
                have K3 := Lib.hid (fun W => isSolved_any zp zh zr zq zt W)
                generalize scoreV ⟨zp, zh, zr, zq, zt⟩ = sc at *
                generalize solvedB ⟨zp, zh, zr, zq, zt⟩ = sb at *
                have e0 := BT.cell 0
                have e1 := BT.cell 1
                have e2 := BT.cell 2
                have e3 := BT.cell 3
                have e4 := BT.cell 4
                go_wp2_with fail
                refine (K1.out _).mono ?_
                rintro e w23 ⟨rfl, hb23⟩
                have BT := BT.below hb23 BT.lt
                have hB23 := hB22.trans (hb23.mono hB22.size)
                clear e0 e1 e2 e3 e4 hb23 K1
                have e0 := BT.cell 0
                have e1 := BT.cell 1
                have e2 := BT.cell 2
                have e3 := BT.cell 3
                have e4 := BT.cell 4
                go_wp2_with fail
                refine (K2.out _).mono ?_
                rintro e w24 ⟨rfl, hb24⟩
                have BT := BT.below hb24 BT.lt
                have hB24 := hB23.trans (hb24.mono hB23.size)
                clear e0 e1 e2 e3 e4 hb24 K2
                go_wp2_with fail
                refine (drawPlace_any A0 c0 l0 _ (by omega) (r0.below hB24 (Nat.le_refl _))).mono ?_
                rintro e w25 ⟨s4, A7, c7, v, rfl, hn4, hrs4, hb25⟩
                have BT := BT.below hb25 BT.lt
                have HG : CoSt w' w25 A7 s4 := ⟨hrs4, hB24.trans (hb25.mono hB24.size)⟩
                clear hb25 hrs4
                have KP1 := Lib.hid (fun W g => placeOfI_any A7 c7 s4 v W (by omega) g)
                have KP2 := Lib.hid (fun W g => placeOfS_any A7 c7 s4 v W (by omega) g)
                generalize plcW s4 v = pl at *
                generalize totOk s4 v = po at *
                go_wp2_with fail
                refine (KP1.out _ HG.rs).mono ?_
                rintro e w26 ⟨rfl, hb26⟩
                have BT := BT.below hb26 BT.lt
                have HG := HG.below hb26
                clear hb26 KP1
                go_wp2_with fail
                refine (KP2.out _ HG.rs).mono ?_
                rintro e w27 ⟨rfl, hb27⟩
                have BT := BT.below hb27 BT.lt
                have HG := HG.below hb27
                clear hb27 KP2
                have e0 := BT.cell 0
                have e1 := BT.cell 1
                have e2 := BT.cell 2
                have e3 := BT.cell 3
                have e4 := BT.cell 4
                go_wp2_with fail
                refine (K3.out _).mono ?_
                rintro e w28 ⟨rfl, hb28⟩
                have HG := HG.below hb28
                go_wp2_with fail
                go_ret
                exact ⟨by simp, HG.hb⟩
set_option maxRecDepth 100000 in
theorem fnProtests_lifted (os : Os) (started : os.Started) (H : Type) (enc : TypeId × Value → H) :
    ReturnsInHanded {} Try.checked os 14 .any (Rows.fnProtestsSpec.pre6 enc Try.prog Try.f14 Rows.fnProtestsRow.domain false) (Rows.fnProtestsSpec.post enc Try.prog Try.f14 false true false false) := by
  refine returnsInHanded_of_change (C := Try.checked) ownk started (by kernel_rfl) Try.func14
    (ChangeSpec.witness6 (enc := enc) (C := Try.checked) false ⟨#[], #[.slice none 0 0], []⟩ 8 (by kernel_rfl) (by kernel_rfl) (by kernel_rfl) (by kernel_rfl)) ?_
  intro W base args ds gs before hval0 hW _ _
  have hval : ∀ (j : Nat) t v, Try.f14.params[j]? = some t → args[j]? = some v → Value.okWide Try.prog W .any base t v := hval0
  have hW' := hW
  obtain ⟨p, q, hA0, hV, rfl, _, _⟩ := hW
  have hA : DataW.TrodAll enc Try.prog W 0 (fun _ => true) true Try.f14.params.toList args.toList ds p := hA0
  rw [Try.params14] at hA hval
  obtain ⟨rfl, rfl⟩ := trodVars_none hV
  simp only [List.append_nil] at hW'
  clear hA0 hval0
  have hargs : ∀ W' : World, Below W.heap.size W W' → DataW.TrodAll enc Try.prog W' 0 (fun b => decide (b < W.heap.size)) true [54] args.toList ds p := fun W' hb => trodAll_below laid_out hb _ _ _ _ (by kernel_rfl) hA (fun x hx => hW'.lt x hx)
  obtain ⟨v0, vs0, d0, ds0, p0, q0, hx, rfl, rfl, h0, r0'⟩ := trodAll_cons hA
  obtain ⟨rfl, rfl, rfl⟩ := trodAll_nil r0'
  obtain rfl : args = #[v0] := by cases args; simp_all
  obtain ⟨A0, c0, l0, rfl, m0, r0⟩ := open_rows byteT (by kernel_rfl) (dec_byte W enc) (hval 0 54 v0 rfl rfl) h0
  refine (fnProtests_walk W A0 c0 l0 m0 r0).mono fun e W' ⟨he, hb⟩ => ?_
  subst he
  exact ⟨_, rfl, _, _, _, [], _, [], hW', trodAll_mk1 (shut_bool Try.underlying4 _), hargs W' hb, rfl, hb.frame _, fun h => by cases h⟩
theorem fnProtests_proved : Rows.FnProtestsSaid :=
  OpenClaim.holds_of_wide 14 Try.f14 rfl rfl rfl rfl rfl rfl rfl ⟨rfl, rfl, rfl, rfl, rfl⟩ rfl rfl rfl rfl rfl (by kernel_rfl) Try.func14 (by kernel_rfl)
    (of_decide_eq_true (by kernel_rfl)) (by unfold Func.isWrapper; first | (rw [if_pos (by decide +kernel)]; kernel_rfl) | (rw [if_neg (by decide +kernel)]; exact ⟨rfl, rfl⟩))
    (fun os started H enc _ => fnProtests_lifted os started H enc)
#print axioms fnProtests_proved
end Go.Proofs.Ytcbecfkckdalmaa
