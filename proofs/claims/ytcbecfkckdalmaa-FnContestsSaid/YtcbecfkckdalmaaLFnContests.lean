/-
  The law FnContests: for every code it is true. No condition.
-/
import Derived.Test.YtcbecfkckdalmaaConW
import Derived.Test.YtcbecfkckdalmaaConX
import Derived.Test.YtcbecfkckdalmaaConO
import Derived.Test.YtcbecfkckdalmaaConI
import Derived.Test.YtcbecfkckdalmaaConC
import Derived.Test.YtcbecfkckdalmaaTabA
import Derived.Test.YtcbecfkckdalmaaTabC
import Derived.Test.YtcbecfkckdalmaaFrameB
import Derived.Deep.RegionHeld3
import Derived.Deep.DeepCutAuto
namespace Go.Proofs.Ytcbecfkckdalmaa
open Go.ChangeShapes Go.WideShapes Go.ChangeAt Go.RowKit

structure CoSt (w wN : World) (A1 : Option Addr) (s : List SolvedV) : Prop where
  rs : RdT solvedT wN A1 s
  hb : Below w.heap.size w wN
theorem CoSt.below {w wN wM : World} {A1 : Option Addr} {s : List SolvedV} (h : CoSt w wN A1 s) (hb : Below wN.heap.size wN wM) : CoSt w wM A1 s :=
  ⟨h.rs.below hb (Nat.le_refl _), h.hb.trans (hb.mono h.hb.size)⟩
theorem RdS.after {w wM : World} {A : Option Addr} {ps : List (HdrV × List Int)} (h : RdS w A ps) (hb : Below w.heap.size w wM) : RdS wM A ps := h.below hb (Nat.le_refl _)
theorem RdI.after {w wM : World} {A : Option Addr} {l : List Int} (h : RdI w A l) (hb : Below w.heap.size w wM) : RdI wM A l := h.below hb (Nat.le_refl _)
set_option maxRecDepth 100000 in
set_option maxHeartbeats 8000000 in
theorem fnContests_walk (w : World) (A0 : Option Addr) (c0 : Nat) (l0 : List (Fin 256)) (_ : l0.length ≤ maxLen) (r0 : RdT byteT w A0 l0) :
    Calls Try.prog 15 #[.slice A0 l0.length c0] w fun e w' => e = .returned (.bool true) ∧ Below w.heap.size w w' := by
  by_cases hbig : 65536 < l0.length
  · have d0 : decide (65536 < l0.length) = true := decide_eq_true hbig
    go_enter Try.func15, Try.ntmps15
    go_wp2_with (go_at_call 50; refine (rBig_any _ _ _ _).mono ?_; rintro e w' ⟨rfl, rfl⟩)
    go_ret
    exact ⟨rfl, Below.refl _ _⟩
  · have d0 : decide (65536 < l0.length) = false := decide_eq_false hbig
    go_enter Try.func15, Try.ntmps15
    go_wp2_with (go_at_call 50; refine (rBig_any _ _ _ _).mono ?_; rintro e w' ⟨rfl, rfl⟩)
    clear d0
    refine (drawFinalists_any A0 c0 l0 _ (by omega) r0).mono ?_
    rintro e w1 ⟨s, A1, c1, n, rfl, hn1, hrs, hB1⟩
    have HG : CoSt w' w1 A1 s := ⟨hrs, hB1⟩
    clear hrs hB1
    have KF1 := Lib.hid (fun W g => finalistsI_any A1 c1 s n W (by omega) g)
    have KF2 := Lib.hid (fun W g => finalistsS_any A1 c1 s n W (by omega) g)
    have KS1 := Lib.hid (fun W g => standingsI_any A1 c1 s W (by omega) g)
    have KS2 := Lib.hid (fun W g => standingsS_any A1 c1 s W (by omega) g)
    have KA := Lib.hid (fun W g => areSolvedI_any A1 c1 s W (by omega) g)
    have KP := Lib.hid (fun p W g => placeOfI_any A1 c1 s p W (by omega) g)
    have HST := Lib.hid (fun (i : Nat) (r : List Int) (h : (stW s)[i]? = some r) => @st_facts s n i r h)
    have hfl := finV_len s n
    have HSml := Lib.hid (fun (gs : List (HdrV × List Int)) (h : gs.map Prod.snd = stW s) => small_rows h (stW_small s))
    generalize stW s = ST at *
    generalize finV s n = FV at *
    generalize goodB s = gd at *
    generalize finOk s n = ok at *
    go_wp2_with fail
    refine (KF1.out _ HG.rs).mono ?_
    rintro e w2 ⟨A3, c3, rfl, ho3, hb2⟩
    have HG := HG.below hb2
    clear hb2 KF1
    go_wp2_with fail
    refine (KF2.out _ HG.rs).mono ?_
    rintro e w3 ⟨A4, c4, rfl, ho4, hb3⟩
    have HG := HG.below hb3
    have h3 := (ho3.rd).after hb3
    have h4 := ho4.rd
    clear hb3 KF2 ho3 ho4
    go_wp2_with fail
    refine (rInts_same A3 A4 FV.length c3 c4 FV _ rfl (by omega) h3 h4).mono ?_
    rintro e w4 ⟨rfl, hb4⟩
    have HG := HG.below hb4
    have h3 := h3.after hb4
    clear hb4 h4
    go_wp2_with fail
    refine (KS1.out _ HG.rs).mono ?_
    rintro e w5 ⟨A5, c5, gs, rfl, hg1, ho5, hb5⟩
    have HG := HG.below hb5
    have h3 := h3.after hb5
    clear hb5 KS1
    go_wp2_with fail
    refine (KS2.out _ HG.rs).mono ?_
    rintro e w6 ⟨A6, c6, gq, rfl, hg2, ho6, hb6⟩
    have HG := HG.below hb6
    have h3 := h3.after hb6
    have h5 := (ho5.rd).after hb6
    have h6 := ho6.rd
    obtain ⟨hgl, hgsm, _⟩ := HSml.out gs hg1
    have HGS := Lib.hid hg1
    have hgg : gs.map Prod.snd = gq.map Prod.snd := hg1.trans hg2.symm
    have KT := Lib.hid (fun W g1 g2 => rTable_same A5 A6 gs.length gq.length c5 c6 gs gq W rfl rfl (by omega) hgg hgsm g1 g2)
    clear hb6 KS2 ho5 ho6 HSml hg1 hg2 hgg hgsm
    go_wp2_with fail
    refine (KT.out _ h5 h6).mono ?_
    rintro e w7 ⟨rfl, hb7⟩
    have HG := HG.below hb7
    have h3 := h3.after hb7
    have h5 := h5.after hb7
    clear hb7 KT h6
    go_wp2_with fail
    refine (KA.out _ HG.rs).mono ?_
    rintro e w8 ⟨rfl, hb8⟩
    have HG := HG.below hb8
    have h3 := h3.after hb8
    have h5 := h5.after hb8
    clear hb8 KA
    go_wp2_with fail
    go_loopw [13] (fun i wr => ∃ k : Nat, k ≤ gs.length ∧ i = .int .i64 k ∧ RdS wr A5 gs ∧ RdI wr A3 FV ∧ CoSt w' wr A1 s) (fun i _ => gs.length - (intOf i).toNat)
    case atStart => exact ⟨0, by omega, rfl, h5, h3, HG⟩
    case round =>
      obtain ⟨k, hk, rfl, q5, q3, QG⟩ := hrel
      clear h3 h5 HG
      by_cases hlt : k < gs.length
      · obtain ⟨b1, o1, A7, c7, l1, rfl, hx1, hl1, hc1, hr1⟩ := q5.at_ hlt
        have hx2 : ST[k]? = some l1 := by rw [← HGS.out, List.getElem?_map, hx1]; rfl
        obtain ⟨a, p, rfl, hto, hpl, hak, hfin⟩ := HST.out k l1 hx2
        obtain ⟨b2, o2, x, rfl, hxp, hl2, hc2⟩ := hr1.at_ (k := 0) (by simp)
        obtain rfl : a = x := by simpa using hxp
        obtain ⟨b3, o3, y, hA3, hyp, _, hc3⟩ := hr1.at_ (k := 1) (by simp)
        injection hA3 with hA3
        injection hA3 with g1 g2 _
        subst g1 g2
        obtain rfl : p = y := by simpa using hyp
        have hc2' : wr.cell? ⟨b2, o2, none⟩ = some (.int .i64 a) := hc2
        have hc1' : wr.cell? ⟨b1, o1 + k, none⟩ = some (.slice (some ⟨b2, o2, none⟩) 2 c7) := hc1
        have K := KP.out p wr QG.rs
        rw [hpl, hto] at K
        have j1 : (k : Int) < (gs.length : Int) := by omega
        have i1 : IntKind.i64.wrap ((k : Int) + 1) = (k : Int) + 1 := IntWalk.i64_in _ (by omega)
        have d1 : decide ((k : Int) + 1 < a) = false := decide_eq_false (by omega)
        clear hx1 hx2 hxp hyp hc1 hc2 hto hpl hr1 hak
        go_wp2_with fail
        refine K.mono ?_
        rintro e w9 ⟨rfl, hb9⟩
        have f1 := (hb9.cell (p := ⟨b1, o1 + k, none⟩) hl1).trans hc1'
        have f2 := (hb9.cell (p := ⟨b2, o2, none⟩) hl2).trans hc2'
        have f3 := (hb9.cell (p := ⟨b2, o2 + 1, none⟩) hl2).trans hc3
        have q5 := q5.after hb9
        have q3 := q3.after hb9
        have QG := QG.below hb9
        clear K hc1' hc2' hc3 hb9
        have hP : ok = false ∨ ok = true := by cases ok <;> simp
        rcases hP with rfl | rfl
        · go_wp2_with fail
          go_roundw
          case rel => exact ⟨k + 1, by omega, by go_num, q5, q3, QG⟩
          case measure => first | (simp [intOf]; done) | (simp [intOf]; omega)
        · have hff := hfin rfl
          have HH := Lib.hid (fun W g => rHas_any A3 c3 FV p W (by omega) g)
          clear hfin
          by_cases han : a ≤ n
          · rw [hff.2 han] at HH
            have d2 : decide (a ≤ n) = true := decide_eq_true han
            go_wp2_with fail
            refine (HH.out _ q3).mono ?_
            rintro e w10 ⟨rfl, rfl⟩
            go_wp2_with fail
            go_roundw
            case rel => exact ⟨k + 1, by omega, by go_num, q5, q3, QG⟩
            case measure => first | (simp [intOf]; done) | (simp [intOf]; omega)
          · have hfa : hasB FV p = false := by
              cases hq : hasB FV p
              · rfl
              · exact absurd (hff.1 hq) han
            rw [hfa] at HH
            have d2 : decide (a ≤ n) = false := decide_eq_false han
            clear hff hfa
            go_wp2_with fail
            refine (HH.out _ q3).mono ?_
            rintro e w10 ⟨rfl, rfl⟩
            go_wp2_with fail
            go_roundw
            case rel => exact ⟨k + 1, by omega, by go_num, q5, q3, QG⟩
            case measure => first | (simp [intOf]; done) | (simp [intOf]; omega)
      · have d1 : decide (k < gs.length) = false := decide_eq_false hlt
        have hB := QG.hb
        clear q5 q3 QG KP HST HGS
        go_wp2_with fail
        refine (drawHeat_any A0 c0 l0 _ (by omega) (r0.below hB (Nat.le_refl _))).mono ?_
        rintro e w11 ⟨s2, A11, c11, ht, rfl, hn2, hrs2, hb11⟩
        have HG : CoSt w' w11 A11 s2 := ⟨hrs2, hB.trans (hb11.mono hB.size)⟩
        clear hB hrs2 hb11 d1
        have KW1 := Lib.hid (fun W g => heatWinnerI_any A11 c11 s2 ht W (by omega) g)
        have KW2 := Lib.hid (fun W g => heatWinnerS_any A11 c11 s2 ht W (by omega) g)
        have HW := Lib.hid (@win_facts s2 ht)
        generalize winV s2 ht = wv at *
        generalize winOk s2 ht = told at *
        go_wp2_with fail
        refine (KW1.out _ HG.rs).mono ?_
        rintro e w12 ⟨rfl, hb12⟩
        have HG := HG.below hb12
        clear hb12 KW1
        go_wp2_with fail
        refine (KW2.out _ HG.rs).mono ?_
        rintro e w13 ⟨rfl, hb13⟩
        have HG := HG.below hb13
        clear hb13 KW2
        go_wp2_with fail
        go_loopw [22, 23, 24] (fun be mo i wr => ∃ k : Nat, k ≤ s2.length ∧ (told = false → k = 0) ∧ i = .int .i64 k ∧ be = .int .i64 (bes s2 ht wv k) ∧ mo = .int .i64 (mst s2 ht k) ∧ CoSt w' wr A11 s2) (fun _ _ i _ => s2.length - (intOf i).toNat)
        case atStart => exact ⟨0, by omega, fun _ => rfl, rfl, by rw [bes_zero], by rw [mst_zero], HG⟩
        case round =>
          obtain ⟨k, hk, hk0, rfl, rfl, rfl, QG⟩ := hrel
          clear HG
          have hE : (k < s2.length ∧ told = true) ∨ ((¬ k < s2.length ∨ told = false) ∧ bes s2 ht wv k = mst s2 ht k) := by
            cases told
            · right; refine ⟨.inr rfl, ?_⟩; rw [hk0 rfl, bes_zero, mst_zero]
            · by_cases hlt : k < s2.length
              · exact .inl ⟨hlt, rfl⟩
              · right; refine ⟨.inl hlt, ?_⟩
                obtain rfl : k = s2.length := by omega
                exact (HW.out rfl).2
          rcases hE with ⟨hlt, rfl⟩ | ⟨hx, he⟩
          · have hg := (HW.out rfl).1
            have d1 : decide (k < s2.length) = true := decide_eq_true hlt
            obtain ⟨b, off, pu, he, ri, wg, ti, rfl, hx, hlb, e0, e1, e2, e3, e4⟩ := solvedT_at QG.rs hlt
            have hsv : solvedB ⟨pu, he, ri, wg, ti⟩ = true := (good_pair hg).2.1 _ (List.mem_of_getElem? hx)
            have K := scoreOfI_any pu he ri wg ti wr
            have hsc : scoreV ⟨pu, he, ri, wg, ti⟩ = scoreW ⟨pu, he, ri, wg, ti⟩ := by unfold scoreV; rw [if_pos hsv]
            rw [hsc, hsv] at K
            have M1 := Lib.hid (fun h1 h2 => mst_yes (ht := ht) hx h1 h2)
            have M2 := Lib.hid (fun h => mst_no (ht := ht) hx h)
            have B1 := Lib.hid (fun h1 h2 => bes_yes (ht := ht) (w := wv) hx h1 h2)
            have B2 := Lib.hid (fun h => bes_no (ht := ht) (w := wv) hx h)
            dsimp only at M1 M2 B1 B2
            have j1 : (k : Int) < (s2.length : Int) := by omega
            generalize scoreW ⟨pu, he, ri, wg, ti⟩ = sc at *
            generalize mst s2 ht k = mk at *
            generalize bes s2 ht wv k = bk at *
            clear hx hsv hsc hk0
            go_wp2_with fail
            refine K.mono ?_
            rintro e w14 ⟨rfl, hb14⟩
            have f0 := (hb14.cell (p := ⟨b, off + k * 5, none⟩) hlb).trans e0
            have f1 := (hb14.cell (p := ⟨b, off + k * 5 + 1, none⟩) hlb).trans e1
            have QG := QG.below hb14
            clear K e0 e1 e2 e3 e4 hb14
            by_cases hh : he = ht
            · have dh : (he == ht) = true := by rw [beq_iff_eq]; exact hh
              by_cases hp : pu = wv
              · have dp : (pu == wv) = true := by rw [beq_iff_eq]; exact hp
                have EB := Lib.hid (B1.out hh hp)
                by_cases hm : mk < sc
                · have dm : decide (mk < sc) = true := decide_eq_true hm
                  have EM := Lib.hid (M1.out hh hm)
                  clear hh hp
                  go_wp2_with fail
                  go_roundw
                  case rel => exact ⟨k + 1, by omega, (fun h => by cases h), by go_num, by rw [EB.out], by rw [EM.out], QG⟩
                  case measure => first | (simp [intOf]; done) | (simp [intOf]; omega)
                · have dm : decide (mk < sc) = false := decide_eq_false hm
                  have EM := Lib.hid (M2.out (fun h => hm h.2))
                  clear hh hp
                  go_wp2_with fail
                  go_roundw
                  case rel => exact ⟨k + 1, by omega, (fun h => by cases h), by go_num, by rw [EB.out], by rw [EM.out], QG⟩
                  case measure => first | (simp [intOf]; done) | (simp [intOf]; omega)
              · have dp : (pu == wv) = false := by rw [beq_eq_false_iff_ne]; exact hp
                have EB := Lib.hid (B2.out (fun h => hp h.2))
                by_cases hm : mk < sc
                · have dm : decide (mk < sc) = true := decide_eq_true hm
                  have EM := Lib.hid (M1.out hh hm)
                  clear hh hp
                  go_wp2_with fail
                  go_roundw
                  case rel => exact ⟨k + 1, by omega, (fun h => by cases h), by go_num, by rw [EB.out], by rw [EM.out], QG⟩
                  case measure => first | (simp [intOf]; done) | (simp [intOf]; omega)
                · have dm : decide (mk < sc) = false := decide_eq_false hm
                  have EM := Lib.hid (M2.out (fun h => hm h.2))
                  clear hh hp
                  go_wp2_with fail
                  go_roundw
                  case rel => exact ⟨k + 1, by omega, (fun h => by cases h), by go_num, by rw [EB.out], by rw [EM.out], QG⟩
                  case measure => first | (simp [intOf]; done) | (simp [intOf]; omega)
            · have dh : (he == ht) = false := by rw [beq_eq_false_iff_ne]; exact hh
              have EB := Lib.hid (B2.out (fun h => hh h.1))
              have EM := Lib.hid (M2.out (fun h => hh h.1))
              clear hh
              go_wp2_with fail
              go_roundw
              case rel => exact ⟨k + 1, by omega, (fun h => by cases h), by go_num, by rw [EB.out], by rw [EM.out], QG⟩
              case measure => first | (simp [intOf]; done) | (simp [intOf]; omega)
          · rw [he]
            clear hk0 he HW
            generalize mst s2 ht k = mk at *
            have hB := QG.hb
            have dq : (mk != mk) = false := by simp
            have hgo : ∀ b : Bool, b = false → b = false := fun _ h => h
            clear QG hgo
            have hcond : (k < s2.length ∧ told = false) ∨ (¬ k < s2.length) := by
              rcases hx with h | h
              · exact .inr h
              · by_cases h2 : k < s2.length
                · exact .inl ⟨h2, h⟩
                · exact .inr h2
            clear hx
            go_upto_region 25 with fail
            go_cut [169] (fun s169 wx => s169 = .bool false ∧ wx = wr)
            case first =>
              rcases hcond with ⟨h1, rfl⟩ | h1
              · have d1 : decide (k < s2.length) = true := decide_eq_true h1
                go_wp2_with fail
                go_meet
                exact ⟨rfl, rfl⟩
              · have d1 : decide (k < s2.length) = false := decide_eq_false h1
                go_wp2_with fail
                go_meet
                exact ⟨rfl, rfl⟩
            case rest =>
              obtain ⟨rfl, rfl⟩ := hcut
              clear hcond
              go_wp2_with fail
              refine (drawPlaces_any A0 c0 l0 _ (by omega) (r0.below hB (Nat.le_refl _))).mono ?_
              rintro e w21 ⟨s3, A21, c21, h2, rfl, hn3, hrs3, hb21⟩
              have HG : CoSt w' w21 A21 s3 := ⟨hrs3, hB.trans (hb21.mono hB.size)⟩
              clear hB hrs3 hb21
              have KH1 := Lib.hid (fun W g => placesI_any A21 c21 s3 h2 W (by omega) g)
              have KH2 := Lib.hid (fun W g => placesS_any A21 c21 s3 h2 W (by omega) g)
              have HSml := Lib.hid (fun (gs : List (HdrV × List Int)) (h : gs.map Prod.snd = phV s3 h2) => small_rows h (phV_small s3 h2))
              generalize phV s3 h2 = PH at *
              generalize phOk s3 h2 = known at *
              go_wp2_with fail
              refine (KH1.out _ HG.rs).mono ?_
              rintro e w22 ⟨A22, c22, ps, rfl, hg1, ho22, hb22⟩
              have HG := HG.below hb22
              clear hb22 KH1
              go_wp2_with fail
              refine (KH2.out _ HG.rs).mono ?_
              rintro e w23 ⟨A23, c23, qs, rfl, hg2, ho23, hb23⟩
              have HG := HG.below hb23
              have h22 := (ho22.rd).after hb23
              have h23 := ho23.rd
              obtain ⟨hgl2, hgsm2, _⟩ := HSml.out ps hg1
              have hgg : ps.map Prod.snd = qs.map Prod.snd := hg1.trans hg2.symm
              have KT := Lib.hid (fun W g1 g2 => rTable_same A22 A23 ps.length qs.length c22 c23 ps qs W rfl rfl (by omega) hgg hgsm2 g1 g2)
              clear hb23 KH2 ho22 ho23 HSml hg1 hg2 hgg hgsm2
              go_wp2_with fail
              refine (KT.out _ h22 h23).mono ?_
              rintro e w24 ⟨rfl, hb24⟩
              have HG := HG.below hb24
              go_wp2_with fail
              go_ret
              exact ⟨by simp, HG.hb⟩
set_option maxRecDepth 100000 in
theorem fnContests_lifted (os : Os) (started : os.Started) (H : Type) (enc : TypeId × Value → H) :
    ReturnsInHanded {} Try.checked os 15 .any (Rows.fnContestsSpec.pre6 enc Try.prog Try.f15 Rows.fnContestsRow.domain false) (Rows.fnContestsSpec.post enc Try.prog Try.f15 false true false false) := by
  refine returnsInHanded_of_change (C := Try.checked) ownk started (by kernel_rfl) Try.func15
    (ChangeSpec.witness6 (enc := enc) (C := Try.checked) false ⟨#[], #[.slice none 0 0], []⟩ 8 (by kernel_rfl) (by kernel_rfl) (by kernel_rfl) (by kernel_rfl)) ?_
  intro W base args ds gs before hval0 hW _ _
  have hval : ∀ (j : Nat) t v, Try.f15.params[j]? = some t → args[j]? = some v → Value.okWide Try.prog W .any base t v := hval0
  have hW' := hW
  obtain ⟨p, q, hA0, hV, rfl, _, _⟩ := hW
  have hA : DataW.TrodAll enc Try.prog W 0 (fun _ => true) true Try.f15.params.toList args.toList ds p := hA0
  rw [Try.params15] at hA hval
  obtain ⟨rfl, rfl⟩ := trodVars_none hV
  simp only [List.append_nil] at hW'
  clear hA0 hval0
  have hargs : ∀ W' : World, Below W.heap.size W W' → DataW.TrodAll enc Try.prog W' 0 (fun b => decide (b < W.heap.size)) true [54] args.toList ds p := fun W' hb => trodAll_below laid_out hb _ _ _ _ (by kernel_rfl) hA (fun x hx => hW'.lt x hx)
  obtain ⟨v0, vs0, d0, ds0, p0, q0, hx, rfl, rfl, h0, r0'⟩ := trodAll_cons hA
  obtain ⟨rfl, rfl, rfl⟩ := trodAll_nil r0'
  obtain rfl : args = #[v0] := by cases args; simp_all
  obtain ⟨A0, c0, l0, rfl, m0, r0⟩ := open_rows byteT (by kernel_rfl) (dec_byte W enc) (hval 0 54 v0 rfl rfl) h0
  refine (fnContests_walk W A0 c0 l0 m0 r0).mono fun e W' ⟨he, hb⟩ => ?_
  subst he
  exact ⟨_, rfl, _, _, _, [], _, [], hW', trodAll_mk1 (shut_bool Try.underlying4 _), hargs W' hb, rfl, hb.frame _, fun h => by cases h⟩
theorem fnContests_proved : Rows.FnContestsSaid :=
  OpenClaim.holds_of_wide 15 Try.f15 rfl rfl rfl rfl rfl rfl rfl ⟨rfl, rfl, rfl, rfl, rfl⟩ rfl rfl rfl rfl rfl (by kernel_rfl) Try.func15 (by kernel_rfl)
    (of_decide_eq_true (by kernel_rfl)) (by unfold Func.isWrapper; first | (rw [if_pos (by decide +kernel)]; kernel_rfl) | (rw [if_neg (by decide +kernel)]; exact ⟨rfl, rfl⟩))
    (fun os started H enc _ => fnContests_lifted os started H enc)
#print axioms fnContests_proved
end Go.Proofs.Ytcbecfkckdalmaa
