/-
  The law FnDiagnoses: no bug explains more answers than the best one, and right answers are told by the right way.
-/
import Derived.Test.YtcljnfmlakpflaaBugR
import Derived.Test.YtcljnfmlakpflaaFrameB
import Derived.Deep.RegionHeld3
namespace Go.Proofs.Ytcljnfmlakpflaa
open Go.ChangeShapes Go.WideShapes Go.ChangeAt Go.RowKit

set_option maxRecDepth 100000 in
set_option maxHeartbeats 16000000 in
theorem fnDiagnoses_walk (w : World) (A0 : Option Addr) (c0 : Nat) (l0 : List (Fin 256)) (_ : l0.length ≤ maxLen) (r0 : RdT byteT w A0 l0) :
    Calls Try.prog 13 #[.slice A0 l0.length c0] w fun e w' => e = .returned (.bool true) ∧ Below w.heap.size w w' := by
  by_cases hbig : 65536 < l0.length
  · have d0 : decide (65536 < l0.length) = true := decide_eq_true hbig
    go_enter Try.func13, Try.ntmps13
    go_wp2_with (go_at_call 42; refine (vBig_any _ _ _ _).mono ?_; rintro e w' ⟨rfl, rfl⟩)
    go_ret
    exact ⟨rfl, Below.refl _ _⟩
  · have d0 : decide (65536 < l0.length) = false := decide_eq_false hbig
    go_enter Try.func13, Try.ntmps13
    go_wp2_with (go_at_call 42; refine (vBig_any _ _ _ _).mono ?_; rintro e w' ⟨rfl, rfl⟩)
    clear d0
    refine (drawBest_any A0 c0 l0 _ (by omega) r0).mono ?_
    rintro e w1 ⟨X, AX, cX, hX, rfl, hrX, hB1⟩
    have H1 := Lib.hid (fun A c W g => bestBugI_any A c X W (by omega) g)
    have H2 := Lib.hid (fun A c W g => bestBugS_any A c X W (by omega) g)
    have H3 := Lib.hid (fun A c W g => bugsForAllI_any A c X W (by omega) g)
    have H4 := Lib.hid (fun A c W g => bugsForAllS_any A c X W (by omega) g)
    have H5 := Lib.hid (fun A c W g => wrongAnswersI_any A c X W (by omega) g)
    have H6 := Lib.hid (fun A c W g => wrongAnswersS_any A c X W (by omega) g)
    have HF := Lib.hid (@best_facts X)
    have HE := Lib.hid (@listB_iff X)
    have hl1 := baV_len X
    have hl2 := wrV_len X
    generalize (bbV X).1 = best at *
    generalize (bbV X).2 = most at *
    generalize baV X = NB at *
    generalize wrV X = NW at *
    generalize listB X = ok at *
    go_wp2_with fail
    refine (H1.out _ _ _ hrX).mono ?_
    rintro e w2 ⟨rfl, hb2⟩
    have hrX := hrX.below hb2 (Nat.le_refl _)
    have hB2 := hB1.trans (hb2.mono hB1.size)
    go_wp2_with fail
    refine (H2.out _ _ _ hrX).mono ?_
    rintro e w3 ⟨rfl, hb3⟩
    have hrX := hrX.below hb3 (Nat.le_refl _)
    have hB3 := hB2.trans (hb3.mono hB2.size)
    go_wp2_with fail
    refine (H3.out _ _ _ hrX).mono ?_
    rintro e w4 ⟨A4, c4, rfl, ho4, hb4⟩
    have hrX := hrX.below hb4 (Nat.le_refl _)
    have hB4 := hB3.trans (hb4.mono hB3.size)
    clear hB1 hB2 hB3 hb2 hb3 hb4 H1 H2 H3
    go_wp2_with fail
    refine (H4.out _ _ _ hrX).mono ?_
    rintro e w5 ⟨A5, c5, rfl, ho5, hb5⟩
    have hrX := hrX.below hb5 (Nat.le_refl _)
    have ho4 := ho4.below hb5 (Nat.le_refl _)
    have hB5 := hB4.trans (hb5.mono hB4.size)
    go_wp2_with fail
    refine (vInts_same A4 A5 _ c4 c5 NB _ rfl (by omega) ho4.rd ho5.rd).mono ?_
    rintro e w6 ⟨rfl, hb6⟩
    have hrX := hrX.below hb6 (Nat.le_refl _)
    have ho4 := ho4.below hb6 (Nat.le_refl _)
    have hB6 := hB5.trans (hb6.mono hB5.size)
    clear hB4 hB5 hb5 hb6 ho5 H4
    go_wp2_with fail
    refine (H5.out _ _ _ hrX).mono ?_
    rintro e w7 ⟨A7, c7, rfl, ho7, hb7⟩
    have hrX := hrX.below hb7 (Nat.le_refl _)
    have ho4 := ho4.below hb7 (Nat.le_refl _)
    have hB7 := hB6.trans (hb7.mono hB6.size)
    go_wp2_with fail
    refine (H6.out _ _ _ hrX).mono ?_
    rintro e w8 ⟨A8, c8, rfl, ho8, hb8⟩
    have hrX := hrX.below hb8 (Nat.le_refl _)
    have ho4 := ho4.below hb8 (Nat.le_refl _)
    have ho7 := ho7.below hb8 (Nat.le_refl _)
    have hB8 := hB7.trans (hb8.mono hB7.size)
    go_wp2_with fail
    refine (vInts_same A7 A8 _ c7 c8 NW _ rfl (by omega) ho7.rd ho8.rd).mono ?_
    rintro e w9 ⟨rfl, hb9⟩
    have hrX := hrX.below hb9 (Nat.le_refl _)
    have ho4 := ho4.below hb9 (Nat.le_refl _)
    have hB9 := hB8.trans (hb9.mono hB8.size)
    have hr4 := ho4.rd
    clear hB6 hB7 hB8 hb7 hb8 hb9 ho4 ho7 ho8 H5 H6
    have hP : ok = false ∨ ok = true := by cases ok <;> simp
    rcases hP with rfl | rfl
    · have hB5 := hB9
      clear hB9 HF HE
      go_wp2_with fail
      refine (drawTell_any A0 c0 l0 _ (by omega) (r0.below hB5 (Nat.le_refl _))).mono ?_
      rintro e w60 ⟨Z, AZ, cZ, hZ, rfl, hrZ, hb60⟩
      have hB60 := hB5.trans (hb60.mono hB5.size)
      clear hB5 hb60
      have HN1 := Lib.hid (fun A c W g => mostTellingI_any A c Z W (by omega) g)
      have HN2 := Lib.hid (fun A c W g => mostTellingS_any A c Z W (by omega) g)
      have HNF := Lib.hid (fun (h : mtB Z = true) => mt_facts h)
      generalize mtW Z = ma at *
      generalize mtB Z = fine at *
      go_wp2_with fail
      refine (HN1.out _ _ _ hrZ).mono ?_
      rintro e w61 ⟨rfl, hb61⟩
      have hrZ := hrZ.below hb61 (Nat.le_refl _)
      have hB61 := hB60.trans (hb61.mono hB60.size)
      go_wp2_with fail
      refine (HN2.out _ _ _ hrZ).mono ?_
      rintro e w62 ⟨rfl, hb62⟩
      have hrZ := hrZ.below hb62 (Nat.le_refl _)
      have hB9 := hB61.trans (hb62.mono hB61.size)
      clear hB60 hB61 hb61 hb62 HN1 HN2
      have hPf : fine = false ∨ fine = true := by cases fine <;> simp
      rcases hPf with rfl | rfl
      · go_wp2
        go_ret
        exact ⟨rfl, hB9⟩
      · obtain ⟨ht, i, p, q, hi, rfl, hip, htop⟩ := HNF.out rfl
        have HTK := Lib.hid ht
        have hiq := ht i p q hip
        have HTOP := Lib.hid htop
        obtain ⟨b2, o2, p', q', rfl, hpx, hl2, hp1, hp2⟩ := pair_at hrZ hi
        obtain ⟨rfl, rfl⟩ : p = p' ∧ q = q' := by rw [hip] at hpx; injection hpx with hpx; injection hpx with h1 h2; exact ⟨h1, h2⟩
        have HK := Lib.hid (fun W => tellingOfI_any p q W)
        rw [hiq] at HK
        generalize telW p q = top at *
        clear ht htop hpx hip hiq HNF
        have j1 : (i : Int) < (Z.length : Int) := by omega
        have j2 : (0 : Int) ≤ i := by omega
        go_wp2_with fail
        obtain ⟨wq, rfl⟩ : ∃ wq : World, wq = w62 := ⟨_, rfl⟩
        go_region_held3 (fun wx => wx.cell? ⟨b2, o2 + i * 2, none⟩ = some (.int .i64 p) ∧ wx.cell? ⟨b2, o2 + i * 2 + 1, none⟩ = some (.int .i64 q)) (((try dsimp only); (repeat' apply And.intro)) <;> (first | assumption | exact hp1 | exact hp2)) (first | (go_at_call 30; refine (HK.out _).mono ?_; rintro e w64 ⟨rfl, hb64⟩; have hb65 : Below wq.heap.size wq w64 := (Below.refl _ _).drew.trans hb64; have t1 := (hb65.cell (p := ⟨b2, o2 + i * 2, none⟩) hl2).trans hp1; have t2 := (hb65.cell (p := ⟨b2, o2 + i * 2 + 1, none⟩) hl2).trans hp2))
        all_goals
          have hrZ := hrZ.below hb65 (Nat.le_refl _)
          have hB9 := hB9.trans (hb65.mono hB9.size)
          clear hp1 hp2 t1 t2 hb64 hb65 j1 j2 HK
          go_wp2
          go_loopw [29] (fun x wr => ∃ k : Nat, k ≤ Z.length ∧ x = .int .i64 k ∧ RdT pairT wr (some ⟨b2, o2, none⟩) Z ∧ Below w'.heap.size w' wr) (fun x _ => Z.length - (intOf x).toNat)
          case atStart => exact ⟨0, by omega, rfl, hrZ, hB9⟩
          case round =>
            obtain ⟨k, hk, rfl, hr, hB⟩ := hrel
            clear hrZ hB9
            by_cases hlt : k < Z.length
            · obtain ⟨b3, o3, p3, q3, hA3, hx, hl3, hc1, hc2⟩ := pair_at hr hlt
              injection hA3 with hA3
              injection hA3 with e1 e2 _
              subst e1 e2
              have hT := HTOP.out k p3 q3 hx
              have hK2 := HTK.out k p3 q3 hx
              have HK := Lib.hid (fun W => tellingOfI_any p3 q3 W)
              rw [hK2] at HK
              clear hK2 hx
              generalize telW p3 q3 = t3 at *
              have d1 : decide (top < t3) = false := decide_eq_false (by omega)
              clear hT
              go_wp2_with fail
              go_region_held3 (fun wx => wx.cell? ⟨b2, o2 + k * 2, none⟩ = some (.int .i64 p3) ∧ wx.cell? ⟨b2, o2 + k * 2 + 1, none⟩ = some (.int .i64 q3)) (((try dsimp only); (repeat' apply And.intro)) <;> (first | assumption | exact hc1 | exact hc2)) (first | (go_at_call 30; refine (HK.out _).mono ?_; rintro e w66 ⟨rfl, hb66⟩; have hb67 : Below wr.heap.size wr w66 := (Below.refl _ _).drew.trans hb66; have t1 := (hb67.cell (p := ⟨b2, o2 + k * 2, none⟩) hl3).trans hc1; have t2 := (hb67.cell (p := ⟨b2, o2 + k * 2 + 1, none⟩) hl3).trans hc2))
              all_goals
                go_wp2
                go_roundw
                case rel => exact ⟨k + 1, by omega, by go_num, hr.below hb67 (Nat.le_refl _), hB.trans (hb67.mono hB.size)⟩
                case measure => simp [intOf]; omega
            · go_wp2
              go_ret
              exact ⟨rfl, hB⟩
    · obtain ⟨⟨g1, g2⟩, g3, g4, g5, g6, g7⟩ := HF.out rfl
      have HS := Lib.hid g3
      have hbi : inB best 0 5 = true := by simp [inB]; omega
      have G6 := Lib.hid g6
      have G7 := Lib.hid g7
      clear g3 g6 g7 HF
      go_wp2
      go_loopw [18, 19] (fun n i wr => ∃ k : Nat, k ≤ X.length ∧ i = .int .i64 k ∧ n = .int .i64 (expA best X k) ∧ RdI wr A4 NB ∧ RdT tripT wr AX X ∧ Below w'.heap.size w' wr) (fun _ i _ => X.length - (intOf i).toNat)
      case atStart => exact ⟨0, by omega, rfl, by have := expA_bd best X 0; rw [show expA best X 0 = 0 by omega], hr4, hrX, hB9⟩
      case round =>
        obtain ⟨k, hk, rfl, rfl, hr, hx, hB⟩ := hrel
        clear hr4 hrX hB9
        by_cases hlt : k < X.length
        · obtain ⟨b2, o2, p, q, r, rfl, hpx, hl2', hp1, hp2, hp3⟩ := trip_at hx hlt
          have hbd := (HE.out (by first | rfl | trivial)).2 k p q r hpx
          have htk : taskB p q = true := (taskB_iff p q).2 ⟨hbd.1, hbd.2.1⟩
          have HK := Lib.hid (fun W => answerWithI_any best p q W)
          rw [hbi, htk, ansW_yes hbi htk] at HK
          have hsb := expA_bd best X k
          have i1 : IntKind.i64.wrap (expA best X k + 1) = expA best X k + 1 := IntWalk.i64_in _ (by omega)
          have hE : expA best X (k + 1) = if (ansV best p q == r) = true then expA best X k + 1 else expA best X k := by
            cases hv : (ansV best p q == r)
            · rw [expA_no best hpx hv]; rfl
            · rw [expA_yes best hpx hv]; rfl
          generalize ansV best p q = z at *
          have HEE := Lib.hid hE
          clear hE hpx hbd htk
          generalize expA best X k = sn at *
          go_wp2_with fail
          go_region_held3 (fun wx => wx.cell? ⟨b2, o2 + k * 3, none⟩ = some (.int .i64 p) ∧ wx.cell? ⟨b2, o2 + k * 3 + 1, none⟩ = some (.int .i64 q)) (((try dsimp only); (repeat' apply And.intro)) <;> (first | assumption | exact hp1 | exact hp2)) (first | (go_at_call 15; refine (HK.out _).mono ?_; rintro e w24 ⟨rfl, hb24⟩; have hb25 : Below wr.heap.size wr w24 := (Below.refl _ _).drew.trans hb24; have t1 := (hb25.cell (p := ⟨b2, o2 + k * 3, none⟩) hl2').trans hp1; have t2 := (hb25.cell (p := ⟨b2, o2 + k * 3 + 1, none⟩) hl2').trans hp2))
          all_goals
            have t3 := (hb25.cell (p := ⟨b2, o2 + k * 3 + 2, none⟩) hl2').trans hp3
            clear hp1 hp2 hp3
            by_cases hv : z = r
            · subst hv
              go_wp2
              go_roundw
              case rel => exact ⟨k + 1, by omega, by go_num, by rw [HEE.out, if_pos (by simp)], hr.below hb25 (Nat.le_refl _), hx.below hb25 (Nat.le_refl _), hB.trans (hb25.mono hB.size)⟩
              case measure => simp [intOf]; omega
            · have d1 : (z == r) = false := by simp [hv]
              go_wp2
              go_roundw
              case rel => exact ⟨k + 1, by omega, by go_num, by rw [HEE.out, if_neg (by simp [hv])], hr.below hb25 (Nat.le_refl _), hx.below hb25 (Nat.le_refl _), hB.trans (hb25.mono hB.size)⟩
              case measure => simp [intOf]; omega
        · obtain rfl : k = X.length := by omega
          rw [← HS.out]
          have HV := Lib.hid (fun W g => vHas_any A4 NB.length c4 NB 0 W rfl (by omega) g)
          have q0 : decide (most < (X.length : Int) - (NW.length : Int)) = false := decide_eq_false (by omega)
          have i2 : IntKind.i64.wrap ((X.length : Int) - (NW.length : Int)) = (X.length : Int) - (NW.length : Int) := IntWalk.i64_in _ (by omega)
          have gz : NW.length = 0 → most = (X.length : Int) := by
            intro h0
            have h1 := (expA_bd best X X.length).2
            have h2 := HS.out
            omega
          clear HS hx HE g4 g5
          have hB5 := hB
          clear hB
          by_cases hz : NW.length = 0
          · have hh : hasB NB 0 = true := (hasB_iff _ _).2 (G6.out.2 hz)
            rw [hh] at HV
            have hm2 := gz hz
            have hm := G7.out.2 hm2
            clear hh G6 G7 gz
            go_wp2_with (go_at_call 48; refine (HV.out _ hr).mono ?_; rintro e w33 ⟨rfl, rfl⟩)
            refine (drawTell_any A0 c0 l0 _ (by omega) (r0.below hB5 (Nat.le_refl _))).mono ?_
            rintro e w60 ⟨Z, AZ, cZ, hZ, rfl, hrZ, hb60⟩
            have hB60 := hB5.trans (hb60.mono hB5.size)
            clear hB5 hb60
            have HN1 := Lib.hid (fun A c W g => mostTellingI_any A c Z W (by omega) g)
            have HN2 := Lib.hid (fun A c W g => mostTellingS_any A c Z W (by omega) g)
            have HNF := Lib.hid (fun (h : mtB Z = true) => mt_facts h)
            generalize mtW Z = ma at *
            generalize mtB Z = fine at *
            go_wp2_with fail
            refine (HN1.out _ _ _ hrZ).mono ?_
            rintro e w61 ⟨rfl, hb61⟩
            have hrZ := hrZ.below hb61 (Nat.le_refl _)
            have hB61 := hB60.trans (hb61.mono hB60.size)
            go_wp2_with fail
            refine (HN2.out _ _ _ hrZ).mono ?_
            rintro e w62 ⟨rfl, hb62⟩
            have hrZ := hrZ.below hb62 (Nat.le_refl _)
            have hB9 := hB61.trans (hb62.mono hB61.size)
            clear hB60 hB61 hb61 hb62 HN1 HN2
            have hPf : fine = false ∨ fine = true := by cases fine <;> simp
            rcases hPf with rfl | rfl
            · go_wp2
              go_ret
              exact ⟨rfl, hB9⟩
            · obtain ⟨ht, i, p, q, hi, rfl, hip, htop⟩ := HNF.out rfl
              have HTK := Lib.hid ht
              have hiq := ht i p q hip
              have HTOP := Lib.hid htop
              obtain ⟨b2, o2, p', q', rfl, hpx, hl2, hp1, hp2⟩ := pair_at hrZ hi
              obtain ⟨rfl, rfl⟩ : p = p' ∧ q = q' := by rw [hip] at hpx; injection hpx with hpx; injection hpx with h1 h2; exact ⟨h1, h2⟩
              have HK := Lib.hid (fun W => tellingOfI_any p q W)
              rw [hiq] at HK
              generalize telW p q = top at *
              clear ht htop hpx hip hiq HNF
              have j1 : (i : Int) < (Z.length : Int) := by omega
              have j2 : (0 : Int) ≤ i := by omega
              go_wp2_with fail
              obtain ⟨wq, rfl⟩ : ∃ wq : World, wq = w62 := ⟨_, rfl⟩
              go_region_held3 (fun wx => wx.cell? ⟨b2, o2 + i * 2, none⟩ = some (.int .i64 p) ∧ wx.cell? ⟨b2, o2 + i * 2 + 1, none⟩ = some (.int .i64 q)) (((try dsimp only); (repeat' apply And.intro)) <;> (first | assumption | exact hp1 | exact hp2)) (first | (go_at_call 30; refine (HK.out _).mono ?_; rintro e w64 ⟨rfl, hb64⟩; have hb65 : Below wq.heap.size wq w64 := (Below.refl _ _).drew.trans hb64; have t1 := (hb65.cell (p := ⟨b2, o2 + i * 2, none⟩) hl2).trans hp1; have t2 := (hb65.cell (p := ⟨b2, o2 + i * 2 + 1, none⟩) hl2).trans hp2))
              all_goals
                have hrZ := hrZ.below hb65 (Nat.le_refl _)
                have hB9 := hB9.trans (hb65.mono hB9.size)
                clear hp1 hp2 t1 t2 hb64 hb65 j1 j2 HK
                go_wp2
                go_loopw [29] (fun x wr => ∃ k : Nat, k ≤ Z.length ∧ x = .int .i64 k ∧ RdT pairT wr (some ⟨b2, o2, none⟩) Z ∧ Below w'.heap.size w' wr) (fun x _ => Z.length - (intOf x).toNat)
                case atStart => exact ⟨0, by omega, rfl, hrZ, hB9⟩
                case round =>
                  obtain ⟨k, hk, rfl, hr, hB⟩ := hrel
                  clear hrZ hB9
                  by_cases hlt : k < Z.length
                  · obtain ⟨b3, o3, p3, q3, hA3, hx, hl3, hc1, hc2⟩ := pair_at hr hlt
                    injection hA3 with hA3
                    injection hA3 with e1 e2 _
                    subst e1 e2
                    have hT := HTOP.out k p3 q3 hx
                    have hK2 := HTK.out k p3 q3 hx
                    have HK := Lib.hid (fun W => tellingOfI_any p3 q3 W)
                    rw [hK2] at HK
                    clear hK2 hx
                    generalize telW p3 q3 = t3 at *
                    have d1 : decide (top < t3) = false := decide_eq_false (by omega)
                    clear hT
                    go_wp2_with fail
                    go_region_held3 (fun wx => wx.cell? ⟨b2, o2 + k * 2, none⟩ = some (.int .i64 p3) ∧ wx.cell? ⟨b2, o2 + k * 2 + 1, none⟩ = some (.int .i64 q3)) (((try dsimp only); (repeat' apply And.intro)) <;> (first | assumption | exact hc1 | exact hc2)) (first | (go_at_call 30; refine (HK.out _).mono ?_; rintro e w66 ⟨rfl, hb66⟩; have hb67 : Below wr.heap.size wr w66 := (Below.refl _ _).drew.trans hb66; have t1 := (hb67.cell (p := ⟨b2, o2 + k * 2, none⟩) hl3).trans hc1; have t2 := (hb67.cell (p := ⟨b2, o2 + k * 2 + 1, none⟩) hl3).trans hc2))
                    all_goals
                      go_wp2
                      go_roundw
                      case rel => exact ⟨k + 1, by omega, by go_num, hr.below hb67 (Nat.le_refl _), hB.trans (hb67.mono hB.size)⟩
                      case measure => simp [intOf]; omega
                  · go_wp2
                    go_ret
                    exact ⟨rfl, hB⟩
          · clear gz
            have hh : hasB NB 0 = false := (hasB_not _ _).2 (fun hx => hz (G6.out.1 hx))
            rw [hh] at HV
            have e1 : decide (NW.length = 0) = false := decide_eq_false hz
            have e3 : decide ((NW.length : Int) = 0) = false := decide_eq_false (by omega)
            have e4 : ¬ NW = [] := fun he => hz (by rw [he]; rfl)
            have e5 : decide (NW = []) = false := decide_eq_false e4
            by_cases hm : 0 < NB.length
            · have hm2 := G7.out.1 hm
              clear hh G6 G7
              subst hm2
              go_wp2_with (go_at_call 48; refine (HV.out _ hr).mono ?_; rintro e w33 ⟨rfl, rfl⟩)
              refine (drawTell_any A0 c0 l0 _ (by omega) (r0.below hB5 (Nat.le_refl _))).mono ?_
              rintro e w60 ⟨Z, AZ, cZ, hZ, rfl, hrZ, hb60⟩
              have hB60 := hB5.trans (hb60.mono hB5.size)
              clear hB5 hb60
              have HN1 := Lib.hid (fun A c W g => mostTellingI_any A c Z W (by omega) g)
              have HN2 := Lib.hid (fun A c W g => mostTellingS_any A c Z W (by omega) g)
              have HNF := Lib.hid (fun (h : mtB Z = true) => mt_facts h)
              generalize mtW Z = ma at *
              generalize mtB Z = fine at *
              go_wp2_with fail
              refine (HN1.out _ _ _ hrZ).mono ?_
              rintro e w61 ⟨rfl, hb61⟩
              have hrZ := hrZ.below hb61 (Nat.le_refl _)
              have hB61 := hB60.trans (hb61.mono hB60.size)
              go_wp2_with fail
              refine (HN2.out _ _ _ hrZ).mono ?_
              rintro e w62 ⟨rfl, hb62⟩
              have hrZ := hrZ.below hb62 (Nat.le_refl _)
              have hB9 := hB61.trans (hb62.mono hB61.size)
              clear hB60 hB61 hb61 hb62 HN1 HN2
              have hPf : fine = false ∨ fine = true := by cases fine <;> simp
              rcases hPf with rfl | rfl
              · go_wp2
                go_ret
                exact ⟨rfl, hB9⟩
              · obtain ⟨ht, i, p, q, hi, rfl, hip, htop⟩ := HNF.out rfl
                have HTK := Lib.hid ht
                have hiq := ht i p q hip
                have HTOP := Lib.hid htop
                obtain ⟨b2, o2, p', q', rfl, hpx, hl2, hp1, hp2⟩ := pair_at hrZ hi
                obtain ⟨rfl, rfl⟩ : p = p' ∧ q = q' := by rw [hip] at hpx; injection hpx with hpx; injection hpx with h1 h2; exact ⟨h1, h2⟩
                have HK := Lib.hid (fun W => tellingOfI_any p q W)
                rw [hiq] at HK
                generalize telW p q = top at *
                clear ht htop hpx hip hiq HNF
                have j1 : (i : Int) < (Z.length : Int) := by omega
                have j2 : (0 : Int) ≤ i := by omega
                go_wp2_with fail
                obtain ⟨wq, rfl⟩ : ∃ wq : World, wq = w62 := ⟨_, rfl⟩
                go_region_held3 (fun wx => wx.cell? ⟨b2, o2 + i * 2, none⟩ = some (.int .i64 p) ∧ wx.cell? ⟨b2, o2 + i * 2 + 1, none⟩ = some (.int .i64 q)) (((try dsimp only); (repeat' apply And.intro)) <;> (first | assumption | exact hp1 | exact hp2)) (first | (go_at_call 30; refine (HK.out _).mono ?_; rintro e w64 ⟨rfl, hb64⟩; have hb65 : Below wq.heap.size wq w64 := (Below.refl _ _).drew.trans hb64; have t1 := (hb65.cell (p := ⟨b2, o2 + i * 2, none⟩) hl2).trans hp1; have t2 := (hb65.cell (p := ⟨b2, o2 + i * 2 + 1, none⟩) hl2).trans hp2))
                all_goals
                  have hrZ := hrZ.below hb65 (Nat.le_refl _)
                  have hB9 := hB9.trans (hb65.mono hB9.size)
                  clear hp1 hp2 t1 t2 hb64 hb65 j1 j2 HK
                  go_wp2
                  go_loopw [29] (fun x wr => ∃ k : Nat, k ≤ Z.length ∧ x = .int .i64 k ∧ RdT pairT wr (some ⟨b2, o2, none⟩) Z ∧ Below w'.heap.size w' wr) (fun x _ => Z.length - (intOf x).toNat)
                  case atStart => exact ⟨0, by omega, rfl, hrZ, hB9⟩
                  case round =>
                    obtain ⟨k, hk, rfl, hr, hB⟩ := hrel
                    clear hrZ hB9
                    by_cases hlt : k < Z.length
                    · obtain ⟨b3, o3, p3, q3, hA3, hx, hl3, hc1, hc2⟩ := pair_at hr hlt
                      injection hA3 with hA3
                      injection hA3 with e1 e2 _
                      subst e1 e2
                      have hT := HTOP.out k p3 q3 hx
                      have hK2 := HTK.out k p3 q3 hx
                      have HK := Lib.hid (fun W => tellingOfI_any p3 q3 W)
                      rw [hK2] at HK
                      clear hK2 hx
                      generalize telW p3 q3 = t3 at *
                      have d1 : decide (top < t3) = false := decide_eq_false (by omega)
                      clear hT
                      go_wp2_with fail
                      go_region_held3 (fun wx => wx.cell? ⟨b2, o2 + k * 2, none⟩ = some (.int .i64 p3) ∧ wx.cell? ⟨b2, o2 + k * 2 + 1, none⟩ = some (.int .i64 q3)) (((try dsimp only); (repeat' apply And.intro)) <;> (first | assumption | exact hc1 | exact hc2)) (first | (go_at_call 30; refine (HK.out _).mono ?_; rintro e w66 ⟨rfl, hb66⟩; have hb67 : Below wr.heap.size wr w66 := (Below.refl _ _).drew.trans hb66; have t1 := (hb67.cell (p := ⟨b2, o2 + k * 2, none⟩) hl3).trans hc1; have t2 := (hb67.cell (p := ⟨b2, o2 + k * 2 + 1, none⟩) hl3).trans hc2))
                      all_goals
                        go_wp2
                        go_roundw
                        case rel => exact ⟨k + 1, by omega, by go_num, hr.below hb67 (Nat.le_refl _), hB.trans (hb67.mono hB.size)⟩
                        case measure => simp [intOf]; omega
                    · go_wp2
                      go_ret
                      exact ⟨rfl, hB⟩
            · have hm2 : ¬ most = (X.length : Int) := fun he => hm (G7.out.2 he)
              have d1 : decide (0 < NB.length) = false := decide_eq_false hm
              have d2 : decide (most = (X.length : Int)) = false := decide_eq_false hm2
              have d3 : (most == (X.length : Int)) = false := by simp [hm2]
              clear hh G6 G7
              go_wp2_with (go_at_call 48; refine (HV.out _ hr).mono ?_; rintro e w33 ⟨rfl, rfl⟩)
              refine (drawTell_any A0 c0 l0 _ (by omega) (r0.below hB5 (Nat.le_refl _))).mono ?_
              rintro e w60 ⟨Z, AZ, cZ, hZ, rfl, hrZ, hb60⟩
              have hB60 := hB5.trans (hb60.mono hB5.size)
              clear hB5 hb60
              have HN1 := Lib.hid (fun A c W g => mostTellingI_any A c Z W (by omega) g)
              have HN2 := Lib.hid (fun A c W g => mostTellingS_any A c Z W (by omega) g)
              have HNF := Lib.hid (fun (h : mtB Z = true) => mt_facts h)
              generalize mtW Z = ma at *
              generalize mtB Z = fine at *
              go_wp2_with fail
              refine (HN1.out _ _ _ hrZ).mono ?_
              rintro e w61 ⟨rfl, hb61⟩
              have hrZ := hrZ.below hb61 (Nat.le_refl _)
              have hB61 := hB60.trans (hb61.mono hB60.size)
              go_wp2_with fail
              refine (HN2.out _ _ _ hrZ).mono ?_
              rintro e w62 ⟨rfl, hb62⟩
              have hrZ := hrZ.below hb62 (Nat.le_refl _)
              have hB9 := hB61.trans (hb62.mono hB61.size)
              clear hB60 hB61 hb61 hb62 HN1 HN2
              have hPf : fine = false ∨ fine = true := by cases fine <;> simp
              rcases hPf with rfl | rfl
              · go_wp2
                go_ret
                exact ⟨rfl, hB9⟩
              · obtain ⟨ht, i, p, q, hi, rfl, hip, htop⟩ := HNF.out rfl
                have HTK := Lib.hid ht
                have hiq := ht i p q hip
                have HTOP := Lib.hid htop
                obtain ⟨b2, o2, p', q', rfl, hpx, hl2, hp1, hp2⟩ := pair_at hrZ hi
                obtain ⟨rfl, rfl⟩ : p = p' ∧ q = q' := by rw [hip] at hpx; injection hpx with hpx; injection hpx with h1 h2; exact ⟨h1, h2⟩
                have HK := Lib.hid (fun W => tellingOfI_any p q W)
                rw [hiq] at HK
                generalize telW p q = top at *
                clear ht htop hpx hip hiq HNF
                have j1 : (i : Int) < (Z.length : Int) := by omega
                have j2 : (0 : Int) ≤ i := by omega
                go_wp2_with fail
                obtain ⟨wq, rfl⟩ : ∃ wq : World, wq = w62 := ⟨_, rfl⟩
                go_region_held3 (fun wx => wx.cell? ⟨b2, o2 + i * 2, none⟩ = some (.int .i64 p) ∧ wx.cell? ⟨b2, o2 + i * 2 + 1, none⟩ = some (.int .i64 q)) (((try dsimp only); (repeat' apply And.intro)) <;> (first | assumption | exact hp1 | exact hp2)) (first | (go_at_call 30; refine (HK.out _).mono ?_; rintro e w64 ⟨rfl, hb64⟩; have hb65 : Below wq.heap.size wq w64 := (Below.refl _ _).drew.trans hb64; have t1 := (hb65.cell (p := ⟨b2, o2 + i * 2, none⟩) hl2).trans hp1; have t2 := (hb65.cell (p := ⟨b2, o2 + i * 2 + 1, none⟩) hl2).trans hp2))
                all_goals
                  have hrZ := hrZ.below hb65 (Nat.le_refl _)
                  have hB9 := hB9.trans (hb65.mono hB9.size)
                  clear hp1 hp2 t1 t2 hb64 hb65 j1 j2 HK
                  go_wp2
                  go_loopw [29] (fun x wr => ∃ k : Nat, k ≤ Z.length ∧ x = .int .i64 k ∧ RdT pairT wr (some ⟨b2, o2, none⟩) Z ∧ Below w'.heap.size w' wr) (fun x _ => Z.length - (intOf x).toNat)
                  case atStart => exact ⟨0, by omega, rfl, hrZ, hB9⟩
                  case round =>
                    obtain ⟨k, hk, rfl, hr, hB⟩ := hrel
                    clear hrZ hB9
                    by_cases hlt : k < Z.length
                    · obtain ⟨b3, o3, p3, q3, hA3, hx, hl3, hc1, hc2⟩ := pair_at hr hlt
                      injection hA3 with hA3
                      injection hA3 with e1 e2 _
                      subst e1 e2
                      have hT := HTOP.out k p3 q3 hx
                      have hK2 := HTK.out k p3 q3 hx
                      have HK := Lib.hid (fun W => tellingOfI_any p3 q3 W)
                      rw [hK2] at HK
                      clear hK2 hx
                      generalize telW p3 q3 = t3 at *
                      have d1 : decide (top < t3) = false := decide_eq_false (by omega)
                      clear hT
                      go_wp2_with fail
                      go_region_held3 (fun wx => wx.cell? ⟨b2, o2 + k * 2, none⟩ = some (.int .i64 p3) ∧ wx.cell? ⟨b2, o2 + k * 2 + 1, none⟩ = some (.int .i64 q3)) (((try dsimp only); (repeat' apply And.intro)) <;> (first | assumption | exact hc1 | exact hc2)) (first | (go_at_call 30; refine (HK.out _).mono ?_; rintro e w66 ⟨rfl, hb66⟩; have hb67 : Below wr.heap.size wr w66 := (Below.refl _ _).drew.trans hb66; have t1 := (hb67.cell (p := ⟨b2, o2 + k * 2, none⟩) hl3).trans hc1; have t2 := (hb67.cell (p := ⟨b2, o2 + k * 2 + 1, none⟩) hl3).trans hc2))
                      all_goals
                        go_wp2
                        go_roundw
                        case rel => exact ⟨k + 1, by omega, by go_num, hr.below hb67 (Nat.le_refl _), hB.trans (hb67.mono hB.size)⟩
                        case measure => simp [intOf]; omega
                    · go_wp2
                      go_ret
                      exact ⟨rfl, hB⟩

set_option maxRecDepth 100000 in
theorem fnDiagnoses_lifted (os : Os) (started : os.Started) (H : Type) (enc : TypeId × Value → H) :
    ReturnsInHanded {} Try.checked os 13 .any (Rows.fnDiagnosesSpec.pre6 enc Try.prog Try.f13 Rows.fnDiagnosesRow.domain false) (Rows.fnDiagnosesSpec.post enc Try.prog Try.f13 false true false false) := by
  refine returnsInHanded_of_change (C := Try.checked) ownk started (by kernel_rfl) Try.func13
    (ChangeSpec.witness6 (enc := enc) (C := Try.checked) false ⟨#[], #[.slice none 0 0], []⟩ 8 (by kernel_rfl) (by kernel_rfl) (by kernel_rfl) (by kernel_rfl)) ?_
  intro W base args ds gs before hval0 hW _ _
  have hval : ∀ (j : Nat) t v, Try.f13.params[j]? = some t → args[j]? = some v → Value.okWide Try.prog W .any base t v := hval0
  have hW' := hW
  obtain ⟨p, q, hA0, hV, rfl, _, _⟩ := hW
  have hA : DataW.TrodAll enc Try.prog W 0 (fun _ => true) true Try.f13.params.toList args.toList ds p := hA0
  rw [Try.params13] at hA hval
  obtain ⟨rfl, rfl⟩ := trodVars_none hV
  simp only [List.append_nil] at hW'
  clear hA0 hval0
  have hargs : ∀ W' : World, Below W.heap.size W W' → DataW.TrodAll enc Try.prog W' 0 (fun b => decide (b < W.heap.size)) true [47] args.toList ds p := fun W' hb => trodAll_below laid_out hb _ _ _ _ (by kernel_rfl) hA (fun x hx => hW'.lt x hx)
  obtain ⟨v0, vs0, d0, ds0, p0, q0, hx, rfl, rfl, h0, r0'⟩ := trodAll_cons hA
  obtain ⟨rfl, rfl, rfl⟩ := trodAll_nil r0'
  obtain rfl : args = #[v0] := by cases args; simp_all
  obtain ⟨A0, c0, l0, rfl, m0, r0⟩ := open_rows byteT (by kernel_rfl) (dec_byte W enc) (hval 0 47 v0 rfl rfl) h0
  refine (fnDiagnoses_walk W A0 c0 l0 m0 r0).mono fun e W' ⟨he, hb⟩ => ?_
  subst he
  exact ⟨_, rfl, _, _, _, [], _, [], hW', trodAll_mk1 (shut_bool Try.underlying4 _), hargs W' hb, rfl, hb.frame _, fun h => by cases h⟩
theorem fnDiagnoses_proved : Rows.FnDiagnosesSaid :=
  OpenClaim.holds_of_wide 13 Try.f13 rfl rfl rfl rfl rfl rfl rfl ⟨rfl, rfl, rfl, rfl, rfl⟩ rfl rfl rfl rfl rfl (by kernel_rfl) Try.func13 (by kernel_rfl)
    (of_decide_eq_true (by kernel_rfl)) (by unfold Func.isWrapper; first | (rw [if_pos (by decide +kernel)]; kernel_rfl) | (rw [if_neg (by decide +kernel)]; exact ⟨rfl, rfl⟩))
    (fun os started H enc _ => fnDiagnoses_lifted os started H enc)
#print axioms fnDiagnoses_proved
end Go.Proofs.Ytcljnfmlakpflaa
