/-
  The law FnTries: for every code it is true. No condition.
-/
import Derived.Test.YthoojcmnkhhokaaDrwE
import Derived.Test.YthoojcmnkhhokaaDrwF
import Derived.Test.YthoojcmnkhhokaaGraK
import Derived.Test.YthoojcmnkhhokaaGraN
import Derived.Test.YthoojcmnkhhokaaGraM
import Derived.Test.YthoojcmnkhhokaaFrameB
import Derived.Deep.RegionHeld3
import Derived.Deep.DeepCutAuto
namespace Go.Proofs.Ythoojcmnkhhokaa
set_option maxRecDepth 100000
open Go.ChangeShapes Go.WideShapes Go.ChangeAt Go.RowKit

theorem tries_get {ps : List (TryH × List Int)} {ts : List TryV} (h : ts = ps.map toV) {k : Nat} {p g : Int} {A : Option Addr} {n c : Nat} {l : List Int} (hx : ps[k]? = some (⟨p, g, A, n, c⟩, l)) : ts[k]? = some ⟨p, g, l⟩ := by
  rw [h, List.getElem?_map, hx]; rfl
theorem rk_mem {s : List PartV} {ts : List TryV} : ∀ o ∈ rkV s ts, 0 ≤ o ∧ o < ts.length := by
  intro o ho
  cases h : goodB s ts
  · rw [rkV_no h] at ho; cases ho
  · rw [rkV_yes h] at ho; exact rkA_mem _ _ _ o ho
theorem rk_full {s : List PartV} {ts : List TryV} (h : goodB s ts = true) : (rkV s ts).length = ts.length := by rw [rkV_yes h, rkA_len]
theorem rk_down {s : List PartV} {ts : List TryV} {k : Nat} {o o' : Int} (ho : (rkV s ts)[k]? = some o) (ho' : (rkV s ts)[k + 1]? = some o') :
    ∃ (j j' : Nat) (t t' : TryV), o = j ∧ o' = j' ∧ j < ts.length ∧ j' < ts.length ∧ ts[j]? = some t ∧ ts[j']? = some t' ∧ t'.grade ≤ t.grade := by
  cases h : goodB s ts
  · rw [rkV_no h] at ho; cases ho
  · exact rk_grade h ho ho'
set_option maxRecDepth 100000 in
set_option maxHeartbeats 8000000 in
theorem fnTries_walk (w : World) (A0 : Option Addr) (c0 : Nat) (l0 : List (Fin 256)) (_ : l0.length ≤ maxLen) (r0 : RdT byteT w A0 l0) :
    Calls Try.prog 13 #[.slice A0 l0.length c0] w fun e w' => e = .returned (.bool true) ∧ Below w.heap.size w w' := by
  by_cases hbig : 65536 < l0.length
  · have d0 : decide (65536 < l0.length) = true := decide_eq_true hbig
    go_enter Try.func13, Try.ntmps13
    go_wp2_with (go_at_call 56; refine (rBig_any _ _ _ _).mono ?_; rintro e w' ⟨rfl, rfl⟩)
    go_ret
    exact ⟨rfl, Below.refl _ _⟩
  · have d0 : decide (65536 < l0.length) = false := decide_eq_false hbig
    go_enter Try.func13, Try.ntmps13
    go_wp2_with (go_at_call 56; refine (rBig_any _ _ _ _).mono ?_; rintro e w' ⟨rfl, rfl⟩)
    clear d0
    refine (drawRankTries_any A0 c0 l0 _ (by omega) r0).mono ?_
    rintro e w1 ⟨s, A1, c1, ps, A2, c2, rfl, hn1, hcap, hs1, hrs, hm, hp8, hry, hB1⟩
    obtain ⟨ts, hts⟩ : ∃ ts, ts = ps.map toV := ⟨_, rfl⟩
    have hok : ∀ x ∈ s, x.ok := fun x hx => by have := (hs1 x hx).1; show x.name.size ≤ 1048576; omega
    have hsm : ∀ p ∈ ps, p.2.length ≤ 16777216 := fun p hp => by have := hp8 p hp; omega
    have htl : ts.length = ps.length := by rw [hts, List.length_map]
    have HR1 := Lib.hid (fun W h1 h2 => rankI_t A1 c1 s A2 c2 ps ts hts.symm W (by omega) hcap h1 hok (by omega) hsm h2)
    have HR2 := Lib.hid (fun W h1 h2 => rankS_t A1 c1 s A2 c2 ps ts hts.symm W (by omega) hcap h1 hok (by omega) hsm h2)
    have HG := Lib.hid (fun W h1 h2 => areTriesI_t A1 c1 s A2 c2 ps ts hts.symm W (by omega) hcap h1 hok (by omega) hsm h2)
    have HD := Lib.hid (fun (k : Nat) (o o' : Int) h1 h2 => @rk_down s ts k o o' h1 h2)
    have HF := Lib.hid (@rk_full s ts)
    have hLn := rkV_len s ts
    have HT := Lib.hid hts
    have HTL := Lib.hid htl
    clear htl hts
    generalize rkV s ts = L at *
    generalize goodB s ts = ok at *
    go_wp2_with fail
    refine (HR1.out _ hrs hry).mono ?_
    rintro e w2 ⟨A3, c3, rfl, ho2, hb2⟩
    have hrs := hrs.below hb2 (Nat.le_refl _)
    have hry := hry.below hb2 (Nat.le_refl _)
    have hB2 := hB1.trans (hb2.mono hB1.size)
    go_wp2_with fail
    refine (HR2.out _ hrs hry).mono ?_
    rintro e w3 ⟨A4, c4, rfl, ho3, hb3⟩
    have hrs := hrs.below hb3 (Nat.le_refl _)
    have hry := hry.below hb3 (Nat.le_refl _)
    have ho2 := ho2.below hb3 (Nat.le_refl _)
    have hB3 := hB2.trans (hb3.mono hB2.size)
    have HI := Lib.hid (fun W g1 g2 => rInts_same A3 A4 L.length c3 c4 L W rfl (by omega) g1 g2)
    have h2r := ho2.rd
    have h3r := ho3.rd
    clear hB1 hB2 hb2 hb3 ho2 ho3
    go_upto_region 6 with fail
    go_cut [73] (fun s73 wx => s73 = .bool false ∧ RdT partT wx A1 s ∧ RdY tryT wx A2 ps ∧ RdI wx A3 L ∧ Below w'.heap.size w' wx)
    case first =>
      have hP : ok = false ∨ ok = true := by cases ok <;> simp
      rcases hP with rfl | rfl
      · go_wp2_with fail
        refine (HI.out _ h2r h3r).mono ?_
        rintro e w4 ⟨rfl, hb4⟩
        have hrs := hrs.below hb4 (Nat.le_refl _)
        have hry := hry.below hb4 (Nat.le_refl _)
        have h2r := h2r.below hb4 (Nat.le_refl _)
        have hB4 := hB3.trans (hb4.mono hB3.size)
        go_wp2_with fail
        refine (HG.out _ hrs hry).mono ?_
        rintro e w5 ⟨rfl, hb5⟩
        go_wp2_with fail
        go_meet
        exact ⟨rfl, hrs.below hb5 (Nat.le_refl _), hry.below hb5 (Nat.le_refl _), h2r.below hb5 (Nat.le_refl _), hB4.trans (hb5.mono hB4.size)⟩
      · have hll := (HF.out rfl).trans HTL.out
        have HLL := Lib.hid hll
        have hle : decide ((L.length : Int) = (ps.length : Int)) = true := by rw [hll]; simp
        have hbe : ((L.length : Int) == (ps.length : Int)) = true := by rw [hll]; simp
        have hbn : ((L.length : Int) != (ps.length : Int)) = false := by rw [hll]; simp
        clear hll
        go_wp2_with fail
        refine (HI.out _ h2r h3r).mono ?_
        rintro e w4 ⟨rfl, hb4⟩
        have hrs := hrs.below hb4 (Nat.le_refl _)
        have hry := hry.below hb4 (Nat.le_refl _)
        have h2r := h2r.below hb4 (Nat.le_refl _)
        have hB4 := hB3.trans (hb4.mono hB3.size)
        go_wp2_with fail
        refine (HG.out _ hrs hry).mono ?_
        rintro e w5 ⟨rfl, hb5⟩
        go_wp2_with fail
        go_meet
        exact ⟨rfl, hrs.below hb5 (Nat.le_refl _), hry.below hb5 (Nat.le_refl _), h2r.below hb5 (Nat.le_refl _), hB4.trans (hb5.mono hB4.size)⟩
    case rest =>
      obtain ⟨rfl, hrs, hry, h2r, hB3⟩ := hcut
      clear h3r HR1 HR2 HG HF HI
      go_wp2_with fail
      go_loopw [9] (fun i wr => ∃ k : Nat, 1 ≤ k ∧ k ≤ 11 ∧ i = .int .i64 k ∧ RdI wr A3 L ∧ RdY tryT wr A2 ps ∧ Below w'.heap.size w' wr) (fun i _ => 11 - (intOf i).toNat)
      case atStart => exact ⟨1, Nat.le_refl _, by omega, rfl, h2r, hry, hB3⟩
      case round =>
        obtain ⟨k, hk1, hk2, rfl, h2, hy, hB⟩ := hrel
        clear h2r hry hB3 hrs
        by_cases hlt : k < L.length
        · obtain ⟨b1, o1, x1, rfl, hx1, hb1, e1⟩ := h2.at_ (k := k - 1) (by omega)
          obtain ⟨b2, o2, x2, hA, hx2, _, e2⟩ := h2.at_ hlt
          injection hA with hA
          injection hA with hA1 hA2 hA3
          subst hA1 hA2
          have hx2' : L[k - 1 + 1]? = some x2 := by rw [show k - 1 + 1 = k by omega]; exact hx2
          obtain ⟨j, j', t, t', rfl, rfl, hj, hj', ht, ht', hg⟩ := HD.out (k - 1) x1 x2 hx1 hx2'
          have htl := HTL.out
          obtain ⟨b3, o3, p3, g3, A5, c5, l5, rfl, hp3, hb3, e30, e31, e32, _⟩ := hy.atT (k := j) (by omega)
          obtain ⟨b4, o4, p4, g4, A6, c6, l6, hA, hp4, _, e40, e41, e42, _⟩ := hy.atT (k := j') (by omega)
          injection hA with hA
          injection hA with hA1 hA2 hA3
          subst hA1 hA2
          have q3 := (tries_get HT.out hp3).symm.trans ht
          have q4 := (tries_get HT.out hp4).symm.trans ht'
          injection q3 with q3
          injection q4 with q4
          have hgg : g4 ≤ g3 := by rw [← q3, ← q4] at hg; exact hg
          have dlt : decide (g3 < g4) = false := decide_eq_false (by omega)
          have jj : j < ps.length := by omega
          have jj' : j' < ps.length := by omega
          have jz : (0 : Int) ≤ (j : Int) := by omega
          have jz' : (0 : Int) ≤ (j' : Int) := by omega
          have jb : (j : Int) < (ps.length : Int) := by omega
          have jb' : (j' : Int) < (ps.length : Int) := by omega
          have kb : (k : Int) < (L.length : Int) := by omega
          have ke : IntKind.i64.wrap ((k : Int) - 1) = ((k - 1 : Nat) : Int) := by rw [IntWalk.i64_in _ (by omega)]; omega
          have kb1 : ((k - 1 : Nat) : Int) < (L.length : Int) := by omega
          have kb0 : (0 : Int) ≤ ((k - 1 : Nat) : Int) := by omega
          clear htl q3 q4 hx1 hx2 hx2' hp3 hp4 ht ht'
          go_wp2_with fail
          go_region
          go_wp2_with fail
          go_roundw
          case rel => exact ⟨k + 1, by omega, by omega, by go_num, h2, ⟨hy.rd, hy.row⟩, hB.drew⟩
          case measure => first | (simp [intOf]; done) | (simp [intOf]; omega)
        · have d1 : decide (k < L.length) = false := decide_eq_false hlt
          clear h2 hy HD HT HTL
          go_wp2_with fail
          refine (drawCountingTries_any A0 c0 l0 _ (by omega) (r0.below hB (Nat.le_refl _))).mono ?_
          rintro e w10 ⟨s2, A11, c11, ps2, A12, c12, rfl, hn2, hcap2, hs2, hrs2, hm2, hp82, hry2, hb10⟩
          have hB10 := hB.trans (hb10.mono hB.size)
          clear hB hb10
          obtain ⟨ts2, hts2⟩ : ∃ ts, ts = ps2.map toV := ⟨_, rfl⟩
          have hok2 : ∀ x ∈ s2, x.ok := fun x hx => by have := (hs2 x hx).1; show x.name.size ≤ 1048576; omega
          have hsm2 : ∀ p ∈ ps2, p.2.length ≤ 16777216 := fun p hp => by have := hp82 p hp; omega
          have HC1 := Lib.hid (fun W h1 h2 => countI_t A11 c11 s2 A12 c12 ps2 ts2 hts2.symm W (by omega) hcap2 h1 hok2 (by omega) hsm2 h2)
          have HC2 := Lib.hid (fun W h1 h2 => countS_t A11 c11 s2 A12 c12 ps2 ts2 hts2.symm W (by omega) hcap2 h1 hok2 (by omega) hsm2 h2)
          have HM := Lib.hid (fun o ho => @cv_mem s2 ts2 o ho)
          have HT2 := Lib.hid hts2
          have htl2 : ts2.length = ps2.length := by rw [hts2, List.length_map]
          have hCn : (cvV s2 ts2).length ≤ 11 := by
            cases h : goodB s2 ts2
            · rw [cvV_no h]; simp
            · rw [cvV_yes h]; have := (cntA_mem s2 ts2 ts2.length).2.2; unfold cntL; omega
          have HTL2 := Lib.hid htl2
          clear htl2 hts2
          generalize cvV s2 ts2 = C at *
          generalize goodB s2 ts2 = ok2 at *
          go_wp2_with fail
          refine (HC1.out _ hrs2 hry2).mono ?_
          rintro e w11 ⟨A13, c13, rfl, ho11, hb11⟩
          have hrs2 := hrs2.below hb11 (Nat.le_refl _)
          have hry2 := hry2.below hb11 (Nat.le_refl _)
          have hB11 := hB10.trans (hb11.mono hB10.size)
          go_wp2_with fail
          refine (HC2.out _ hrs2 hry2).mono ?_
          rintro e w12 ⟨A14, c14, rfl, ho12, hb12⟩
          have hrs2 := hrs2.below hb12 (Nat.le_refl _)
          have hry2 := hry2.below hb12 (Nat.le_refl _)
          have ho11 := ho11.below hb12 (Nat.le_refl _)
          have hB12 := hB11.trans (hb12.mono hB11.size)
          have HI2 := Lib.hid (fun W g1 g2 => rInts_same A13 A14 C.length c13 c14 C W rfl (by omega) g1 g2)
          have h13 := ho11.rd
          have h14 := ho12.rd
          clear hB10 hB11 hb11 hb12 ho11 ho12 HC1 HC2
          go_wp2_with fail
          refine (HI2.out _ h13 h14).mono ?_
          rintro e w13 ⟨rfl, hb13⟩
          have hrs2 := hrs2.below hb13 (Nat.le_refl _)
          have hry2 := hry2.below hb13 (Nat.le_refl _)
          have h13 := h13.below hb13 (Nat.le_refl _)
          have hB13 := hB12.trans (hb13.mono hB12.size)
          clear hB12 hb13 h14 HI2
          go_wp2_with fail
          go_loopw [16] (fun i wr => ∃ k : Nat, k ≤ 11 ∧ i = .int .i64 k ∧ RdI wr A13 C ∧ RdT partT wr A11 s2 ∧ RdY tryT wr A12 ps2 ∧ Below w'.heap.size w' wr) (fun i _ => 11 - (intOf i).toNat)
          case atStart => exact ⟨0, by omega, rfl, h13, hrs2, hry2, hB13⟩
          case round =>
            obtain ⟨m, hm11, rfl, h3, hs3, hy3, hB⟩ := hrel
            clear h13 hrs2 hry2 hB13
            by_cases hlm : m < C.length
            · obtain ⟨b1, o1, x1, rfl, hx1, _, e1⟩ := h3.at_ hlm
              obtain ⟨j, t, rfl, hj, ht, hone, hres⟩ := HM.out x1 (List.mem_of_getElem? hx1)
              have htl := HTL2.out
              obtain ⟨b3, o3, p3, g3, A5, c5, l5, rfl, hp3, hb3, e30, e31, e32, hr5⟩ := hy3.atT (k := j) (by omega)
              have q3 := (tries_get HT2.out hp3).symm.trans ht
              injection q3 with q3
              subst q3
              have hl5 : l5.length ≤ 16777216 := hsm2 _ (List.mem_of_getElem? hp3)
              have HRes := Lib.hid (fun W g1 g2 => resultI_any A11 c11 s2 p3 g3 A5 c5 l5 W (by omega) hcap2 g1 hok2 hl5 g2)
              rw [hone] at HRes
              clear hone
              generalize rsV s2 ⟨p3, g3, l5⟩ = R at *
              have jj : j < ps2.length := by omega
              have jz : (0 : Int) ≤ (j : Int) := by omega
              have jb : (j : Int) < (ps2.length : Int) := by omega
              have kb : (m : Int) < (C.length : Int) := by omega
              clear htl hx1 hp3 ht
              go_wp2_with fail
              refine (HRes.out _ hs3 hr5).mono ?_
              rintro e w20 ⟨rfl, hb20⟩
              have h3 := h3.below hb20 (Nat.le_refl _)
              have hs3 := hs3.below hb20 (Nat.le_refl _)
              have hy3 := hy3.below hb20 (Nat.le_refl _)
              have hB20 := hB.trans (hb20.mono hB.size)
              clear hB hb20 HRes
              unfold honorS passedS at hres
              rcases hres with rfl | rfl
              all_goals
                go_wp2_with fail
                go_roundw
                case rel => exact ⟨m + 1, by omega, by go_num, h3, hs3, hy3, hB20⟩
                case measure => first | (simp [intOf]; done) | (simp [intOf]; omega)
            · have d1 : decide (m < C.length) = false := decide_eq_false hlm
              clear h3 hs3 hy3 HM HT2 HTL2
              go_wp2_with fail
              refine (drawHardestPart_any A0 c0 l0 _ (by omega) (r0.below hB (Nat.le_refl _))).mono ?_
              rintro e w30 ⟨s4, A31, c31, ps4, A32, c32, rfl, hn4, hcap4, hs4, hrs4, hm4, hp84, hry4, hb30⟩
              have hB30 := hB.trans (hb30.mono hB.size)
              clear hB hb30
              obtain ⟨ts4, hts4⟩ : ∃ ts, ts = ps4.map toV := ⟨_, rfl⟩
              have hok4 : ∀ x ∈ s4, x.ok := fun x hx => by have := (hs4 x hx).1; show x.name.size ≤ 1048576; omega
              have hsm4 : ∀ p ∈ ps4, p.2.length ≤ 16777216 := fun p hp => by have := hp84 p hp; omega
              have HH1 := Lib.hid (fun W h1 h2 => hardI_t A31 c31 s4 A32 c32 ps4 ts4 hts4.symm W (by omega) hcap4 h1 hok4 (by omega) hsm4 h2)
              have HH2 := Lib.hid (fun W h1 h2 => hardS_t A31 c31 s4 A32 c32 ps4 ts4 hts4.symm W (by omega) hcap4 h1 hok4 (by omega) hsm4 h2)
              have HHF := Lib.hid (@har_facts s4 ts4)
              have HT4 := Lib.hid hts4
              have htl4 : ts4.length = ps4.length := by rw [hts4, List.length_map]
              have HTL4 := Lib.hid htl4
              clear htl4 hts4
              generalize harV s4 ts4 = hv at *
              generalize harO s4 ts4 = told at *
              go_wp2_with fail
              refine (HH1.out _ hrs4 hry4).mono ?_
              rintro e w31 ⟨rfl, hb31⟩
              have hrs4 := hrs4.below hb31 (Nat.le_refl _)
              have hry4 := hry4.below hb31 (Nat.le_refl _)
              have hB31 := hB30.trans (hb31.mono hB30.size)
              go_wp2_with fail
              refine (HH2.out _ hrs4 hry4).mono ?_
              rintro e w32 ⟨rfl, hb32⟩
              have hrs4 := hrs4.below hb32 (Nat.le_refl _)
              have hry4 := hry4.below hb32 (Nat.le_refl _)
              have hB32 := hB31.trans (hb32.mono hB31.size)
              clear hB30 hB31 hb31 hb32 HH1 HH2
              go_wp2_with fail
              go_loopw [25] (fun i wr => ∃ k : Nat, k ≤ s4.length ∧ i = .int .i64 k ∧ RdT partT wr A31 s4 ∧ RdY tryT wr A32 ps4 ∧ Below w'.heap.size w' wr) (fun i _ => s4.length - (intOf i).toNat)
              case atStart => exact ⟨0, by omega, rfl, hrs4, hry4, hB32⟩
              case round =>
                obtain ⟨k, hk, rfl, hs5, hy5, hB⟩ := hrel
                clear hrs4 hry4 hB32
                by_cases hlk : k < s4.length
                · have d1 : decide (k < s4.length) = true := decide_eq_true hlk
                  have hcs : told = false ∨ told = true := by cases told <;> simp
                  rcases hcs with rfl | rfl
                  · go_wp2_with fail
                    go_ret
                    exact ⟨rfl, hB⟩
                  · obtain ⟨hb, rfl, hbl, hlen, hmin, hcol, h10, hful⟩ := HHF.out rfl
                    have hm1 := hmin k hlk
                    have htl := HTL4.out
                    rw [htl] at hm1 h10
                    have HLen := Lib.hid hlen
                    have HCol := Lib.hid hcol
                    have hbz : (0 : Int) ≤ (hb : Int) := by omega
                    have hbi : (hb : Int) < (s4.length : Int) := by omega
                    have kz : (0 : Int) ≤ (k : Int) := by omega
                    have ki : (k : Int) < (s4.length : Int) := by omega
                    obtain ⟨bp, op, nm, fu, ne, rfl, hxp, hbp, hp0, hp1, hp2⟩ := partT_at hs5 hlk
                    obtain ⟨bq, oq, nm2, fu2, ne2, hA2, hxq, hbq, hq0, hq1, hq2⟩ := partT_at hs5 hbl
                    injection hA2 with hA2
                    injection hA2 with hA21 hA22 hA23
                    subst hA21 hA22
                    have hf1 := hful k _ hxp
                    have hf2 := hful hb _ hxq
                    rw [fulX_at hxp, fulX_at hxq] at hm1
                    dsimp only at hf1 hf2 hm1
                    clear hmin hful hxp hxq hlen hcol htl HHF
                    have P1 := Lib.hid hp1
                    have P2 := Lib.hid hq1
                    clear hp0 hp1 hp2 hq0 hq1 hq2
                    obtain ⟨wz, rfl⟩ : ∃ wz : World, wz = wr := ⟨_, rfl⟩
                    go_wp2_with fail
                    go_loopw [26, 27, 28] (fun a b i wr => ∃ m : Nat, m ≤ ps4.length ∧ i = .int .i64 m ∧ a = .int .i64 (colA ts4 hb m) ∧ b = .int .i64 (colA ts4 k m) ∧ Below wz.heap.size wz wr) (fun _ _ i _ => ps4.length - (intOf i).toNat)
                    case atStart => exact ⟨0, by omega, rfl, rfl, rfl, Below.refl _ _⟩
                    case round =>
                      obtain ⟨m, hmm, rfl, rfl, rfl, hBz⟩ := hrel
                      have c1 := HCol.out hb m
                      have c2 := HCol.out k m
                      by_cases hlm : m < ps4.length
                      · obtain ⟨b3, o3, p3, g3, A5, c5, l5, rfl, hpx, hb3, e30, e31, e32, hr5⟩ := (hy5.below hBz (Nat.le_refl _)).atT hlm
                        have htx := tries_get HT4.out hpx
                        have hl5 := HLen.out _ (List.mem_of_getElem? htx)
                        dsimp only at hl5
                        obtain ⟨b6, o6, x1, rfl, hx1, _, e6⟩ := hr5.at_ (k := hb) (by omega)
                        obtain ⟨b7, o7, x2, hA3, hx2, _, e7⟩ := hr5.at_ (k := k) (by omega)
                        injection hA3 with hA3
                        injection hA3 with hA31' hA32' hA33'
                        subst hA31' hA32'
                        have E1 := colA_succ (ptX_at htx hx1)
                        have E2 := colA_succ (ptX_at htx hx2)
                        have c3 := HCol.out hb (m + 1)
                        have c4 := HCol.out k (m + 1)
                        rw [E1] at c3
                        rw [E2] at c4
                        have i1 : IntKind.i64.wrap (colA ts4 hb m + x1) = colA ts4 hb m + x1 := IntWalk.i64_in _ (by omega)
                        have i2 : IntKind.i64.wrap (colA ts4 k m + x2) = colA ts4 k m + x2 := IntWalk.i64_in _ (by omega)
                        have j1 : (hb : Int) < (l5.length : Int) := by omega
                        have j2 : (k : Int) < (l5.length : Int) := by omega
                        have j3 : (m : Int) < (ps4.length : Int) := by omega
                        have EE := Lib.hid (And.intro E1 E2)
                        clear E1 E2 htx hpx hx1 hx2 hl5 c3 c4 hr5 e30 e31
                        go_wp2_with fail
                        go_roundw
                        case rel => exact ⟨m + 1, by omega, by go_num, by rw [EE.out.1], by rw [EE.out.2], hBz⟩
                        case measure => first | (simp [intOf]; done) | (simp [intOf]; omega)
                      · obtain rfl : m = ps4.length := by omega
                        have f1 : (wr).cell? _ = some _ := (hBz.cell hbp).trans P1.out
                        have f2 : (wr).cell? _ = some _ := (hBz.cell hbq).trans P2.out
                        have v1 := prod_bd (x := colA ts4 hb ps4.length) (y := fu) (by omega) (by omega) (by omega) (by omega)
                        have v2 := prod_bd (x := colA ts4 k ps4.length) (y := fu2) (by omega) (by omega) (by omega) (by omega)
                        have i1 : IntKind.i64.wrap (colA ts4 hb ps4.length * fu) = colA ts4 hb ps4.length * fu := IntWalk.i64_in _ (by omega)
                        have i2 : IntKind.i64.wrap (colA ts4 k ps4.length * fu2) = colA ts4 k ps4.length * fu2 := IntWalk.i64_in _ (by omega)
                        have dg : decide (colA ts4 k ps4.length * fu2 < colA ts4 hb ps4.length * fu) = false := decide_eq_false (by omega)
                        clear hm1
                        go_wp2_with fail
                        go_region
                        go_wp2_with fail
                        go_roundw
                        case rel => exact ⟨k + 1, by omega, by go_num, ⟨(hs5.below hBz (Nat.le_refl _)).1, (hs5.below hBz (Nat.le_refl _)).2⟩, ⟨(hy5.below hBz (Nat.le_refl _)).rd, (hy5.below hBz (Nat.le_refl _)).row⟩, (hB.trans (hBz.mono hB.size)).drew⟩
                        case measure => first | (simp [intOf]; done) | (simp [intOf]; omega)
                · have d1 : decide (k < s4.length) = false := decide_eq_false hlk
                  go_wp2_with fail
                  go_ret
                  exact ⟨rfl, hB⟩
set_option maxRecDepth 100000 in
theorem fnTries_lifted (os : Os) (started : os.Started) (H : Type) (enc : TypeId × Value → H) :
    ReturnsInHanded {} Try.checked os 13 .any (Rows.fnTriesSpec.pre6 enc Try.prog Try.f13 Rows.fnTriesRow.domain false) (Rows.fnTriesSpec.post enc Try.prog Try.f13 false true false false) := by
  refine returnsInHanded_of_change (C := Try.checked) ownk started (by kernel_rfl) Try.func13
    (ChangeSpec.witness6 (enc := enc) (C := Try.checked) false ⟨#[], #[.slice none 0 0], []⟩ 8 (by kernel_rfl) (by kernel_rfl) (by kernel_rfl) (by kernel_rfl)) ?_
  intro W base args ds gs before hval0 hW _ _
  have hval : ∀ (j : Nat) t v, Try.f13.params[j]? = some t → args[j]? = some v → Value.okWide Try.prog W .any base t v := hval0
  have hW' := hW
  obtain ⟨p, q, hA0, hV, rfl, _, _⟩ := hW
  have hA : DataW.TrodAll enc Try.prog W 0 (fun _ => true) true Try.f13.params.toList args.toList ds p := hA0
  rw [Try.params13] at hA hval
  obtain ⟨rfl, rfl⟩ := trodVars_none hV
  simp only [List.append_nil] at hW'
  clear hA0 hval0
  have hargs : ∀ W' : World, Below W.heap.size W W' → DataW.TrodAll enc Try.prog W' 0 (fun b => decide (b < W.heap.size)) true [66] args.toList ds p := fun W' hb => trodAll_below laid_out hb _ _ _ _ (by kernel_rfl) hA (fun x hx => hW'.lt x hx)
  obtain ⟨v0, vs0, d0, ds0, p0, q0, hx, rfl, rfl, h0, r0'⟩ := trodAll_cons hA
  obtain ⟨rfl, rfl, rfl⟩ := trodAll_nil r0'
  obtain rfl : args = #[v0] := by cases args; simp_all
  obtain ⟨A0, c0, l0, rfl, m0, r0⟩ := open_rows byteT (by kernel_rfl) (dec_byte W enc) (hval 0 66 v0 rfl rfl) h0
  refine (fnTries_walk W A0 c0 l0 m0 r0).mono fun e W' ⟨he, hb⟩ => ?_
  subst he
  exact ⟨_, rfl, _, _, _, [], _, [], hW', trodAll_mk1 (shut_bool Try.underlying4 _), hargs W' hb, rfl, hb.frame _, fun h => by cases h⟩
theorem fnTries_proved : Rows.FnTriesSaid :=
  OpenClaim.holds_of_wide 13 Try.f13 rfl rfl rfl rfl rfl rfl rfl ⟨rfl, rfl, rfl, rfl, rfl⟩ rfl rfl rfl rfl rfl (by kernel_rfl) Try.func13 (by kernel_rfl)
    (of_decide_eq_true (by kernel_rfl)) (by unfold Func.isWrapper; first | (rw [if_pos (by decide +kernel)]; kernel_rfl) | (rw [if_neg (by decide +kernel)]; exact ⟨rfl, rfl⟩))
    (fun os started H enc _ => fnTries_lifted os started H enc)
#print axioms fnTries_proved
end Go.Proofs.Ythoojcmnkhhokaa
