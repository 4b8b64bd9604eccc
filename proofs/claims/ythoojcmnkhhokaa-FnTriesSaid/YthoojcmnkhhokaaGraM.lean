/-
  The rank of the tries: the program's contract. (Printed by gen_graM.py.)
-/
import Derived.Test.YthoojcmnkhhokaaGraL
import Derived.Test.YthoojcmnkhhokaaGraD
import Derived.StillTailTactics
namespace Go.Proofs.Ythoojcmnkhhokaa
set_option maxRecDepth 100000
open Go.RowKit

set_option maxHeartbeats 8000000 in
theorem rankI_t (A : Option Addr) (c : Nat) (s : List PartV) (B : Option Addr) (d : Nat) (ps : List (TryH × List Int)) (ts : List TryV) (sv : ps.map toV = ts) (w : World) (hn : s.length ≤ 16777216) (hcap : s.length ≤ c) (h : RdT partT w A s) (hok : ∀ x ∈ s, x.ok) (hm : ps.length ≤ 16777216) (hsm : ∀ p ∈ ps, p.2.length ≤ 16777216) (hr : RdY tryT w B ps) :
    Calls Try.prog 44 #[.slice A s.length c, .slice B ps.length d] w (RetI w (rkV s ts) (goodB s ts)) := by
  have hG := Lib.hid (fun W g g2 => areTriesI_t A c s B d ps ts sv W hn hcap g hok hm hsm g2)
  have hlm : ts.length = ps.length := by rw [← sv, List.length_map]
  have TV := fun k p (hp : ps[k]? = some p) => (show ts[k]? = some (toV p) by rw [← sv, List.getElem?_map, hp]; rfl)
  cases gg : goodB s ts
  · rw [rkV_no gg]
    rw [gg] at hG
    clear hlm
    go_enter Try.func44, Try.ntmps44
    go_wp2_with fail
    refine (hG.out _ h hr).mono ?_
    rintro e w1 ⟨rfl, hb1⟩
    go_wp2
    go_ret2
    exact ⟨none, 0, rfl, OwnI.nil _ _, hb1⟩
  rw [gg] at hG
  rw [rkV_yes gg, hlm]
  obtain ⟨hs, h10, hall⟩ := goodB_iff gg
  have HB := Lib.hid (fun k p (hp : ps[k]? = some p) => try_key gg (TV k p hp))
  have HTK := Lib.hid (fun k p (hp : ps[k]? = some p) => trK_at (n := s.length) (TV k p hp))
  have HTS := Lib.hid (fun k p (hp : ps[k]? = some p) A c W g => sumT_any (s := s) (t := toV p) hs (hall _ (List.mem_of_getElem? (TV k p hp))) A c W g)
  have hp10 : ps.length ≤ 10 := by omega
  clear hlm hs hall TV h10
  go_enter Try.func44, Try.ntmps44
  go_wp2_with fail
  refine (hG.out _ h hr).mono ?_
  rintro e w1 ⟨rfl, hb1⟩
  go_wp2
  go_loopw [6, 17] (fun o i wr => ∃ (k : Nat) (A' : Option Addr) (c' : Nat), k ≤ ps.length ∧ i = .int .i64 k ∧ o = .slice A' (rkA ts s.length k).length c' ∧ OwnI wr w.heap.size (.slice A' (rkA ts s.length k).length c') (rkA ts s.length k) ∧ Below w.heap.size w wr) (fun _ i _ => ps.length - (intOf i).toNat)
  case atStart => exact ⟨0, none, 0, by omega, rfl, by rw [rkA_zero]; rfl, by rw [rkA_zero]; exact OwnI.nil _ _, hb1⟩
  case round =>
    obtain ⟨k, A', c', hk, rfl, rfl, ho, hb⟩ := hrel
    clear hb1
    have hz := hb.size
    have hlk := rkA_len ts s.length k
    have hlk1 := Nat.le_of_eq hlk
    have hlk2 := Nat.le_of_eq hlk.symm
    clear hlk
    by_cases hlt : k < ps.length
    · obtain ⟨b, off, pu, gr, A2, c2', l, rfl, hx, hlb, hc0, hc1, hc2, hrl⟩ := (hr.below hb (Nat.le_refl _)).atT hlt
      have HK := Lib.hid (HTK.out k _ hx)
      have hbd := HB.out k _ hx
      have HSM := Lib.hid (HTS.out k _ hx A2 c2')
      have HS := Lib.hid (rkA_succ ts s.length k)
      dsimp only [toV] at HK hbd HSM
      obtain ⟨⟨g1, g2⟩, s1, s2⟩ := hbd
      generalize ptsA l s.length = X1 at *
      obtain ⟨w2, hw2⟩ : ∃ w2 : World, w2 = wr.alloc (.cells #[.int .i64 pu, .int .i64 gr, .slice A2 l.length c2'] 35) := ⟨_, rfl⟩
      have hb2 : Below wr.heap.size wr w2 := by rw [hw2]; exact (Below.refl _ _).alloc (Nat.le_refl _) _
      have u1 : w2.cell? ⟨wr.heap.size, 1, none⟩ = some (.int .i64 gr) := by rw [hw2]; exact cell_of_row _ _ 1 _ _ (0, 0) (heap_alloc_new wr _)
      have u2 : w2.cell? ⟨wr.heap.size, 2, none⟩ = some (.slice A2 l.length c2') := by rw [hw2]; exact cell_of_row _ _ 2 _ _ (0, 0) (heap_alloc_new wr _)
      have hbl : wr.heap.size < w2.heap.size := World.block_lt_of_cell? _ _ u1
      have hbA := hb.trans (hb2.mono hz)
      have hoA2 := ho.below hb2 (Nat.le_refl _)
      have hrl2 := hrl.below hb2 (Nat.le_refl _)
      have HW2 := Lib.hid hw2
      obtain ⟨tb, htb⟩ : ∃ tb : Nat, tb = wr.heap.size := ⟨_, rfl⟩
      have hzA := hbA.size
      have dk1 : decide (k < ps.length) = true := decide_eq_true hlt
      have dk2 : decide ((k : Int) < (ps.length : Int)) = true := decide_eq_true (by omega)
      clear hx hw2 ho hrl hb2
      go_wp2
      rw [← HW2.out]
      clear HW2 dk1 dk2 hc0 hc1 hc2
      rw [← htb] at u1 u2 hbl ⊢
      clear htb
      obtain ⟨wq, rfl⟩ : ∃ wq : World, wq = wr := ⟨_, rfl⟩
      go_loopw [9] (fun z wy => ∃ kk : Nat, kk ≤ (rkA ts s.length k).length ∧ z = .int .i64 kk ∧ Hid (posL ((rkA ts s.length k).map (trK ts s.length)) (trK ts s.length k) (rkA ts s.length k).length = posL ((rkA ts s.length k).map (trK ts s.length)) (trK ts s.length k) kk) ∧ Below w2.heap.size w2 wy) (fun z _ => (intOf z).toNat)
      case atStart => exact ⟨(rkA ts s.length k).length, Nat.le_refl _, rfl, Lib.hid rfl, Below.refl _ _⟩
      case round =>
        obtain ⟨kk, hkk, rfl, E, hby⟩ := hrel
        have hzy := hby.size
        have hoB := hoA2.below hby (Nat.le_refl _)
        have hbB := hbA.trans (hby.mono hzA)
        have hzB := hbB.size
        clear hoA2
        by_cases hk0 : kk = 0
        · have E2 := Lib.hid (show posL ((rkA ts s.length k).map (trK ts s.length)) (trK ts s.length k) (rkA ts s.length k).length = kk by rw [E.out, hk0, posL_zero])
          have hkz : kk ≤ 0 := by omega
          have hoC := hoB
          have hbC := hbB
          have hzC := hzB
          clear E hk0 hoB
          have HI := Lib.hid (show rkA ts s.length (k + 1) = insL (rkA ts s.length k) (kk) k by rw [HS.out, E2.out])
          go_wp2_with (at_builtin; refine wpList_app_int rfl _ _ rfl w.heap.size _ _ rfl (hoC) w.heap.size w (hbC) 0 1 1 rfl rfl (by omega) (hzC) (Nat.le_refl _) ?_; intro A1 c1 w1 hown1 hb1 hgr1)
          obtain ⟨g, rfl, hg, hgl⟩ := hown1.head (by simp)
          have hcl := hown1.cap.2.1
          have HO := Lib.hid hown1
          clear hown1 hgr1
          have j1 : IntKind.i64.wrap ((kk : Int) + 1) = ((kk : Int) + 1) := IntWalk.i64_in _ (by omega)
          have j2 : (0 : Int) ≤ (kk : Int) + 1 := by omega
          have j3 : (kk : Int) + 1 ≤ ((rkA ts s.length k).length : Int) + 1 := by omega
          have j4 : ((rkA ts s.length k).length : Int) + 1 ≤ (c1 : Int) := by omega
          have j5 : (0 : Int) ≤ (kk : Int) := by omega
          have j6 : (kk : Int) ≤ ((rkA ts s.length k).length : Int) + 1 := by omega
          have j7 : ((kk : Int) + 1).toNat = kk + 1 := by omega
          have j8 : ((kk : Int)).toNat = kk := by omega
          go_still_tail 7, (by kernel_rfl)
          change wpList _ _ _ _ _ w1.drew
          clear j1 j2 j3 j5 j6 j7 j8
          refine wpList_insI rfl _ _ rfl w.heap.size g _ _ (kk) (rkA ts s.length k) 0 (show OwnI w1.drew w.heap.size _ _ from HO.out) (by omega) _ _ _ _ _ _ rfl rfl (by omega) (by omega) (fun hh => ⟨if_neg (by omega), if_neg (by omega)⟩) ?_
          intro w2 y hcell hfro HSet HG
          have hb2 : Below w.heap.size w w2 := hb1.drew.grown HG.out (by have := hb1.size; show w.heap.size ≤ w1.heap.size; exact this) (fun i hi => by cases hi; exact hg)
          clear j4
          go_wp2
          all_goals
            go_roundw
            case rel =>
              obtain ⟨ho, hgr⟩ := HSet.out (k : Int)
              rw [← HI.out] at ho
              exact ⟨k + 1, _, _, by omega, by go_num, by rw [rkA_len ts s.length (k + 1), rkA_len ts s.length k], by rw [rkA_len ts s.length (k + 1)]; rw [rkA_len ts s.length k] at ho; first | exact ho | (rw [show kk + 1 = c1 by omega]; exact ho), hb2.grown hgr hb2.size (fun i hi => by cases hi; exact hg)⟩
            case measure => simp [intOf]; omega
        · obtain ⟨m, rfl⟩ : ∃ m, kk = m + 1 := ⟨kk - 1, by omega⟩
          clear hk0
          obtain ⟨ob, ooff, o, rfl, hoo', holt, hoc⟩ := hoB.rd.at_ (k := m) (by omega)
          have hom := rkA_mem ts s.length k o (List.mem_of_getElem? hoo')
          obtain ⟨q', rfl⟩ : ∃ q' : Nat, o = (q' : Int) := ⟨o.toNat, by omega⟩
          obtain ⟨b', off', pu2, gr2, A3, c3', l3, hA', hx2, hlb2, hd0, hd1, hd2, hrl3⟩ := (hr.below hbB (Nat.le_refl _)).atT (k := q') (by omega)
          injection hA' with hA'
          injection hA' with e1 e2 _
          subst e1 e2
          have HKE0 := (key_at (f := trK ts s.length) hoo').trans (HTK.out q' _ hx2)
          have hbd2 := HB.out q' _ hx2
          have HSM2 := Lib.hid (HTS.out q' _ hx2 A3 c3')
          dsimp only [toV] at HKE0 hbd2 HSM2
          obtain ⟨⟨g3, g4⟩, s3, s4⟩ := hbd2
          have HKE := Lib.hid HKE0
          clear HKE0 hoo' hx2
          generalize ptsA l3 s.length = X2 at *
          obtain ⟨wn, hwn⟩ : ∃ wn : World, wn = wr.alloc (.cells #[.int .i64 pu2, .int .i64 gr2, .slice A3 l3.length c3'] 35) := ⟨_, rfl⟩
          have hbn : Below wr.heap.size wr wn := by rw [hwn]; exact (Below.refl _ _).alloc (Nat.le_refl _) _
          have v1 : wn.cell? ⟨wr.heap.size, 1, none⟩ = some (.int .i64 gr2) := by rw [hwn]; exact cell_of_row _ _ 1 _ _ (0, 0) (heap_alloc_new wr _)
          have v2 : wn.cell? ⟨wr.heap.size, 2, none⟩ = some (.slice A3 l3.length c3') := by rw [hwn]; exact cell_of_row _ _ 2 _ _ (0, 0) (heap_alloc_new wr _)
          have y1 := (hby.cell (p := ⟨tb, 1, none⟩) hbl).trans u1
          have y2 := (hby.cell (p := ⟨tb, 2, none⟩) hbl).trans u2
          have x1 := cell_regrown v1
          have x2 := cell_regrown v2
          have x3 := cell_regrown ((hbn.cell (p := ⟨tb, 1, none⟩) (World.block_lt_of_cell? _ _ y1)).trans y1)
          have x4 := cell_regrown ((hbn.cell (p := ⟨tb, 2, none⟩) (World.block_lt_of_cell? _ _ y2)).trans y2)
          have hrn := (hrl2.below hby (Nat.le_refl _)).below hbn (Nat.le_refl _)
          have hrn3 := hrl3.below hbn (Nat.le_refl _)
          have hbN := hbB.trans (hbn.mono hzB)
          have HWN := Lib.hid hwn
          have w1' : IntKind.i64.wrap (((m : Int) + 1) - 1) = m := by rw [IntWalk.i64_in _ (by omega)]; omega
          have b1' : (0 : Int) ≤ m := by omega
          have b2' : (m : Int) < ((rkA ts s.length k).length : Int) := by omega
          have b3' : (q' : Int) < (ps.length : Int) := by omega
          have b5' : (0 : Int) ≤ q' := by omega
          have d0 : decide (0 < m + 1) = true := decide_eq_true (by omega)
          have hk1 := HK.out
          have hk2 := HKE.out
          have x0 : True := trivial
          clear hwn v1 v2 y1 y2
          rcases Int.lt_trichotomy gr gr2 with hg | hg | hg
          · have d1 : decide (gr < gr2) = true := decide_eq_true hg
            have E2 := Lib.hid (show posL ((rkA ts s.length k).map (trK ts s.length)) (trK ts s.length k) (rkA ts s.length k).length = m + 1 by rw [E.out, posL_stop (by omega)])
            clear E HK HKE hk1 hk2
            go_wp2_with fail
            rw [← HWN.out]
            clear HWN
            refine wp_region_quiet_below (by kernel_rfl) (by kernel_rfl) ?_
            repeat (go_big_quiet_step (((first | (go_at_call 77; with_reducible exact Calls.regrown_of ((HSM.out _ (hrn.regrown _ _)).mono fun e w' ⟨q, q2⟩ => ⟨q, by rw [← q2]; exact Below.refl _ _⟩)) | (go_at_call 77; exact Calls.regrown_of ((HSM2.out _ (hrn3.regrown _ _)).mono fun e w' ⟨q, q2⟩ => ⟨q, by rw [← q2]; exact Below.refl _ _⟩))))))
            refine wpQuiet_nil ?_
            intro w5 hw'
            have hb5 := below_of_class hw'
            clear hw'
            have hoC := (hoB.below hbn (Nat.le_refl _)).below hb5 (Nat.le_refl _)
            have hbC := hbN.trans (hb5.mono hbN.size)
            have hzC := hbC.size
            clear hoB hbn hbN hb5 x0 x1 x2 x3 x4 hrn hrn3 HSM HSM2
            have HI := Lib.hid (show rkA ts s.length (k + 1) = insL (rkA ts s.length k) (m + 1) k by rw [HS.out, E2.out])
            go_wp2_with (at_builtin; refine wpList_app_int rfl _ _ rfl w.heap.size _ _ rfl (hoC) w.heap.size w (hbC) 0 1 1 rfl rfl (by omega) (hzC) (Nat.le_refl _) ?_; intro A1 c1 w1 hown1 hb1 hgr1)
            obtain ⟨g, rfl, hg, hgl⟩ := hown1.head (by simp)
            have hcl := hown1.cap.2.1
            have HO := Lib.hid hown1
            clear hown1 hgr1
            have j1 : IntKind.i64.wrap (((m : Int) + 1) + 1) = (((m : Int) + 1) + 1) := IntWalk.i64_in _ (by omega)
            have j2 : (0 : Int) ≤ ((m : Int) + 1) + 1 := by omega
            have j3 : ((m : Int) + 1) + 1 ≤ ((rkA ts s.length k).length : Int) + 1 := by omega
            have j4 : ((rkA ts s.length k).length : Int) + 1 ≤ (c1 : Int) := by omega
            have j5 : (0 : Int) ≤ ((m : Int) + 1) := by omega
            have j6 : ((m : Int) + 1) ≤ ((rkA ts s.length k).length : Int) + 1 := by omega
            have j7 : (((m : Int) + 1) + 1).toNat = m + 1 + 1 := by omega
            have j8 : (((m : Int) + 1)).toNat = m + 1 := by omega
            go_still_tail 7, (by kernel_rfl)
            change wpList _ _ _ _ _ w1.drew
            clear j1 j2 j3 j5 j6 j7 j8
            refine wpList_insI rfl _ _ rfl w.heap.size g _ _ (m + 1) (rkA ts s.length k) 0 (show OwnI w1.drew w.heap.size _ _ from HO.out) (by omega) _ _ _ _ _ _ rfl rfl (by omega) (by omega) (fun hh => ⟨if_neg (by omega), if_neg (by omega)⟩) ?_
            intro w2 y hcell hfro HSet HG
            have hb2 : Below w.heap.size w w2 := hb1.drew.grown HG.out (by have := hb1.size; show w.heap.size ≤ w1.heap.size; exact this) (fun i hi => by cases hi; exact hg)
            clear j4
            go_wp2
            all_goals
              go_roundw
              case rel =>
                obtain ⟨ho, hgr⟩ := HSet.out (k : Int)
                rw [← HI.out] at ho
                exact ⟨k + 1, _, _, by omega, by go_num, by rw [rkA_len ts s.length (k + 1), rkA_len ts s.length k], by rw [rkA_len ts s.length (k + 1)]; rw [rkA_len ts s.length k] at ho; first | exact ho | (rw [show m + 1 + 1 = c1 by omega]; exact ho), hb2.grown hgr hb2.size (fun i hi => by cases hi; exact hg)⟩
              case measure => simp [intOf]; omega
          · subst hg
            have d1 : decide (gr < gr) = false := decide_eq_false (by omega)
            by_cases hcc : X1 ≤ X2
            · have d3 : decide (X1 ≤ X2) = true := decide_eq_true hcc
              have E2 := Lib.hid (show posL ((rkA ts s.length k).map (trK ts s.length)) (trK ts s.length k) (rkA ts s.length k).length = m + 1 by rw [E.out, posL_stop (by omega)])
              clear E HK HKE hk1 hk2
              go_wp2_with fail
              rw [← HWN.out]
              clear HWN
              refine wp_region_quiet_below (by kernel_rfl) (by kernel_rfl) ?_
              repeat (go_big_quiet_step (((first | (go_at_call 77; with_reducible exact Calls.regrown_of ((HSM.out _ (hrn.regrown _ _)).mono fun e w' ⟨q, q2⟩ => ⟨q, by rw [← q2]; exact Below.refl _ _⟩)) | (go_at_call 77; exact Calls.regrown_of ((HSM2.out _ (hrn3.regrown _ _)).mono fun e w' ⟨q, q2⟩ => ⟨q, by rw [← q2]; exact Below.refl _ _⟩))))))
              refine wpQuiet_nil ?_
              intro w5 hw'
              have hb5 := below_of_class hw'
              clear hw'
              have hoC := (hoB.below hbn (Nat.le_refl _)).below hb5 (Nat.le_refl _)
              have hbC := hbN.trans (hb5.mono hbN.size)
              have hzC := hbC.size
              clear hoB hbn hbN hb5 x0 x1 x2 x3 x4 hrn hrn3 HSM HSM2
              have HI := Lib.hid (show rkA ts s.length (k + 1) = insL (rkA ts s.length k) (m + 1) k by rw [HS.out, E2.out])
              go_wp2_with (at_builtin; refine wpList_app_int rfl _ _ rfl w.heap.size _ _ rfl (hoC) w.heap.size w (hbC) 0 1 1 rfl rfl (by omega) (hzC) (Nat.le_refl _) ?_; intro A1 c1 w1 hown1 hb1 hgr1)
              obtain ⟨g, rfl, hg, hgl⟩ := hown1.head (by simp)
              have hcl := hown1.cap.2.1
              have HO := Lib.hid hown1
              clear hown1 hgr1
              have j1 : IntKind.i64.wrap (((m : Int) + 1) + 1) = (((m : Int) + 1) + 1) := IntWalk.i64_in _ (by omega)
              have j2 : (0 : Int) ≤ ((m : Int) + 1) + 1 := by omega
              have j3 : ((m : Int) + 1) + 1 ≤ ((rkA ts s.length k).length : Int) + 1 := by omega
              have j4 : ((rkA ts s.length k).length : Int) + 1 ≤ (c1 : Int) := by omega
              have j5 : (0 : Int) ≤ ((m : Int) + 1) := by omega
              have j6 : ((m : Int) + 1) ≤ ((rkA ts s.length k).length : Int) + 1 := by omega
              have j7 : (((m : Int) + 1) + 1).toNat = m + 1 + 1 := by omega
              have j8 : (((m : Int) + 1)).toNat = m + 1 := by omega
              go_still_tail 7, (by kernel_rfl)
              change wpList _ _ _ _ _ w1.drew
              clear j1 j2 j3 j5 j6 j7 j8
              refine wpList_insI rfl _ _ rfl w.heap.size g _ _ (m + 1) (rkA ts s.length k) 0 (show OwnI w1.drew w.heap.size _ _ from HO.out) (by omega) _ _ _ _ _ _ rfl rfl (by omega) (by omega) (fun hh => ⟨if_neg (by omega), if_neg (by omega)⟩) ?_
              intro w2 y hcell hfro HSet HG
              have hb2 : Below w.heap.size w w2 := hb1.drew.grown HG.out (by have := hb1.size; show w.heap.size ≤ w1.heap.size; exact this) (fun i hi => by cases hi; exact hg)
              clear j4
              go_wp2
              all_goals
                go_roundw
                case rel =>
                  obtain ⟨ho, hgr⟩ := HSet.out (k : Int)
                  rw [← HI.out] at ho
                  exact ⟨k + 1, _, _, by omega, by go_num, by rw [rkA_len ts s.length (k + 1), rkA_len ts s.length k], by rw [rkA_len ts s.length (k + 1)]; rw [rkA_len ts s.length k] at ho; first | exact ho | (rw [show m + 1 + 1 = c1 by omega]; exact ho), hb2.grown hgr hb2.size (fun i hi => by cases hi; exact hg)⟩
                case measure => simp [intOf]; omega
            · have d3 : decide (X1 ≤ X2) = false := decide_eq_false hcc
              have E2 := Lib.hid (show posL ((rkA ts s.length k).map (trK ts s.length)) (trK ts s.length k) (rkA ts s.length k).length = posL ((rkA ts s.length k).map (trK ts s.length)) (trK ts s.length k) m by rw [E.out, posL_down (by omega)])
              clear E HK HKE hk1 hk2
              go_wp2_with fail
              rw [← HWN.out]
              clear HWN
              refine wp_region_quiet_below (by kernel_rfl) (by kernel_rfl) ?_
              repeat (go_big_quiet_step (((first | (go_at_call 77; with_reducible exact Calls.regrown_of ((HSM.out _ (hrn.regrown _ _)).mono fun e w' ⟨q, q2⟩ => ⟨q, by rw [← q2]; exact Below.refl _ _⟩)) | (go_at_call 77; exact Calls.regrown_of ((HSM2.out _ (hrn3.regrown _ _)).mono fun e w' ⟨q, q2⟩ => ⟨q, by rw [← q2]; exact Below.refl _ _⟩))))))
              refine wpQuiet_nil ?_
              intro w5 hw'
              have hb5 := below_of_class hw'
              clear hw'
              have hby5 : Below w2.heap.size w2 w5 := (hby.trans (hbn.mono hzy)).trans (hb5.mono (hby.trans (hbn.mono hzy)).size)
              clear x0 x1 x2 x3 x4 hrn hrn3 HSM HSM2
              go_wp2
              go_roundw
              case rel => exact ⟨m, by omega, by first | rfl | go_num, E2, hby5⟩
              case measure => simp [intOf] <;> omega
          · have d1 : decide (gr < gr2) = false := decide_eq_false (by omega)
            have d2 : (gr2 == gr) = false := by rw [beq_eq_false_iff_ne]; omega
            have E2 := Lib.hid (show posL ((rkA ts s.length k).map (trK ts s.length)) (trK ts s.length k) (rkA ts s.length k).length = posL ((rkA ts s.length k).map (trK ts s.length)) (trK ts s.length k) m by rw [E.out, posL_down (by omega)])
            clear E HK HKE hk1 hk2
            go_wp2_with fail
            rw [← HWN.out]
            clear HWN
            refine wp_region_quiet_below (by kernel_rfl) (by kernel_rfl) ?_
            repeat (go_big_quiet_step (((first | (go_at_call 77; with_reducible exact Calls.regrown_of ((HSM.out _ (hrn.regrown _ _)).mono fun e w' ⟨q, q2⟩ => ⟨q, by rw [← q2]; exact Below.refl _ _⟩)) | (go_at_call 77; exact Calls.regrown_of ((HSM2.out _ (hrn3.regrown _ _)).mono fun e w' ⟨q, q2⟩ => ⟨q, by rw [← q2]; exact Below.refl _ _⟩))))))
            refine wpQuiet_nil ?_
            intro w5 hw'
            have hb5 := below_of_class hw'
            clear hw'
            have hby5 : Below w2.heap.size w2 w5 := (hby.trans (hbn.mono hzy)).trans (hb5.mono (hby.trans (hbn.mono hzy)).size)
            clear x0 x1 x2 x3 x4 hrn hrn3 HSM HSM2
            go_wp2
            go_roundw
            case rel => exact ⟨m, by omega, by first | rfl | go_num, E2, hby5⟩
            case measure => simp [intOf] <;> omega
    · obtain rfl : k = ps.length := by omega
      go_wp2
      go_ret2
      exact ⟨A', c', rfl, ho, hb⟩
end Go.Proofs.Ythoojcmnkhhokaa
