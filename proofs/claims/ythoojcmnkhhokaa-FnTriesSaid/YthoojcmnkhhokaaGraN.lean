/-
  The rank of the tries: the reference's contract. (Printed by gen_graN.py.)
-/
import Derived.Test.YthoojcmnkhhokaaGraL
import Derived.Test.YthoojcmnkhhokaaGraD
import Derived.Deep.RegionHeld3
import Derived.Deep.AppendLies
import Derived.Deep.DrawnRows
namespace Go.Proofs.Ythoojcmnkhhokaa
set_option maxRecDepth 100000
open Go.RowKit
attribute [local go_sem ↓] Go.wp_at_zero Go.wp_at_succ

theorem one_new (W : World) (x : Int) : RdT intT (W.alloc (.cells #[.int .i64 x] 3)) (some ⟨W.heap.size, 0, none⟩) [x] :=
  RdT.one intT (y := x) (fun j u hu => by
    cases j with
    | zero => simp [intT] at hu; subst hu; exact cell_of_row _ _ 0 _ _ (0, 0) (heap_alloc_new _ _)
    | succ j => simp [intT] at hu)
theorem RdT.gr {α : Type} {T : Ty α} {w w' : World} {row : Option Nat} {A : Option Addr} {l : List α} (h : RdT T w A l) (hg : w.grownBy w' row) (hne : 0 < l.length → ∀ b off, A = some ⟨b, off, none⟩ → some b ≠ row) : RdT T w' A l := by
  refine ⟨h.1, fun hn => ?_⟩
  obtain ⟨b, off, hA, hlt, hc⟩ := h.2 hn
  exact ⟨b, off, hA, Nat.lt_of_lt_of_le hlt hg.size, fun j u hu => (hg.cell_far _ hlt (hne hn b off hA)).trans (hc j u hu)⟩
theorem own_e0 (W : World) (base : Nat) (hb : base ≤ W.heap.size) : OwnI (W.alloc (.cells #[] 3)) base (.slice (some ⟨W.heap.size, 0, none⟩) 0 0) [] := World.ownsRow_lit W #[] 0 hb (by unfold maxLen; omega) rfl

theorem one_new2 (W : World) (o : Obj) (x : Int) : RdT intT ((W.alloc o).alloc (.cells #[.int .i64 x] 3)) (some ⟨W.heap.size + 1, 0, none⟩) [x] := by
  have h := one_new (W.alloc o) x
  rwa [show (W.alloc o).heap.size = W.heap.size + 1 by simp] at h
theorem one_new3 (W : World) (o : Obj) (x : Int) : RdT intT ((W.alloc (.cells #[.int .i64 x] 3)).alloc o).drew (some ⟨W.heap.size, 0, none⟩) [x] :=
  (one_new W x).below (((Below.refl _ _).alloc (Nat.le_refl _) o).drew) (Nat.le_refl _)
theorem own_e02 (W : World) (o : Obj) (base : Nat) (hb : base ≤ W.heap.size + 1) : OwnI ((W.alloc o).alloc (.cells #[] 3)) base (.slice (some ⟨W.heap.size + 1, 0, none⟩) 0 0) [] := by
  have h := own_e0 (W.alloc o) base (by simp; omega)
  rwa [show (W.alloc o).heap.size = W.heap.size + 1 by simp] at h

set_option maxHeartbeats 8000000 in
theorem rankS_t (A : Option Addr) (c : Nat) (s : List PartV) (B : Option Addr) (d : Nat) (ps : List (TryH × List Int)) (ts : List TryV) (sv : ps.map toV = ts) (w : World) (hn : s.length ≤ 16777216) (hcap : s.length ≤ c) (h : RdT partT w A s) (hok : ∀ x ∈ s, x.ok) (hm : ps.length ≤ 16777216) (hsm : ∀ p ∈ ps, p.2.length ≤ 16777216) (hr : RdY tryT w B ps) :
    Calls Try.prog 43 #[.slice A s.length c, .slice B ps.length d] w (RetI w (rkV s ts) (goodB s ts)) := by
  have hG := Lib.hid (fun W g g2 => l17Good_t A c s B d ps ts sv W hn hcap g hok hm hsm g2)
  have hlm : ts.length = ps.length := by rw [← sv, List.length_map]
  have TV := fun k p (hp : ps[k]? = some p) => (show ts[k]? = some (toV p) by rw [← sv, List.getElem?_map, hp]; rfl)
  have he := own_e0 w w.heap.size (Nat.le_refl _)
  have hbe : Below w.heap.size w (w.alloc (.cells #[] 3)) := (Below.refl _ _).alloc (Nat.le_refl _) _
  cases gg : goodB s ts
  · rw [rkV_no gg]
    rw [gg] at hG
    clear hlm
    go_enter Try.func43, Try.ntmps43
    go_wp2_with fail
    refine (hG.out _ (h.below hbe (Nat.le_refl _)) (hr.below hbe (Nat.le_refl _))).mono ?_
    rintro e w1 ⟨rfl, hb1⟩
    have ho := he.below hb1 (Nat.le_refl _)
    go_wp2
    go_ret2
    exact ⟨_, 0, rfl, ho, hbe.trans (hb1.mono hbe.size)⟩
  rw [gg] at hG
  rw [rkV_yes gg, hlm]
  obtain ⟨hs, h10, hall⟩ := goodB_iff gg
  have HB := Lib.hid (fun k p (hp : ps[k]? = some p) => try_key gg (TV k p hp))
  have HTK := Lib.hid (fun k p (hp : ps[k]? = some p) => trK_at (n := s.length) (TV k p hp))
  have HTS := Lib.hid (fun k p (hp : ps[k]? = some p) A' c' W g g2 => l17Sums_any A c s p.1.pupil p.1.grade A' c' p.2 W hs (hall _ (List.mem_of_getElem? (TV k p hp))) g g2)
  have hp10 : ps.length ≤ 10 := by omega
  clear hlm hs hall TV h10
  go_enter Try.func43, Try.ntmps43
  go_wp2_with fail
  refine (hG.out _ (h.below hbe (Nat.le_refl _)) (hr.below hbe (Nat.le_refl _))).mono ?_
  rintro e w1 ⟨rfl, hb1⟩
  have ho := he.below hb1 (Nat.le_refl _)
  have hb0 := hbe.trans (hb1.mono hbe.size)
  clear hb1 he hbe
  go_wp2
  go_loopw [6, 7] (fun o i wr => ∃ (k : Nat) (A' : Option Addr) (c' : Nat), k ≤ ps.length ∧ i = .int .i64 k ∧ o = .slice A' (rkA ts s.length k).length c' ∧ OwnI wr w.heap.size (.slice A' (rkA ts s.length k).length c') (rkA ts s.length k) ∧ (∃ ad, A' = some ad) ∧ Below w.heap.size w wr) (fun _ i _ => ps.length - (intOf i).toNat)
  case atStart => exact ⟨0, _, 0, by omega, rfl, by rw [rkA_zero]; rfl, by rw [rkA_zero]; exact ho, ⟨_, rfl⟩, hb0⟩
  case round =>
    obtain ⟨k, A', c', hk, rfl, rfl, ho, ⟨ad, rfl⟩, hb⟩ := hrel
    clear hb0
    have hz := hb.size
    have hlk := rkA_len ts s.length k
    have hlk1 := Nat.le_of_eq hlk
    have hlk2 := Nat.le_of_eq hlk.symm
    clear hlk
    by_cases hlt : k < ps.length
    · obtain ⟨b, off, pu, gr, A2, c2', l, rfl, hx, hlb, hc0, hc1, hc2, hrl⟩ := (hr.below hb (Nat.le_refl _)).atT hlt
      have HK := Lib.hid (HTK.out k _ hx)
      have hbd := HB.out k _ hx
      have HSM := Lib.hid (HTS.out k _ hx A2 c2')
      have HS := Lib.hid (rkA_succ ts s.length k)
      dsimp only [toV] at HK hbd HSM
      obtain ⟨⟨g1, g2⟩, s1, s2⟩ := hbd
      generalize ptsA l s.length = X1 at *
      have hadr : ∃ g, ad = ⟨g, 0, none⟩ ∧ w.heap.size ≤ g ∧ g < wr.heap.size := by
        rcases ho.2 with ⟨hv, _⟩ | ⟨g, cap, cur, hv, hg, hh, _⟩
        · cases hv
        · injection hv with hv _ _
          injection hv with hv
          exact ⟨g, hv, hg, (Array.getElem?_eq_some_iff.1 hh).1⟩
      obtain ⟨g, rfl, hg0, hgl⟩ := hadr
      have hcap' := ho.cap.2.1
      have dk1 : decide (k < ps.length) = true := decide_eq_true hlt
      have dk2 : decide ((k : Int) < (ps.length : Int)) = true := decide_eq_true (by omega)
      clear hx
      go_wp2_with fail
      refine (HSM.out _ (h.below hb (Nat.le_refl _)) hrl).mono ?_
      rintro e w2 ⟨rfl, hb2⟩
      have u1 := (hb2.cell (p := ⟨b, off + k * 3 + 1, none⟩) hlb).trans hc1
      have hbA := hb.trans (hb2.mono hz)
      have hoA2 := ho.below hb2 (Nat.le_refl _)
      have hzA := hbA.size
      have hlb2x := World.block_lt_of_cell? _ _ u1
      clear ho hrl hb2 hc0 hc1 hc2 HSM hlb
      obtain ⟨wq, rfl⟩ : ∃ wq : World, wq = wr := ⟨_, rfl⟩
      go_wp2
      clear dk1 dk2
      go_loopw [11] (fun z wy => ∃ kk : Nat, kk ≤ (rkA ts s.length k).length ∧ z = .int .i64 kk ∧ Hid (posL ((rkA ts s.length k).map (trK ts s.length)) (trK ts s.length k) (rkA ts s.length k).length = posL ((rkA ts s.length k).map (trK ts s.length)) (trK ts s.length k) kk) ∧ Below w2.heap.size w2 wy) (fun z _ => (intOf z).toNat)
      case atStart => exact ⟨(rkA ts s.length k).length, Nat.le_refl _, rfl, Lib.hid rfl, Below.refl _ _⟩
      case round =>
        obtain ⟨kk, hkk, rfl, E, hby⟩ := hrel
        have hzy := hby.size
        have hoB := hoA2.below hby (Nat.le_refl _)
        have hbB := hbA.trans (hby.mono hzA)
        have hzB := hbB.size
        clear hoA2
        by_cases hk0 : kk = 0
        · have E2 := Lib.hid (show posL ((rkA ts s.length k).map (trK ts s.length)) (trK ts s.length k) (rkA ts s.length k).length = kk by rw [E.out, hk0, posL_zero])
          have hkz : kk ≤ 0 := by omega
          obtain ⟨wt, rfl⟩ : ∃ wt : World, wt = wr := ⟨_, rfl⟩
          have hoT := hoB
          have hbT := hbB
          clear E hk0 hoB
          have T0 : RdT intT wt (some ⟨g, 0, none⟩) ((rkA ts s.length k).take (kk)) := (rd_int.2 hoT.rd).take intT (kk)
          have T1 : ∀ X, ((kk) < (rkA ts s.length k).length → X = some ⟨g, kk, none⟩) → RdT intT wt X ((rkA ts s.length k).drop (kk)) := fun X hX => RdT.drop intT (rd_int.2 hoT.rd) (kk) X (fun hh => by rw [hX hh]; show _ = some (⟨g, 0 + (kk) * 1, none⟩ : Addr); rw [Nat.mul_one, Nat.zero_add])
          have htl : ((rkA ts s.length k).take (kk)).length = kk := by rw [List.length_take]; omega
          have HI := Lib.hid (show rkA ts s.length (k + 1) = (rkA ts s.length k).take (kk) ++ [(k : Int)] ++ (rkA ts s.length k).drop (kk) by rw [HS.out, E2.out]; unfold insL; simp)
          have HL5 := Lib.hid (show ([] : List Int).length + ((rkA ts s.length k).take (kk)).length = kk by rw [htl]; simp)
          have HL6 := Lib.hid (show ((rkA ts s.length k).take (kk)).length + [(k : Int)].length = kk + 1 by rw [htl]; simp)
          have HL7 := Lib.hid (show ((rkA ts s.length k).take (kk) ++ [(k : Int)]).length + ((rkA ts s.length k).drop (kk)).length = k + 1 by rw [List.length_append, htl, List.length_drop]; simp; omega)
          have HD := Lib.hid (show (rkA ts s.length k).length - (kk) = ((rkA ts s.length k).drop (kk)).length by rw [List.length_drop])
          have LB1 := fun o : Obj => ((Below.refl wt.heap.size wt).drew.alloc (Nat.le_refl _) o : Below wt.heap.size wt (wt.drew.alloc o))
          have LB2 := fun o o' : Obj => ((LB1 o).alloc (by simp) o' : Below wt.heap.size wt ((wt.drew.alloc o).alloc o'))
          have hgt : g < wt.heap.size := (hoT.lt g rfl).2
          have j1 : (0 : Int) ≤ (kk : Int) := by omega
          have j2 : (kk : Int) ≤ ((rkA ts s.length k).length : Int) := by omega
          have j3 : (kk : Int) ≤ (c' : Int) := by omega
          have j4 : ((rkA ts s.length k).length : Int) ≤ (c' : Int) := by omega
          have j5 : ((kk : Int)).toNat = kk := by omega
          have hzT := hbT.size
          have hTL := Lib.hid htl
          have hpl : (kk) + ((rkA ts s.length k).length - (kk)) ≤ 1000 := by omega
          clear htl
          rcases (show c' ≤ kk ∨ ¬ c' = kk by omega) with hcc | hcc
          all_goals
            go_wp2_with fail
            go_region_held3 (fun _ => True) (trivial) (first
              | (refine step_spreadT intT rfl _ _ (by rfl) wt.heap.size (.slice A6 (kk + 1) c6) ((rkA ts s.length k).take (kk) ++ [(k : Int)]) (by rfl) (by first | exact ho6) wt.heap.size hb6 _ ((rkA ts s.length k).drop (kk)) _ _ (by exact HD.out) (by rfl) (by exact (T1 _ (fun hh => by first | rfl | omega)).below hb6 (Nat.le_refl _)) (by rw [HL7.out]; omega) (by have := hb6.size; omega) (Nat.le_refl _) ?_; intro A7 c7 w7 ho7 hb7 hgr7; rw [HL7.out] at ho7 ⊢)
              | (refine step_spreadT intT rfl _ _ (by rfl) wt.heap.size (.slice A5 (kk) c5) ((rkA ts s.length k).take (kk)) (by rfl) (by first | exact ho5 | exact own_int.2 (OwnI.alloc (own_int.1 ho5) _)) wt.heap.size (by first | exact hb5 | exact hb5.alloc hb5.size _) _ [(k : Int)] _ _ rfl (by rfl) (by first | exact one_new w5 _ | exact RdT.gr (w := ((wt.alloc (.cells #[] 3)).alloc (.cells #[.int .i64 (k : Int)] 3)).drew) (one_new2 wt (.cells #[] 3) (k : Int)) hgr5 (fun _ b off e => by cases e; intro hc; exact absurd (Option.some.inj (show some _ = some _ from hc)) (by simp)) | exact RdT.gr (w := ((wt.alloc (.cells #[.int .i64 (k : Int)] 3)).alloc (.cells #[] 3)).drew) (one_new3 wt (.cells #[] 3) (k : Int)) hgr5 (fun _ b off e => by cases e; intro hc; exact absurd (Option.some.inj (show some _ = some _ from hc)) (by simp))) (by rw [HL6.out]; omega) (by have := hb5.size; first | omega | (simp; omega)) (Nat.le_refl _) ?_; intro A6 c6 w6 ho6 hb6 hgr6; rw [HL6.out] at ho6 ⊢)
              | (refine step_spreadT intT rfl _ _ (by rfl) wt.heap.size _ ([] : List Int) (by rfl) (by first | exact own_int.2 (own_e0 wt.drew _ (Nat.le_refl _)) | exact own_int.2 (own_e02 wt.drew _ _ (Nat.le_succ_of_le (Nat.le_refl _))) | exact own_int.2 (OwnI.alloc (own_e0 wt.drew _ (Nat.le_refl _)) _)) wt.heap.size (by first | exact LB1 _ | exact LB2 _ _) _ ((rkA ts s.length k).take (kk)) _ _ ?hn5 (by rfl) (by first | exact T0.below (LB1 _) (Nat.le_refl _) | exact T0.below (LB2 _ _) (Nat.le_refl _)) (by rw [HL5.out]; omega) (by first | (simp; done) | (simp; omega)) (Nat.le_refl _) ?_; (case hn5 => first | exact hTL.out.symm | (rw [hTL.out]; omega) | (rw [hTL.out]; simp; done) | (rw [hTL.out]; simp; omega)); intro A5 c5 w5 ho5 hb5 hgr5; rw [HL5.out, List.nil_append] at ho5; rw [HL5.out]))
            all_goals
              have ho8 := own_int.1 ho7
              rw [← HI.out] at ho8
              have hlen8 := rkA_len ts s.length (k + 1)
              obtain ⟨g8, rfl, hg8, _⟩ := OwnI.head ho8 (by omega)
              have HF : Hid (OwnI w7 wt.heap.size (.slice (some ⟨g8, 0, none⟩) (k + 1) c7) (rkA ts s.length (k + 1))) := Lib.hid ho8
              have hbF := hbT.trans (hb7.mono hzT)
              clear T0 T1 ho5 ho6 ho7 ho8 hlen8 hb5 hb6 hb7 hgr5 hgr6 hgr7 LB1 LB2
              go_wp2
              go_roundw
              case rel => exact ⟨k + 1, _, c7, by omega, by go_num, by rw [rkA_len ts s.length (k + 1)], by rw [rkA_len ts s.length (k + 1)]; exact HF.out.mono hzT, ⟨_, rfl⟩, hbF⟩
              case measure => simp [intOf]; omega
        · obtain ⟨m, rfl⟩ : ∃ m, kk = m + 1 := ⟨kk - 1, by omega⟩
          clear hk0
          obtain ⟨ob, ooff, o, hAo, hoo', holt, hoc⟩ := hoB.rd.at_ (k := m) (by omega)
          injection hAo with hAo
          injection hAo with e1 e2 _
          subst e1 e2
          rw [Nat.zero_add] at hoc
          have hom := rkA_mem ts s.length k o (List.mem_of_getElem? hoo')
          obtain ⟨q', rfl⟩ : ∃ q' : Nat, o = (q' : Int) := ⟨o.toNat, by omega⟩
          obtain ⟨b', off', pu2, gr2, A3, c3', l3, hA', hx2, hlb2, hd0, hd1, hd2, hrl3⟩ := (hr.below hbB (Nat.le_refl _)).atT (k := q') (by omega)
          injection hA' with hA'
          injection hA' with e1 e2 _
          subst e1 e2
          have HKE0 := (key_at (f := trK ts s.length) hoo').trans (HTK.out q' _ hx2)
          have hbd2 := HB.out q' _ hx2
          have HSM2 := Lib.hid (HTS.out q' _ hx2 A3 c3')
          dsimp only [toV] at HKE0 hbd2 HSM2
          obtain ⟨⟨g3, g4⟩, s3, s4⟩ := hbd2
          have HKE := Lib.hid HKE0
          clear HKE0 hoo' hx2
          generalize ptsA l3 s.length = X2 at *
          obtain ⟨wn, hwn⟩ : ∃ wn : World, wn = wr.alloc (.cells #[.int .i64 pu2, .int .i64 gr2, .slice A3 l3.length c3'] 35) := ⟨_, rfl⟩
          have hbn : Below wr.heap.size wr wn := by rw [hwn]; exact (Below.refl _ _).alloc (Nat.le_refl _) _
          have v0 : wn.cell? ⟨wr.heap.size, 0, none⟩ = some (.int .i64 pu2) := by rw [hwn]; exact cell_of_row _ _ 0 _ _ (0, 0) (heap_alloc_new wr _)
          have v1 : wn.cell? ⟨wr.heap.size, 1, none⟩ = some (.int .i64 gr2) := by rw [hwn]; exact cell_of_row _ _ 1 _ _ (0, 0) (heap_alloc_new wr _)
          have v2 : wn.cell? ⟨wr.heap.size, 2, none⟩ = some (.slice A3 l3.length c3') := by rw [hwn]; exact cell_of_row _ _ 2 _ _ (0, 0) (heap_alloc_new wr _)
          have y1 := (hby.cell (p := ⟨b, off + k * 3 + 1, none⟩) hlb2x).trans u1
          have y3 := (hbn.cell (p := ⟨b, off + k * 3 + 1, none⟩) (World.block_lt_of_cell? _ _ y1)).trans y1
          have HWN := Lib.hid hwn
          have w1' : IntKind.i64.wrap (((m : Int) + 1) - 1) = m := by rw [IntWalk.i64_in _ (by omega)]; omega
          have b1' : (0 : Int) ≤ m := by omega
          have b2' : (m : Int) < ((rkA ts s.length k).length : Int) := by omega
          have b3' : (q' : Int) < (ps.length : Int) := by omega
          have b4' : (k : Int) < (ps.length : Int) := by omega
          have b5' : (0 : Int) ≤ q' := by omega
          have d0 : decide (0 < m + 1) = true := decide_eq_true (by omega)
          clear hwn
          go_wp2_with fail
          rw [← HWN.out]
          clear HWN d0
          refine (HSM2.out _ (h.below (hbB.trans (hbn.mono hzB)) (Nat.le_refl _)) (hrl3.below hbn (Nat.le_refl _))).mono ?_
          rintro e w4 ⟨rfl, hb4⟩
          have x1 := cell_regrown ((hb4.cell (p := ⟨wr.heap.size, 1, none⟩) (World.block_lt_of_cell? _ _ v1)).trans v1)
          have x3 := cell_regrown ((hb4.cell (p := ⟨b, off + k * 3 + 1, none⟩) (World.block_lt_of_cell? _ _ y3)).trans y3)
          have hb4' : Below wr.heap.size wr w4 := hbn.trans (hb4.mono hbn.size)
          have hbN := hbB.trans (hb4'.mono hzB)
          have hk1 := HK.out
          have hk2 := HKE.out
          have x0 : True := trivial
          clear v0 v1 v2 y1 y3 hb4 hbn hd0 hd1 hd2 hoc hrl3 HSM2
          rcases Int.lt_trichotomy gr gr2 with hg | hg | hg
          · have d1 : decide (gr < gr2) = true := decide_eq_true hg
            have E2 := Lib.hid (show posL ((rkA ts s.length k).map (trK ts s.length)) (trK ts s.length k) (rkA ts s.length k).length = m + 1 by rw [E.out, posL_stop (by omega)])
            clear E HK HKE hk1 hk2
            go_wp2_with fail
            refine wp_region_quiet_below (by kernel_rfl) (by kernel_rfl) ?_
            repeat (go_big_quiet_step (fail))
            refine wpQuiet_nil ?_
            intro wt hw'
            have hb5 := below_of_class hw'
            clear hw'
            have hoT := (hoB.below hb4' (Nat.le_refl _)).below hb5 (Nat.le_refl _)
            have hbT := hbN.trans (hb5.mono hbN.size)
            clear hoB hb4' hbN hb5 x0 x1 x3
            have T0 : RdT intT wt (some ⟨g, 0, none⟩) ((rkA ts s.length k).take (m + 1)) := (rd_int.2 hoT.rd).take intT (m + 1)
            have T1 : ∀ X, ((m + 1) < (rkA ts s.length k).length → X = some ⟨g, m + 1, none⟩) → RdT intT wt X ((rkA ts s.length k).drop (m + 1)) := fun X hX => RdT.drop intT (rd_int.2 hoT.rd) (m + 1) X (fun hh => by rw [hX hh]; show _ = some (⟨g, 0 + (m + 1) * 1, none⟩ : Addr); rw [Nat.mul_one, Nat.zero_add])
            have htl : ((rkA ts s.length k).take (m + 1)).length = m + 1 := by rw [List.length_take]; omega
            have HI := Lib.hid (show rkA ts s.length (k + 1) = (rkA ts s.length k).take (m + 1) ++ [(k : Int)] ++ (rkA ts s.length k).drop (m + 1) by rw [HS.out, E2.out]; unfold insL; simp)
            have HL5 := Lib.hid (show ([] : List Int).length + ((rkA ts s.length k).take (m + 1)).length = m + 1 by rw [htl]; simp)
            have HL6 := Lib.hid (show ((rkA ts s.length k).take (m + 1)).length + [(k : Int)].length = m + 1 + 1 by rw [htl]; simp)
            have HL7 := Lib.hid (show ((rkA ts s.length k).take (m + 1) ++ [(k : Int)]).length + ((rkA ts s.length k).drop (m + 1)).length = k + 1 by rw [List.length_append, htl, List.length_drop]; simp; omega)
            have HD := Lib.hid (show (rkA ts s.length k).length - (m + 1) = ((rkA ts s.length k).drop (m + 1)).length by rw [List.length_drop])
            have LB1 := fun o : Obj => ((Below.refl wt.heap.size wt).drew.alloc (Nat.le_refl _) o : Below wt.heap.size wt (wt.drew.alloc o))
            have LB2 := fun o o' : Obj => ((LB1 o).alloc (by simp) o' : Below wt.heap.size wt ((wt.drew.alloc o).alloc o'))
            have hgt : g < wt.heap.size := (hoT.lt g rfl).2
            have j1 : (0 : Int) ≤ ((m : Int) + 1) := by omega
            have j2 : ((m : Int) + 1) ≤ ((rkA ts s.length k).length : Int) := by omega
            have j3 : ((m : Int) + 1) ≤ (c' : Int) := by omega
            have j4 : ((rkA ts s.length k).length : Int) ≤ (c' : Int) := by omega
            have j5 : (((m : Int) + 1)).toNat = m + 1 := by omega
            have hzT := hbT.size
            have hTL := Lib.hid htl
            have hpl : (m + 1) + ((rkA ts s.length k).length - (m + 1)) ≤ 1000 := by omega
            clear htl
            rcases (show c' ≤ m + 1 ∨ ¬ c' = m + 1 by omega) with hcc | hcc
            all_goals
              go_wp2_with fail
              go_region_held3 (fun _ => True) (trivial) (first
                | (refine step_spreadT intT rfl _ _ (by rfl) wt.heap.size (.slice A6 (m + 1 + 1) c6) ((rkA ts s.length k).take (m + 1) ++ [(k : Int)]) (by rfl) (by first | exact ho6) wt.heap.size hb6 _ ((rkA ts s.length k).drop (m + 1)) _ _ (by exact HD.out) (by rfl) (by exact (T1 _ (fun hh => by first | rfl | omega)).below hb6 (Nat.le_refl _)) (by rw [HL7.out]; omega) (by have := hb6.size; omega) (Nat.le_refl _) ?_; intro A7 c7 w7 ho7 hb7 hgr7; rw [HL7.out] at ho7 ⊢)
                | (refine step_spreadT intT rfl _ _ (by rfl) wt.heap.size (.slice A5 (m + 1) c5) ((rkA ts s.length k).take (m + 1)) (by rfl) (by first | exact ho5 | exact own_int.2 (OwnI.alloc (own_int.1 ho5) _)) wt.heap.size (by first | exact hb5 | exact hb5.alloc hb5.size _) _ [(k : Int)] _ _ rfl (by rfl) (by first | exact one_new w5 _ | exact RdT.gr (w := ((wt.alloc (.cells #[] 3)).alloc (.cells #[.int .i64 (k : Int)] 3)).drew) (one_new2 wt (.cells #[] 3) (k : Int)) hgr5 (fun _ b off e => by cases e; intro hc; exact absurd (Option.some.inj (show some _ = some _ from hc)) (by simp)) | exact RdT.gr (w := ((wt.alloc (.cells #[.int .i64 (k : Int)] 3)).alloc (.cells #[] 3)).drew) (one_new3 wt (.cells #[] 3) (k : Int)) hgr5 (fun _ b off e => by cases e; intro hc; exact absurd (Option.some.inj (show some _ = some _ from hc)) (by simp))) (by rw [HL6.out]; omega) (by have := hb5.size; first | omega | (simp; omega)) (Nat.le_refl _) ?_; intro A6 c6 w6 ho6 hb6 hgr6; rw [HL6.out] at ho6 ⊢)
                | (refine step_spreadT intT rfl _ _ (by rfl) wt.heap.size _ ([] : List Int) (by rfl) (by first | exact own_int.2 (own_e0 wt.drew _ (Nat.le_refl _)) | exact own_int.2 (own_e02 wt.drew _ _ (Nat.le_succ_of_le (Nat.le_refl _))) | exact own_int.2 (OwnI.alloc (own_e0 wt.drew _ (Nat.le_refl _)) _)) wt.heap.size (by first | exact LB1 _ | exact LB2 _ _) _ ((rkA ts s.length k).take (m + 1)) _ _ ?hn5 (by rfl) (by first | exact T0.below (LB1 _) (Nat.le_refl _) | exact T0.below (LB2 _ _) (Nat.le_refl _)) (by rw [HL5.out]; omega) (by first | (simp; done) | (simp; omega)) (Nat.le_refl _) ?_; (case hn5 => first | exact hTL.out.symm | (rw [hTL.out]; omega) | (rw [hTL.out]; simp; done) | (rw [hTL.out]; simp; omega)); intro A5 c5 w5 ho5 hb5 hgr5; rw [HL5.out, List.nil_append] at ho5; rw [HL5.out]))
              all_goals
                have ho8 := own_int.1 ho7
                rw [← HI.out] at ho8
                have hlen8 := rkA_len ts s.length (k + 1)
                obtain ⟨g8, rfl, hg8, _⟩ := OwnI.head ho8 (by omega)
                have HF : Hid (OwnI w7 wt.heap.size (.slice (some ⟨g8, 0, none⟩) (k + 1) c7) (rkA ts s.length (k + 1))) := Lib.hid ho8
                have hbF := hbT.trans (hb7.mono hzT)
                clear T0 T1 ho5 ho6 ho7 ho8 hlen8 hb5 hb6 hb7 hgr5 hgr6 hgr7 LB1 LB2
                go_wp2
                go_roundw
                case rel => exact ⟨k + 1, _, c7, by omega, by go_num, by rw [rkA_len ts s.length (k + 1)], by rw [rkA_len ts s.length (k + 1)]; exact HF.out.mono hzT, ⟨_, rfl⟩, hbF⟩
                case measure => simp [intOf]; omega
          · subst hg
            have d1 : decide (gr < gr) = false := decide_eq_false (by omega)
            by_cases hcc : X1 ≤ X2
            · have d3 : decide (X1 ≤ X2) = true := decide_eq_true hcc
              have E2 := Lib.hid (show posL ((rkA ts s.length k).map (trK ts s.length)) (trK ts s.length k) (rkA ts s.length k).length = m + 1 by rw [E.out, posL_stop (by omega)])
              clear E HK HKE hk1 hk2
              go_wp2_with fail
              refine wp_region_quiet_below (by kernel_rfl) (by kernel_rfl) ?_
              repeat (go_big_quiet_step (fail))
              refine wpQuiet_nil ?_
              intro wt hw'
              have hb5 := below_of_class hw'
              clear hw'
              have hoT := (hoB.below hb4' (Nat.le_refl _)).below hb5 (Nat.le_refl _)
              have hbT := hbN.trans (hb5.mono hbN.size)
              clear hoB hb4' hbN hb5 x0 x1 x3
              have T0 : RdT intT wt (some ⟨g, 0, none⟩) ((rkA ts s.length k).take (m + 1)) := (rd_int.2 hoT.rd).take intT (m + 1)
              have T1 : ∀ X, ((m + 1) < (rkA ts s.length k).length → X = some ⟨g, m + 1, none⟩) → RdT intT wt X ((rkA ts s.length k).drop (m + 1)) := fun X hX => RdT.drop intT (rd_int.2 hoT.rd) (m + 1) X (fun hh => by rw [hX hh]; show _ = some (⟨g, 0 + (m + 1) * 1, none⟩ : Addr); rw [Nat.mul_one, Nat.zero_add])
              have htl : ((rkA ts s.length k).take (m + 1)).length = m + 1 := by rw [List.length_take]; omega
              have HI := Lib.hid (show rkA ts s.length (k + 1) = (rkA ts s.length k).take (m + 1) ++ [(k : Int)] ++ (rkA ts s.length k).drop (m + 1) by rw [HS.out, E2.out]; unfold insL; simp)
              have HL5 := Lib.hid (show ([] : List Int).length + ((rkA ts s.length k).take (m + 1)).length = m + 1 by rw [htl]; simp)
              have HL6 := Lib.hid (show ((rkA ts s.length k).take (m + 1)).length + [(k : Int)].length = m + 1 + 1 by rw [htl]; simp)
              have HL7 := Lib.hid (show ((rkA ts s.length k).take (m + 1) ++ [(k : Int)]).length + ((rkA ts s.length k).drop (m + 1)).length = k + 1 by rw [List.length_append, htl, List.length_drop]; simp; omega)
              have HD := Lib.hid (show (rkA ts s.length k).length - (m + 1) = ((rkA ts s.length k).drop (m + 1)).length by rw [List.length_drop])
              have LB1 := fun o : Obj => ((Below.refl wt.heap.size wt).drew.alloc (Nat.le_refl _) o : Below wt.heap.size wt (wt.drew.alloc o))
              have LB2 := fun o o' : Obj => ((LB1 o).alloc (by simp) o' : Below wt.heap.size wt ((wt.drew.alloc o).alloc o'))
              have hgt : g < wt.heap.size := (hoT.lt g rfl).2
              have j1 : (0 : Int) ≤ ((m : Int) + 1) := by omega
              have j2 : ((m : Int) + 1) ≤ ((rkA ts s.length k).length : Int) := by omega
              have j3 : ((m : Int) + 1) ≤ (c' : Int) := by omega
              have j4 : ((rkA ts s.length k).length : Int) ≤ (c' : Int) := by omega
              have j5 : (((m : Int) + 1)).toNat = m + 1 := by omega
              have hzT := hbT.size
              have hTL := Lib.hid htl
              have hpl : (m + 1) + ((rkA ts s.length k).length - (m + 1)) ≤ 1000 := by omega
              clear htl
              rcases (show c' ≤ m + 1 ∨ ¬ c' = m + 1 by omega) with hcc | hcc
              all_goals
                go_wp2_with fail
                go_region_held3 (fun _ => True) (trivial) (first
                  | (refine step_spreadT intT rfl _ _ (by rfl) wt.heap.size (.slice A6 (m + 1 + 1) c6) ((rkA ts s.length k).take (m + 1) ++ [(k : Int)]) (by rfl) (by first | exact ho6) wt.heap.size hb6 _ ((rkA ts s.length k).drop (m + 1)) _ _ (by exact HD.out) (by rfl) (by exact (T1 _ (fun hh => by first | rfl | omega)).below hb6 (Nat.le_refl _)) (by rw [HL7.out]; omega) (by have := hb6.size; omega) (Nat.le_refl _) ?_; intro A7 c7 w7 ho7 hb7 hgr7; rw [HL7.out] at ho7 ⊢)
                  | (refine step_spreadT intT rfl _ _ (by rfl) wt.heap.size (.slice A5 (m + 1) c5) ((rkA ts s.length k).take (m + 1)) (by rfl) (by first | exact ho5 | exact own_int.2 (OwnI.alloc (own_int.1 ho5) _)) wt.heap.size (by first | exact hb5 | exact hb5.alloc hb5.size _) _ [(k : Int)] _ _ rfl (by rfl) (by first | exact one_new w5 _ | exact RdT.gr (w := ((wt.alloc (.cells #[] 3)).alloc (.cells #[.int .i64 (k : Int)] 3)).drew) (one_new2 wt (.cells #[] 3) (k : Int)) hgr5 (fun _ b off e => by cases e; intro hc; exact absurd (Option.some.inj (show some _ = some _ from hc)) (by simp)) | exact RdT.gr (w := ((wt.alloc (.cells #[.int .i64 (k : Int)] 3)).alloc (.cells #[] 3)).drew) (one_new3 wt (.cells #[] 3) (k : Int)) hgr5 (fun _ b off e => by cases e; intro hc; exact absurd (Option.some.inj (show some _ = some _ from hc)) (by simp))) (by rw [HL6.out]; omega) (by have := hb5.size; first | omega | (simp; omega)) (Nat.le_refl _) ?_; intro A6 c6 w6 ho6 hb6 hgr6; rw [HL6.out] at ho6 ⊢)
                  | (refine step_spreadT intT rfl _ _ (by rfl) wt.heap.size _ ([] : List Int) (by rfl) (by first | exact own_int.2 (own_e0 wt.drew _ (Nat.le_refl _)) | exact own_int.2 (own_e02 wt.drew _ _ (Nat.le_succ_of_le (Nat.le_refl _))) | exact own_int.2 (OwnI.alloc (own_e0 wt.drew _ (Nat.le_refl _)) _)) wt.heap.size (by first | exact LB1 _ | exact LB2 _ _) _ ((rkA ts s.length k).take (m + 1)) _ _ ?hn5 (by rfl) (by first | exact T0.below (LB1 _) (Nat.le_refl _) | exact T0.below (LB2 _ _) (Nat.le_refl _)) (by rw [HL5.out]; omega) (by first | (simp; done) | (simp; omega)) (Nat.le_refl _) ?_; (case hn5 => first | exact hTL.out.symm | (rw [hTL.out]; omega) | (rw [hTL.out]; simp; done) | (rw [hTL.out]; simp; omega)); intro A5 c5 w5 ho5 hb5 hgr5; rw [HL5.out, List.nil_append] at ho5; rw [HL5.out]))
                all_goals
                  have ho8 := own_int.1 ho7
                  rw [← HI.out] at ho8
                  have hlen8 := rkA_len ts s.length (k + 1)
                  obtain ⟨g8, rfl, hg8, _⟩ := OwnI.head ho8 (by omega)
                  have HF : Hid (OwnI w7 wt.heap.size (.slice (some ⟨g8, 0, none⟩) (k + 1) c7) (rkA ts s.length (k + 1))) := Lib.hid ho8
                  have hbF := hbT.trans (hb7.mono hzT)
                  clear T0 T1 ho5 ho6 ho7 ho8 hlen8 hb5 hb6 hb7 hgr5 hgr6 hgr7 LB1 LB2
                  go_wp2
                  go_roundw
                  case rel => exact ⟨k + 1, _, c7, by omega, by go_num, by rw [rkA_len ts s.length (k + 1)], by rw [rkA_len ts s.length (k + 1)]; exact HF.out.mono hzT, ⟨_, rfl⟩, hbF⟩
                  case measure => simp [intOf]; omega
            · have d3 : decide (X1 ≤ X2) = false := decide_eq_false hcc
              have E2 := Lib.hid (show posL ((rkA ts s.length k).map (trK ts s.length)) (trK ts s.length k) (rkA ts s.length k).length = posL ((rkA ts s.length k).map (trK ts s.length)) (trK ts s.length k) m by rw [E.out, posL_down (by omega)])
              clear E HK HKE hk1 hk2
              go_wp2_with fail
              refine wp_region_quiet_below (by kernel_rfl) (by kernel_rfl) ?_
              repeat (go_big_quiet_step (fail))
              refine wpQuiet_nil ?_
              intro wt hw'
              have hb5 := below_of_class hw'
              clear hw'
              have hby5 : Below w2.heap.size w2 wt := (hby.trans (hb4'.mono hzy)).trans (hb5.mono (hby.trans (hb4'.mono hzy)).size)
              clear x0 x1 x3
              go_wp2
              go_roundw
              case rel => exact ⟨m, by omega, by first | rfl | go_num, E2, hby5⟩
              case measure => simp [intOf] <;> omega
          · have d1 : decide (gr < gr2) = false := decide_eq_false (by omega)
            have d2 : (gr2 == gr) = false := by rw [beq_eq_false_iff_ne]; omega
            have E2 := Lib.hid (show posL ((rkA ts s.length k).map (trK ts s.length)) (trK ts s.length k) (rkA ts s.length k).length = posL ((rkA ts s.length k).map (trK ts s.length)) (trK ts s.length k) m by rw [E.out, posL_down (by omega)])
            clear E HK HKE hk1 hk2
            go_wp2_with fail
            refine wp_region_quiet_below (by kernel_rfl) (by kernel_rfl) ?_
            repeat (go_big_quiet_step (fail))
            refine wpQuiet_nil ?_
            intro wt hw'
            have hb5 := below_of_class hw'
            clear hw'
            have hby5 : Below w2.heap.size w2 wt := (hby.trans (hb4'.mono hzy)).trans (hb5.mono (hby.trans (hb4'.mono hzy)).size)
            clear x0 x1 x3
            go_wp2
            go_roundw
            case rel => exact ⟨m, by omega, by first | rfl | go_num, E2, hby5⟩
            case measure => simp [intOf] <;> omega
    · obtain rfl : k = ps.length := by omega
      go_wp2
      go_ret2
      exact ⟨_, c', rfl, ho, hb⟩
end Go.Proofs.Ythoojcmnkhhokaa
