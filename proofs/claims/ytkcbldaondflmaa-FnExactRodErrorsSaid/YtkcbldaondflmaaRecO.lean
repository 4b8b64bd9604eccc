/-
  RodErrors, of the reference: contract. (Printed by gen_recO.py.)
-/
import Derived.Test.YtkcbldaondflmaaRecM
namespace Go.Proofs.Ytkcbldaondflmaa
open Go.RowKit

theorem own_e0r (W : World) (base : Nat) (hb : base ≤ W.heap.size) : OwnI (W.alloc (.cells #[] 3)) base (.slice (some ⟨W.heap.size, 0, none⟩) 0 0) [] := World.ownsRow_lit W #[] 0 hb (by unfold maxLen; omega) rfl
theorem re_no1 {l1 l2 : List MoveV} {n : Int} (h : (recB l1 && recB l2) = false) : reOk l1 l2 n = false := by unfold reOk; rw [h]; rfl
theorem re_no3 {l1 l2 : List MoveV} {n : Int} (h : inB n 1 8 = false) : reOk l1 l2 n = false := by simp [reOk, h]
set_option maxRecDepth 100000 in
set_option maxHeartbeats 8000000 in
theorem rodErrorsS_any (A1 : Option Addr) (c1 : Nat) (l1 : List MoveV) (A2 : Option Addr) (c2 : Nat) (l2 : List MoveV) (rods : Int) (w : World) (hn1 : l1.length ≤ 16777216) (h1 : RdT moveT w A1 l1) (hn2 : l2.length ≤ 16777216) (h2 : RdT moveT w A2 l2) :
    Calls Try.prog 28 #[.slice A1 l1.length c1, .slice A2 l2.length c2, .int .i64 rods] w (RetI w (reV l1 l2 rods) (reOk l1 l2 rods)) := by
  have HB := Lib.hid (fun W g g2 => l19Both_any A1 A2 c1 c2 l1 l2 W hn1 hn2 g g2)
  cases hm : (recB l1 && recB l2)
  · have e := re_no1 (n := rods) hm
    rw [reV_no e, e]
    rw [hm] at HB
    clear e
    go_enter Try.func28, Try.ntmps28
    go_wp2_with fail
    refine (HB.out _ h1 h2).mono ?_
    rintro e w1 ⟨rfl, hb1⟩
    go_wp2
    go_ret2
    exact ⟨_, 0, rfl, own_e0r _ _ hb1.size, hb1.alloc hb1.size _⟩
  rw [hm] at HB
  have hm12 : recB l1 = true ∧ recB l2 = true := by simpa using hm
  obtain ⟨hm1, hm2⟩ := hm12
  cases hm3 : inB rods 1 8
  · have e := re_no3 (l1 := l1) (l2 := l2) hm3
    have HW := Lib.hid (fun W => hm3 ▸ l1In_any rods 1 8 W)
    rw [reV_no e, e]
    clear e
    go_enter Try.func28, Try.ntmps28
    go_wp2_with fail
    refine (HB.out _ h1 h2).mono ?_
    rintro e w1 ⟨rfl, hb1⟩
    go_wp2_with fail
    refine (HW.out _).mono ?_
    rintro e wz ⟨rfl, rfl⟩
    go_wp2
    go_ret2
    exact ⟨_, 0, rfl, own_e0r _ _ hb1.size, hb1.alloc hb1.size _⟩
  have HW := Lib.hid (fun W => hm3 ▸ l1In_any rods 1 8 W)
  have hrb := (inB_iff _ _ _).1 hm3
  obtain ⟨n, rfl⟩ : ∃ n : Nat, rods = (n : Int) := ⟨rods.toNat, by omega⟩
  have HV2 := Lib.hid (fun h => (show reV l1 l2 n = absL (e2L l1 l2 n) n from (reV_yes (a := l1) (b := l2) (n := (n : Int)) h).trans (by rw [Int.toNat_natCast])))
  have HV1 := Lib.hid (fun h => reV_no (a := l1) (b := l2) (n := (n : Int)) h)
  have HO1 := Lib.hid (fun (h : rodB (n : Int) l1 = false ∨ rodB (n : Int) l2 = false) => (show reOk l1 l2 n = false by rcases h with h | h <;> simp [reOk, h]))
  have HO2 := Lib.hid (fun (h : rodB (n : Int) l1 = true) (h' : rodB (n : Int) l2 = true) => (show reOk l1 l2 n = true by simp [reOk, hm1, hm2, hm3, h, h']))
  have HL1 := Lib.hid (recB_iff hm1)
  have HL2 := Lib.hid (recB_iff hm2)
  have h12a := HL1.out.1
  have h12b := HL2.out.1
  have HB0 := Lib.hid (abd_zero n)
  have HE1 := Lib.hid (show e1L l1 n = errA l1 1 (List.replicate n 0) l1.length from rfl)
  have HE2 := Lib.hid (show e2L l1 l2 n = errA l2 (-1) (e1L l1 n) l2.length from rfl)
  have HE1B := Lib.hid (show abd 12 (e1L l1 n) from abd_mono (errA_bd l1 1 (by omega) (List.replicate n 0) 0 (by omega) (abd_zero n) l1.length) (by omega))
  have HE2B := Lib.hid (reS_bd hm1 hm2 n 2)
  have HE1L := Lib.hid (e1L_len l1 n)
  have HE2L := Lib.hid (e2L_len l1 l2 n)
  rw [reS_two] at HE2B
  clear hm1 hm2 hm3 hm
  generalize reOk l1 l2 n = ok at *
  generalize reV l1 l2 n = res at *
  generalize e2L l1 l2 n = F2 at *
  generalize e1L l1 n = F1 at *
  go_enter Try.func28, Try.ntmps28
  go_wp2_with fail
  refine (HB.out _ h1 h2).mono ?_
  rintro e w1 ⟨rfl, hb1⟩
  have hz1 := hb1.size
  go_wp2_with (first | (go_at_call 50; refine (HW.out _).mono ?_; rintro e w' ⟨rfl, rfl⟩) | (at_make; refine wpList_makeI (w0 := w) (B := w.heap.size) rfl _ _ rfl w.heap.size (n : Int) (n : Int) n rfl rfl rfl rfl (by omega) hz1 hb1 hz1 ?_; intro g w3 hg0 hg1 hown3 hb3 hb3'))
  clear hb1 hz1 hb3' hg1
  have HZ := Lib.hid (errA_zero l1 1 (List.replicate n 0))
  have HSU := Lib.hid (fun (k r : Nat) (x1 x2 : Int) (h : l1[k]? = some (⟨(r : Int), x1, x2⟩ : MoveV)) => errA_succ 1 (List.replicate n 0) h)
  have HLN := Lib.hid (fun k => (errA_len l1 1 (List.replicate n 0) k).trans (List.length_replicate))
  have HBN := Lib.hid (errA_bd l1 1 (by omega) (List.replicate n 0) 12 (by omega) (abd_mono HB0.out (by omega)))
  have HEND := Lib.hid (HE1.out)
  generalize errA l1 1 (List.replicate n 0) = E at *
  go_wp2
  go_loopw [9] (fun i wy => ∃ k : Nat, k ≤ l1.length ∧ i = .int .i64 k ∧ OwnI wy w.heap.size (.slice (some ⟨g, 0, none⟩) n n) (E k) ∧ Hid (rodTo (n : Int) l1 k = true) ∧ Below w.heap.size w wy) (fun i _ => l1.length - (intOf i).toNat)
  case atStart => exact ⟨0, by omega, rfl, by rw [HZ.out]; exact hown3, Lib.hid (rodTo_zero _ _), hb3⟩
  case round =>
    obtain ⟨k, hk, rfl, hown, HRT, hb⟩ := hrel
    have hz := hb.size
    by_cases hlk : k < l1.length
    · obtain ⟨b, off, rod, part, by_, hAJ, hx, hlb, hd0, hd1, hd2⟩ := moveT_at (h1.below hb (Nat.le_refl _)) hlk
      have hmb := moveB_iff (HL1.out.2 k _ hx)
      dsimp only at hmb
      obtain ⟨⟨r0, r7⟩, _, _⟩ := hmb
      subst hAJ
      by_cases hrn : rod < (n : Int)
      · obtain ⟨r, rfl⟩ : ∃ r : Nat, rod = (r : Int) := ⟨rod.toNat, by omega⟩
        have HSUC := Lib.hid (HSU.out k r _ _ hx)
        have HRT2 := Lib.hid (rodTo_succ HRT.out hx hrn)
        have hEl : (E k).length = n := HLN.out k
        have hEr : (E k)[r]? = some ((E k).getD r 0) := get_getD _ r (by omega)
        obtain ⟨q1, q2⟩ := HBN.out k r
        have hcr := OwnI.cell hown hEr
        have hfr := OwnI.frozen hown r
        have dr : decide ((n : Int) ≤ (r : Int)) = false := decide_eq_false (by omega)
        have rn : (r : Int) < (n : Int) := by omega
        have kn : (k : Int) < (l1.length : Int) := by omega
        generalize (E k).getD r 0 = v at *
        have hbN := hb.setCell (p := ⟨g, r, none⟩) hg0 (.int .i64 (v + 1))
        have HSET := Lib.hid (OwnI.set hown r (v + 1))
        have i1 : IntKind.i64.wrap (v + 1) = v + 1 := IntWalk.i64_in _ (by omega)
        clear hx hEr hEl
        go_wp2_with fail
        go_region
        go_wp2
        go_roundw
        case rel => exact ⟨k + 1, by omega, by go_num, by rw [HSUC.out]; exact HSET.out.1, HRT2, hbN.drew⟩
        case measure => simp [intOf]; omega
      · have HOKF := Lib.hid (HO1.out (.inl (rodB_bad hx hrn)))
        have HRES := Lib.hid (HV1.out HOKF.out)
        have dr : decide ((n : Int) ≤ rod) = true := decide_eq_true (by omega)
        clear hx
        go_wp2
        go_ret2
        exact ⟨_, 0, by rw [HOKF.out, HRES.out]; rfl, by rw [HRES.out]; exact own_e0r _ _ hz, hb.alloc hz _⟩
    · obtain rfl : k = l1.length := by omega
      have HR1 := Lib.hid (rodTo_all HRT.out)
      rw [← HEND.out] at hown
      have hownF := hown
      have hbF := hb
      clear hown hb HRT HZ HSU HLN HBN HEND hz
      have HZ := Lib.hid (errA_zero l2 (-1) (F1))
      have HSU := Lib.hid (fun (k r : Nat) (x1 x2 : Int) (h : l2[k]? = some (⟨(r : Int), x1, x2⟩ : MoveV)) => errA_succ (-1) F1 h)
      have HLN := Lib.hid (fun k => (errA_len l2 (-1) F1 k).trans (HE1L.out))
      have HBN := Lib.hid (errA_bd l2 (-1) (by omega) F1 12 (by omega) (HE1B.out))
      have HEND := Lib.hid (HE2.out)
      generalize errA l2 (-1) F1 = E at *
      go_wp2
      go_loopw [10] (fun i wy => ∃ k : Nat, k ≤ l2.length ∧ i = .int .i64 k ∧ OwnI wy w.heap.size (.slice (some ⟨g, 0, none⟩) n n) (E k) ∧ Hid (rodTo (n : Int) l2 k = true) ∧ Below w.heap.size w wy) (fun i _ => l2.length - (intOf i).toNat)
      case atStart => exact ⟨0, by omega, rfl, by rw [HZ.out]; exact hownF, Lib.hid (rodTo_zero _ _), hbF⟩
      case round =>
        obtain ⟨k, hk, rfl, hown, HRT, hb⟩ := hrel
        have hz := hb.size
        by_cases hlk : k < l2.length
        · obtain ⟨b, off, rod, part, by_, hAJ, hx, hlb, hd0, hd1, hd2⟩ := moveT_at (h2.below hb (Nat.le_refl _)) hlk
          have hmb := moveB_iff (HL2.out.2 k _ hx)
          dsimp only at hmb
          obtain ⟨⟨r0, r7⟩, _, _⟩ := hmb
          subst hAJ
          by_cases hrn : rod < (n : Int)
          · obtain ⟨r, rfl⟩ : ∃ r : Nat, rod = (r : Int) := ⟨rod.toNat, by omega⟩
            have HSUC := Lib.hid (HSU.out k r _ _ hx)
            have HRT2 := Lib.hid (rodTo_succ HRT.out hx hrn)
            have hEl : (E k).length = n := HLN.out k
            have hEr : (E k)[r]? = some ((E k).getD r 0) := get_getD _ r (by omega)
            obtain ⟨q1, q2⟩ := HBN.out k r
            have hcr := OwnI.cell hown hEr
            have hfr := OwnI.frozen hown r
            have dr : decide ((n : Int) ≤ (r : Int)) = false := decide_eq_false (by omega)
            have rn : (r : Int) < (n : Int) := by omega
            have kn : (k : Int) < (l2.length : Int) := by omega
            generalize (E k).getD r 0 = v at *
            have hbN := hb.setCell (p := ⟨g, r, none⟩) hg0 (.int .i64 (v + (-1)))
            have HSET := Lib.hid (OwnI.set hown r (v + (-1)))
            have i1 : IntKind.i64.wrap (v - 1) = v + -1 := by rw [IntWalk.i64_in _ (by omega)]; omega
            clear hx hEr hEl
            go_wp2_with fail
            go_region
            go_wp2
            go_roundw
            case rel => exact ⟨k + 1, by omega, by go_num, by rw [HSUC.out]; exact HSET.out.1, HRT2, hbN.drew⟩
            case measure => simp [intOf]; omega
          · have HOKF := Lib.hid (HO1.out (.inr (rodB_bad hx hrn)))
            have HRES := Lib.hid (HV1.out HOKF.out)
            have dr : decide ((n : Int) ≤ rod) = true := decide_eq_true (by omega)
            clear hx
            go_wp2
            go_ret2
            exact ⟨_, 0, by rw [HOKF.out, HRES.out]; rfl, by rw [HRES.out]; exact own_e0r _ _ hz, hb.alloc hz _⟩
        · obtain rfl : k = l2.length := by omega
          have HR2 := Lib.hid (rodTo_all HRT.out)
          rw [← HEND.out] at hown
          have hownG := hown
          have hbG := hb
          have HOK := Lib.hid (HO2.out HR1.out HR2.out)
          have HRES := Lib.hid (show res = absL F2 n by exact HV2.out HOK.out)
          clear hown hb HRT HZ HSU HLN HBN HEND hz hownF hbF
          have HAZ := Lib.hid (absL_zero F2)
          have HAS := Lib.hid (absL_succ F2)
          have HAG := Lib.hid (absL_get F2)
          have HAN := Lib.hid ((absL_len F2 n).trans HE2L.out)
          generalize absL F2 = G at *
          go_wp2
          go_loopw [11] (fun i wy => ∃ k : Nat, k ≤ n ∧ i = .int .i64 k ∧ OwnI wy w.heap.size (.slice (some ⟨g, 0, none⟩) n n) (G k) ∧ Below w.heap.size w wy) (fun i _ => n - (intOf i).toNat)
          case atStart => exact ⟨0, by omega, rfl, by rw [HAZ.out]; exact hownG, hbG⟩
          case round =>
            obtain ⟨k, hk, rfl, hown, hb⟩ := hrel
            by_cases hlk : k < n
            · have hgk := HAG.out k (by rw [HE2L.out]; exact hlk)
              have hc := OwnI.cell hown hgk
              have hf := OwnI.frozen hown k
              obtain ⟨q1, q2⟩ := HE2B.out k
              have HSU := Lib.hid (HAS.out k)
              generalize F2.getD k 0 = v at *
              have HSET := Lib.hid (OwnI.set hown k (max v (-v)))
              have kn : (k : Int) < (n : Int) := by omega
              have i1 : IntKind.i64.wrap (-v) = -v := IntWalk.i64_in _ (by omega)
              have HAB := Lib.hid (fun W => l1Most_any v (-v) W)
              generalize max v (-v) = av at *
              clear hgk
              go_wp2_with fail
              go_region_law ((go_simp; go_at_call 47; refine (HAB.out _).mono ?_; rintro e w' ⟨rfl, rfl⟩))
              all_goals
                go_wp2
                go_roundw
                case rel => exact ⟨k + 1, by omega, by go_num, by rw [HSU.out]; exact HSET.out.1, by first | exact (hb.setCell hg0 _).drew | exact hb.drew.setCell hg0 _⟩
                case measure => simp [intOf]; omega
            · obtain rfl : k = n := by omega
              have HRL := Lib.hid (show res.length = k by rw [HRES.out]; exact HAN.out)
              go_wp2
              go_ret2
              exact ⟨some ⟨g, 0, none⟩, k, by rw [HOK.out, HRL.out]; rfl, by rw [HRL.out, HRES.out]; exact hown, hb⟩
end Go.Proofs.Ytkcbldaondflmaa
