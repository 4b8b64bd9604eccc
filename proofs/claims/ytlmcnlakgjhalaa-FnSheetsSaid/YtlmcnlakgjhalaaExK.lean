/-
  The order by hardness: plain; the program's contract.
-/
import Derived.Test.YtlmcnlakgjhalaaExH
import Derived.Test.YtlmcnlakgjhalaaPut
import Derived.Test.YtlmcnlakgjhalaaSpread
namespace Go.Proofs.Ytlmcnlakgjhalaa
open Go.RowKit

def hardX (x : Int × Int) : Int := 10 * ((cols x.1 x.2 4).length : Int) + chainV (cols x.1 x.2 4)
theorem hardX_at (p q : Int) : hardX (p, q) = 10 * ((cols p q 4).length : Int) + chainV (cols p q 4) := rfl
theorem chainV_bd (p q : Int) : 0 ≤ chainV (cols p q 4) ∧ chainV (cols p q 4) ≤ 4 := by
  have h1 := chn_bd (cols p q 4) (cols p q 4).length
  have h2 := cols_len p q 4
  unfold chainV
  omega
def hardK (l : List (Int × Int)) (i : Int) : Int := hardX (l.getD i.toNat (0, 0))
theorem hardK_at {l : List (Int × Int)} {i : Nat} {x : Int × Int} (h : l[i]? = some x) : hardK l (i : Int) = hardX x := by
  unfold hardK
  rw [Int.toNat_natCast, List.getD_eq_getElem?_getD, h]; rfl
/-- The first k exercises in their order. -/
def hoA (l : List (Int × Int)) : Nat → List Int
  | 0 => []
  | k + 1 => insL (hoA l k) (posL ((hoA l k).map (hardK l)) (hardK l k) (hoA l k).length) k
theorem hoA_zero (l : List (Int × Int)) : hoA l 0 = [] := rfl
theorem hoA_succ (l : List (Int × Int)) (k : Nat) : hoA l (k + 1) = insL (hoA l k) (posL ((hoA l k).map (hardK l)) (hardK l k) (hoA l k).length) k := rfl
theorem hoA_len (l : List (Int × Int)) (k : Nat) : (hoA l k).length = k := by
  induction k with
  | zero => rfl
  | succ k ih => rw [hoA_succ, length_insL, ih]
theorem hoA_mem (l : List (Int × Int)) (k : Nat) : ∀ o ∈ hoA l k, 0 ≤ o ∧ o < k := by
  induction k with
  | zero => intro o h; simp [hoA] at h
  | succ k ih =>
    intro o h
    rw [hoA_succ, mem_insL] at h
    rcases h with rfl | h
    · omega
    · have := ih o h; omega
def hoV (l : List (Int × Int)) : List Int := if sheetB l = true then hoA l l.length else []
theorem hoV_no {l : List (Int × Int)} (h : sheetB l = false) : hoV l = [] := by simp [hoV, h]
theorem hoV_yes {l : List (Int × Int)} (h : sheetB l = true) : hoV l = hoA l l.length := by simp [hoV, h]
theorem hoV_len (l : List (Int × Int)) : (hoV l).length ≤ 12 := by
  cases h : sheetB l
  · rw [hoV_no h]; simp
  · rw [hoV_yes h, hoA_len]; exact (sheetB_iff h).1
theorem key_at {L : List Int} {f : Int → Int} {m : Nat} {o : Int} (h : L[m]? = some o) : (L.map f).getD m 0 = f o := by
  rw [List.getD_eq_getElem?_getD, List.getElem?_map, h]; rfl
attribute [irreducible] hardX hardK hoA hoV

set_option maxRecDepth 100000 in
set_option maxHeartbeats 8000000 in
theorem byHardnessI_any (A : Option Addr) (c : Nat) (l : List (Int × Int)) (w : World) (hn : l.length ≤ 16777216) (h : RdT pairT w A l) :
    Calls Try.prog 39 #[.slice A l.length c] w (RetI w (hoV l) (sheetB l)) := by
  cases hs : sheetB l
  · rw [hoV_no hs]
    go_enter Try.func39, Try.ntmps39
    go_wp2_with (go_at_call 66; refine (isSheet_any A _ l _ hn h).mono ?_; rintro e w1 ⟨rfl, hb1⟩; rw [hs])
    go_ret2
    exact ⟨none, 0, rfl, OwnI.nil _ _, hb1⟩
  · rw [hoV_yes hs]
    obtain ⟨h12, hbd⟩ := sheetB_iff hs
    go_enter Try.func39, Try.ntmps39
    go_wp2_with (go_at_call 66; refine (isSheet_any A _ l _ hn h).mono ?_; rintro e w1 ⟨rfl, hb1⟩; rw [hs])
    go_loopw [4, 16] (fun o i wr => ∃ (k : Nat) (A' : Option Addr) (c' : Nat), k ≤ l.length ∧ i = .int .i64 k ∧ o = .slice A' (hoA l k).length c' ∧ OwnI wr w.heap.size (.slice A' (hoA l k).length c') (hoA l k) ∧ Below w.heap.size w wr) (fun _ i _ => l.length - (intOf i).toNat)
    case atStart => exact ⟨0, none, 0, by omega, rfl, by rw [hoA_zero]; rfl, by rw [hoA_zero]; exact OwnI.nil _ _, hb1⟩
    case round =>
      obtain ⟨k, A', c', hk, rfl, rfl, ho, hb⟩ := hrel
      clear hb1
      have hz := hb.size
      have hr := h.below hb (Nat.le_refl _)
      have hlk := hoA_len l k
      have hlk1 := Nat.le_of_eq hlk
      have hlk2 := Nat.le_of_eq hlk.symm
      clear hlk
      by_cases hlt : k < l.length
      · obtain ⟨b, off, p, q, rfl, hx, hlb, hc1, hc2⟩ := pair_at hr hlt
        have hpq := hbd k p q hx
        have HK := Lib.hid ((hardK_at hx).trans (hardX_at p q))
        have HS := Lib.hid (hoA_succ l k)
        have hch := chainV_bd p q
        have hcl4 := cols_len p q 4
        have hcb := cols_bd p q 4
        have hCol := fun W => carry_any p q W (by omega) (by omega) (by omega) (by omega)
        have hCh := fun A c W g => chainOf_any A c (cols p q 4) W hcl4 (fun i x hx => by have := hcb i x hx; omega) g
        generalize cols p q 4 = own at *
        have HCol := Lib.hid hCol
        have HCh := Lib.hid hCh
        clear hx hCol hCh hcb
        go_wp2_with (go_at_call 56; refine (HCol.out _).mono ?_; rintro e w2 ⟨Ao, co, rfl, hoo, hb2⟩)
        have hbA : Below w.heap.size w w2 := (hb.alloc hz _).trans (hb2.mono (by simp; omega))
        have hoA2 := (ho.alloc (.cells #[.int .i64 p, .int .i64 q] 45)).below hb2 (Nat.le_refl _)
        have hrA := h.below hbA (Nat.le_refl _)
        clear ho hr hb2
        have hzA := hbA.size
        go_wp2
        go_loopw [8, 9, 10] (fun z _ _ wy => ∃ kk : Nat, kk ≤ (hoA l k).length ∧ z = .int .i64 kk ∧ Hid (posL ((hoA l k).map (hardK l)) (hardK l k) (hoA l k).length = posL ((hoA l k).map (hardK l)) (hardK l k) kk) ∧ Below w2.heap.size w2 wy) (fun z _ _ _ => (intOf z).toNat)
        case atStart => exact ⟨(hoA l k).length, Nat.le_refl _, rfl, Lib.hid rfl, Below.refl _ _⟩
        case round =>
          obtain ⟨kk, hkk, rfl, E, hby⟩ := hrel
          have hzy := hby.size
          have hoB := hoA2.below hby (Nat.le_refl _)
          have hbB := hbA.trans (hby.mono hzA)
          have hooB := hoo.below hby (Nat.le_refl _)
          have hzB := hbB.size
          by_cases hk0 : kk = 0
          · have E2 := Lib.hid (show posL ((hoA l k).map (hardK l)) (hardK l k) (hoA l k).length = kk by rw [E.out, hk0, posL_zero])
            have hkz : kk ≤ 0 := by omega
            clear E hk0 hoo
            have HI := Lib.hid (show hoA l (k + 1) = insL (hoA l k) (kk) k by rw [HS.out, E2.out])
            go_wp2_with (at_builtin; refine wpList_app_int rfl _ _ rfl w.heap.size _ _ rfl (hoB) w.heap.size w (hbB) 0 1 1 rfl rfl (by omega) (hzB) (Nat.le_refl _) ?_; intro A1 c1 w1 hown1 hb1 hgr1)
            obtain ⟨g, rfl, hg, hgl⟩ := hown1.head (by simp)
            have hcl := hown1.cap.2.1
            have HO := Lib.hid hown1
            clear hown1 hgr1
            have j1 : IntKind.i64.wrap ((kk : Int) + 1) = ((kk : Int) + 1) := IntWalk.i64_in _ (by omega)
            have j2 : (0 : Int) ≤ (kk : Int) + 1 := by omega
            have j3 : (kk : Int) + 1 ≤ ((hoA l k).length : Int) + 1 := by omega
            have j4 : ((hoA l k).length : Int) + 1 ≤ (c1 : Int) := by omega
            have j5 : (0 : Int) ≤ (kk : Int) := by omega
            have j6 : (kk : Int) ≤ ((hoA l k).length : Int) + 1 := by omega
            have j7 : ((kk : Int) + 1).toNat = kk + 1 := by omega
            have j8 : (kk : Int).toNat = kk := by omega
            go_still_tail 7, (by kernel_rfl)
            change wpList _ _ _ _ _ w1.drew
            clear j1 j2 j3 j5 j6 j7 j8
            refine wpList_insI rfl _ _ rfl w.heap.size g _ _ (kk) (hoA l k) 0 (show OwnI w1.drew w.heap.size _ _ from HO.out) (by omega) _ _ _ _ _ _ rfl rfl (by omega) (by omega) (fun hh => ⟨if_neg (by omega), if_neg (by omega)⟩) ?_
            intro w2 y hcell hfro HSet HG
            have hb2 : Below w.heap.size w w2 := hb1.drew.grown HG.out (by have := hb1.size; show w.heap.size ≤ w1.heap.size; exact this) (fun i hi => by cases hi; exact hg)
            clear j4
            go_wp2
            all_goals
              go_roundw
              case rel =>
                obtain ⟨ho, hgr⟩ := HSet.out (k : Int)
                rw [← HI.out] at ho
                exact ⟨k + 1, _, _, by omega, by go_num, by rw [hoA_len l (k + 1), hoA_len l k], by rw [hoA_len l (k + 1)]; rw [hoA_len l k] at ho; first | exact ho | (rw [show kk + 1 = c1 by omega]; exact ho), hb2.grown hgr hb2.size (fun i hi => by cases hi; exact hg)⟩
              case measure => simp [intOf]; omega
          · obtain ⟨m, rfl⟩ : ∃ m, kk = m + 1 := ⟨kk - 1, by omega⟩
            clear hk0
            obtain ⟨ob, ooff, o, rfl, hoo', holt, hoc⟩ := hoB.rd.at_ (k := m) (by omega)
            have hom := hoA_mem l k o (List.mem_of_getElem? hoo')
            obtain ⟨q', rfl⟩ : ∃ q' : Nat, o = (q' : Int) := ⟨o.toNat, by omega⟩
            obtain ⟨b', off', p2, q2, hA', hx2, hlb2, hd1, hd2⟩ := pair_at (hrA.below hby (Nat.le_refl _)) (k := q') (by omega)
            injection hA' with hA'
            injection hA' with e1 e2 _
            subst e1 e2
            have hpq2 := hbd q' p2 q2 hx2
            have hkey := (key_at (f := hardK l) hoo').trans ((hardK_at hx2).trans (hardX_at p2 q2))
            have hch2 := chainV_bd p2 q2
            have hcl2 := cols_len p2 q2 4
            have hcb2 := cols_bd p2 q2 4
            have HCol2 := Lib.hid (fun W => carry_any p2 q2 W (by omega) (by omega) (by omega) (by omega))
            have HCh2 := Lib.hid (fun A c W g => chainOf_any A c (cols p2 q2 4) W hcl2 (fun i x hx => by have := hcb2 i x hx; omega) g)
            generalize cols p2 q2 4 = oth at *
            have HKE := Lib.hid hkey
            clear hkey hx2 hcb2 hoo'
            have hdn : hardK l k < ((hoA l k).map (hardK l)).getD m 0 ∨ ¬ hardK l k < ((hoA l k).map (hardK l)).getD m 0 := by omega
            go_wp2_with fail
            refine (HCol2.out _).mono ?_
            rintro e w3 ⟨Ap, cp, rfl, hop, hb3⟩
            have hby3 : Below w2.heap.size w2 w3 := (hby.alloc hzy _).trans (hb3.mono (by simp; omega))
            have hz3 := hby3.size
            have hk1 := HK.out
            have hk2 := HKE.out
            clear hb3
            by_cases hlo : oth.length < own.length
            · have E2 := Lib.hid (show posL ((hoA l k).map (hardK l)) (hardK l k) (hoA l k).length = m + 1 by rw [E.out, posL_stop (by omega)])
              have d1 : decide (oth.length < own.length) = true := decide_eq_true hlo
              have hoC := hoA2.below hby3 (Nat.le_refl _)
              have hbC := hbA.trans (hby3.mono hzA)
              have hzC := hbC.size
              clear E hk1 hk2 HK HKE hoo hop hlo
              have HI := Lib.hid (show hoA l (k + 1) = insL (hoA l k) (m + 1) k by rw [HS.out, E2.out])
              go_wp2_with (at_builtin; refine wpList_app_int rfl _ _ rfl w.heap.size _ _ rfl (hoC) w.heap.size w (hbC) 0 1 1 rfl rfl (by omega) (hzC) (Nat.le_refl _) ?_; intro A1 c1 w1 hown1 hb1 hgr1)
              obtain ⟨g, rfl, hg, hgl⟩ := hown1.head (by simp)
              have hcl := hown1.cap.2.1
              have HO := Lib.hid hown1
              clear hown1 hgr1
              have j1 : IntKind.i64.wrap (((m : Int) + 1) + 1) = (((m : Int) + 1) + 1) := IntWalk.i64_in _ (by omega)
              have j2 : (0 : Int) ≤ ((m : Int) + 1) + 1 := by omega
              have j3 : ((m : Int) + 1) + 1 ≤ ((hoA l k).length : Int) + 1 := by omega
              have j4 : ((hoA l k).length : Int) + 1 ≤ (c1 : Int) := by omega
              have j5 : (0 : Int) ≤ ((m : Int) + 1) := by omega
              have j6 : ((m : Int) + 1) ≤ ((hoA l k).length : Int) + 1 := by omega
              have j7 : (((m : Int) + 1) + 1).toNat = m + 1 + 1 := by omega
              have j8 : ((m : Int) + 1).toNat = m + 1 := by omega
              go_still_tail 7, (by kernel_rfl)
              change wpList _ _ _ _ _ w1.drew
              clear j1 j2 j3 j5 j6 j7 j8
              refine wpList_insI rfl _ _ rfl w.heap.size g _ _ (m + 1) (hoA l k) 0 (show OwnI w1.drew w.heap.size _ _ from HO.out) (by omega) _ _ _ _ _ _ rfl rfl (by omega) (by omega) (fun hh => ⟨if_neg (by omega), if_neg (by omega)⟩) ?_
              intro w2 y hcell hfro HSet HG
              have hb2 : Below w.heap.size w w2 := hb1.drew.grown HG.out (by have := hb1.size; show w.heap.size ≤ w1.heap.size; exact this) (fun i hi => by cases hi; exact hg)
              clear j4
              go_wp2
              all_goals
                go_roundw
                case rel =>
                  obtain ⟨ho, hgr⟩ := HSet.out (k : Int)
                  rw [← HI.out] at ho
                  exact ⟨k + 1, _, _, by omega, by go_num, by rw [hoA_len l (k + 1), hoA_len l k], by rw [hoA_len l (k + 1)]; rw [hoA_len l k] at ho; first | exact ho | (rw [show m + 1 + 1 = c1 by omega]; exact ho), hb2.grown hgr hb2.size (fun i hi => by cases hi; exact hg)⟩
                case measure => simp [intOf]; omega
            by_cases hle : oth.length = own.length
            · have d1 : decide (oth.length < own.length) = false := decide_eq_false hlo
              have d2 : (oth.length == own.length) = true := by simp [hle]
              have d2' : ((oth.length : Int) == (own.length : Int)) = true := by simp [hle]
              by_cases hcc : chainV oth ≤ chainV own
              · have E2 := Lib.hid (show posL ((hoA l k).map (hardK l)) (hardK l k) (hoA l k).length = m + 1 by rw [E.out, posL_stop (by omega)])
                have d3 : decide (chainV oth ≤ chainV own) = true := decide_eq_true hcc
                clear E hk1 hk2 HK HKE hlo hle
                generalize chainV oth = x1 at *
                generalize chainV own = x2 at *
                go_wp2_with fail
                refine (HCh2.out Ap cp _ hop.rd).mono ?_
                rintro e w4 ⟨rfl, hb4⟩
                have hby4 := hby3.trans (hb4.mono hz3)
                have hz4 := hby4.size
                go_wp2_with fail
                refine (HCh.out Ao co _ ((hoo.below hby4 (Nat.le_refl _)).rd)).mono ?_
                rintro e w5 ⟨rfl, hb5⟩
                have hby5 := hby4.trans (hb5.mono hz4)
                have hz5 := hby5.size
                have hoC := hoA2.below hby5 (Nat.le_refl _)
                have hbC := hbA.trans (hby5.mono hzA)
                have hzC := hbC.size
                clear hoo hop hb4 hb5
                have HI := Lib.hid (show hoA l (k + 1) = insL (hoA l k) (m + 1) k by rw [HS.out, E2.out])
                go_wp2_with (at_builtin; refine wpList_app_int rfl _ _ rfl w.heap.size _ _ rfl (hoC) w.heap.size w (hbC) 0 1 1 rfl rfl (by omega) (hzC) (Nat.le_refl _) ?_; intro A1 c1 w1 hown1 hb1 hgr1)
                obtain ⟨g, rfl, hg, hgl⟩ := hown1.head (by simp)
                have hcl := hown1.cap.2.1
                have HO := Lib.hid hown1
                clear hown1 hgr1
                have j1 : IntKind.i64.wrap (((m : Int) + 1) + 1) = (((m : Int) + 1) + 1) := IntWalk.i64_in _ (by omega)
                have j2 : (0 : Int) ≤ ((m : Int) + 1) + 1 := by omega
                have j3 : ((m : Int) + 1) + 1 ≤ ((hoA l k).length : Int) + 1 := by omega
                have j4 : ((hoA l k).length : Int) + 1 ≤ (c1 : Int) := by omega
                have j5 : (0 : Int) ≤ ((m : Int) + 1) := by omega
                have j6 : ((m : Int) + 1) ≤ ((hoA l k).length : Int) + 1 := by omega
                have j7 : (((m : Int) + 1) + 1).toNat = m + 1 + 1 := by omega
                have j8 : ((m : Int) + 1).toNat = m + 1 := by omega
                go_still_tail 7, (by kernel_rfl)
                change wpList _ _ _ _ _ w1.drew
                clear j1 j2 j3 j5 j6 j7 j8
                refine wpList_insI rfl _ _ rfl w.heap.size g _ _ (m + 1) (hoA l k) 0 (show OwnI w1.drew w.heap.size _ _ from HO.out) (by omega) _ _ _ _ _ _ rfl rfl (by omega) (by omega) (fun hh => ⟨if_neg (by omega), if_neg (by omega)⟩) ?_
                intro w2 y hcell hfro HSet HG
                have hb2 : Below w.heap.size w w2 := hb1.drew.grown HG.out (by have := hb1.size; show w.heap.size ≤ w1.heap.size; exact this) (fun i hi => by cases hi; exact hg)
                clear j4
                go_wp2
                all_goals
                  go_roundw
                  case rel =>
                    obtain ⟨ho, hgr⟩ := HSet.out (k : Int)
                    rw [← HI.out] at ho
                    exact ⟨k + 1, _, _, by omega, by go_num, by rw [hoA_len l (k + 1), hoA_len l k], by rw [hoA_len l (k + 1)]; rw [hoA_len l k] at ho; first | exact ho | (rw [show m + 1 + 1 = c1 by omega]; exact ho), hb2.grown hgr hb2.size (fun i hi => by cases hi; exact hg)⟩
                  case measure => simp [intOf]; omega
              · have E2 := Lib.hid (show posL ((hoA l k).map (hardK l)) (hardK l k) (hoA l k).length = posL ((hoA l k).map (hardK l)) (hardK l k) m by rw [E.out, posL_down (by omega)])
                have d3 : decide (chainV oth ≤ chainV own) = false := decide_eq_false hcc
                clear E hk1 hk2 HK HKE hlo hle
                generalize chainV oth = x1 at *
                generalize chainV own = x2 at *
                go_wp2_with fail
                refine (HCh2.out Ap cp _ hop.rd).mono ?_
                rintro e w4 ⟨rfl, hb4⟩
                have hby4 := hby3.trans (hb4.mono hz3)
                have hz4 := hby4.size
                go_wp2_with fail
                refine (HCh.out Ao co _ ((hoo.below hby4 (Nat.le_refl _)).rd)).mono ?_
                rintro e w5 ⟨rfl, hb5⟩
                have hby5 := hby4.trans (hb5.mono hz4)
                have hz5 := hby5.size
                clear hoo hop hb4 hb5
                go_wp2
                go_roundw
                case rel => exact ⟨m, by omega, by first | rfl | go_num, E2, hby5⟩
                case measure => simp [intOf] <;> omega
            · have d1 : decide (oth.length < own.length) = false := decide_eq_false hlo
              have d2 : (oth.length == own.length) = false := by simp [hle]
              have d2' : ((oth.length : Int) == (own.length : Int)) = false := by simp; omega
              have E2 := Lib.hid (show posL ((hoA l k).map (hardK l)) (hardK l k) (hoA l k).length = posL ((hoA l k).map (hardK l)) (hardK l k) m by rw [E.out, posL_down (by omega)])
              clear E hk1 hk2 HK HKE hlo hle hoo hop
              go_wp2
              go_roundw
              case rel => exact ⟨m, by omega, by first | rfl | go_num, E2, hby3⟩
              case measure => simp [intOf] <;> omega
      · obtain rfl : k = l.length := by omega
        go_wp2
        go_ret2
        exact ⟨A', c', rfl, ho, hb⟩
end Go.Proofs.Ytlmcnlakgjhalaa

