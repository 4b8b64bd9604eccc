/-
  The order by hardness: the reference's contract.
-/
import Derived.Test.YtlmcnlakgjhalaaExM
import Derived.Deep.RegionHeld3
namespace Go.Proofs.Ytlmcnlakgjhalaa
open Go.RowKit
attribute [local go_sem ↓] Go.wp_at_zero Go.wp_at_succ

set_option maxRecDepth 100000 in
set_option maxHeartbeats 8000000 in
theorem byHardnessS_any (A : Option Addr) (c : Nat) (l : List (Int × Int)) (w : World) (hn : l.length ≤ 16777216) (h : RdT pairT w A l) :
    Calls Try.prog 38 #[.slice A l.length c] w (RetI w (hoV l) (sheetB l)) := by
  have hG := fun W (g : RdT pairT W A l) => l20Sheet_any A c l W hn g
  have he : OwnI (w.alloc (.cells #[] 3)) w.heap.size (.slice (some ⟨w.heap.size, 0, none⟩) 0 0) [] := World.ownsRow_lit w #[] 0 (Nat.le_refl _) (by unfold maxLen; omega) rfl
  cases hs : sheetB l
  · rw [hoV_no hs]
    rw [hs] at hG
    go_enter Try.func38, Try.ntmps38
    go_wp2_with fail
    refine (hG _ (h.below ((Below.refl _ _).alloc (Nat.le_refl _) _) (Nat.le_refl _))).mono ?_
    rintro e w1 ⟨rfl, hb1⟩
    have hb0 : Below w.heap.size w w1 := ((Below.refl _ _).alloc (Nat.le_refl _) _).trans (hb1.mono (by simp))
    have ho := he.below hb1 (Nat.le_refl _)
    go_wp2
    go_ret2
    exact ⟨_, 0, rfl, ho, hb0⟩
  · rw [hoV_yes hs]
    rw [hs] at hG
    obtain ⟨h12, hbd⟩ := sheetB_iff hs
    go_enter Try.func38, Try.ntmps38
    go_wp2_with fail
    refine (hG _ (h.below ((Below.refl _ _).alloc (Nat.le_refl _) _) (Nat.le_refl _))).mono ?_
    rintro e w1 ⟨rfl, hb1⟩
    have hb0 : Below w.heap.size w w1 := ((Below.refl _ _).alloc (Nat.le_refl _) _).trans (hb1.mono (by simp))
    have ho := he.below hb1 (Nat.le_refl _)
    clear hG hb1 he
    go_wp2
    go_loopw [4, 5] (fun o i wr => ∃ (k : Nat) (A' : Option Addr) (c' : Nat), k ≤ l.length ∧ i = .int .i64 k ∧ o = .slice A' (hoA l k).length c' ∧ OwnI wr w.heap.size (.slice A' (hoA l k).length c') (hoA l k) ∧ (∃ ad, A' = some ad) ∧ Below w.heap.size w wr) (fun _ i _ => l.length - (intOf i).toNat)
    case atStart => exact ⟨0, _, 0, by omega, rfl, by rw [hoA_zero]; rfl, by rw [hoA_zero]; exact ho, ⟨_, rfl⟩, hb0⟩
    case round =>
      obtain ⟨k, A', c', hk, rfl, rfl, ho, ⟨ad, rfl⟩, hb⟩ := hrel
      clear hb0
      have hz := hb.size
      have hr := h.below hb (Nat.le_refl _)
      have hlk := hoA_len l k
      have hlk1 := Nat.le_of_eq hlk
      have hlk2 := Nat.le_of_eq hlk.symm
      clear hlk
      by_cases hlt : k < l.length
      · obtain ⟨b, off, p, q, rfl, hx, hlb, hc1, hc2⟩ := pair_at hr hlt
        have hpq := hbd k p q hx
        have HK := Lib.hid (hardK_at hx)
        have HS := Lib.hid (hoA_succ l k)
        have HH := Lib.hid (fun W => l20Hard_any p q W (by omega) (by omega) (by omega) (by omega))
        have hadr : ∃ g, ad = ⟨g, 0, none⟩ ∧ w.heap.size ≤ g ∧ g < wr.heap.size := by
          rcases ho.2 with ⟨hv, _⟩ | ⟨g, cap, cur, hv, hg, hh, _⟩
          · cases hv
          · injection hv with hv _ _
            injection hv with hv
            exact ⟨g, hv, hg, (Array.getElem?_eq_some_iff.1 hh).1⟩
        obtain ⟨g, rfl, hg0, hgl⟩ := hadr
        have hcap := ho.cap.2.1
        clear hx
        obtain ⟨wq, rfl⟩ : ∃ wq : World, wq = wr := ⟨_, rfl⟩
        go_wp2
        go_loopw [6] (fun z wy => ∃ kk : Nat, kk ≤ (hoA l k).length ∧ z = .int .i64 kk ∧ Hid (posL ((hoA l k).map (hardK l)) (hardK l k) (hoA l k).length = posL ((hoA l k).map (hardK l)) (hardK l k) kk) ∧ Below wq.heap.size wq wy) (fun z _ => (intOf z).toNat)
        case atStart => exact ⟨(hoA l k).length, Nat.le_refl _, rfl, Lib.hid rfl, Below.refl _ _⟩
        case round =>
          obtain ⟨kk, hkk, rfl, E, hby⟩ := hrel
          have hzy := hby.size
          have hoT := ho.below hby (Nat.le_refl _)
          have hbT := hb.trans (hby.mono hz)
          by_cases hk0 : kk = 0
          · have E2 := Lib.hid (show posL ((hoA l k).map (hardK l)) (hardK l k) (hoA l k).length = kk by rw [E.out, hk0, posL_zero])
            have d0 : decide (0 < kk) = false := decide_eq_false (by omega)
            clear E hk0
            go_wp2_with fail
            go_quiet (fail)
            obtain ⟨wt, hwt⟩ : ∃ wt : World, wt = wr.drewN nq := ⟨_, rfl⟩
            have hoT : OwnI wt w.heap.size (.slice (some ⟨g, 0, none⟩) (hoA l k).length c') (hoA l k) := by rw [hwt]; exact hoT
            have hbT : Below wq.heap.size wq wt := by rw [hwt]; exact below_drewN hby nq
            rw [← hwt]
            clear hwt
            have T0 : RdI wt (some ⟨g, 0, none⟩) ((hoA l k).take (kk)) := rd_int.1 ((rd_int.2 hoT.rd).take intT (kk))
            have T1 : ∀ X, ((kk) < (hoA l k).length → X = some ⟨g, kk, none⟩) → RdT intT wt X ((hoA l k).drop (kk)) := fun X hX => RdT.drop intT (rd_int.2 hoT.rd) (kk) X (fun hh => by rw [hX hh]; show _ = some (⟨g, 0 + (kk) * 1, none⟩ : Addr); rw [Nat.mul_one, Nat.zero_add])
            have htl : ((hoA l k).take (kk)).length = kk := by rw [List.length_take]; omega
            have HI := Lib.hid (show hoA l (k + 1) = (hoA l k).take (kk) ++ [(k : Int)] ++ (hoA l k).drop (kk) by rw [HS.out, E2.out]; unfold insL; simp)
            have hgt : g < wt.heap.size := Nat.lt_of_lt_of_le hgl hbT.size
            have j1 : (0 : Int) ≤ (kk : Int) := by omega
            have j2 : (kk : Int) ≤ ((hoA l k).length : Int) := by omega
            have j3 : (kk : Int) ≤ (c' : Int) := by omega
            have j4 : ((hoA l k).length : Int) ≤ (c' : Int) := by omega
            have j5 : (kk : Int).toNat = kk := by omega
            have hzT := hbT.size
            have hTL := Lib.hid htl
            clear htl
            rcases (show c' ≤ kk ∨ ¬ c' = kk by omega) with hcc | hcc
            all_goals
              go_wp2_with fail
              go_region_held3 (fun _ => True) (trivial) (first
                | (go_at_call 69; refine (l1Own_any _ _ _ ((hoA l k).take (kk)) _ (by rw [List.length_take]; omega) (by rw [List.length_take]; omega) (by first | exact T0 | exact RdI.below (w := wt.drew) T0 ((Below.refl _ _).alloc (Nat.le_refl _) _) (Nat.le_refl _))).mono ?_; rintro e w5 ⟨A5, c5, rfl, ho5, hb5⟩; have ho5' : OwnI w5 _ (.slice A5 (kk) c5) ((hoA l k).take (kk)) := (by have h := ho5; rwa [hTL.out] at h))
                | (refine step_spreadT intT rfl _ _ (by rfl) wt.heap.size _ _ (by rfl) ho6 wt.heap.size hb6 _ ((hoA l k).drop (kk)) _ _ (by rw [List.length_drop]) (by rfl) (by exact (T1 _ (fun hh => by first | rfl | omega)).below hb6 (Nat.le_refl _)) (by rw [List.length_append, List.length_drop, List.length_take]; simp; omega) (by have := hb6.size; omega) (Nat.le_refl _) ?_; intro A7 c7 w7 ho7 hb7 hgr7)
                | (refine step_spreadT intT rfl _ _ (by rfl) wt.heap.size (.slice A5 (kk) c5) ((hoA l k).take (kk)) (by first | rfl | (show Value.slice _ _ _ = Value.slice _ _ _; rw [hTL.out])) (by first | exact own_int.2 (OwnI.alloc ho5' _) | exact own_int.2 (ho5'.mono (by simp))) wt.heap.size (by first | exact (((Below.refl _ _).drew.trans hb5).alloc (by have := hb5.size; exact this) _) | exact (((Below.refl wt.heap.size wt).drew.alloc (Nat.le_refl _) _).trans (hb5.mono (by simp)))) _ [(k : Int)] _ _ rfl (by rfl) (by first | exact one_new w5 _ | exact (one_new wt.drew _).below hb5 (Nat.le_refl _)) (by rw [List.length_take]; simp; omega) (by have := hb5.size; simp at this ⊢; omega) (Nat.le_refl _) ?_; intro A6 c6 w6 ho6 hb6 hgr6))
              all_goals
                have ho8 := own_int.1 ho7
                have HL := Lib.hid (show (kk) + 1 + ((hoA l k).length - (kk)) = k + 1 by omega)
                have hl8 : ((hoA l k).take (kk) ++ [(k : Int)] ++ (hoA l k).drop (kk)).length = k + 1 := by rw [← HI.out, hoA_len]
                obtain ⟨g8, rfl, hg8, _⟩ := OwnI.head ho8 (by rw [hl8]; omega)
                have HF : Hid (OwnI w7 wt.heap.size (.slice (some ⟨g8, 0, none⟩) (k + 1) c7) (hoA l (k + 1))) := Lib.hid (by rw [HI.out]; rw [show ((hoA l k).take (kk) ++ [(k : Int)]).length + ((hoA l k).drop (kk)).length = k + 1 by rw [← List.length_append]; exact hl8] at ho8; exact ho8)
                have hbF := hb.trans ((hbT.trans (hb7.mono hzT)).mono hz)
                clear T0 T1 ho5 ho5' ho6 ho7 ho8 hl8 hb5 hb6 hb7 hgr6 hgr7
                go_wp2
                go_roundw
                case rel => exact ⟨k + 1, _, c7, by omega, by go_num, by rw [hoA_len l (k + 1), HL.out], by rw [hoA_len l (k + 1)]; exact HF.out.mono (Nat.le_trans hz hzT), ⟨_, rfl⟩, hbF⟩
                case measure => simp [intOf]; omega
          · obtain ⟨m, rfl⟩ : ∃ m, kk = m + 1 := ⟨kk - 1, by omega⟩
            clear hk0
            obtain ⟨ob, ooff, o, hAo, hoo', holt, hoc⟩ := hoT.rd.at_ (k := m) (by omega)
            injection hAo with hAo
            injection hAo with e1 e2 _
            subst e1 e2
            have hom := hoA_mem l k o (List.mem_of_getElem? hoo')
            obtain ⟨q', rfl⟩ : ∃ q' : Nat, o = (q' : Int) := ⟨o.toNat, by omega⟩
            have hzq := hbT.size
            obtain ⟨b', off', p2, q2, hA', hx2, hlb2, hd1, hd2⟩ := pair_at (h.below hbT (Nat.le_refl _)) (k := q') (by omega)
            injection hA' with hA'
            injection hA' with e1 e2 _
            subst e1 e2
            have hpq2 := hbd q' p2 q2 hx2
            have HKE := Lib.hid ((key_at (f := hardK l) hoo').trans (hardK_at hx2))
            have HH2 := Lib.hid (fun W => l20Hard_any p2 q2 W (by omega) (by omega) (by omega) (by omega))
            have hf1 := (hby.cell (p := ⟨_, off + k * 2, none⟩) hlb).trans hc1
            have hf2 := (hby.cell (p := ⟨_, off + k * 2 + 1, none⟩) hlb).trans hc2
            rw [Nat.zero_add] at hoc
            have hx0 := cell_regrown hoc
            have hx3 := cell_regrown hd1
            have hx4 := cell_regrown hd2
            have hx5 := cell_regrown hf1
            have hx6 := cell_regrown hf2
            clear hx2 hoo'
            generalize hardX (p, q) = X1 at *
            generalize hardX (p2, q2) = X2 at *
            have d0 : decide (0 < m + 1) = true := decide_eq_true (by omega)
            have w1' : IntKind.i64.wrap (((m : Int) + 1) - 1) = m := by rw [IntWalk.i64_in _ (by omega)]; omega
            have b1' : (0 : Int) ≤ m := by omega
            have b2' : (m : Int) < ((hoA l k).length : Int) := by omega
            have b3' : (q' : Int) < (l.length : Int) := by omega
            have b4' : (k : Int) < (l.length : Int) := by omega
            have b5' : (0 : Int) ≤ q' := by omega
            have b6' : (0 : Int) ≤ k := by omega
            by_cases hlo : X1 < X2
            · have d1 : decide (X1 < X2) = true := decide_eq_true hlo
              have E2 := Lib.hid (show posL ((hoA l k).map (hardK l)) (hardK l k) (hoA l k).length = posL ((hoA l k).map (hardK l)) (hardK l k) m by rw [E.out, posL_down (by rw [HKE.out, HK.out]; exact hlo)])
              clear E HKE hoT hoc hd1 hd2 hf1 hf2 hc1 hc2
              go_wp2_with fail
              refine wp_region_quiet_below (by kernel_rfl) (by kernel_rfl) ?_
              repeat (go_big_quiet_step ((first | (go_at_call 68; with_reducible exact Calls.regrown_of (HH2.out _)) | (go_at_call 68; exact Calls.regrown_of (HH.out _)))))
              refine wpQuiet_nil ?_
              intro w2 hw'
              have hb2 := below_of_class hw'
              clear hw'
              have hby2 := hby.trans (hb2.mono hzy)
              go_wp2
              go_roundw
              case rel => exact ⟨m, by omega, by first | rfl | go_num, E2, hby2⟩
              case measure => simp [intOf] <;> omega
            · have d1 : decide (X1 < X2) = false := decide_eq_false hlo
              have E2 := Lib.hid (show posL ((hoA l k).map (hardK l)) (hardK l k) (hoA l k).length = m + 1 by rw [E.out, posL_stop (by rw [HKE.out, HK.out]; exact hlo)])
              clear E HKE hoc hd1 hd2 hf1 hf2 hc1 hc2
              go_wp2_with fail
              refine wp_region_quiet_below (by kernel_rfl) (by kernel_rfl) ?_
              repeat (go_big_quiet_step ((first | (go_at_call 68; with_reducible exact Calls.regrown_of (HH2.out _)) | (go_at_call 68; exact Calls.regrown_of (HH.out _)))))
              refine wpQuiet_nil ?_
              intro wt hw'
              have hb2 := below_of_class hw'
              clear hw'
              have hoT := hoT.below hb2 (Nat.le_refl _)
              have hbT : Below wq.heap.size wq wt := hby.trans (hb2.mono hzy)
              clear hx0 hx3 hx4 hx5 hx6 hb2
              have T0 : RdI wt (some ⟨g, 0, none⟩) ((hoA l k).take (m + 1)) := rd_int.1 ((rd_int.2 hoT.rd).take intT (m + 1))
              have T1 : ∀ X, ((m + 1) < (hoA l k).length → X = some ⟨g, m + 1, none⟩) → RdT intT wt X ((hoA l k).drop (m + 1)) := fun X hX => RdT.drop intT (rd_int.2 hoT.rd) (m + 1) X (fun hh => by rw [hX hh]; show _ = some (⟨g, 0 + (m + 1) * 1, none⟩ : Addr); rw [Nat.mul_one, Nat.zero_add])
              have htl : ((hoA l k).take (m + 1)).length = m + 1 := by rw [List.length_take]; omega
              have HI := Lib.hid (show hoA l (k + 1) = (hoA l k).take (m + 1) ++ [(k : Int)] ++ (hoA l k).drop (m + 1) by rw [HS.out, E2.out]; unfold insL; simp)
              have hgt : g < wt.heap.size := Nat.lt_of_lt_of_le hgl hbT.size
              have j1 : (0 : Int) ≤ ((m : Int) + 1) := by omega
              have j2 : ((m : Int) + 1) ≤ ((hoA l k).length : Int) := by omega
              have j3 : ((m : Int) + 1) ≤ (c' : Int) := by omega
              have j4 : ((hoA l k).length : Int) ≤ (c' : Int) := by omega
              have j5 : ((m : Int) + 1).toNat = m + 1 := by omega
              have hzT := hbT.size
              have hTL := Lib.hid htl
              clear htl
              rcases (show c' ≤ m + 1 ∨ ¬ c' = m + 1 by omega) with hcc | hcc
              all_goals
                go_wp2_with fail
                go_region_held3 (fun _ => True) (trivial) (first
                  | (go_at_call 69; refine (l1Own_any _ _ _ ((hoA l k).take (m + 1)) _ (by rw [List.length_take]; omega) (by rw [List.length_take]; omega) (by first | exact T0 | exact RdI.below (w := wt.drew) T0 ((Below.refl _ _).alloc (Nat.le_refl _) _) (Nat.le_refl _))).mono ?_; rintro e w5 ⟨A5, c5, rfl, ho5, hb5⟩; have ho5' : OwnI w5 _ (.slice A5 (m + 1) c5) ((hoA l k).take (m + 1)) := (by have h := ho5; rwa [hTL.out] at h))
                  | (refine step_spreadT intT rfl _ _ (by rfl) wt.heap.size _ _ (by rfl) ho6 wt.heap.size hb6 _ ((hoA l k).drop (m + 1)) _ _ (by rw [List.length_drop]) (by rfl) (by exact (T1 _ (fun hh => by first | rfl | omega)).below hb6 (Nat.le_refl _)) (by rw [List.length_append, List.length_drop, List.length_take]; simp; omega) (by have := hb6.size; omega) (Nat.le_refl _) ?_; intro A7 c7 w7 ho7 hb7 hgr7)
                  | (refine step_spreadT intT rfl _ _ (by rfl) wt.heap.size (.slice A5 (m + 1) c5) ((hoA l k).take (m + 1)) (by first | rfl | (show Value.slice _ _ _ = Value.slice _ _ _; rw [hTL.out])) (by first | exact own_int.2 (OwnI.alloc ho5' _) | exact own_int.2 (ho5'.mono (by simp))) wt.heap.size (by first | exact (((Below.refl _ _).drew.trans hb5).alloc (by have := hb5.size; exact this) _) | exact (((Below.refl wt.heap.size wt).drew.alloc (Nat.le_refl _) _).trans (hb5.mono (by simp)))) _ [(k : Int)] _ _ rfl (by rfl) (by first | exact one_new w5 _ | exact (one_new wt.drew _).below hb5 (Nat.le_refl _)) (by rw [List.length_take]; simp; omega) (by have := hb5.size; simp at this ⊢; omega) (Nat.le_refl _) ?_; intro A6 c6 w6 ho6 hb6 hgr6))
                all_goals
                  have ho8 := own_int.1 ho7
                  have HL := Lib.hid (show (m + 1) + 1 + ((hoA l k).length - (m + 1)) = k + 1 by omega)
                  have hl8 : ((hoA l k).take (m + 1) ++ [(k : Int)] ++ (hoA l k).drop (m + 1)).length = k + 1 := by rw [← HI.out, hoA_len]
                  obtain ⟨g8, rfl, hg8, _⟩ := OwnI.head ho8 (by rw [hl8]; omega)
                  have HF : Hid (OwnI w7 wt.heap.size (.slice (some ⟨g8, 0, none⟩) (k + 1) c7) (hoA l (k + 1))) := Lib.hid (by rw [HI.out]; rw [show ((hoA l k).take (m + 1) ++ [(k : Int)]).length + ((hoA l k).drop (m + 1)).length = k + 1 by rw [← List.length_append]; exact hl8] at ho8; exact ho8)
                  have hbF := hb.trans ((hbT.trans (hb7.mono hzT)).mono hz)
                  clear T0 T1 ho5 ho5' ho6 ho7 ho8 hl8 hb5 hb6 hb7 hgr6 hgr7
                  go_wp2
                  go_roundw
                  case rel => exact ⟨k + 1, _, c7, by omega, by go_num, by rw [hoA_len l (k + 1), HL.out], by rw [hoA_len l (k + 1)]; exact HF.out.mono (Nat.le_trans hz hzT), ⟨_, rfl⟩, hbF⟩
                  case measure => simp [intOf]; omega
      · obtain rfl : k = l.length := by omega
        go_wp2
        go_ret2
        exact ⟨_, c', rfl, ho, hb⟩
end Go.Proofs.Ytlmcnlakgjhalaa
