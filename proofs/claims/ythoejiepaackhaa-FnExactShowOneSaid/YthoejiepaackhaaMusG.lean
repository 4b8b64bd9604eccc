/-
  Exhibits by their years, of the reference: the contract. (Printed by gen_musF.py.)
-/
import Derived.Test.YthoejiepaackhaaMusE
import Derived.Test.YthoejiepaackhaaApp3
import Derived.Lib.QuietBelow

namespace Go.Proofs.Ythoejiepaackhaa
open Go.RowKit

attribute [local go_sem ↓] Go.wp_at_zero Go.wp_at_succ
set_option maxRecDepth 100000 in
set_option maxHeartbeats 16000000 in
theorem l22Order_any (A : Option Addr) (c : Nat) (l : List ExhibitV) (w : World) (hn : l.length ≤ 900) (h : RdT exhibitT w A l) :
    Calls Try.prog 51 #[.slice A l.length c] w fun e w' => ∃ A' c', e = .returned (.slice A' (agV l).length c') ∧ OwnT exhibitT w' w.heap.size (.slice A' (agV l).length c') (agV l) ∧ Below w.heap.size w w' := by
  have HLEN := Lib.hid (agA_len l)
  have HS := Lib.hid (fun k x (hx : l[k]? = some x) => agA_succ hx)
  have H0 := Lib.hid (agA_zero l)
  have HV := Lib.hid (agV_eq l)
  generalize agA l = G at *
  generalize agV l = R at *
  have he := ownT_e0 exhibitT w w.heap.size (Nat.le_refl _)
  have hbe : Below w.heap.size w (w.alloc (.cells #[] 26)) := (Below.refl _ _).alloc (Nat.le_refl _) _
  go_enter Try.func51, Try.ntmps51
  go_wp2
  go_loopw [3, 4] (fun o i wr => ∃ (k g c' : Nat), k ≤ l.length ∧ i = .int .i64 k ∧ o = .slice (some ⟨g, 0, none⟩) (G k).length c' ∧ OwnT exhibitT wr w.heap.size (.slice (some ⟨g, 0, none⟩) (G k).length c') (G k) ∧ Below w.heap.size w wr) (fun _ i _ => l.length - (intOf i).toNat)
  case atStart => exact ⟨0, _, 0, by omega, rfl, by rw [H0.out]; rfl, by rw [H0.out]; exact he, hbe⟩
  case round =>
    obtain ⟨k, g, c', hk, rfl, rfl, ho, hb⟩ := hrel
    clear he hbe
    have hz := hb.size
    have hlk1 : (G k).length ≤ k := Nat.le_of_eq (HLEN.out k hk)
    by_cases hlt : k < l.length
    · obtain ⟨b, off, id_, land, made, upper, lower, rods, case_, rfl, hx, hlb, hc0, hc1, hc2, hc3, hc4, hc5, hc6⟩ := exhibitT_at (h.below hb (Nat.le_refl _)) hlt
      have HSk := Lib.hid (HS.out k _ hx)
      dsimp only at HSk
      clear hx
      generalize G k = L at *
      have dk1 : decide (k < l.length) = true := decide_eq_true hlt
      have dk2 : decide ((k : Int) < (l.length : Int)) = true := decide_eq_true (by omega)
      have hcap := (OwnT.cap exhibitT ho).2.1
      go_wp2
      clear dk1 dk2
      obtain ⟨wq, rfl⟩ : ∃ wq : World, wq = wr := ⟨_, rfl⟩
      go_loopw [5] (fun z wy => ∃ kk : Nat, kk ≤ L.length ∧ z = .int .i64 kk ∧ Hid (posL (madeL L) made L.length = posL (madeL L) made kk) ∧ Below wq.heap.size wq wy) (fun z _ => (intOf z).toNat)
      case atStart => exact ⟨L.length, Nat.le_refl _, rfl, Lib.hid rfl, Below.refl _ _⟩
      case round =>
        obtain ⟨kk, hkk, rfl, E, hby⟩ := hrel
        have hzy := hby.size
        have hoB := ho.below hby (Nat.le_refl _)
        have hbB := hb.trans (hby.mono hz)
        have hzB := hbB.size
        have q0 : wr.cell? ⟨b, off + k * 7, none⟩ = some (.int .i64 id_) := (hby.cell (p := ⟨b, off + k * 7, none⟩) hlb).trans hc0
        have q1 : wr.cell? ⟨b, off + k * 7 + 1, none⟩ = some (.string land) := (hby.cell (p := ⟨b, off + k * 7 + 1, none⟩) hlb).trans hc1
        have q2 : wr.cell? ⟨b, off + k * 7 + 2, none⟩ = some (.int .i64 made) := (hby.cell (p := ⟨b, off + k * 7 + 2, none⟩) hlb).trans hc2
        have q3 : wr.cell? ⟨b, off + k * 7 + 3, none⟩ = some (.int .i64 upper) := (hby.cell (p := ⟨b, off + k * 7 + 3, none⟩) hlb).trans hc3
        have q4 : wr.cell? ⟨b, off + k * 7 + 4, none⟩ = some (.int .i64 lower) := (hby.cell (p := ⟨b, off + k * 7 + 4, none⟩) hlb).trans hc4
        have q5 : wr.cell? ⟨b, off + k * 7 + 5, none⟩ = some (.int .i64 rods) := (hby.cell (p := ⟨b, off + k * 7 + 5, none⟩) hlb).trans hc5
        have q6 : wr.cell? ⟨b, off + k * 7 + 6, none⟩ = some (.int .i64 case_) := (hby.cell (p := ⟨b, off + k * 7 + 6, none⟩) hlb).trans hc6
        have bk : (k : Int) < (l.length : Int) := by omega
        clear ho hc0 hc1 hc2 hc3 hc4 hc5 hc6
        by_cases hk0 : kk = 0
        · have E2 := Lib.hid (show posL (madeL L) made L.length = kk by rw [E.out, hk0, posL_zero])
          have hkz : kk ≤ 0 := by omega
          have d0 : decide (0 < kk) = false := decide_eq_false (by omega)
          clear E hk0
          have HR := Lib.hid (show (G (k + 1)).length = L.length + 1 by rw [HSk.out, E2.out, length_insL])
          have HI := Lib.hid (show G (k + 1) = L.take (kk) ++ [(⟨id_, land, made, upper, lower, rods, case_⟩ : ExhibitV)] ++ L.drop (kk) by rw [HSk.out, E2.out]; unfold insL; simp)
          clear E2 HSk
          go_wp2_with fail
          go_quiet (fail)
          have hoT0 := hoB.drewN nq
          have hbT0 := below_drewN hbB nq
          obtain ⟨wt, hwt⟩ : ∃ wt : World, wt = wr.drewN nq := ⟨_, rfl⟩
          have y0 : wt.cell? ⟨b, off + k * 7, none⟩ = some (.int .i64 id_) := by rw [hwt]; exact q0
          have y1 : wt.cell? ⟨b, off + k * 7 + 1, none⟩ = some (.string land) := by rw [hwt]; exact q1
          have y2 : wt.cell? ⟨b, off + k * 7 + 2, none⟩ = some (.int .i64 made) := by rw [hwt]; exact q2
          have y3 : wt.cell? ⟨b, off + k * 7 + 3, none⟩ = some (.int .i64 upper) := by rw [hwt]; exact q3
          have y4 : wt.cell? ⟨b, off + k * 7 + 4, none⟩ = some (.int .i64 lower) := by rw [hwt]; exact q4
          have y5 : wt.cell? ⟨b, off + k * 7 + 5, none⟩ = some (.int .i64 rods) := by rw [hwt]; exact q5
          have y6 : wt.cell? ⟨b, off + k * 7 + 6, none⟩ = some (.int .i64 case_) := by rw [hwt]; exact q6
          rw [← hwt] at hoT0 hbT0 ⊢
          have hoT := hoT0
          have hbT := hbT0
          clear hwt hoB hbB hoT0 hbT0 q0 q1 q2 q3 q4 q5 q6
          have hzT := hbT.size
          have T0 : RdT exhibitT wt (some ⟨g, 0, none⟩) ((L).take (kk)) := hoT.rd.take exhibitT (kk)
          have T1 : ∀ X, ((kk) < (L).length → X = some ⟨g, (kk) * 7, none⟩) → RdT exhibitT wt X ((L).drop (kk)) := fun X hX => RdT.drop exhibitT hoT.rd (kk) X (fun hh => by rw [hX hh]; show _ = some (⟨g, 0 + (kk) * 7, none⟩ : Addr); rw [Nat.zero_add])
          have htl : ((L).take (kk)).length = kk := by rw [List.length_take]; omega
          have HL5 := Lib.hid (show ([] : List ExhibitV).length + ((L).take (kk)).length = kk by rw [htl]; simp)
          have HL6 := Lib.hid (show ((L).take (kk)).length + [(⟨id_, land, made, upper, lower, rods, case_⟩ : ExhibitV)].length = kk + 1 by rw [htl]; simp)
          have HL7 := Lib.hid (show ((L).take (kk) ++ [(⟨id_, land, made, upper, lower, rods, case_⟩ : ExhibitV)]).length + ((L).drop (kk)).length = L.length + 1 by rw [List.length_append, htl, List.length_drop]; simp; omega)
          have HD := Lib.hid (show (L).length - (kk) = ((L).drop (kk)).length by rw [List.length_drop])
          have LB1 := fun o : Obj => ((Below.refl wt.heap.size wt).drew.alloc (Nat.le_refl _) o : Below wt.heap.size wt (wt.drew.alloc o))
          have LB2 := fun o o' : Obj => ((LB1 o).alloc (by simp) o' : Below wt.heap.size wt ((wt.drew.alloc o).alloc o'))
          have hgt : g < wt.heap.size := (hoT.lt g rfl).2
          have j1 : (0 : Int) ≤ (kk : Int) := by omega
          have j2 : (kk : Int) ≤ ((L).length : Int) := by omega
          have j3 : (kk : Int) ≤ (c' : Int) := by omega
          have j4 : ((L).length : Int) ≤ (c' : Int) := by omega
          have j5 : ((kk : Int)).toNat = kk := by omega
          have hTL := Lib.hid htl
          have hpl : (kk) + ((L).length - (kk)) ≤ 1000 := by omega
          clear htl
          rcases (show c' ≤ kk ∨ ¬ c' = kk by omega) with hcc | hcc
          all_goals
            go_wp2_with fail
            go_region_held3 (fun wx => wx.cell? ⟨b, off + k * 7, none⟩ = some (.int .i64 id_) ∧ wx.cell? ⟨b, off + k * 7 + 1, none⟩ = some (.string land) ∧ wx.cell? ⟨b, off + k * 7 + 2, none⟩ = some (.int .i64 made) ∧ wx.cell? ⟨b, off + k * 7 + 3, none⟩ = some (.int .i64 upper) ∧ wx.cell? ⟨b, off + k * 7 + 4, none⟩ = some (.int .i64 lower) ∧ wx.cell? ⟨b, off + k * 7 + 5, none⟩ = some (.int .i64 rods) ∧ wx.cell? ⟨b, off + k * 7 + 6, none⟩ = some (.int .i64 case_)) (((try dsimp only); (repeat' apply And.intro)) <;> (first | assumption | exact box_old (by assumption) _ | exact box_old (box_old (by assumption) _) _)) (first
              | (refine step_spreadT exhibitT rfl _ _ (by rfl) wt.heap.size (.slice A6 (kk + 1) c6) ((L).take (kk) ++ [(⟨id_, land, made, upper, lower, rods, case_⟩ : ExhibitV)]) (by rfl) (by first | exact ho6) wt.heap.size hb6 _ ((L).drop (kk)) _ _ (by exact HD.out) (by rfl) (by exact (T1 _ (fun hh => by first | rfl | omega)).below hb6 (Nat.le_refl _)) (by rw [HL7.out]; omega) (by have := hb6.size; omega) (Nat.le_refl _) ?_; intro A7 c7 w7 ho7 hb7 hgr7; rw [HL7.out] at ho7 ⊢; have := (hb7.cell (p := ⟨b, off + k * 7, none⟩) (World.block_lt_of_cell? _ _ y0)).trans y0; have := (hb7.cell (p := ⟨b, off + k * 7 + 1, none⟩) (World.block_lt_of_cell? _ _ y1)).trans y1; have := (hb7.cell (p := ⟨b, off + k * 7 + 2, none⟩) (World.block_lt_of_cell? _ _ y2)).trans y2; have := (hb7.cell (p := ⟨b, off + k * 7 + 3, none⟩) (World.block_lt_of_cell? _ _ y3)).trans y3; have := (hb7.cell (p := ⟨b, off + k * 7 + 4, none⟩) (World.block_lt_of_cell? _ _ y4)).trans y4; have := (hb7.cell (p := ⟨b, off + k * 7 + 5, none⟩) (World.block_lt_of_cell? _ _ y5)).trans y5; have := (hb7.cell (p := ⟨b, off + k * 7 + 6, none⟩) (World.block_lt_of_cell? _ _ y6)).trans y6)
              | (refine step_spreadT exhibitT rfl _ _ (by rfl) wt.heap.size (.slice A5 (kk) c5) ((L).take (kk)) (by rfl) (by first | exact ho5 | exact ho5.alloc _) wt.heap.size (by first | exact hb5 | exact hb5.alloc hb5.size _) _ [(⟨id_, land, made, upper, lower, rods, case_⟩ : ExhibitV)] _ _ rfl (by rfl) (by first | exact oneT_new exhibitT w5 (⟨id_, land, made, upper, lower, rods, case_⟩ : ExhibitV) _ rfl | exact RdT.gr3 (w := ((wt.alloc (.cells #[] 26)).alloc (.cells #[.int .i64 id_, .string land, .int .i64 made, .int .i64 upper, .int .i64 lower, .int .i64 rods, .int .i64 case_] 26)).drew) (oneT_new2 exhibitT wt (.cells #[] 26) (⟨id_, land, made, upper, lower, rods, case_⟩ : ExhibitV) _ rfl) hgr5 (fun _ b off e => by cases e; intro hc; exact absurd (Option.some.inj (show some _ = some _ from hc)) (by simp)) | exact RdT.gr3 (w := ((wt.alloc (.cells #[.int .i64 id_, .string land, .int .i64 made, .int .i64 upper, .int .i64 lower, .int .i64 rods, .int .i64 case_] 26)).alloc (.cells #[] 26)).drew) (oneT_new3 exhibitT wt (.cells #[] 26) (⟨id_, land, made, upper, lower, rods, case_⟩ : ExhibitV) _ rfl) hgr5 (fun _ b off e => by cases e; intro hc; exact absurd (Option.some.inj (show some _ = some _ from hc)) (by simp))) (by rw [HL6.out]; omega) (by have := hb5.size; first | omega | (simp; omega)) (Nat.le_refl _) ?_; intro A6 c6 w6 ho6 hb6 hgr6; rw [HL6.out] at ho6 ⊢; have := (hb6.cell (p := ⟨b, off + k * 7, none⟩) (World.block_lt_of_cell? _ _ y0)).trans y0; have := (hb6.cell (p := ⟨b, off + k * 7 + 1, none⟩) (World.block_lt_of_cell? _ _ y1)).trans y1; have := (hb6.cell (p := ⟨b, off + k * 7 + 2, none⟩) (World.block_lt_of_cell? _ _ y2)).trans y2; have := (hb6.cell (p := ⟨b, off + k * 7 + 3, none⟩) (World.block_lt_of_cell? _ _ y3)).trans y3; have := (hb6.cell (p := ⟨b, off + k * 7 + 4, none⟩) (World.block_lt_of_cell? _ _ y4)).trans y4; have := (hb6.cell (p := ⟨b, off + k * 7 + 5, none⟩) (World.block_lt_of_cell? _ _ y5)).trans y5; have := (hb6.cell (p := ⟨b, off + k * 7 + 6, none⟩) (World.block_lt_of_cell? _ _ y6)).trans y6)
              | (refine step_spreadT exhibitT rfl _ _ (by rfl) wt.heap.size _ ([] : List ExhibitV) (by rfl) (by first | exact ownT_e0 exhibitT wt.drew _ (Nat.le_refl _) | exact ownT_e02 exhibitT wt.drew _ _ (Nat.le_succ_of_le (Nat.le_refl _)) | exact (ownT_e0 exhibitT wt.drew _ (Nat.le_refl _)).alloc _) wt.heap.size (by first | exact LB1 _ | exact LB2 _ _) _ ((L).take (kk)) _ _ ?hn5 (by rfl) (by first | exact T0.below (LB1 _) (Nat.le_refl _) | exact T0.below (LB2 _ _) (Nat.le_refl _)) (by rw [HL5.out]; omega) (by first | (simp; done) | (simp; omega)) (Nat.le_refl _) ?_; (case hn5 => first | exact hTL.out.symm | (rw [hTL.out]; omega) | (rw [hTL.out]; simp; done) | (rw [hTL.out]; simp; omega)); intro A5 c5 w5 ho5 hb5 hgr5; rw [HL5.out, List.nil_append] at ho5; rw [HL5.out]; have := (hb5.cell (p := ⟨b, off + k * 7, none⟩) (World.block_lt_of_cell? _ _ y0)).trans y0; have := (hb5.cell (p := ⟨b, off + k * 7 + 1, none⟩) (World.block_lt_of_cell? _ _ y1)).trans y1; have := (hb5.cell (p := ⟨b, off + k * 7 + 2, none⟩) (World.block_lt_of_cell? _ _ y2)).trans y2; have := (hb5.cell (p := ⟨b, off + k * 7 + 3, none⟩) (World.block_lt_of_cell? _ _ y3)).trans y3; have := (hb5.cell (p := ⟨b, off + k * 7 + 4, none⟩) (World.block_lt_of_cell? _ _ y4)).trans y4; have := (hb5.cell (p := ⟨b, off + k * 7 + 5, none⟩) (World.block_lt_of_cell? _ _ y5)).trans y5; have := (hb5.cell (p := ⟨b, off + k * 7 + 6, none⟩) (World.block_lt_of_cell? _ _ y6)).trans y6))
            all_goals
              have ho8 := ho7
              rw [← HI.out] at ho8
              obtain ⟨g8, rfl, hg8, _⟩ := OwnT.head ho8 (by rw [HR.out]; omega)
              have HF : Hid (OwnT exhibitT w7 wt.heap.size (.slice (some ⟨g8, 0, none⟩) (L.length + 1) c7) (G (k + 1))) := Lib.hid ho8
              have hbF := hbT.trans (hb7.mono hzT)
              clear T0 T1 ho5 ho6 ho7 ho8 hb5 hb6 hb7 hgr5 hgr6 hgr7 LB1 LB2 y0 y1 y2 y3 y4 y5 y6
              go_wp2
              go_roundw
              case rel => exact ⟨k + 1, g8, c7, by omega, by go_num, by rw [HR.out], by rw [HR.out]; exact HF.out.mono hzT, hbF⟩
              case measure => simp [intOf]; omega
        · obtain ⟨m, rfl⟩ : ∃ m, kk = m + 1 := ⟨kk - 1, by omega⟩
          clear hk0
          have d0 : decide (0 < m + 1) = true := decide_eq_true (by omega)
          have w1x : IntKind.i64.wrap (m : Int) = m := IntWalk.i64_in _ (by omega)
          have b1' : (0 : Int) ≤ m := by omega
          have b2' : (m : Int) < (L.length : Int) := by omega
          obtain ⟨ob, ooff, yid_, yland, ymade, yupper, ylower, yrods, ycase_, hA2, hx2, holt, hd0, hd1, hd2, hd3, hd4, hd5, hd6⟩ := exhibitT_at (OwnT.rd hoB) (k := m) (by omega)
          have hM := Lib.hid (madeL_at hx2)
          dsimp only at hM
          injection hA2 with hA2
          injection hA2 with e1 e2 _
          subst e1 e2
          rw [Nat.zero_add] at hd2
          clear hx2 hd0 hd1 hd3 hd4 hd5 hd6
          by_cases hlt2 : made < ymade
          · have d1 : decide (made < ymade) = true := decide_eq_true hlt2
            have E2 := Lib.hid (show posL (madeL L) made L.length = posL (madeL L) made m by rw [E.out, posL_down (by rw [hM.out]; exact hlt2)])
            clear E hM
            go_wp2_with fail
            go_quiet (fail)
            go_wp2
            go_roundw
            case rel => exact ⟨m, by omega, by first | rfl | go_num, E2, below_drewN hby _⟩
            case measure => simp [intOf] <;> omega
          · have d1 : decide (made < ymade) = false := decide_eq_false hlt2
            have E2 := Lib.hid (show posL (madeL L) made L.length = m + 1 by rw [E.out, posL_stop (by rw [hM.out]; exact hlt2)])
            clear E hM
            have HR := Lib.hid (show (G (k + 1)).length = L.length + 1 by rw [HSk.out, E2.out, length_insL])
            have HI := Lib.hid (show G (k + 1) = L.take (m + 1) ++ [(⟨id_, land, made, upper, lower, rods, case_⟩ : ExhibitV)] ++ L.drop (m + 1) by rw [HSk.out, E2.out]; unfold insL; simp)
            clear E2 HSk
            go_wp2_with fail
            go_quiet (fail)
            have hoT0 := hoB.drewN nq
            have hbT0 := below_drewN hbB nq
            obtain ⟨wt, hwt⟩ : ∃ wt : World, wt = wr.drewN nq := ⟨_, rfl⟩
            have y0 : wt.cell? ⟨b, off + k * 7, none⟩ = some (.int .i64 id_) := by rw [hwt]; exact q0
            have y1 : wt.cell? ⟨b, off + k * 7 + 1, none⟩ = some (.string land) := by rw [hwt]; exact q1
            have y2 : wt.cell? ⟨b, off + k * 7 + 2, none⟩ = some (.int .i64 made) := by rw [hwt]; exact q2
            have y3 : wt.cell? ⟨b, off + k * 7 + 3, none⟩ = some (.int .i64 upper) := by rw [hwt]; exact q3
            have y4 : wt.cell? ⟨b, off + k * 7 + 4, none⟩ = some (.int .i64 lower) := by rw [hwt]; exact q4
            have y5 : wt.cell? ⟨b, off + k * 7 + 5, none⟩ = some (.int .i64 rods) := by rw [hwt]; exact q5
            have y6 : wt.cell? ⟨b, off + k * 7 + 6, none⟩ = some (.int .i64 case_) := by rw [hwt]; exact q6
            rw [← hwt] at hoT0 hbT0 ⊢
            have hoT := hoT0
            have hbT := hbT0
            clear hwt hoB hbB hoT0 hbT0 q0 q1 q2 q3 q4 q5 q6
            have hzT := hbT.size
            have T0 : RdT exhibitT wt (some ⟨g, 0, none⟩) ((L).take (m + 1)) := hoT.rd.take exhibitT (m + 1)
            have T1 : ∀ X, ((m + 1) < (L).length → X = some ⟨g, (m + 1) * 7, none⟩) → RdT exhibitT wt X ((L).drop (m + 1)) := fun X hX => RdT.drop exhibitT hoT.rd (m + 1) X (fun hh => by rw [hX hh]; show _ = some (⟨g, 0 + (m + 1) * 7, none⟩ : Addr); rw [Nat.zero_add])
            have htl : ((L).take (m + 1)).length = m + 1 := by rw [List.length_take]; omega
            have HL5 := Lib.hid (show ([] : List ExhibitV).length + ((L).take (m + 1)).length = m + 1 by rw [htl]; simp)
            have HL6 := Lib.hid (show ((L).take (m + 1)).length + [(⟨id_, land, made, upper, lower, rods, case_⟩ : ExhibitV)].length = m + 1 + 1 by rw [htl]; simp)
            have HL7 := Lib.hid (show ((L).take (m + 1) ++ [(⟨id_, land, made, upper, lower, rods, case_⟩ : ExhibitV)]).length + ((L).drop (m + 1)).length = L.length + 1 by rw [List.length_append, htl, List.length_drop]; simp; omega)
            have HD := Lib.hid (show (L).length - (m + 1) = ((L).drop (m + 1)).length by rw [List.length_drop])
            have LB1 := fun o : Obj => ((Below.refl wt.heap.size wt).drew.alloc (Nat.le_refl _) o : Below wt.heap.size wt (wt.drew.alloc o))
            have LB2 := fun o o' : Obj => ((LB1 o).alloc (by simp) o' : Below wt.heap.size wt ((wt.drew.alloc o).alloc o'))
            have hgt : g < wt.heap.size := (hoT.lt g rfl).2
            have j1 : (0 : Int) ≤ ((m : Int) + 1) := by omega
            have j2 : ((m : Int) + 1) ≤ ((L).length : Int) := by omega
            have j3 : ((m : Int) + 1) ≤ (c' : Int) := by omega
            have j4 : ((L).length : Int) ≤ (c' : Int) := by omega
            have j5 : (((m : Int) + 1)).toNat = m + 1 := by omega
            have hTL := Lib.hid htl
            have hpl : (m + 1) + ((L).length - (m + 1)) ≤ 1000 := by omega
            clear htl
            rcases (show c' ≤ m + 1 ∨ ¬ c' = m + 1 by omega) with hcc | hcc
            all_goals
              go_wp2_with fail
              go_region_held3 (fun wx => wx.cell? ⟨b, off + k * 7, none⟩ = some (.int .i64 id_) ∧ wx.cell? ⟨b, off + k * 7 + 1, none⟩ = some (.string land) ∧ wx.cell? ⟨b, off + k * 7 + 2, none⟩ = some (.int .i64 made) ∧ wx.cell? ⟨b, off + k * 7 + 3, none⟩ = some (.int .i64 upper) ∧ wx.cell? ⟨b, off + k * 7 + 4, none⟩ = some (.int .i64 lower) ∧ wx.cell? ⟨b, off + k * 7 + 5, none⟩ = some (.int .i64 rods) ∧ wx.cell? ⟨b, off + k * 7 + 6, none⟩ = some (.int .i64 case_)) (((try dsimp only); (repeat' apply And.intro)) <;> (first | assumption | exact box_old (by assumption) _ | exact box_old (box_old (by assumption) _) _)) (first
                | (refine step_spreadT exhibitT rfl _ _ (by rfl) wt.heap.size (.slice A6 (m + 1 + 1) c6) ((L).take (m + 1) ++ [(⟨id_, land, made, upper, lower, rods, case_⟩ : ExhibitV)]) (by rfl) (by first | exact ho6) wt.heap.size hb6 _ ((L).drop (m + 1)) _ _ (by exact HD.out) (by rfl) (by exact (T1 _ (fun hh => by first | rfl | omega)).below hb6 (Nat.le_refl _)) (by rw [HL7.out]; omega) (by have := hb6.size; omega) (Nat.le_refl _) ?_; intro A7 c7 w7 ho7 hb7 hgr7; rw [HL7.out] at ho7 ⊢; have := (hb7.cell (p := ⟨b, off + k * 7, none⟩) (World.block_lt_of_cell? _ _ y0)).trans y0; have := (hb7.cell (p := ⟨b, off + k * 7 + 1, none⟩) (World.block_lt_of_cell? _ _ y1)).trans y1; have := (hb7.cell (p := ⟨b, off + k * 7 + 2, none⟩) (World.block_lt_of_cell? _ _ y2)).trans y2; have := (hb7.cell (p := ⟨b, off + k * 7 + 3, none⟩) (World.block_lt_of_cell? _ _ y3)).trans y3; have := (hb7.cell (p := ⟨b, off + k * 7 + 4, none⟩) (World.block_lt_of_cell? _ _ y4)).trans y4; have := (hb7.cell (p := ⟨b, off + k * 7 + 5, none⟩) (World.block_lt_of_cell? _ _ y5)).trans y5; have := (hb7.cell (p := ⟨b, off + k * 7 + 6, none⟩) (World.block_lt_of_cell? _ _ y6)).trans y6)
                | (refine step_spreadT exhibitT rfl _ _ (by rfl) wt.heap.size (.slice A5 (m + 1) c5) ((L).take (m + 1)) (by rfl) (by first | exact ho5 | exact ho5.alloc _) wt.heap.size (by first | exact hb5 | exact hb5.alloc hb5.size _) _ [(⟨id_, land, made, upper, lower, rods, case_⟩ : ExhibitV)] _ _ rfl (by rfl) (by first | exact oneT_new exhibitT w5 (⟨id_, land, made, upper, lower, rods, case_⟩ : ExhibitV) _ rfl | exact RdT.gr3 (w := ((wt.alloc (.cells #[] 26)).alloc (.cells #[.int .i64 id_, .string land, .int .i64 made, .int .i64 upper, .int .i64 lower, .int .i64 rods, .int .i64 case_] 26)).drew) (oneT_new2 exhibitT wt (.cells #[] 26) (⟨id_, land, made, upper, lower, rods, case_⟩ : ExhibitV) _ rfl) hgr5 (fun _ b off e => by cases e; intro hc; exact absurd (Option.some.inj (show some _ = some _ from hc)) (by simp)) | exact RdT.gr3 (w := ((wt.alloc (.cells #[.int .i64 id_, .string land, .int .i64 made, .int .i64 upper, .int .i64 lower, .int .i64 rods, .int .i64 case_] 26)).alloc (.cells #[] 26)).drew) (oneT_new3 exhibitT wt (.cells #[] 26) (⟨id_, land, made, upper, lower, rods, case_⟩ : ExhibitV) _ rfl) hgr5 (fun _ b off e => by cases e; intro hc; exact absurd (Option.some.inj (show some _ = some _ from hc)) (by simp))) (by rw [HL6.out]; omega) (by have := hb5.size; first | omega | (simp; omega)) (Nat.le_refl _) ?_; intro A6 c6 w6 ho6 hb6 hgr6; rw [HL6.out] at ho6 ⊢; have := (hb6.cell (p := ⟨b, off + k * 7, none⟩) (World.block_lt_of_cell? _ _ y0)).trans y0; have := (hb6.cell (p := ⟨b, off + k * 7 + 1, none⟩) (World.block_lt_of_cell? _ _ y1)).trans y1; have := (hb6.cell (p := ⟨b, off + k * 7 + 2, none⟩) (World.block_lt_of_cell? _ _ y2)).trans y2; have := (hb6.cell (p := ⟨b, off + k * 7 + 3, none⟩) (World.block_lt_of_cell? _ _ y3)).trans y3; have := (hb6.cell (p := ⟨b, off + k * 7 + 4, none⟩) (World.block_lt_of_cell? _ _ y4)).trans y4; have := (hb6.cell (p := ⟨b, off + k * 7 + 5, none⟩) (World.block_lt_of_cell? _ _ y5)).trans y5; have := (hb6.cell (p := ⟨b, off + k * 7 + 6, none⟩) (World.block_lt_of_cell? _ _ y6)).trans y6)
                | (refine step_spreadT exhibitT rfl _ _ (by rfl) wt.heap.size _ ([] : List ExhibitV) (by rfl) (by first | exact ownT_e0 exhibitT wt.drew _ (Nat.le_refl _) | exact ownT_e02 exhibitT wt.drew _ _ (Nat.le_succ_of_le (Nat.le_refl _)) | exact (ownT_e0 exhibitT wt.drew _ (Nat.le_refl _)).alloc _) wt.heap.size (by first | exact LB1 _ | exact LB2 _ _) _ ((L).take (m + 1)) _ _ ?hn5 (by rfl) (by first | exact T0.below (LB1 _) (Nat.le_refl _) | exact T0.below (LB2 _ _) (Nat.le_refl _)) (by rw [HL5.out]; omega) (by first | (simp; done) | (simp; omega)) (Nat.le_refl _) ?_; (case hn5 => first | exact hTL.out.symm | (rw [hTL.out]; omega) | (rw [hTL.out]; simp; done) | (rw [hTL.out]; simp; omega)); intro A5 c5 w5 ho5 hb5 hgr5; rw [HL5.out, List.nil_append] at ho5; rw [HL5.out]; have := (hb5.cell (p := ⟨b, off + k * 7, none⟩) (World.block_lt_of_cell? _ _ y0)).trans y0; have := (hb5.cell (p := ⟨b, off + k * 7 + 1, none⟩) (World.block_lt_of_cell? _ _ y1)).trans y1; have := (hb5.cell (p := ⟨b, off + k * 7 + 2, none⟩) (World.block_lt_of_cell? _ _ y2)).trans y2; have := (hb5.cell (p := ⟨b, off + k * 7 + 3, none⟩) (World.block_lt_of_cell? _ _ y3)).trans y3; have := (hb5.cell (p := ⟨b, off + k * 7 + 4, none⟩) (World.block_lt_of_cell? _ _ y4)).trans y4; have := (hb5.cell (p := ⟨b, off + k * 7 + 5, none⟩) (World.block_lt_of_cell? _ _ y5)).trans y5; have := (hb5.cell (p := ⟨b, off + k * 7 + 6, none⟩) (World.block_lt_of_cell? _ _ y6)).trans y6))
              all_goals
                have ho8 := ho7
                rw [← HI.out] at ho8
                obtain ⟨g8, rfl, hg8, _⟩ := OwnT.head ho8 (by rw [HR.out]; omega)
                have HF : Hid (OwnT exhibitT w7 wt.heap.size (.slice (some ⟨g8, 0, none⟩) (L.length + 1) c7) (G (k + 1))) := Lib.hid ho8
                have hbF := hbT.trans (hb7.mono hzT)
                clear T0 T1 ho5 ho6 ho7 ho8 hb5 hb6 hb7 hgr5 hgr6 hgr7 LB1 LB2 y0 y1 y2 y3 y4 y5 y6
                go_wp2
                go_roundw
                case rel => exact ⟨k + 1, g8, c7, by omega, by go_num, by rw [HR.out], by rw [HR.out]; exact HF.out.mono hzT, hbF⟩
                case measure => simp [intOf]; omega
    · have HE := Lib.hid (show G k = R by rw [show k = l.length by omega]; exact HV.out)
      go_wp2
      go_ret
      exact ⟨_, c', by rw [← HE.out]; rfl, by rw [← HE.out]; exact ho, hb⟩
end Go.Proofs.Ythoejiepaackhaa
