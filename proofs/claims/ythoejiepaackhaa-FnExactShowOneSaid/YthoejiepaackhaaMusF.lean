/-
  Exhibits by their years, of the program: the contract. (Printed by gen_musF.py.)
-/
import Derived.Test.YthoejiepaackhaaMusE
import Derived.Test.YthoejiepaackhaaAppX
import Derived.Test.YthoejiepaackhaaBlk
import Derived.Lib.QuietBelow
namespace Go.Proofs.Ythoejiepaackhaa
open Go.RowKit

set_option maxRecDepth 100000 in
set_option maxHeartbeats 8000000 in
theorem byAge_any (A : Option Addr) (c : Nat) (l : List ExhibitV) (w : World) (hn : l.length ≤ 900) (h : RdT exhibitT w A l) :
    Calls Try.prog 52 #[.slice A l.length c] w fun e w' => ∃ A' c', e = .returned (.slice A' (agV l).length c') ∧ OwnT exhibitT w' w.heap.size (.slice A' (agV l).length c') (agV l) ∧ Below w.heap.size w w' := by
  have HLEN := Lib.hid (agA_len l)
  have HS := Lib.hid (fun k x (hx : l[k]? = some x) => agA_succ hx)
  have H0 := Lib.hid (agA_zero l)
  have HV := Lib.hid (agV_eq l)
  generalize agA l = G at *
  generalize agV l = R at *
  go_enter Try.func52, Try.ntmps52
  go_wp2
  go_loopw [3, 9] (fun o i wr => ∃ (k : Nat) (A' : Option Addr) (c' : Nat), k ≤ l.length ∧ i = .int .i64 k ∧ o = .slice A' (G k).length c' ∧ OwnT exhibitT wr w.heap.size (.slice A' (G k).length c') (G k) ∧ Below w.heap.size w wr) (fun _ i _ => l.length - (intOf i).toNat)
  case atStart => exact ⟨0, none, 0, by omega, rfl, by rw [H0.out]; rfl, by rw [H0.out]; exact OwnT.nil _ _, Below.refl _ _⟩
  case round =>
    obtain ⟨k, A', c', hk, rfl, rfl, ho, hb⟩ := hrel
    have hz := hb.size
    have hlk1 : (G k).length ≤ k := Nat.le_of_eq (HLEN.out k hk)
    by_cases hlt : k < l.length
    · obtain ⟨b, off, id_, land, made, upper, lower, rods, case_, rfl, hx, hlb, hc0, hc1, hc2, hc3, hc4, hc5, hc6⟩ := exhibitT_at (h.below hb (Nat.le_refl _)) hlt
      have HSk := Lib.hid (HS.out k _ hx)
      dsimp only at HSk
      clear hx
      generalize G k = L at *
      obtain ⟨tb, htb⟩ : ∃ tb : Nat, tb = wr.heap.size := ⟨_, rfl⟩
      obtain ⟨w2, hw2⟩ : ∃ w2 : World, w2 = wr.alloc (.cells #[.int .i64 id_, .string land, .int .i64 made, .int .i64 upper, .int .i64 lower, .int .i64 rods, .int .i64 case_] 26) := ⟨_, rfl⟩
      have hb2 : Below wr.heap.size wr w2 := by rw [hw2]; exact (Below.refl _ _).alloc (Nat.le_refl _) _
      have BX : Blk w2 tb 26 #[.int .i64 id_, .string land, .int .i64 made, .int .i64 upper, .int .i64 lower, .int .i64 rods, .int .i64 case_] := by rw [hw2, htb]; exact Blk.new _ _ _
      have hxo : Hid (∀ j, (Value.slice A' L.length c').ownBlock = some j → j ≠ tb) := Lib.hid (fun j hj => by have := (ho.lt j hj).2; omega)
      have hbA := hb.trans (hb2.mono hz)
      have hoA2 := ho.below hb2 (Nat.le_refl _)
      have HW2 := Lib.hid hw2
      have hzA := hbA.size
      have dk1 : decide (k < l.length) = true := decide_eq_true hlt
      have dk2 : decide ((k : Int) < (l.length : Int)) = true := decide_eq_true (by omega)
      clear hw2 ho hb2
      go_wp2
      rw [← HW2.out]
      clear HW2 dk1 dk2 hc0 hc1 hc2 hc3 hc4 hc5 hc6
      rw [← htb]
      clear htb
      obtain ⟨wq, rfl⟩ : ∃ wq : World, wq = wr := ⟨_, rfl⟩
      go_loopw [6] (fun z wy => ∃ kk : Nat, kk ≤ L.length ∧ z = .int .i64 kk ∧ Hid (posL (madeL L) made L.length = posL (madeL L) made kk) ∧ Below w2.heap.size w2 wy) (fun z _ => (intOf z).toNat)
      case atStart => exact ⟨L.length, Nat.le_refl _, rfl, Lib.hid rfl, Below.refl _ _⟩
      case round =>
        obtain ⟨kk, hkk, rfl, E, hby⟩ := hrel
        have hzy := hby.size
        have hoB := hoA2.below hby (Nat.le_refl _)
        have hbB := hbA.trans (hby.mono hzA)
        have hzB := hbB.size
        have BY := BX.below hby BX.lt
        have u2 : wr.cell? ⟨tb, 2, none⟩ = some (.int .i64 made) := BY.cell 2
        clear hoA2
        by_cases hk0 : kk = 0
        · have E2 := Lib.hid (show posL (madeL L) made L.length = kk by rw [E.out, hk0, posL_zero])
          have hkz : kk ≤ 0 := by omega
          have d0 : decide (0 < kk) = false := decide_eq_false (by omega)
          clear E hk0
          have HI := Lib.hid (show G (k + 1) = insL L (kk) ⟨id_, land, made, upper, lower, rods, case_⟩ by rw [HSk.out, E2.out])
          have HL1 := Lib.hid (show (G (k + 1)).length = L.length + 1 by rw [HI.out, length_insL])
          clear E2 HSk
          go_wp2_with fail
          go_quiet (fail)
          have hoC := hoB.drewN nq
          have hbC := below_drewN hbB nq
          have BC : Blk (wr.drewN nq) tb 26 #[.int .i64 id_, .string land, .int .i64 made, .int .i64 upper, .int .i64 lower, .int .i64 rods, .int .i64 case_] := BY
          clear hoB hbB BY u2
          go_wp2_with (at_builtin; refine wpList_appW exhibitT rfl _ _ rfl w.heap.size _ _ rfl hoC w.heap.size hbC ⟨0, ByteArray.empty, 0, 0, 0, 0, 0⟩ _ rfl _ rfl rfl (by omega) hzB (Nat.le_refl _) ?_; intro A1 c1 w3 hown1 hb3 hgr3 hap3)
          obtain ⟨g, rfl, hg, hgl⟩ := hown1.head (by simp)
          have hgt : ¬ tb = g := by
            intro e2
            rcases hap3.out (.slice (some ⟨tb, 0, none⟩) 0 0) (.inr (fun e3 => hxo.out tb e3.symm rfl)) (fun i hi => by cases hi; exact BC.lt) with h3 | h3
            · cases h3
            · exact h3 (by rw [e2]; rfl)
          have B3 := (BC.alloc _).gr hgr3 (fun e3 => hxo.out tb e3.symm rfl)
          have hcl := (OwnT.cap exhibitT hown1).2.1
          have HO := Lib.hid hown1
          clear hown1 hgr3 hap3 BC hoC hxo
          have j1 : IntKind.i64.wrap ((kk : Int) + 1) = ((kk : Int) + 1) := IntWalk.i64_in _ (by omega)
          have j2 : (0 : Int) ≤ (kk : Int) + 1 := by omega
          have j3 : (kk : Int) + 1 ≤ (L.length : Int) + 1 := by omega
          have j4 : (L.length : Int) + 1 ≤ (c1 : Int) := by omega
          have j5 : (0 : Int) ≤ (kk : Int) := by omega
          have j6 : (kk : Int) ≤ (L.length : Int) + 1 := by omega
          have j7 : ((kk : Int) + 1).toNat = kk + 1 := by omega
          have j8 : ((kk : Int)).toNat = kk := by omega
          go_still_tail 7, (by kernel_rfl)
          change wpList _ _ _ _ _ w3.drew
          clear j1 j2 j3 j5 j6 j7 j8
          refine wpList_insT exhibitT rfl _ _ rfl w.heap.size g _ _ (kk) L ⟨0, ByteArray.empty, 0, 0, 0, 0, 0⟩ (show OwnT exhibitT w3.drew w.heap.size _ _ from HO.out) (by omega) _ _ _ _ _ _ rfl rfl (by omega) (by omega) (fun hh => ⟨if_neg (by omega), if_neg (by omega)⟩) ?_
          intro w4 y hcell hfro HSet HG
          have hb4 : Below w.heap.size w w4 := hb3.drew.grown HG.out (by have := hb3.size; show w.heap.size ≤ w3.heap.size; exact this) (fun i hi => by cases hi; exact hg)
          have hb4z := hb4.size
          have B4 : Blk w4 tb 26 #[.int .i64 id_, .string land, .int .i64 made, .int .i64 upper, .int .i64 lower, .int .i64 rods, .int .i64 case_] := Blk.gr (w := w3.drew) B3 HG.out (fun e3 => hgt (Option.some.inj e3))
          have x0 : w4.cell? ⟨tb, 0, none⟩ = some (.int .i64 id_) := B4.cell 0
          have x1 : w4.cell? ⟨tb, 1, none⟩ = some (.string land) := B4.cell 1
          have x2 : w4.cell? ⟨tb, 2, none⟩ = some (.int .i64 made) := B4.cell 2
          have x3 : w4.cell? ⟨tb, 3, none⟩ = some (.int .i64 upper) := B4.cell 3
          have x4 : w4.cell? ⟨tb, 4, none⟩ = some (.int .i64 lower) := B4.cell 4
          have x5 : w4.cell? ⟨tb, 5, none⟩ = some (.int .i64 rods) := B4.cell 5
          have x6 : w4.cell? ⟨tb, 6, none⟩ = some (.int .i64 case_) := B4.cell 6
          have e0 : w4.cell? ⟨g, (kk) * 7, none⟩ = some (.int .i64 y.id_) := hcell 0 _ rfl
          have f0 : w4.frozen? ⟨g, (kk) * 7, none⟩ = false := hfro _
          have e1 : w4.cell? ⟨g, (kk) * 7 + 1, none⟩ = some (.string y.land) := hcell 1 _ rfl
          have f1 : w4.frozen? ⟨g, (kk) * 7 + 1, none⟩ = false := hfro _
          have e2 : w4.cell? ⟨g, (kk) * 7 + 2, none⟩ = some (.int .i64 y.made) := hcell 2 _ rfl
          have f2 : w4.frozen? ⟨g, (kk) * 7 + 2, none⟩ = false := hfro _
          have e3 : w4.cell? ⟨g, (kk) * 7 + 3, none⟩ = some (.int .i64 y.upper) := hcell 3 _ rfl
          have f3 : w4.frozen? ⟨g, (kk) * 7 + 3, none⟩ = false := hfro _
          have e4 : w4.cell? ⟨g, (kk) * 7 + 4, none⟩ = some (.int .i64 y.lower) := hcell 4 _ rfl
          have f4 : w4.frozen? ⟨g, (kk) * 7 + 4, none⟩ = false := hfro _
          have e5 : w4.cell? ⟨g, (kk) * 7 + 5, none⟩ = some (.int .i64 y.rods) := hcell 5 _ rfl
          have f5 : w4.frozen? ⟨g, (kk) * 7 + 5, none⟩ = false := hfro _
          have e6 : w4.cell? ⟨g, (kk) * 7 + 6, none⟩ = some (.int .i64 y.case_) := hcell 6 _ rfl
          have f6 : w4.frozen? ⟨g, (kk) * 7 + 6, none⟩ = false := hfro _
          clear hcell hfro j4 B3 B4 hb3
          go_wp2
          all_goals
            go_roundw
            case rel =>
              obtain ⟨ho, hgr⟩ := HSet.out ⟨id_, land, made, upper, lower, rods, case_⟩
              rw [← HI.out] at ho
              exact ⟨k + 1, _, _, by omega, by go_num, by rw [HL1.out], by rw [HL1.out]; first | exact ho | (rw [show kk + 1 = c1 by omega]; exact ho), hb4.grown hgr hb4z (fun i hi => by cases hi; exact hg)⟩
            case measure => simp [intOf]; omega
        · obtain ⟨m, rfl⟩ : ∃ m, kk = m + 1 := ⟨kk - 1, by omega⟩
          clear hk0
          have d0 : decide (0 < m + 1) = true := decide_eq_true (by omega)
          have w1x : IntKind.i64.wrap (m : Int) = m := IntWalk.i64_in _ (by omega)
          have b1' : (0 : Int) ≤ m := by omega
          have b2' : (m : Int) < (L.length : Int) := by omega
          obtain ⟨ob, ooff, yid_, yland, ymade, yupper, ylower, yrods, ycase_, hA2, hx2, holt, hd0, hd1, hd2, hd3, hd4, hd5, hd6⟩ := exhibitT_at (OwnT.rd hoB) (k := m) (by omega)
          have hM := Lib.hid (madeL_at hx2)
          dsimp only at hM
          subst hA2
          clear hx2 hd0 hd1 hd3 hd4 hd5 hd6
          by_cases hlt2 : made < ymade
          · have d1 : decide (made < ymade) = true := decide_eq_true hlt2
            have E2 := Lib.hid (show posL (madeL L) made L.length = posL (madeL L) made m by rw [E.out, posL_down (by rw [hM.out]; exact hlt2)])
            clear E hM
            go_wp2_with fail
            go_quiet (fail)
            go_wp2
            go_roundw
            case rel => exact ⟨m, by omega, by first | rfl | go_num, E2, below_drewN hby _⟩
            case measure => simp [intOf] <;> omega
          · have d1 : decide (made < ymade) = false := decide_eq_false hlt2
            have E2 := Lib.hid (show posL (madeL L) made L.length = m + 1 by rw [E.out, posL_stop (by rw [hM.out]; exact hlt2)])
            clear E hM
            have HI := Lib.hid (show G (k + 1) = insL L (m + 1) ⟨id_, land, made, upper, lower, rods, case_⟩ by rw [HSk.out, E2.out])
            have HL1 := Lib.hid (show (G (k + 1)).length = L.length + 1 by rw [HI.out, length_insL])
            clear E2 HSk
            go_wp2_with fail
            go_quiet (fail)
            have hoC := hoB.drewN nq
            have hbC := below_drewN hbB nq
            have BC : Blk (wr.drewN nq) tb 26 #[.int .i64 id_, .string land, .int .i64 made, .int .i64 upper, .int .i64 lower, .int .i64 rods, .int .i64 case_] := BY
            clear hoB hbB BY u2
            go_wp2_with (at_builtin; refine wpList_appW exhibitT rfl _ _ rfl w.heap.size _ _ rfl hoC w.heap.size hbC ⟨0, ByteArray.empty, 0, 0, 0, 0, 0⟩ _ rfl _ rfl rfl (by omega) hzB (Nat.le_refl _) ?_; intro A1 c1 w3 hown1 hb3 hgr3 hap3)
            obtain ⟨g, rfl, hg, hgl⟩ := hown1.head (by simp)
            have hgt : ¬ tb = g := by
              intro e2
              rcases hap3.out (.slice (some ⟨tb, 0, none⟩) 0 0) (.inr (fun e3 => hxo.out tb e3.symm rfl)) (fun i hi => by cases hi; exact BC.lt) with h3 | h3
              · cases h3
              · exact h3 (by rw [e2]; rfl)
            have B3 := (BC.alloc _).gr hgr3 (fun e3 => hxo.out tb e3.symm rfl)
            have hcl := (OwnT.cap exhibitT hown1).2.1
            have HO := Lib.hid hown1
            clear hown1 hgr3 hap3 BC hoC hxo
            have j1 : IntKind.i64.wrap (((m : Int) + 1) + 1) = (((m : Int) + 1) + 1) := IntWalk.i64_in _ (by omega)
            have j2 : (0 : Int) ≤ ((m : Int) + 1) + 1 := by omega
            have j3 : ((m : Int) + 1) + 1 ≤ (L.length : Int) + 1 := by omega
            have j4 : (L.length : Int) + 1 ≤ (c1 : Int) := by omega
            have j5 : (0 : Int) ≤ ((m : Int) + 1) := by omega
            have j6 : ((m : Int) + 1) ≤ (L.length : Int) + 1 := by omega
            have j7 : (((m : Int) + 1) + 1).toNat = m + 1 + 1 := by omega
            have j8 : (((m : Int) + 1)).toNat = m + 1 := by omega
            go_still_tail 7, (by kernel_rfl)
            change wpList _ _ _ _ _ w3.drew
            clear j1 j2 j3 j5 j6 j7 j8
            refine wpList_insT exhibitT rfl _ _ rfl w.heap.size g _ _ (m + 1) L ⟨0, ByteArray.empty, 0, 0, 0, 0, 0⟩ (show OwnT exhibitT w3.drew w.heap.size _ _ from HO.out) (by omega) _ _ _ _ _ _ rfl rfl (by omega) (by omega) (fun hh => ⟨if_neg (by omega), if_neg (by omega)⟩) ?_
            intro w4 y hcell hfro HSet HG
            have hb4 : Below w.heap.size w w4 := hb3.drew.grown HG.out (by have := hb3.size; show w.heap.size ≤ w3.heap.size; exact this) (fun i hi => by cases hi; exact hg)
            have hb4z := hb4.size
            have B4 : Blk w4 tb 26 #[.int .i64 id_, .string land, .int .i64 made, .int .i64 upper, .int .i64 lower, .int .i64 rods, .int .i64 case_] := Blk.gr (w := w3.drew) B3 HG.out (fun e3 => hgt (Option.some.inj e3))
            have x0 : w4.cell? ⟨tb, 0, none⟩ = some (.int .i64 id_) := B4.cell 0
            have x1 : w4.cell? ⟨tb, 1, none⟩ = some (.string land) := B4.cell 1
            have x2 : w4.cell? ⟨tb, 2, none⟩ = some (.int .i64 made) := B4.cell 2
            have x3 : w4.cell? ⟨tb, 3, none⟩ = some (.int .i64 upper) := B4.cell 3
            have x4 : w4.cell? ⟨tb, 4, none⟩ = some (.int .i64 lower) := B4.cell 4
            have x5 : w4.cell? ⟨tb, 5, none⟩ = some (.int .i64 rods) := B4.cell 5
            have x6 : w4.cell? ⟨tb, 6, none⟩ = some (.int .i64 case_) := B4.cell 6
            have e0 : w4.cell? ⟨g, (m + 1) * 7, none⟩ = some (.int .i64 y.id_) := hcell 0 _ rfl
            have f0 : w4.frozen? ⟨g, (m + 1) * 7, none⟩ = false := hfro _
            have e1 : w4.cell? ⟨g, (m + 1) * 7 + 1, none⟩ = some (.string y.land) := hcell 1 _ rfl
            have f1 : w4.frozen? ⟨g, (m + 1) * 7 + 1, none⟩ = false := hfro _
            have e2 : w4.cell? ⟨g, (m + 1) * 7 + 2, none⟩ = some (.int .i64 y.made) := hcell 2 _ rfl
            have f2 : w4.frozen? ⟨g, (m + 1) * 7 + 2, none⟩ = false := hfro _
            have e3 : w4.cell? ⟨g, (m + 1) * 7 + 3, none⟩ = some (.int .i64 y.upper) := hcell 3 _ rfl
            have f3 : w4.frozen? ⟨g, (m + 1) * 7 + 3, none⟩ = false := hfro _
            have e4 : w4.cell? ⟨g, (m + 1) * 7 + 4, none⟩ = some (.int .i64 y.lower) := hcell 4 _ rfl
            have f4 : w4.frozen? ⟨g, (m + 1) * 7 + 4, none⟩ = false := hfro _
            have e5 : w4.cell? ⟨g, (m + 1) * 7 + 5, none⟩ = some (.int .i64 y.rods) := hcell 5 _ rfl
            have f5 : w4.frozen? ⟨g, (m + 1) * 7 + 5, none⟩ = false := hfro _
            have e6 : w4.cell? ⟨g, (m + 1) * 7 + 6, none⟩ = some (.int .i64 y.case_) := hcell 6 _ rfl
            have f6 : w4.frozen? ⟨g, (m + 1) * 7 + 6, none⟩ = false := hfro _
            clear hcell hfro j4 B3 B4 hb3
            go_wp2
            all_goals
              go_roundw
              case rel =>
                obtain ⟨ho, hgr⟩ := HSet.out ⟨id_, land, made, upper, lower, rods, case_⟩
                rw [← HI.out] at ho
                exact ⟨k + 1, _, _, by omega, by go_num, by rw [HL1.out], by rw [HL1.out]; first | exact ho | (rw [show m + 1 + 1 = c1 by omega]; exact ho), hb4.grown hgr hb4z (fun i hi => by cases hi; exact hg)⟩
              case measure => simp [intOf]; omega
    · have HE := Lib.hid (show G k = R by rw [show k = l.length by omega]; exact HV.out)
      go_wp2
      go_ret
      exact ⟨A', c', by rw [← HE.out]; rfl, by rw [← HE.out]; exact ho, hb⟩
end Go.Proofs.Ythoejiepaackhaa
