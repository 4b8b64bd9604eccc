/-
  Exhibits of which no two are kin, of the program: the contract.
-/
import Derived.Test.YthoejiepaackhaaMusH
namespace Go.Proofs.Ythoejiepaackhaa
open Go.RowKit

theorem fitB_def (ch : List ExhibitV) (room : Int) (x : ExhibitV) : fitB ch room x = (decide (x.rods ≤ room - rodA ch ch.length) && !kinTo ch x ch.length) := rfl
theorem blk_ne {w : World} {tb base n c : Nat} {A : Option Addr} {l : List ExhibitV} (h : OwnT exhibitT w base (.slice A n c) l) (ht : w.heap.size ≤ tb) : some tb ≠ (Value.slice A n c).ownBlock := fun e => by
  have := (h.lt tb e.symm).2; omega
theorem Blk.ne_v {α : Type} {T : Ty α} {w : World} {b base : Nat} {t : TypeId} {cs : Array Value} {v : Value} {l : List α} (h : Blk w b t cs) (ho : OwnT T w base v l) (ht : t ≠ T.e) : some b ≠ v.ownBlock := by
  rcases ho.2 with ⟨rfl, _⟩ | ⟨g, cap, cur, rfl, hg, hh, r⟩
  · intro e; cases e
  · intro e; exact Blk.ne_own h ho ht (Option.some.inj (show some b = some g from e))
set_option maxRecDepth 100000 in
set_option maxHeartbeats 8000000 in
theorem showI_any (A : Option Addr) (c : Nat) (l : List ExhibitV) (room : Int) (w : World) (hn : l.length ≤ 16777216) (h : RdT exhibitT w A l) (hok : ∀ x ∈ l, x.ok) :
    Calls Try.prog 39 #[.slice A l.length c, .int .i64 room] w (RetI w (shV l room) (shB l room)) := by
  have hG := Lib.hid (fun W g => areExhibits_any A c l W hn g hok)
  cases gg : goodB l
  · have e1 : shB l room = false := by simp [shB, gg]
    rw [shV_no e1, e1]
    rw [gg] at hG
    clear e1
    go_enter Try.func39, Try.ntmps39
    go_wp2_with fail
    refine (hG.out _ h).mono ?_
    rintro e w1 ⟨rfl, hb1⟩
    go_wp2
    go_ret2
    exact ⟨none, 0, rfl, OwnI.nil _ _, hb1⟩
  rw [gg] at hG
  cases gr : inB room 0 500
  · have e1 : shB l room = false := by simp [shB, gr]
    have HW := Lib.hid (fun W => gr ▸ within_any room 0 500 W)
    rw [shV_no e1, e1]
    clear e1 gr
    go_enter Try.func39, Try.ntmps39
    go_wp2_with fail
    refine (hG.out _ h).mono ?_
    rintro e w1 ⟨rfl, hb1⟩
    go_wp2_with fail
    refine (HW.out _).mono ?_
    rintro e wz ⟨rfl, rfl⟩
    go_wp2
    go_ret2
    exact ⟨none, 0, rfl, OwnI.nil _ _, hb1⟩
  have HW := Lib.hid (fun W => gr ▸ within_any room 0 500 W)
  obtain ⟨hr1, hr2⟩ := (inB_iff _ _ _).1 gr
  have e1 : shB l room = true := by simp [shB, gg, gr]
  rw [shV_yes e1, e1]
  have h10 := (goodB_iff gg).1
  have HB := Lib.hid (fun W g => byAge_any A c l W (by omega) g)
  have hOl : (agV l).length ≤ 10 := by rw [agV_len]; exact h10
  have HEX := Lib.hid (fun k (y : ExhibitV) (hy : y ∈ shA (agV l) room k) => agV_exh gg y (shA_mem _ _ _ y hy))
  have HEO := Lib.hid (fun k (y : ExhibitV) (hy : (agV l)[k]? = some y) => agV_exh gg y (List.mem_of_getElem? hy))
  have HEL := Lib.hid (agV_len l)
  clear gg gr e1
  generalize agV l = O at *
  have H0 := Lib.hid (shA_zero O room)
  have HLN := Lib.hid (shA_len O room)
  have HY := Lib.hid (fun k (x : ExhibitV) (hx : O[k]? = some x) => shA_yes (room := room) hx)
  have HN := Lib.hid (fun k (x : ExhibitV) (hx : O[k]? = some x) => shA_no (room := room) hx)
  generalize shA O room = S at *
  go_enter Try.func39, Try.ntmps39
  go_wp2_with fail
  refine (hG.out _ h).mono ?_
  rintro e w1 ⟨rfl, hb1⟩
  have hz1 := hb1.size
  go_wp2_with fail
  refine (HW.out _).mono ?_
  rintro e wz ⟨rfl, rfl⟩
  go_wp2_with fail
  refine (HB.out _ (h.below hb1 (Nat.le_refl _))).mono ?_
  rintro e w2 ⟨AP, cP, rfl, hop, hb2⟩
  have hbA := hb1.trans (hb2.mono hz1)
  have hz2 := hbA.size
  clear hb1 hb2 HB hG HW
  go_wp2
  go_loopw [1, 6, 7, 24] (fun q o p i wr => ∃ (k : Nat) (A1 A2 : Option Addr) (c1 c2 : Nat), k ≤ O.length ∧ i = .int .i64 k ∧ q = .int .i64 (room - rodA (S k) (S k).length) ∧ o = .slice A1 (S k).length c1 ∧ p = .slice A2 (idL (S k)).length c2 ∧ OwnT exhibitT wr w2.heap.size (.slice A1 (S k).length c1) (S k) ∧ Hid (OwnI wr w2.heap.size (.slice A2 (idL (S k)).length c2) (idL (S k))) ∧ Below w2.heap.size w2 wr) (fun _ _ _ i _ => O.length - (intOf i).toNat)
  case atStart => exact ⟨0, none, none, 0, 0, by omega, rfl, by rw [H0.out]; show _ = Value.int .i64 (room - rodA [] 0); rw [rodA_zero]; simp, by rw [H0.out]; rfl, by rw [H0.out]; rfl, by rw [H0.out]; exact OwnT.nil _ _, by rw [H0.out]; exact Lib.hid (OwnI.nil _ _), Below.refl _ _⟩
  case round =>
    obtain ⟨k, A1, A2, c1, c2, hk, rfl, rfl, rfl, rfl, ho, HOI, hb⟩ := hrel
    have hz := hb.size
    have hln := HLN.out k
    have hrb := rodA_bd (HEX.out k) (S k).length
    by_cases hlt : k < O.length
    · obtain ⟨b, off, id_, land, made, upper, lower, rods, case_, hA, hx, hlb, hc0, hc1, hc2, hc3, hc4, hc5, hc6⟩ := exhibitT_at (OwnT.rd (hop.below hb (Nat.le_refl _))) hlt
      have hex := (exhB_iff (HEO.out k _ hx)).2.2.2.2.1
      have HYk := Lib.hid (HY.out k _ hx)
      have HNk := Lib.hid (HN.out k _ hx)
      dsimp only at hex
      clear hx
      subst hA
      obtain ⟨x, hxe⟩ : ∃ x : ExhibitV, x = ⟨id_, land, made, upper, lower, rods, case_⟩ := ⟨_, rfl⟩
      rw [← hxe] at HYk HNk
      have HXE := Lib.hid hxe
      clear hxe
      generalize S k = L at *
      have HKZ := Lib.hid (kinTo_zero L x)
      have HKS := Lib.hid (fun m y (hy : L[m]? = some y) => kinTo_succ (x := x) hy)
      have HRS := Lib.hid (rodA_snoc L x)
      have HFD := Lib.hid (fitB_def L room x)
      generalize kinTo L x = K at *
      obtain ⟨D, hD⟩ : ∃ D : Int, D = rodA L L.length := ⟨_, rfl⟩
      rw [← hD] at HRS HFD hrb ⊢
      have HD := Lib.hid hD
      have hil : (idL L).length ≤ 10 := by rw [idL_len]; omega
      clear hD
      obtain ⟨w3, hw3⟩ : ∃ w3 : World, w3 = wr.alloc (.cells #[.int .i64 id_, .string land, .int .i64 made, .int .i64 upper, .int .i64 lower, .int .i64 rods, .int .i64 case_] 26) := ⟨_, rfl⟩
      have hb3 : Below wr.heap.size wr w3 := by rw [hw3]; exact (Below.refl _ _).alloc (Nat.le_refl _) _
      have B3 : Blk w3 wr.heap.size 26 #[.int .i64 id_, .string land, .int .i64 made, .int .i64 upper, .int .i64 lower, .int .i64 rods, .int .i64 case_] := by rw [hw3]; exact Blk.new _ _ _
      have u5 : w3.cell? ⟨wr.heap.size, 5, none⟩ = some (.int .i64 rods) := B3.cell 5
      have ho3 := ho.below hb3 (Nat.le_refl _)
      have HOI3 := Lib.hid (OwnI.below HOI.out hb3 (Nat.le_refl _))
      have hbB := hb.trans (hb3.mono hz)
      have hzB := hbB.size
      have hne : Hid (some wr.heap.size ≠ (Value.slice A1 L.length c1).ownBlock) := Lib.hid (blk_ne ho (Nat.le_refl _))
      have HW3 := Lib.hid hw3
      have dk1 : decide (k < O.length) = true := decide_eq_true hlt
      have dk2 : decide ((k : Int) < (O.length : Int)) = true := decide_eq_true (by omega)
      obtain ⟨tb, htb⟩ : ∃ tb : Nat, tb = wr.heap.size := ⟨_, rfl⟩
      clear hw3 ho HOI hb3
      go_wp2
      rw [← HW3.out]
      clear HW3 dk1 dk2 hc0 hc1 hc2 hc3 hc4 hc5 hc6
      rw [← htb] at B3 u5 hne ⊢
      clear htb
      obtain ⟨wq, rfl⟩ : ∃ wq : World, wq = wr := ⟨_, rfl⟩
      go_loopw [10, 34] (fun f i wy => ∃ m : Nat, m ≤ L.length ∧ i = .int .i64 m ∧ f = .bool (decide (rods ≤ room - D) && !K m) ∧ Below w3.heap.size w3 wy) (fun _ i _ => L.length - (intOf i).toNat)
      case atStart => exact ⟨0, by omega, rfl, by rw [HKZ.out]; simp, Below.refl _ _⟩
      case round =>
        obtain ⟨m, hmm, rfl, rfl, hby⟩ := hrel
        have hzy := hby.size
        have hoY := ho3.below hby (Nat.le_refl _)
        have BY := B3.below hby B3.lt
        have hbY := hbB.trans (hby.mono hzB)
        have hzY := hbY.size
        clear ho3 u5
        obtain ⟨fb, hfb⟩ : ∃ fb : Bool, (decide (rods ≤ room - D) && !K m) = fb := ⟨_, rfl⟩
        rw [hfb]
        have HFB := Lib.hid hfb
        clear hfb
        by_cases hlm : m < L.length
        · obtain ⟨b2, o2, yid, yland, ymade, yupper, ylower, yrods, ycase, hA2, hy, hlb2, hd0, hd1, hd2, hd3, hd4, hd5, hd6⟩ := exhibitT_at (OwnT.rd hoY) hlm
          have HS := Lib.hid (HKS.out m _ hy)
          have hkin := fun W => isKin_at id_ land made upper lower rods case_ yid yland ymade yupper ylower yrods ycase W
          rw [← HXE.out] at hkin
          subst hA2
          clear hy
          obtain ⟨kb, hkb⟩ : ∃ kb : Bool, kinB x ⟨yid, yland, ymade, yupper, ylower, yrods, ycase⟩ = kb := ⟨_, rfl⟩
          rw [hkb] at hkin HS
          have HKin := Lib.hid hkin
          clear hkb hkin
          cases fb
          · have E := Lib.hid (show (decide (rods ≤ room - D) && !K (m + 1)) = false by
              have h1 := HFB.out
              rw [HS.out]
              revert h1
              cases decide (rods ≤ room - D) <;> cases K m <;> simp)
            clear HKin HS HFB BY
            go_wp2
            go_roundw
            case rel => exact ⟨m + 1, by omega, by go_num, by rw [E.out], hby.alloc hzy _⟩
            case measure => simp [intOf]; omega
          · have E := Lib.hid (show (decide (rods ≤ room - D) && !K (m + 1)) = !kb by
              have h1 := HFB.out
              rw [HS.out]
              revert h1
              cases decide (rods ≤ room - D) <;> cases K m <;> simp)
            have hbN := hby.alloc hzy (.cells #[.int .i64 yid, .string yland, .int .i64 ymade, .int .i64 yupper, .int .i64 ylower, .int .i64 yrods, .int .i64 ycase] 26)
            have x0 : (wr.alloc (.cells #[.int .i64 yid, .string yland, .int .i64 ymade, .int .i64 yupper, .int .i64 ylower, .int .i64 yrods, .int .i64 ycase] 26)).cell? ⟨tb, 0, none⟩ = some (.int .i64 id_) := (BY.alloc _).cell 0
            have x1 : (wr.alloc (.cells #[.int .i64 yid, .string yland, .int .i64 ymade, .int .i64 yupper, .int .i64 ylower, .int .i64 yrods, .int .i64 ycase] 26)).cell? ⟨tb, 1, none⟩ = some (.string land) := (BY.alloc _).cell 1
            have x2 : (wr.alloc (.cells #[.int .i64 yid, .string yland, .int .i64 ymade, .int .i64 yupper, .int .i64 ylower, .int .i64 yrods, .int .i64 ycase] 26)).cell? ⟨tb, 2, none⟩ = some (.int .i64 made) := (BY.alloc _).cell 2
            have x3 : (wr.alloc (.cells #[.int .i64 yid, .string yland, .int .i64 ymade, .int .i64 yupper, .int .i64 ylower, .int .i64 yrods, .int .i64 ycase] 26)).cell? ⟨tb, 3, none⟩ = some (.int .i64 upper) := (BY.alloc _).cell 3
            have x4 : (wr.alloc (.cells #[.int .i64 yid, .string yland, .int .i64 ymade, .int .i64 yupper, .int .i64 ylower, .int .i64 yrods, .int .i64 ycase] 26)).cell? ⟨tb, 4, none⟩ = some (.int .i64 lower) := (BY.alloc _).cell 4
            have x5 : (wr.alloc (.cells #[.int .i64 yid, .string yland, .int .i64 ymade, .int .i64 yupper, .int .i64 ylower, .int .i64 yrods, .int .i64 ycase] 26)).cell? ⟨tb, 5, none⟩ = some (.int .i64 rods) := (BY.alloc _).cell 5
            have x6 : (wr.alloc (.cells #[.int .i64 yid, .string yland, .int .i64 ymade, .int .i64 yupper, .int .i64 ylower, .int .i64 yrods, .int .i64 ycase] 26)).cell? ⟨tb, 6, none⟩ = some (.int .i64 case_) := (BY.alloc _).cell 6
            clear HS HFB BY
            go_wp2_with (go_at_call 59; refine (HKin.out _).mono ?_; rintro e w5 ⟨rfl, hb5⟩)
            go_roundw
            case rel => exact ⟨m + 1, by omega, by go_num, by rw [E.out], hbN.trans (hb5.mono hbN.size)⟩
            case measure => simp [intOf]; omega
        · obtain rfl : m = L.length := by omega
          have HFIT := Lib.hid (show fitB L room x = fb by rw [HFD.out, ← HFB.out, HXE.out])
          have HOIY := Lib.hid (OwnI.below HOI3.out hby (Nat.le_refl _))
          clear HFB HOI3
          cases fb
          · have E := Lib.hid (HNk.out HFIT.out)
            clear HFIT
            go_wp2
            go_roundw
            case rel => exact ⟨k + 1, A1, A2, c1, c2, by omega, by go_num, by rw [E.out, ← HD.out], by rw [E.out], by rw [E.out], by rw [E.out]; exact hoY, by rw [E.out]; exact HOIY, hbY⟩
            case measure => simp [intOf]; omega
          · have E := Lib.hid (show S (k + 1) = L ++ [(⟨id_, land, made, upper, lower, rods, case_⟩ : ExhibitV)] by rw [HYk.out HFIT.out, HXE.out])
            have HR := Lib.hid (show rodA (S (k + 1)) (S (k + 1)).length = D + rods by rw [HYk.out HFIT.out, HRS.out, HXE.out])
            have HLL := Lib.hid (show (S (k + 1)).length = L.length + 1 by rw [E.out]; simp)
            have HIL := Lib.hid (show idL (S (k + 1)) = idL L ++ [id_] by rw [E.out, idL_snoc])
            have HIN := Lib.hid (show (idL (S (k + 1))).length = (idL L).length + 1 by rw [HIL.out]; simp)
            have i1 : IntKind.i64.wrap (room - D - rods) = room - D - rods := IntWalk.i64_in _ (by omega)
            have x0 : wr.cell? ⟨tb, 0, none⟩ = some (.int .i64 id_) := BY.cell 0
            have x1 : wr.cell? ⟨tb, 1, none⟩ = some (.string land) := BY.cell 1
            have x2 : wr.cell? ⟨tb, 2, none⟩ = some (.int .i64 made) := BY.cell 2
            have x3 : wr.cell? ⟨tb, 3, none⟩ = some (.int .i64 upper) := BY.cell 3
            have x4 : wr.cell? ⟨tb, 4, none⟩ = some (.int .i64 lower) := BY.cell 4
            have x5 : wr.cell? ⟨tb, 5, none⟩ = some (.int .i64 rods) := BY.cell 5
            have x6 : wr.cell? ⟨tb, 6, none⟩ = some (.int .i64 case_) := BY.cell 6
            clear HFIT hbB
            go_wp2_with (first
              | (at_builtin; refine wpList_appT exhibitT rfl _ _ rfl w2.heap.size _ _ rfl hoY w2.heap.size hbY ⟨id_, land, made, upper, lower, rods, case_⟩ _ rfl 1 1 rfl rfl (by omega) hzY (Nat.le_refl _) ?_; intro A3 c3 w5 ho5 hb5 hgr5; have BX5 := (BY.alloc (.cells #[.int .i64 id_, .string land, .int .i64 made, .int .i64 upper, .int .i64 lower, .int .i64 rods, .int .i64 case_] 26)).gr hgr5 hne.out; have p0 : w5.cell? ⟨tb, 0, none⟩ = some (.int .i64 id_) := BX5.cell 0; have HOI5 := Lib.hid (OwnI.kept (OwnI.alloc HOIY.out _) hgr5 (own_apart HOIY.out hoY (by decide))); have hz5 := hb5.size)
              | (at_builtin; refine wpList_app_int rfl _ _ rfl w2.heap.size _ _ rfl HOI5.out w2.heap.size w2 hb5 id_ 1 1 rfl rfl (by omega) hz5 (Nat.le_refl _) ?_; intro A4 c4 w6 ho6 hb6 hgr6; have BX6 := (BX5.alloc (.cells #[.int .i64 id_] 3)).gr hgr6 (Blk.ne_v BX5 (own_int.2 HOI5.out) (by decide)); have p5 : w6.cell? ⟨tb, 5, none⟩ = some (.int .i64 rods) := BX6.cell 5; have ho56 := OwnT.kept (OwnT.alloc ho5 (.cells #[.int .i64 id_] 3)) hgr6 (own_apart ho5 HOI5.out (by decide)); have HO6 := Lib.hid ho6; clear ho6))
            go_roundw
            case rel => exact ⟨k + 1, A3, A4, c3, c4, by omega, by go_num, by rw [HR.out]; congr 1; omega, by rw [HLL.out], by rw [HIN.out], by rw [HLL.out, E.out]; exact ho56, Lib.hid (by rw [HIN.out, HIL.out]; exact HO6.out), hb6⟩
            case measure => simp [intOf]; omega
    · have HE := Lib.hid (show S k = S l.length by rw [show k = l.length by rw [← HEL.out]; omega])
      go_wp2
      go_ret2
      exact ⟨A2, c2, by rw [← HE.out]; rfl, by rw [← HE.out]; exact OwnI.mono HOI.out hz2, hbA.trans (hb.mono hz2)⟩
end Go.Proofs.Ythoejiepaackhaa
