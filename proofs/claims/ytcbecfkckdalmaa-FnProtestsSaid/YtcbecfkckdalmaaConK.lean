/-
  The standings of the program: the contract.
-/
import Derived.Test.YtcbecfkckdalmaaConJ
import Derived.Test.YtcbecfkckdalmaaRowPut
namespace Go.Proofs.Ytcbecfkckdalmaa
open Go.RowKit

theorem Blk.gr {w w' : World} {g : Nat} {t : TypeId} {cs : Array Value} {row : Option Nat} (h : Blk w g t cs) (hg : w.grownBy w' row) (hne : some g ≠ row) : Blk w' g t cs := (hg.block g h.lt hne).trans h
theorem Blk.ne_own {α : Type} {T : Ty α} {w : World} {g b base n c : Nat} {t : TypeId} {cs : Array Value} {l : List α} (h : Blk w b t cs) (ho : OwnT T w base (.slice (some ⟨g, 0, none⟩) n c) l) (ht : t ≠ T.e) : ¬ b = g := by
  rintro rfl
  rcases ho.2 with ⟨hv, _⟩ | ⟨g', cap, cur, hv, hg, hh, _⟩
  · cases hv
  · injection hv with hv
    injection hv with hv
    injection hv with hv
    subst hv
    unfold Blk at h
    rw [hh] at h
    injection h with h
    injection h with _ h2 _
    exact ht h2.symm
def row2 (x : Int × Int) : List Int := [x.1, x.2]
/-- The rows of the standings. -/
def stR (l : List SolvedV) : List (List Int) := (stV l).map row2
theorem stR_len (l : List SolvedV) : (stR l).length = (pupV l).length := by unfold stR; rw [List.length_map, stV_len]
theorem rank_at_row {l : List SolvedV} {k : Nat} {p t u v n : Int} (hx : ((pupV l).map (rankV l))[k]? = some ⟨p, t, u, v, n⟩) :
    1 + cntB (fun o => betB o ⟨p, t, u, v, n⟩) ((pupV l).map (rankV l)) ((pupV l).map (rankV l)).length = placV l p ∧ (rowsP l)[k]? = some (placV l p, p) := by
  rw [List.getElem?_map] at hx
  cases hq : (pupV l)[k]? with
  | none => rw [hq] at hx; cases hx
  | some q =>
    rw [hq] at hx
    simp only [Option.map_some, Option.some.injEq] at hx
    obtain rfl : q = p := by rw [rankV_eq] at hx; injection hx
    rw [← hx, placV_eq']
    exact ⟨rfl, by rw [← placV_eq']; exact rowsP_at hq⟩
theorem st_step {P : List (Int × Int)} {k : Nat} {pl p : Int} (hx : P[k]? = some (pl, p)) {ps : List (HdrV × List Int)} (h : ps.map Prod.snd = (insK Prod.fst P k).map row2) {n : Nat} (hn : n = (insK Prod.fst P k).length) (kk : Nat) (hd : HdrV) (hk : posL ((insK Prod.fst P k).map Prod.fst) pl n = kk) :
    (insL ps kk (hd, [pl, p])).map Prod.snd = (insK Prod.fst P (k + 1)).map row2 := by
  rw [insK_succ hx, map_insL, map_insL, h, ← hn, hk]
  rfl
theorem st_key {R : List (Int × Int)} {ps : List (HdrV × List Int)} (h : ps.map Prod.snd = R.map row2) {m : Nat} {hd : HdrV} {l : List Int} (hx : ps[m]? = some (hd, l)) : ∃ a b, l = [a, b] ∧ (R.map Prod.fst).getD m 0 = a := by
  have h1 : (ps.map Prod.snd)[m]? = some l := by rw [List.getElem?_map, hx]; rfl
  rw [h, List.getElem?_map] at h1
  cases hq : R[m]? with
  | none => rw [hq] at h1; cases h1
  | some q =>
    rw [hq] at h1
    simp only [Option.map_some, Option.some.injEq] at h1
    exact ⟨q.1, q.2, h1.symm, by rw [List.getD_eq_getElem?_getD, List.getElem?_map, hq]; rfl⟩

set_option maxRecDepth 100000 in
set_option maxHeartbeats 8000000 in
theorem standings_any (A : Option Addr) (c : Nat) (l : List SolvedV) (w : World) (hn : l.length ≤ 1000) (h : RdT solvedT w A l) :
    Calls Try.prog 80 #[.slice A l.length c] w fun e w' => ∃ A' c' ps, e = .returned (.slice A' (List.length ps) c') ∧ ps.map Prod.snd = stR l ∧ OwnS w' w.heap.size (.slice A' (List.length ps) c') ps ∧ Below w.heap.size w w' := by
  have hAR := allRanked_any A c l w (by omega) h
  have hpl := pupA_len l l.length
  rw [← pupV_eq] at hpl
  have HROW := Lib.hid (fun k p t u v n hx => rank_at_row (l := l) (k := k) (p := p) (t := t) (u := u) (v := v) (n := n) hx)
  have hpl2 : ((pupV l).map (rankV l)).length ≤ 1000 := by rw [List.length_map]; omega
  have HST := Lib.hid (show stR l = (insK Prod.fst (rowsP l) ((pupV l).map (rankV l)).length).map row2 by unfold stR stV; rw [rowsP_len, List.length_map])
  have HPL := Lib.hid (show (rowsP l).length = ((pupV l).map (rankV l)).length by rw [rowsP_len, List.length_map])
  clear hpl
  generalize (pupV l).map (rankV l) = all at *
  generalize stR l = SR at *
  generalize rowsP l = P at *
  go_enter Try.func80, Try.ntmps80
  go_wp2_with fail
  refine hAR.mono ?_
  rintro e w1 ⟨AR, cR, rfl, hoR, hb1⟩
  have hrR := hoR.rd
  have hz1 := hb1.size
  clear hoR
  go_wp2
  go_loopw [4, 13] (fun o i wr => ∃ (k : Nat) (A' : Option Addr) (c' : Nat) (ps : List (HdrV × List Int)) (hs : List HdrV), k ≤ all.length ∧ i = .int .i64 k ∧ o = .slice A' hs.length c' ∧ Hid (ps.map Prod.fst = hs ∧ ps.map Prod.snd = (insK Prod.fst P k).map row2 ∧ hs.length = k) ∧ OwnS wr w1.heap.size (.slice A' hs.length c') ps ∧ Below w1.heap.size w1 wr) (fun _ i _ => all.length - (intOf i).toNat)
  case atStart => exact ⟨0, none, 0, [], [], by omega, rfl, rfl, Lib.hid ⟨rfl, rfl, rfl⟩, OwnS.nil _ _, Below.refl _ _⟩
  case round =>
    obtain ⟨k, A', c', ps, hs, hk, rfl, rfl, HH, hown, hb⟩ := hrel
    have hz := hb.size
    have hr := hrR.below hb (Nat.le_refl _)
    have hlh1 : hs.length ≤ k := Nat.le_of_eq HH.out.2.2
    have hlh2 : k ≤ hs.length := Nat.le_of_eq HH.out.2.2.symm
    clear hrR
    by_cases hlt : k < all.length
    · obtain ⟨b, off, p, t, u, v, n, hA, hx, hlb, hc0, hc1, hc2, hc3, hc4⟩ := rank_at hr hlt
      obtain ⟨hplv, hrow⟩ := HROW.out k p t u v n hx
      have HSTEP := Lib.hid (fun kk hd hk => st_step hrow HH.out.2.1 (n := hs.length) (by rw [insK_len _ _ _ (by rw [HPL.out]; omega), HH.out.2.2]) kk hd hk)
      have HKEY := Lib.hid (fun (m : Nat) (hd : HdrV) (lr : List Int) (hx : ps[m]? = some (hd, lr)) => st_key HH.out.2.1 hx)
      generalize insK Prod.fst P k = R at *
      have hPO := fun W g => placeOf_any AR cR all p t u v n W (by omega) g
      rw [hplv] at hPO
      generalize placV l p = pl at *
      have HPO := Lib.hid hPO
      clear hPO hrow hplv hx
      subst hA
      go_wp2_with fail
      refine (HPO.out _ (hr.below ((Below.refl _ _).alloc (Nat.le_refl _) _) (Nat.le_refl _))).mono ?_
      rintro e w2 ⟨rfl, hb2⟩
      have HBL := Lib.hid (Blk.own hb2)
      have HLT := Lib.hid hown.own.lt
      have hoq := (hown.alloc _).below hb2 (Nat.le_refl _)
      have hb2' := (hb.alloc hz _).trans (hb2.mono (by simp; omega))
      have hz2 := hb2'.size
      have hzr : wr.heap.size < w2.heap.size := HBL.out.lt
      have HO2 := Lib.hid (show OwnT hdrT w2 w1.heap.size (.slice A' hs.length c') hs from HH.out.1 ▸ hoq.own)
      have hrd := hoq.rd
      have HOQ := Lib.hid hoq
      clear hoq hown hb2 hc0 hc1 hc2 hc3 hc4 hlb hb hr
      go_wp2
      go_loop [8] (fun z => ∃ kk : Nat, kk ≤ hs.length ∧ z = .int .i64 kk ∧ Hid (posL (R.map Prod.fst) pl hs.length = posL (R.map Prod.fst) pl kk)) (fun z => (intOf z).toNat)
      case atStart => exact ⟨hs.length, Nat.le_refl _, rfl, Lib.hid rfl⟩
      case round =>
        obtain ⟨kk, hkk, rfl, E⟩ := hrel
        by_cases hk0 : kk = 0
        · have E2 := Lib.hid (show posL (R.map Prod.fst) pl hs.length = kk by rw [E.out, hk0, posL_zero])
          have d0 : decide (0 < kk) = false := decide_eq_false (by omega)
          have hk1 : kk ≤ 0 := by omega
          clear E hk0 hrd
          go_wp2_with (at_builtin; refine wpList_appT hdrT rfl _ _ rfl w1.heap.size _ _ rfl HO2.out w1.heap.size hb2' ⟨none, 0, 0⟩ _ rfl 1 1 rfl rfl (by omega) hz2 (Nat.le_refl _) ?_; intro A3 c3 w3 ho3 hb3 hgr3)
          obtain ⟨g, rfl, hg, hgl⟩ := ho3.head (by simp)
          have hcl := (OwnT.cap hdrT ho3).2.1
          have hB3 := (HBL.out.alloc _).gr hgr3 (fun e => by have := (HLT.out _ e.symm).2; omega)
          have hne := hB3.ne_own ho3 (by decide)
          have HO := Lib.hid ho3
          have hz3 : w1.heap.size ≤ w3.heap.size := by have := hgr3.size; simp at this; omega
          have HG3 := Lib.hid hgr3
          have HB3 := Lib.hid hB3
          clear ho3 hgr3 hB3 
          have j1 : IntKind.i64.wrap ((kk : Int) + 1) = (kk : Int) + 1 := IntWalk.i64_in _ (by omega)
          have j2 : (0 : Int) ≤ (kk : Int) + 1 := by omega
          have j3 : (kk : Int) + 1 ≤ (hs.length : Int) + 1 := by omega
          have j4 : (hs.length : Int) + 1 ≤ (c3 : Int) := by omega
          have j5 : (0 : Int) ≤ (kk : Int) := by omega
          have j6 : (kk : Int) ≤ (hs.length : Int) + 1 := by omega
          have j7 : ((kk : Int) + 1).toNat = kk + 1 := by omega
          have j8 : (kk : Int).toNat = kk := by omega
          go_still_tail 7, (by kernel_rfl)
          change wpList _ _ _ _ _ w3.drew
          clear j1 j2 j3 j6 j7
          refine wpList_gapH rfl _ _ rfl w1.heap.size g _ _ (kk) hs ⟨none, 0, 0⟩ (show OwnT hdrT w3.drew w1.heap.size _ _ from HO.out) (by omega) _ _ _ _ _ _ rfl rfl (by omega) (by omega) (fun hh => ⟨if_neg (by omega), if_neg (by omega)⟩) ?_
          intro w4 y HO4 hcell hfro HG4
          have hB4 := HB3.out.gr (gr_of_drew HG4.out) (fun e => by injection e with e; omega)
          have hx4 : w4.cell? ⟨wr.heap.size, 0, none⟩ = some (.int .i64 p) := hB4.cell 0
          have hl4 := hB4.lt
          have hz4 : w3.heap.size ≤ w4.heap.size := HG4.out.size
          have j9 : (kk : Int) < (hs.length : Int) + 1 := by omega
          clear j4 hB4
          go_wp2
          go_roundw
          case rel =>
            have hins := HOQ.out.ins HH.out.1 HG3.out hz2 HO.out (gr_of_drew HG4.out) HO4.out (show kk ≤ hs.length by omega) [pl, p] #[.int .i64 pl, .int .i64 p] 2 rfl rfl (by unfold maxLen; omega)
            have hbF := ((hb3.drew.grown HG4.out (by show w1.heap.size ≤ w3.heap.size; omega) (fun k hk => by cases hk; exact hg)).grown hins.2 (by omega) (fun k hk => by cases hk; exact hg))
            refine ⟨k + 1, _, c3, insL ps (kk) (⟨some ⟨w4.heap.size, 0, none⟩, 2, 2⟩, [pl, p]), insL hs (kk) ⟨some ⟨w4.heap.size, 0, none⟩, 2, 2⟩, by omega, by go_num, by rw [length_insL], Lib.hid ⟨by rw [map_insL, HH.out.1], HSTEP.out _ _ E2.out, by rw [length_insL, HH.out.2.2]⟩, ?_, hbF⟩
            rw [length_insL]
            exact hins.1
          case measure => simp [intOf]; omega
        · obtain ⟨m, rfl⟩ : ∃ m, kk = m + 1 := ⟨kk - 1, by omega⟩
          clear hk0
          obtain ⟨b3, o3, A5, c5, lr, rfl, hx5, hl5, hc5, hr5⟩ := hrd.at_ (k := m) (by have := congrArg List.length HH.out.1; rw [List.length_map] at this; omega)
          obtain ⟨x1, x2, rfl, hkey⟩ := HKEY.out m _ _ hx5
          obtain ⟨b6, o6, x6, rfl, hx6, hl6, hc6⟩ := hr5.at_ (k := 0) (by simp)
          obtain rfl : x1 = x6 := by simpa using hx6
          have hc5' : w2.cell? ⟨b3, o3 + m, none⟩ = some (.slice (some ⟨b6, o6, none⟩) 2 c5) := hc5
          rw [Nat.add_zero] at hc6
          clear hx5 hx6 hc5 hr5
          by_cases hlt2 : pl < x1
          · have E2 := Lib.hid (show posL (R.map Prod.fst) pl hs.length = posL (R.map Prod.fst) pl m by rw [E.out, posL_down (by rw [hkey]; exact hlt2)])
            have d1 : decide (pl < x1) = true := decide_eq_true hlt2
            clear E hkey
            go_wp2
            go_round
            case rel => exact ⟨m, by omega, by first | rfl | go_num, E2⟩
            case measure => simp [intOf] <;> omega
          · have E2 := Lib.hid (show posL (R.map Prod.fst) pl hs.length = m + 1 by rw [E.out, posL_stop (by rw [hkey]; exact hlt2)])
            have d1 : decide (pl < x1) = false := decide_eq_false hlt2
            clear E hkey
            go_wp2_with (at_builtin; refine wpList_appT hdrT rfl _ _ rfl w1.heap.size _ _ rfl HO2.out w1.heap.size hb2' ⟨none, 0, 0⟩ _ rfl 1 1 rfl rfl (by omega) hz2 (Nat.le_refl _) ?_; intro A3 c3 w3 ho3 hb3 hgr3)
            obtain ⟨g, rfl, hg, hgl⟩ := ho3.head (by simp)
            have hcl := (OwnT.cap hdrT ho3).2.1
            have hB3 := (HBL.out.alloc _).gr hgr3 (fun e => by have := (HLT.out _ e.symm).2; omega)
            have hne := hB3.ne_own ho3 (by decide)
            have HO := Lib.hid ho3
            have hz3 : w1.heap.size ≤ w3.heap.size := by have := hgr3.size; simp at this; omega
            have HG3 := Lib.hid hgr3
            have HB3 := Lib.hid hB3
            clear ho3 hgr3 hB3 hc5' hc6
            have j1 : IntKind.i64.wrap ((m + 1 : Int) + 1) = (m + 1 : Int) + 1 := IntWalk.i64_in _ (by omega)
            have j2 : (0 : Int) ≤ (m + 1 : Int) + 1 := by omega
            have j3 : (m + 1 : Int) + 1 ≤ (hs.length : Int) + 1 := by omega
            have j4 : (hs.length : Int) + 1 ≤ (c3 : Int) := by omega
            have j5 : (0 : Int) ≤ (m + 1 : Int) := by omega
            have j6 : (m + 1 : Int) ≤ (hs.length : Int) + 1 := by omega
            have j7 : ((m + 1 : Int) + 1).toNat = m + 1 + 1 := by omega
            have j8 : (m + 1 : Int).toNat = m + 1 := by omega
            go_still_tail 7, (by kernel_rfl)
            change wpList _ _ _ _ _ w3.drew
            clear j1 j2 j3 j6 j7
            refine wpList_gapH rfl _ _ rfl w1.heap.size g _ _ (m + 1) hs ⟨none, 0, 0⟩ (show OwnT hdrT w3.drew w1.heap.size _ _ from HO.out) (by omega) _ _ _ _ _ _ rfl rfl (by omega) (by omega) (fun hh => ⟨if_neg (by omega), if_neg (by omega)⟩) ?_
            intro w4 y HO4 hcell hfro HG4
            have hB4 := HB3.out.gr (gr_of_drew HG4.out) (fun e => by injection e with e; omega)
            have hx4 : w4.cell? ⟨wr.heap.size, 0, none⟩ = some (.int .i64 p) := hB4.cell 0
            have hl4 := hB4.lt
            have hz4 : w3.heap.size ≤ w4.heap.size := HG4.out.size
            have j9 : (m + 1 : Int) < (hs.length : Int) + 1 := by omega
            clear j4 hB4
            go_wp2
            go_roundw
            case rel =>
              have hins := HOQ.out.ins HH.out.1 HG3.out hz2 HO.out (gr_of_drew HG4.out) HO4.out (show m + 1 ≤ hs.length by omega) [pl, p] #[.int .i64 pl, .int .i64 p] 2 rfl rfl (by unfold maxLen; omega)
              have hbF := ((hb3.drew.grown HG4.out (by show w1.heap.size ≤ w3.heap.size; omega) (fun k hk => by cases hk; exact hg)).grown hins.2 (by omega) (fun k hk => by cases hk; exact hg))
              refine ⟨k + 1, _, c3, insL ps (m + 1) (⟨some ⟨w4.heap.size, 0, none⟩, 2, 2⟩, [pl, p]), insL hs (m + 1) ⟨some ⟨w4.heap.size, 0, none⟩, 2, 2⟩, by omega, by go_num, by rw [length_insL], Lib.hid ⟨by rw [map_insL, HH.out.1], HSTEP.out _ _ E2.out, by rw [length_insL, HH.out.2.2]⟩, ?_, hbF⟩
              rw [length_insL]
              exact hins.1
            case measure => simp [intOf]; omega
    · have hkl : k = all.length := by omega
      have HF := Lib.hid (show ps.map Prod.snd = SR by rw [HH.out.2.1, HST.out, hkl])
      have hpl : ps.length = hs.length := by have := congrArg List.length HH.out.1; rwa [List.length_map] at this
      have HL := Lib.hid hpl
      clear hkl hpl
      go_wp2
      go_ret
      refine ⟨A', c', ps, by rw [HL.out]; rfl, HF.out, by rw [HL.out]; exact hown.mono hz1, hb1.trans (hb.mono hz1)⟩
end Go.Proofs.Ytcbecfkckdalmaa
