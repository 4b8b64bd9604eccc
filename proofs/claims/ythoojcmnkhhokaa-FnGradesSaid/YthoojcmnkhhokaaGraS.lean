/-
  CountingTries, of the program and of the reference: contracts.
-/
import Derived.Test.YthoojcmnkhhokaaGraQ
import Derived.Test.YthoojcmnkhhokaaGraR
import Derived.Test.YthoojcmnkhhokaaPutF
namespace Go.Proofs.Ythoojcmnkhhokaa
set_option maxRecDepth 100000
open Go.RowKit

theorem apart_sym {v v' : Value} (h : ApartV v v') : ApartV v' v := h.symm
set_option maxHeartbeats 4000000 in
theorem countI_t (A : Option Addr) (c : Nat) (s : List PartV) (B : Option Addr) (d : Nat) (ps : List (TryH × List Int)) (ts : List TryV) (sv : ps.map toV = ts) (w : World) (hn : s.length ≤ 16777216) (hcap : s.length ≤ c) (h : RdT partT w A s) (hok : ∀ x ∈ s, x.ok) (hm : ps.length ≤ 16777216) (hsm : ∀ p ∈ ps, p.2.length ≤ 16777216) (hr : RdY tryT w B ps) :
    Calls Try.prog 50 #[.slice A s.length c, .slice B ps.length d] w (RetI w (cvV s ts) (goodB s ts)) := by
  have hG := Lib.hid (fun W g g2 => areTriesI_t A c s B d ps ts sv W hn hcap g hok hm hsm g2)
  have hlm : ps.length = ts.length := by rw [← sv, List.length_map]
  cases gg : goodB s ts
  · rw [cvV_no gg]
    rw [gg] at hG
    clear hlm
    go_enter Try.func50, Try.ntmps50
    go_wp2_with fail
    refine (hG.out _ h hr).mono ?_
    rintro e w1 ⟨rfl, hb1⟩
    go_wp2
    go_ret2
    exact ⟨none, 0, rfl, OwnI.nil _ _, hb1⟩
  rw [gg] at hG
  rw [cvV_yes gg]
  obtain ⟨_, h10, _⟩ := goodB_iff gg
  have hp1 : ps.length ≤ 1000 := by omega
  have e1 : putTo (pupL ts) ps.length = pupA ts := by unfold pupA; rw [hlm]
  have e2 : cntA s ts ps.length = cntL s ts := by unfold cntL; rw [hlm]
  have hP := fun W g2 => pupilsOf_any B d ps ts sv W hp1 g2
  have hC := fun p W g g2 => counting_any A c s B d ps ts sv p W gg g g2
  simp only [e1] at hP
  simp only [e2] at hC
  have hPl : (pupA ts).length ≤ 10 := Nat.le_trans (pupA_len ts) h10
  have hall := outP_all s ts
  have hFl : ∀ p, (ofP ts p (cntL s ts)).length ≤ 10 := fun p => by
    have h1 : (ofP ts p (cntL s ts)).length ≤ (cntL s ts).length := List.length_filter_le _ _
    have h2 := (cntA_mem s ts ts.length).2.2
    have h3 : (cntL s ts).length ≤ ts.length := h2
    omega
  obtain ⟨F, hF⟩ : ∃ F : Int → List Int, F = fun p => ofP ts p (cntL s ts) := ⟨_, rfl⟩
  have hFp : ∀ p, ofP ts p (cntL s ts) = F p := fun p => by rw [hF]
  simp only [hFp] at hC hFl
  rw [← hF] at hall
  clear hFp hF e1 e2 h10 hlm
  generalize pupA ts = P at *
  generalize cntL s ts = R at *
  have HP := Lib.hid hP
  have HC := Lib.hid hC
  have HALL := Lib.hid hall
  have HFL := Lib.hid hFl
  have HOL := Lib.hid (outP_len F P hFl)
  have HO0 := Lib.hid (outP_zero F P)
  clear hP hC hall hFl
  go_enter Try.func50, Try.ntmps50
  go_wp2_with fail
  refine (hG.out _ h hr).mono ?_
  rintro e w1 ⟨rfl, hb1⟩
  have hz1 := hb1.size
  go_wp2_with fail
  refine (HP.out _ (hr.below hb1 (Nat.le_refl _))).mono ?_
  rintro e w2 ⟨AP, cP, rfl, hop, hb2⟩
  have hop2 := hop.mono hz1
  have hbA := hb1.trans (hb2.mono hz1)
  have hz2 := hbA.size
  clear hop hb1 hb2 HP hG
  go_wp2
  go_loopw [6, 20] (fun o i wr => ∃ (k : Nat) (A' : Option Addr) (c' : Nat), k ≤ P.length ∧ i = .int .i64 k ∧ o = .slice A' (outP F P k).length c' ∧ OwnI wr w2.heap.size (.slice A' (outP F P k).length c') (outP F P k) ∧ Below w2.heap.size w2 wr) (fun _ i _ => P.length - (intOf i).toNat)
  case atStart => exact ⟨0, none, 0, by omega, rfl, by rw [HO0.out]; rfl, by rw [HO0.out]; exact OwnI.nil _ _, Below.refl _ _⟩
  case round =>
    obtain ⟨k, A', c', hk, rfl, rfl, ho, hbr⟩ := hrel
    have hzr := hbr.size
    have hwr := hbA.trans (hbr.mono hz2)
    by_cases hlt : k < P.length
    · obtain ⟨wq, rfl⟩ : ∃ wq : World, wq = wr := ⟨_, rfl⟩
      obtain ⟨bp, op, p, hAP, hxp, hlp, hcp⟩ := (OwnI.rd (hop2.below hbr (Nat.le_refl _))).at_ hlt
      have HS := Lib.hid (outP_succ (F := F) hxp)
      have HCp := Lib.hid (HC.out p)
      have hfl := HFL.out p
      have hol := HOL.out k
      have dk1 : decide (k < P.length) = true := decide_eq_true hlt
      have dk2 : decide ((k : Int) < (P.length : Int)) = true := decide_eq_true (by omega)
      clear hxp
      generalize outP F P k = L at *
      generalize F p = l at *
      have HA0 := Lib.hid (addL_zero L l)
      have HAL := Lib.hid (addL_len L l)
      subst hAP
      go_wp2_with fail
      refine (HCp.out _ (h.below hwr (Nat.le_refl _)) (hr.below hwr (Nat.le_refl _))).mono ?_
      rintro e w3 ⟨As, cs, rfl, hos, hb3⟩
      have ho3 := ho.below hb3 (Nat.le_refl _)
      have hb23 := hbr.trans (hb3.mono hzr)
      have hos3 := OwnI.mono hos hzr
      have HAP := Lib.hid (show ApartV (.slice A' L.length c') (.slice As l.length cs) from apart_of (B := wq.heap.size) (fun k hk => (OwnI.lt ho k hk).2) (fun k hk => (OwnI.lt hos k hk).1))
      clear ho hos hb3 hcp hlp HCp
      go_wp2
      clear dk1 dk2
      go_loopw [6, 33] (fun o i wy => ∃ (m : Nat) (A' : Option Addr) (c' : Nat), m ≤ l.length ∧ i = .int .i64 m ∧ o = .slice A' (addL L l m).length c' ∧ OwnI wy w2.heap.size (.slice A' (addL L l m).length c') (addL L l m) ∧ OwnI wy w2.heap.size (.slice As l.length cs) l ∧ Hid (ApartV (.slice A' (addL L l m).length c') (.slice As l.length cs)) ∧ Below w2.heap.size w2 wy) (fun _ i _ => l.length - (intOf i).toNat)
      case atStart => exact ⟨0, A', c', by omega, rfl, by rw [HA0.out], by rw [HA0.out]; exact ho3, hos3, by rw [HA0.out]; exact HAP, hb23⟩
      case round =>
        obtain ⟨m, A2, c2, hmm, rfl, rfl, ho, hos, HAP, hby⟩ := hrel
        clear ho3 hb23 hos3
        have hzy := hby.size
        have hal := HAL.out m
        by_cases hlm2 : m < l.length
        · obtain ⟨bs, os, x, rfl, hx, hlx, hcx⟩ := (OwnI.rd hos).at_ hlm2
          have HS2 := Lib.hid (addL_succ (L := L) hx)
          clear hx
          generalize addL L l m = M at *
          go_wp2_with fail
          refine (putInt_far w2.heap.size A2 c2 M x _ (by omega) hzy ho).mono ?_
          rintro e w4 ⟨A3, c3, rfl, ho4, hb4, HF, HN⟩
          have HAP4 := Lib.hid (apart_sym (HN.out _ (apart_sym HAP.out) (fun k hk => (OwnI.lt hos k hk).2)))
          have hos4 := hos.far HF.out HAP.out
          rw [← HS2.out] at ho4 HAP4 ⊢
          clear HN HF HAP hos ho
          go_wp2
          go_roundw
          case rel => exact ⟨m + 1, A3, c3, by omega, by go_num, rfl, ho4, hos4, HAP4, hby.trans hb4⟩
          case measure => simp [intOf]; omega
        · obtain rfl : m = l.length := by omega
          rw [← HS.out] at ho
          clear HAP hos
          go_wp2
          go_roundw
          case rel => exact ⟨k + 1, A2, c2, by omega, by go_num, by rw [HS.out], ho, hby⟩
          case measure => simp [intOf]; omega
    · have HE := Lib.hid (show outP F P k = R by rw [show k = P.length by omega]; exact HALL.out)
      go_wp2
      go_ret2
      exact ⟨A', c', by rw [← HE.out]; rfl, by rw [← HE.out]; exact OwnI.mono ho hz2, hwr⟩

set_option maxHeartbeats 4000000 in
theorem countS_t (A : Option Addr) (c : Nat) (s : List PartV) (B : Option Addr) (d : Nat) (ps : List (TryH × List Int)) (ts : List TryV) (sv : ps.map toV = ts) (w : World) (hn : s.length ≤ 16777216) (hcap : s.length ≤ c) (h : RdT partT w A s) (hok : ∀ x ∈ s, x.ok) (hm : ps.length ≤ 16777216) (hsm : ∀ p ∈ ps, p.2.length ≤ 16777216) (hr : RdY tryT w B ps) :
    Calls Try.prog 49 #[.slice A s.length c, .slice B ps.length d] w (RetI w (cvV s ts) (goodB s ts)) := by
  have hG := Lib.hid (fun W g g2 => l17Good_t A c s B d ps ts sv W hn hcap g hok hm hsm g2)
  have hlm : ps.length = ts.length := by rw [← sv, List.length_map]
  cases gg : goodB s ts
  · rw [cvV_no gg]
    rw [gg] at hG
    clear hlm
    go_enter Try.func49, Try.ntmps49
    go_wp2_with fail
    refine (hG.out _ h hr).mono ?_
    rintro e w1 ⟨rfl, hb1⟩
    go_wp2
    go_ret2
    exact ⟨_, 0, rfl, (own_e0q w1 w.heap.size hb1.size), hb1.alloc hb1.size _⟩
  rw [gg] at hG
  rw [cvV_yes gg]
  have e2 : cntA s ts ps.length = cntL s ts := by unfold cntL; rw [hlm]
  have hC := fun W g g2 => l17Counts_any A c s B d ps ts sv W gg g g2
  simp only [e2] at hC
  clear e2 hlm
  generalize cntL s ts = R at *
  have HC := Lib.hid hC
  clear hC
  go_enter Try.func49, Try.ntmps49
  go_wp2_with fail
  refine (hG.out _ h hr).mono ?_
  rintro e w1 ⟨rfl, hb1⟩
  have hz1 := hb1.size
  go_wp2_with fail
  refine (HC.out _ (h.below hb1 (Nat.le_refl _)) (hr.below hb1 (Nat.le_refl _))).mono ?_
  rintro e w2 ⟨AP, cP, rfl, hop, hb2⟩
  go_wp2
  go_ret2
  exact ⟨AP, cP, rfl, OwnI.mono hop hz1, hb1.trans (hb2.mono hz1)⟩
end Go.Proofs.Ythoojcmnkhhokaa
