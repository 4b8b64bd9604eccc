/-
  GradesOf, of the program and of the reference: contracts.
-/
import Derived.Test.YthoojcmnkhhokaaGraQ
import Derived.Test.YthoojcmnkhhokaaGraR
import Derived.Test.YthoojcmnkhhokaaPutS
import Derived.Test.YthoojcmnkhhokaaHas
import Derived.Test.YthoojcmnkhhokaaRowPut
namespace Go.Proofs.Ythoojcmnkhhokaa
set_option maxRecDepth 100000
open Go.RowKit

set_option maxHeartbeats 4000000 in
theorem gradesI_t (A : Option Addr) (c : Nat) (s : List PartV) (B : Option Addr) (d : Nat) (ps : List (TryH × List Int)) (ts : List TryV) (sv : ps.map toV = ts) (w : World) (hn : s.length ≤ 16777216) (hcap : s.length ≤ c) (h : RdT partT w A s) (hok : ∀ x ∈ s, x.ok) (hm : ps.length ≤ 16777216) (hsm : ∀ p ∈ ps, p.2.length ≤ 16777216) (hr : RdY tryT w B ps) :
    Calls Try.prog 52 #[.slice A s.length c, .slice B ps.length d] w (RetSS w (grV s ts) (goodB s ts)) := by
  have hG := Lib.hid (fun W g g2 => areTriesI_t A c s B d ps ts sv W hn hcap g hok hm hsm g2)
  have hlm : ps.length = ts.length := by rw [← sv, List.length_map]
  cases gg : goodB s ts
  · rw [grV_no gg]
    rw [gg] at hG
    clear hlm
    go_enter Try.func52, Try.ntmps52
    go_wp2_with fail
    refine (hG.out _ h hr).mono ?_
    rintro e w1 ⟨rfl, hb1⟩
    go_wp2
    go_ret2
    exact ⟨none, 0, [], rfl, rfl, OwnS.nil _ _, hb1⟩
  rw [gg] at hG
  rw [grV_yes gg]
  obtain ⟨_, h10, _⟩ := goodB_iff gg
  have hp1 : ps.length ≤ 1000 := by omega
  have e1 : putTo (pupL ts) ps.length = pupA ts := by unfold pupA; rw [hlm]
  have e2 : cntA s ts ps.length = cntL s ts := by unfold cntL; rw [hlm]
  have hP := fun W g2 => pupilsOf_any B d ps ts sv W hp1 g2
  have hC := fun p W g g2 => counting_any A c s B d ps ts sv p W gg g g2
  simp only [e1] at hP
  simp only [e2] at hC
  have hPl : (pupA ts).length ≤ 10 := Nat.le_trans (pupA_len ts) h10
  obtain ⟨F, hF⟩ : ∃ F : Int → List Int, F = fun p => ofP ts p (cntL s ts) := ⟨_, rfl⟩
  have hFp : ∀ p, ofP ts p (cntL s ts) = F p := fun p => by rw [hF]
  simp only [hFp] at hC
  have hG0 := grA_zero s ts
  have hGS : ∀ k p, (pupA ts)[k]? = some p → grA s ts (k + 1) = grA s ts k ++ [[p, ((F p).length : Nat)]] := fun k p hx => by rw [grA_succ hx, ← hFp p]; rfl
  have hGL := grA_len s ts
  clear hFp hF e1 e2 h10 hlm
  generalize grA s ts = G at *
  generalize pupA ts = P at *
  generalize cntL s ts = R at *
  have HP := Lib.hid hP
  have HC := Lib.hid hC
  have HG0 := Lib.hid hG0
  have HGS := Lib.hid hGS
  have HGL := Lib.hid hGL
  clear hP hC hG0 hGS hGL
  go_enter Try.func52, Try.ntmps52
  go_wp2_with fail
  refine (hG.out _ h hr).mono ?_
  rintro e w1 ⟨rfl, hb1⟩
  have hz1 := hb1.size
  go_wp2_with fail
  refine (HP.out _ (hr.below hb1 (Nat.le_refl _))).mono ?_
  rintro e w2 ⟨AP, cP, rfl, hop, hb2⟩
  have hop2 := OwnI.mono hop hz1
  have hbA := hb1.trans (hb2.mono hz1)
  have hz2 := hbA.size
  clear hop hb1 hb2 HP hG
  go_wp2
  go_loopw [6, 18] (fun o i wr => ∃ (k : Nat) (A' : Option Addr) (c' : Nat) (qs : List (HdrV × List Int)) (hs : List HdrV), k ≤ P.length ∧ i = .int .i64 k ∧ o = .slice A' hs.length c' ∧ Hid (qs.map Prod.fst = hs ∧ qs.map Prod.snd = G k) ∧ OwnS wr w2.heap.size (.slice A' hs.length c') qs ∧ Below w2.heap.size w2 wr) (fun _ i _ => P.length - (intOf i).toNat)
  case atStart => exact ⟨0, none, 0, [], [], by omega, rfl, rfl, Lib.hid ⟨rfl, by rw [HG0.out]; rfl⟩, OwnS.nil _ _, Below.refl _ _⟩
  case round =>
    obtain ⟨k, A', c', qs, hs, hk, rfl, rfl, HH, hown, hb⟩ := hrel
    have hz := hb.size
    have hwr := hbA.trans (hb.mono hz2)
    by_cases hlt : k < P.length
    · obtain ⟨bp, op, p, hAP, hxp, hlp, hcp⟩ := (OwnI.rd (hop2.below hb (Nat.le_refl _))).at_ hlt
      have HS := Lib.hid (HGS.out k p hxp)
      have HCp := Lib.hid (HC.out p)
      have hlen : hs.length ≤ 1000 := by
        have h1 := congrArg List.length HH.out.1
        have h2 := congrArg List.length HH.out.2
        have h3 := HGL.out k
        simp only [List.length_map] at h1 h2
        omega
      clear hxp
      generalize F p = l at *
      subst hAP
      go_wp2_with (first | (go_at_call 87; refine (HCp.out _ (h.below hwr (Nat.le_refl _)) (hr.below hwr (Nat.le_refl _))).mono ?_; rintro e w5 ⟨As, cs, rfl, hos, hb5⟩; have hown5 := hown.below hb5 (Nat.le_refl _); have hb6 := hb.trans (hb5.mono hz); have hz6 := hb6.size; have HO5 := Lib.hid hown5; have HO5' := Lib.hid (show OwnT hdrT w5 w2.heap.size (.slice A' hs.length c') hs from HH.out.1 ▸ hown5.own); clear hown5 hown hos hb hb5 hcp) | (at_builtin; refine wpList_appN hdrT rfl _ _ rfl w2.heap.size _ hs rfl (HO5'.out.alloc _) w2.heap.size (hb6.alloc (by omega) _) ⟨some ⟨w5.heap.size, 0, none⟩, 2, 2⟩ _ rfl (w5.heap.size + 1) (by simp) rfl (by omega) (by simp; omega) (Nat.le_refl _) ?_; intro A3 c3 w7 ho7 hb7 hg7))
      go_roundw
      case rel =>
        have hsn := HO5.out.snoc HH.out.1 [p, (l.length : Nat)] #[.int .i64 p, .int .i64 (l.length : Nat)] 2 rfl rfl (by unfold maxLen; omega) hz6 hg7 ho7
        refine ⟨k + 1, A3, c3, qs ++ [(⟨some ⟨w5.heap.size, 0, none⟩, 2, 2⟩, [p, (l.length : Nat)])], hs ++ [⟨some ⟨w5.heap.size, 0, none⟩, 2, 2⟩], by omega, by go_num, by rw [List.length_append]; rfl, Lib.hid ⟨by rw [List.map_append, HH.out.1]; rfl, by rw [HS.out, List.map_append, HH.out.2]; rfl⟩, by rw [List.length_append]; exact hsn, hb7⟩
      case measure => simp [intOf]; omega
    · have hkl : k = P.length := by omega
      have HF := Lib.hid (show qs.map Prod.snd = G P.length by rw [← hkl]; exact HH.out.2)
      have HL := Lib.hid (show qs.length = hs.length by have := congrArg List.length HH.out.1; rwa [List.length_map] at this)
      clear hkl
      go_wp2
      go_ret2
      exact ⟨A', c', qs, by rw [HL.out]; rfl, HF.out, by rw [HL.out]; exact hown.mono hz2, hwr⟩

theorem putL_hasnt (L : List Int) (x : Int) (h : rise L) : (hasB L x = true → putL L x = L) := fun hx => (put_spec h x).2.2.1 ((hasB_iff L x).1 hx)
theorem putTo_rise (l : List Int) (k : Nat) : rise (putTo l k) := (putTo_addTo l k).1
set_option maxHeartbeats 8000000 in
theorem gradesS_t (A : Option Addr) (c : Nat) (s : List PartV) (B : Option Addr) (d : Nat) (ps : List (TryH × List Int)) (ts : List TryV) (sv : ps.map toV = ts) (w : World) (hn : s.length ≤ 16777216) (hcap : s.length ≤ c) (h : RdT partT w A s) (hok : ∀ x ∈ s, x.ok) (hm : ps.length ≤ 16777216) (hsm : ∀ p ∈ ps, p.2.length ≤ 16777216) (hr : RdY tryT w B ps) :
    Calls Try.prog 51 #[.slice A s.length c, .slice B ps.length d] w (RetSS w (grV s ts) (goodB s ts)) := by
  have hG := Lib.hid (fun W g g2 => l17Good_t A c s B d ps ts sv W hn hcap g hok hm hsm g2)
  have hlm : ps.length = ts.length := by rw [← sv, List.length_map]
  have he := OwnS.empty w w.heap.size (Nat.le_refl _)
  have hb0 : Below w.heap.size w (w.alloc (.cells #[] 29)) := (Below.refl _ _).alloc (Nat.le_refl _) _
  obtain ⟨w0, hw0⟩ : ∃ w0 : World, w0 = w.alloc (.cells #[] 29) := ⟨_, rfl⟩
  rw [← hw0] at he hb0
  cases gg : goodB s ts
  · rw [grV_no gg]
    rw [gg] at hG
    clear hlm
    go_enter Try.func51, Try.ntmps51
    go_wp2_with fail
    rw [← hw0]
    clear hw0
    refine (hG.out _ (h.below hb0 (Nat.le_refl _)) (hr.below hb0 (Nat.le_refl _))).mono ?_
    rintro e w1 ⟨rfl, hb1⟩
    have he := he.below hb1 (Nat.le_refl _)
    go_wp2
    go_ret2
    exact ⟨_, 0, [], rfl, rfl, he, hb0.trans (hb1.mono hb0.size)⟩
  rw [gg] at hG
  rw [grV_yes gg]
  obtain ⟨_, h10, _⟩ := goodB_iff gg
  have hp1 : ps.length ≤ 10 := by omega
  have TV := Lib.hid (fun k (p : TryH × List Int) (hp : ps[k]? = some p) => (show (pupL ts)[k]? = some p.1.pupil by rw [← sv]; unfold pupL; rw [List.getElem?_map, List.getElem?_map, hp]; rfl))
  have TQ := Lib.hid (fun k (q : TryH × List Int) (hp : ps[k]? = some q) => pupOf_at (show ts[k]? = some (toV q) by rw [← sv, List.getElem?_map, hp]; rfl))
  have e1 : putTo (pupL ts) ps.length = pupA ts := by unfold pupA; rw [hlm]
  have e2 : cntA s ts ps.length = cntL s ts := by unfold cntL; rw [hlm]
  have hC := fun W g g2 => l17Counts_any A c s B d ps ts sv W gg g g2
  simp only [e2] at hC
  have hPl : (pupA ts).length ≤ 10 := Nat.le_trans (pupA_len ts) h10
  have hRm : ∀ o ∈ cntL s ts, 0 ≤ o ∧ o < (ps.length : Int) := fun o ho => by have := (cntA_mem s ts ts.length).1 o ho; omega
  have hRl : (cntL s ts).length ≤ 10 := Nat.le_trans (cntA_mem s ts ts.length).2.2 h10
  have hG0 := grA_zero s ts
  have hGS : ∀ k p, (pupA ts)[k]? = some p → grA s ts (k + 1) = grA s ts k ++ [[p, cofP ts p (cntL s ts) (cntL s ts).length]] := fun k p hx => by rw [grA_succ hx, cofP_all]; rfl
  have hGL := grA_len s ts
  have HE1 := Lib.hid e1
  clear e1 e2 h10 hlm
  generalize grA s ts = G at *
  generalize pupA ts = P at *
  generalize cntL s ts = R at *
  have HC := Lib.hid hC
  have HG0 := Lib.hid hG0
  have HGS := Lib.hid hGS
  have HGL := Lib.hid hGL
  have HRM := Lib.hid hRm
  clear hC hG0 hGS hGL hRm
  go_enter Try.func51, Try.ntmps51
  go_wp2_with fail
  rw [← hw0]
  clear hw0
  refine (hG.out _ (h.below hb0 (Nat.le_refl _)) (hr.below hb0 (Nat.le_refl _))).mono ?_
  rintro e w1 ⟨rfl, hb1⟩
  have he := he.below hb1 (Nat.le_refl _)
  have hb2 := hb0.trans (hb1.mono hb0.size)
  have hz2 := hb2.size
  have hp0 := own_e0q w1 w1.heap.size (Nat.le_refl _)
  have hbp0 : Below w1.heap.size w1 (w1.alloc (.cells #[] 3)) := (Below.refl _ _).alloc (Nat.le_refl _) _
  have HT0 := Lib.hid (show putTo (pupL ts) 0 = [] by simp [putTo])
  clear hb0 hb1 hG
  go_wp2
  go_loopw [7, 8] (fun o i wr => ∃ (k g' c' : Nat), k ≤ ps.length ∧ i = .int .i64 k ∧ o = .slice (some ⟨g', 0, none⟩) (putTo (pupL ts) k).length c' ∧ OwnI wr w1.heap.size (.slice (some ⟨g', 0, none⟩) (putTo (pupL ts) k).length c') (putTo (pupL ts) k) ∧ Below w1.heap.size w1 wr) (fun _ i _ => ps.length - (intOf i).toNat)
  case atStart => exact ⟨0, _, 0, by omega, rfl, by rw [HT0.out]; rfl, by rw [HT0.out]; exact hp0, hbp0⟩
  case round =>
    obtain ⟨k, g', c', hk, rfl, rfl, ho, hb⟩ := hrel
    clear hp0 hbp0
    have hz := hb.size
    have hl := putTo_len (pupL ts) k
    have hri := putTo_rise (pupL ts) k
    have hwr := hb2.trans (hb.mono hz2)
    by_cases hlt : k < ps.length
    · obtain ⟨b, off, pu, gr, A2, c2, l, rfl, hx, hlb, hc0, hc1, hc2, hrl⟩ := (hr.below hwr (Nat.le_refl _)).atT hlt
      have hS := putTo_succ (TV.out k _ hx)
      dsimp only at hS
      have HS := Lib.hid hS
      clear hx hS
      generalize putTo (pupL ts) k = L at *
      cases hh : hasB L pu
      · have HHas := Lib.hid (fun W g => hh ▸ l1Has_any (some ⟨g', 0, none⟩) c' L pu W (by omega) g)
        clear hh
        go_wp2_with fail
        refine (HHas.out _ (OwnI.rd ho)).mono ?_
        rintro e wz ⟨rfl, rfl⟩
        go_wp2_with fail
        refine (l1Put_any w1.heap.size g' c' L pu _ (by omega) hri hz ho).mono ?_
        rintro e w3 ⟨g3, c3, rfl, ho3, hb3⟩
        rw [← HS.out] at ho3 ⊢
        clear ho
        go_wp2
        go_roundw
        case rel => exact ⟨k + 1, g3, c3, by omega, by go_num, rfl, ho3, hb.trans hb3⟩
        case measure => simp [intOf]; omega
      · have HHas := Lib.hid (fun W g => hh ▸ l1Has_any (some ⟨g', 0, none⟩) c' L pu W (by omega) g)
        have HE := Lib.hid (HS.out.trans (putL_hasnt L pu hri hh))
        clear hh
        go_wp2_with fail
        refine (HHas.out _ (OwnI.rd ho)).mono ?_
        rintro e wz ⟨rfl, rfl⟩
        go_wp2
        go_roundw
        case rel => exact ⟨k + 1, g', c', by omega, by go_num, by rw [HE.out], by rw [HE.out]; exact ho, hb⟩
        case measure => simp [intOf]; omega
    · have hkl : k = ps.length := by omega
      have ho' : OwnI wr w1.heap.size (.slice (some ⟨g', 0, none⟩) P.length c') P := by rw [← HE1.out, ← hkl]; exact ho
      have HPL := Lib.hid (show (putTo (pupL ts) k).length = P.length by rw [hkl, HE1.out])
      clear hkl ho hri hl
      rw [HPL.out]
      have he3 := he.below hb (Nat.le_refl _)
      go_wp2_with fail
      refine (HC.out _ (h.below hwr (Nat.le_refl _)) (hr.below hwr (Nat.le_refl _))).mono ?_
      rintro e w4 ⟨AR, cR, rfl, hoR, hb4⟩
      have hzw := hwr.size
      have he4 := he3.below hb4 (Nat.le_refl _)
      have hoP4 := (OwnI.mono ho' hz2).below hb4 (Nat.le_refl _)
      have hoR4 := OwnI.mono hoR hzw
      have hb5 := hwr.trans (hb4.mono hzw)
      clear he3 ho' hoR hb hwr hb4 hb2 he
      go_wp2
      go_loopw [6, 10] (fun o i wr => ∃ (k : Nat) (A' : Option Addr) (c2 : Nat) (qs : List (HdrV × List Int)) (hs : List HdrV), k ≤ P.length ∧ i = .int .i64 k ∧ o = .slice A' hs.length c2 ∧ Hid (qs.map Prod.fst = hs ∧ qs.map Prod.snd = G k) ∧ OwnS wr w.heap.size (.slice A' hs.length c2) qs ∧ OwnI wr w.heap.size (.slice (some ⟨g', 0, none⟩) P.length c') P ∧ OwnI wr w.heap.size (.slice AR R.length cR) R ∧ Below w.heap.size w wr) (fun _ i _ => P.length - (intOf i).toNat)
      case atStart => exact ⟨0, _, 0, [], [], by omega, rfl, rfl, Lib.hid ⟨rfl, by rw [HG0.out]; rfl⟩, he4, hoP4, hoR4, hb5⟩
      case round =>
        obtain ⟨k2, A', c2, qs, hs, hk2, rfl, rfl, HH, hown, hoP, hoR, hb⟩ := hrel
        clear he4 hoP4 hoR4 hb5
        have hz := hb.size
        obtain ⟨wq, rfl⟩ : ∃ wq : World, wq = wr := ⟨_, rfl⟩
        by_cases hlt2 : k2 < P.length
        · have hcP := fun x (hx : P[k2]? = some x) => OwnI.cell hoP hx
          obtain ⟨p, hxp⟩ := get_of_lt P hlt2
          have HS := Lib.hid (HGS.out k2 p hxp)
          have hcp := hcP p hxp
          have hlen : hs.length ≤ 1000 := by
            have h1 := congrArg List.length HH.out.1
            have h2 := congrArg List.length HH.out.2
            have h3 := HGL.out k2
            simp only [List.length_map] at h1 h2
            omega
          have dk1 : decide (k2 < P.length) = true := decide_eq_true hlt2
          have dk2 : decide ((k2 : Int) < (P.length : Int)) = true := decide_eq_true (by omega)
          clear hxp hcP
          go_wp2
          clear dk1 dk2
          go_loopw [11, 12] (fun n i wy => ∃ m : Nat, m ≤ R.length ∧ i = .int .i64 m ∧ n = .int .i64 (cofP ts p R m) ∧ Below wq.heap.size wq wy) (fun _ i _ => R.length - (intOf i).toNat)
          case atStart => exact ⟨0, by omega, rfl, by rw [cofP_zero], Below.refl _ _⟩
          case round =>
            obtain ⟨m, hmm, rfl, rfl, hby⟩ := hrel
            have hzy := hby.size
            have hoRy := hoR.below hby (Nat.le_refl _)
            have hbB := hb.trans (hby.mono hz)
            have hcy := (hby.cell (p := ⟨g', k2, none⟩) (World.block_lt_of_cell? _ _ hcp)).trans hcp
            obtain ⟨cb1, cb2⟩ := cofP_bd ts p R m
            by_cases hlj : m < R.length
            · obtain ⟨ob, ooff, o, hAR, hoo', holt, hoc⟩ := (OwnI.rd hoRy).at_ (k := m) hlj
              have hom := HRM.out o (List.mem_of_getElem? hoo')
              obtain ⟨q', rfl⟩ : ∃ q' : Nat, o = (q' : Int) := ⟨o.toNat, by omega⟩
              obtain ⟨b', off', pu2, gr2, A3, c3', l3, rfl, hx2, hlb2, hd0, hd1, hd2, hrl3⟩ := (hr.below hbB (Nat.le_refl _)).atT (k := q') (by omega)
              have hpo := TQ.out q' _ hx2
              dsimp only [toV] at hpo
              have HHIT := Lib.hid (fun e => cofP_hit (p := p) hoo' (hpo.trans e))
              have HMISS := Lib.hid (fun (e : ¬ pu2 = p) => cofP_miss (p := p) hoo' (fun e2 => e (hpo.symm.trans e2)))
              have i1 : IntKind.i64.wrap (cofP ts p R m + 1) = cofP ts p R m + 1 := IntWalk.i64_in _ (by omega)
              have b1' : (m : Int) < (R.length : Int) := by omega
              have b2' : (q' : Int) < (ps.length : Int) := by omega
              have b3' : (k2 : Int) < (P.length : Int) := by omega
              subst hAR
              clear hx2 hpo hoo'
              by_cases hpp : pu2 = p
              · have E := Lib.hid (HHIT.out hpp)
                subst hpp
                clear HHIT HMISS
                go_wp2_with fail
                go_quiet (fail)
                go_wp2
                go_roundw
                case rel => exact ⟨m + 1, by omega, by go_num, by rw [E.out], below_drewN hby _⟩
                case measure => simp [intOf]; omega
              · have E := Lib.hid (HMISS.out hpp)
                have d1 : (pu2 == p) = false := by rw [beq_eq_false_iff_ne]; exact hpp
                clear HHIT HMISS
                go_wp2_with fail
                go_quiet (fail)
                go_wp2
                go_roundw
                case rel => exact ⟨m + 1, by omega, by go_num, by rw [E.out], below_drewN hby _⟩
                case measure => simp [intOf]; omega
            · obtain rfl : m = R.length := by omega
              have hown5 := hown.below hby (Nat.le_refl _)
              have hoP5 := hoP.below hby (Nat.le_refl _)
              have hz6 := hbB.size
              have HO5 := Lib.hid hown5
              have HO5' := Lib.hid (show OwnT hdrT wr w.heap.size (.slice A' hs.length c2) hs from HH.out.1 ▸ hown5.own)
              have HOP5 := Lib.hid hoP5
              have HOR5 := Lib.hid hoRy
              have HEL := Lib.hid (cofP_all ts p R)
              clear hown5 hown hoP hoP5 hoRy hoR hcp hb hby
              obtain ⟨w5, rfl⟩ : ∃ w5 : World, w5 = wr := ⟨_, rfl⟩
              go_wp2_with (at_builtin; refine wpList_appN hdrT rfl _ _ rfl w.heap.size _ hs rfl (HO5'.out.alloc _) w.heap.size (hbB.alloc (by omega) _) ⟨some ⟨w5.heap.size, 0, none⟩, 2, 2⟩ _ rfl (w5.heap.size + 1) (by simp) rfl (by omega) (by simp; omega) (Nat.le_refl _) ?_; intro A3 c3 w7 ho7 hb7 hg7)
              go_roundw
              case rel =>
                have hsn := HO5.out.snoc HH.out.1 [p, cofP ts p R R.length] #[.int .i64 p, .int .i64 (cofP ts p R R.length)] 2 rfl rfl (by unfold maxLen; omega) hz6 hg7 ho7
                refine ⟨k2 + 1, A3, c3, qs ++ [(⟨some ⟨w5.heap.size, 0, none⟩, 2, 2⟩, [p, cofP ts p R R.length])], hs ++ [⟨some ⟨w5.heap.size, 0, none⟩, 2, 2⟩], by omega, by go_num, by rw [List.length_append]; rfl, Lib.hid ⟨by rw [List.map_append, HH.out.1]; rfl, by rw [HS.out, List.map_append, HH.out.2]; rfl⟩, by rw [List.length_append]; exact hsn, OwnI.kept (OwnI.alloc (OwnI.alloc HOP5.out _) _) hg7 (own_apart HO5'.out HOP5.out hdr_int).symm, OwnI.kept (OwnI.alloc (OwnI.alloc HOR5.out _) _) hg7 (own_apart HO5'.out HOR5.out hdr_int).symm, hb7⟩
              case measure => simp [intOf]; omega
        · have hkl : k2 = P.length := by omega
          have HF := Lib.hid (show qs.map Prod.snd = G P.length by rw [← hkl]; exact HH.out.2)
          have HL := Lib.hid (show qs.length = hs.length by have := congrArg List.length HH.out.1; rwa [List.length_map] at this)
          clear hkl
          go_wp2
          go_ret2
          exact ⟨A', c2, qs, by rw [HL.out]; rfl, HF.out, by rw [HL.out]; exact hown, hb⟩
end Go.Proofs.Ythoojcmnkhhokaa
