/-
  Standings, of the program and of the reference: contracts.
-/
import Derived.Test.YtcbecfkckdalmaaConK
import Derived.Test.YtcbecfkckdalmaaConI
namespace Go.Proofs.Ytcbecfkckdalmaa
open Go.RowKit

def stW (l : List SolvedV) : List (List Int) := if goodB l = true then stR l else []
theorem stW_yes {l : List SolvedV} (h : goodB l = true) : stW l = stR l := if_pos h
theorem stW_no {l : List SolvedV} (h : goodB l = false) : stW l = [] := if_neg (by simp [h])
theorem stR_row (l : List SolvedV) : ∀ r ∈ stR l, r.length ≤ 2 := by
  intro r hr
  unfold stR at hr
  obtain ⟨x, _, rfl⟩ := List.mem_map.1 hr
  simp [row2]
theorem stW_small (l : List SolvedV) : (stW l).length ≤ 1000 ∧ ∀ r ∈ stW l, r.length ≤ 2 := by
  cases hg : goodB l
  · rw [stW_no hg]; simp
  · rw [stW_yes hg]
    refine ⟨?_, stR_row l⟩
    rw [stR_len]
    have h1 := pupA_len l l.length
    rw [← pupV_eq] at h1
    have := goodB_len hg
    omega

set_option maxHeartbeats 1600000 in
theorem standingsI_any (A : Option Addr) (c : Nat) (l : List SolvedV) (w : World) (hn : l.length ≤ 16777216) (h : RdT solvedT w A l) :
    Calls Try.prog 44 #[.slice A l.length c] w (RetSS w (stW l) (goodB l)) := by
  have hG := Lib.hid (fun W g => areSolvedI_any A c l W hn g)
  cases hg : goodB l
  · rw [stW_no hg]
    rw [hg] at hG
    go_enter Try.func44, Try.ntmps44
    go_wp2_with fail
    refine (hG.out _ h).mono ?_
    rintro e w1 ⟨rfl, hb1⟩
    go_wp2
    go_ret2
    exact ⟨none, 0, [], rfl, rfl, OwnS.nil _ _, hb1⟩
  · have hl12 := goodB_len hg
    rw [stW_yes hg]
    rw [hg] at hG
    have hS := Lib.hid (fun W g => standings_any A c l W (by omega) g)
    generalize stR l = R at *
    go_enter Try.func44, Try.ntmps44
    go_wp2_with fail
    refine (hG.out _ h).mono ?_
    rintro e w1 ⟨rfl, hb1⟩
    have hz1 := hb1.size
    go_wp2_with fail
    refine (hS.out _ (h.below hb1 (Nat.le_refl _))).mono ?_
    rintro e w2 ⟨A2, c2, ps, rfl, hps, ho, hb2⟩
    have HPS := Lib.hid hps
    clear hps
    go_wp2
    go_ret2
    exact ⟨A2, c2, ps, rfl, HPS.out, ho.mono hz1, hb1.trans (hb2.mono hz1)⟩

/-! ### place by place -/
def bkA (P : List (Int × Int)) (q i : Nat) : List (Int × Int) := (List.range q).flatMap (buckB Prod.fst P) ++ buckB Prod.fst (P.take i) q
theorem bkA_zero (P : List (Int × Int)) : bkA P 0 0 = [] := by simp [bkA, buckB]
theorem bkA_next (P : List (Int × Int)) (q : Nat) : bkA P q P.length = bkA P (q + 1) 0 := by
  unfold bkA
  rw [List.take_length, List.range_succ, List.flatMap_append, List.take_zero]
  simp [buckB]
theorem bkA_all (P : List (Int × Int)) (m : Nat) : bkA P m 0 = buck Prod.fst P m := by
  unfold bkA buck; simp [buckB]
theorem bkA_hit {P : List (Int × Int)} {q i : Nat} {a b : Int} (hx : P[i]? = some (a, b)) (h : a = (q : Int) + 1) : bkA P q (i + 1) = bkA P q i ++ [(a, b)] := by
  unfold bkA; rw [take_snoc' hx, buckB_snoc_hit (by exact h), List.append_assoc]
theorem bkA_miss {P : List (Int × Int)} {q i : Nat} {a b : Int} (hx : P[i]? = some (a, b)) (h : ¬ a = (q : Int) + 1) : bkA P q (i + 1) = bkA P q i := by
  unfold bkA; rw [take_snoc' hx, buckB_snoc_miss (by exact h)]
theorem filter_two {α : Type} (p q : α → Bool) (h : ∀ x, p x = true → q x = true → False) (l : List α) : (l.filter p).length + (l.filter q).length ≤ l.length := by
  induction l with
  | nil => simp
  | cons x l ih =>
    cases hp : p x <;> cases hq : q x
    · simp [hp, hq]; omega
    · simp [hp, hq]; omega
    · simp [hp, hq]; omega
    · exact absurd hq (fun h2 => h x hp h2)
theorem bk_len (P : List (Int × Int)) (q : Nat) : ((List.range q).flatMap (buckB Prod.fst P)).length ≤ (P.filter fun x => decide (x.1 ≤ (q : Int))).length := by
  induction q with
  | zero => simp
  | succ q ih =>
    rw [List.range_succ, List.flatMap_append, List.length_append]
    simp only [List.flatMap_cons, List.flatMap_nil, List.append_nil]
    have h2 : ∀ l : List (Int × Int), (l.filter fun x => decide (x.1 ≤ (q : Int))).length + (buckB Prod.fst l q).length ≤ (l.filter fun x => decide (x.1 ≤ ((q + 1 : Nat) : Int))).length := by
      intro l
      unfold buckB
      induction l with
      | nil => simp
      | cons x l ih2 =>
        simp only [List.filter_cons]
        by_cases c1 : x.1 ≤ (q : Int)
        · rw [if_pos (decide_eq_true c1), if_neg (by simp; omega), if_pos (decide_eq_true (by omega))]
          simp only [List.length_cons]; omega
        · by_cases c2 : x.1 = (q : Int) + 1
          · rw [if_neg (by simp [c1]), if_pos (by simp [c2]), if_pos (decide_eq_true (by omega))]
            simp only [List.length_cons]; omega
          · rw [if_neg (by simp [c1]), if_neg (by simp [c2]), if_neg (by simp; omega)]
            exact ih2
    have := h2 P
    omega
theorem bkA_len (P : List (Int × Int)) (q i : Nat) : (bkA P q i).length ≤ P.length + P.length := by
  unfold bkA
  rw [List.length_append]
  have h1 := bk_len P q
  have h2 := List.length_filter_le (fun x : Int × Int => decide (x.1 ≤ (q : Int))) P
  have h3 : (buckB Prod.fst (P.take i) q).length ≤ P.length := Nat.le_trans (List.length_filter_le _ _) (by rw [List.length_take]; omega)
  omega
attribute [irreducible] bkA

set_option maxRecDepth 100000 in
set_option maxHeartbeats 8000000 in
theorem standingsS_any (A : Option Addr) (c : Nat) (l : List SolvedV) (w : World) (hn : l.length ≤ 16777216) (h : RdT solvedT w A l) :
    Calls Try.prog 43 #[.slice A l.length c] w (RetSS w (stW l) (goodB l)) := by
  have hG := Lib.hid (fun W g => l18Good_any A c l W hn g)
  have he := OwnS.empty w w.heap.size (Nat.le_refl _)
  have hb0 : Below w.heap.size w (w.alloc (.cells #[] 43)) := (Below.refl _ _).alloc (Nat.le_refl _) _
  obtain ⟨w0, hw0⟩ : ∃ w0 : World, w0 = w.alloc (.cells #[] 43) := ⟨_, rfl⟩
  rw [← hw0] at he hb0
  cases hg : goodB l
  · rw [stW_no hg]
    rw [hg] at hG
    go_enter Try.func43, Try.ntmps43
    go_wp2_with fail
    rw [← hw0]
    clear hw0
    refine (hG.out _ (h.below hb0 (Nat.le_refl _))).mono ?_
    rintro e w1 ⟨rfl, hb1⟩
    have he := he.below hb1 (Nat.le_refl _)
    go_wp2
    go_ret2
    exact ⟨_, 0, [], rfl, rfl, he, hb0.trans (hb1.mono hb0.size)⟩
  · have hl12 := goodB_len hg
    rw [stW_yes hg]
    rw [hg] at hG
    have hP := Lib.hid (fun W g => l18Pupils_any A c l W (by omega) g)
    have hPL := Lib.hid (fun p W g => l18Place_any A c l p W (by omega) g)
    have hpl := pupA_len l l.length
    rw [← pupV_eq] at hpl
    have HROW := Lib.hid (fun k p (hx : (pupV l)[k]? = some p) => rowsP_at hx)
    have HR := Lib.hid (show stR l = (bkA (rowsP l) (pupV l).length 0).map row2 by rw [bkA_all, ← stV_buck]; rfl)
    have HPLN := Lib.hid (rowsP_len l)
    have HBL := Lib.hid (bkA_len (rowsP l))
    generalize stR l = R at *
    generalize rowsP l = P at *
    generalize pupV l = pu at *
    go_enter Try.func43, Try.ntmps43
    go_wp2_with fail
    rw [← hw0]
    clear hw0
    refine (hG.out _ (h.below hb0 (Nat.le_refl _))).mono ?_
    rintro e w1 ⟨rfl, hb1⟩
    have he := he.below hb1 (Nat.le_refl _)
    have hb2 := hb0.trans (hb1.mono hb0.size)
    clear hb0 hb1
    go_wp2_with fail
    refine (hP.out _ (h.below hb2 (Nat.le_refl _))).mono ?_
    rintro e w2 ⟨AP, cP, rfl, hop, hb3⟩
    have he := he.below hb3 (Nat.le_refl _)
    have hop := hop.mono hb2.size
    have hb4 := hb2.trans (hb3.mono hb2.size)
    clear hb2 hb3
    go_wp2
    go_loopw [4, 6] (fun o z wr => ∃ (q : Nat) (A' : Option Addr) (c' : Nat) (ps : List (HdrV × List Int)) (hs : List HdrV), q ≤ pu.length ∧ z = .int .i64 (q + 1) ∧ o = .slice A' hs.length c' ∧ Hid (ps.map Prod.fst = hs ∧ ps.map Prod.snd = (bkA P q 0).map row2) ∧ OwnS wr w.heap.size (.slice A' hs.length c') ps ∧ OwnI wr w.heap.size (.slice AP pu.length cP) pu ∧ Below w.heap.size w wr) (fun _ z _ => pu.length + 1 - (intOf z).toNat)
    case atStart => exact ⟨0, _, _, [], [], by omega, by go_num, rfl, Lib.hid ⟨rfl, by rw [bkA_zero]; rfl⟩, he, hop, hb4⟩
    case round =>
      obtain ⟨q, A', c', ps, hs, hq, rfl, rfl, HH, hown, hopu, hb⟩ := hrel
      clear he hop hb4
      have hz := hb.size
      by_cases hlt : q < pu.length
      · obtain ⟨wq, rfl⟩ : ∃ wq : World, wq = wr := ⟨_, rfl⟩
        have dl : decide ((q : Int) + 1 ≤ (pu.length : Int)) = true := decide_eq_true (by omega)
        go_wp2
        clear dl
        go_loopw [4, 7] (fun o i wy => ∃ (k : Nat) (A' : Option Addr) (c' : Nat) (ps : List (HdrV × List Int)) (hs : List HdrV), k ≤ pu.length ∧ i = .int .i64 k ∧ o = .slice A' hs.length c' ∧ Hid (ps.map Prod.fst = hs ∧ ps.map Prod.snd = (bkA P q k).map row2) ∧ OwnS wy w.heap.size (.slice A' hs.length c') ps ∧ OwnI wy w.heap.size (.slice AP pu.length cP) pu ∧ Below w.heap.size w wy) (fun _ i _ => pu.length - (intOf i).toNat)
        case atStart => exact ⟨0, _, _, ps, hs, by omega, rfl, rfl, HH, hown, hopu, hb⟩
        case round =>
          obtain ⟨k, A', c', ps, hs, hk, rfl, rfl, HH, hown, hopu, hb⟩ := hrel
          have hz := hb.size
          by_cases hlk : k < pu.length
          · obtain ⟨bp, op, p, hAP, hxp, hlp, hcp⟩ := hopu.rd.at_ hlk
            have hrow := HROW.out k p hxp
            have HPLp := Lib.hid (fun W g => hPL.out p W g)
            have HMISS := Lib.hid (fun h => bkA_miss (q := q) hrow h)
            have HHIT := Lib.hid (fun h => bkA_hit (q := q) hrow h)
            have hbl := HBL.out q k
            have hlen : hs.length ≤ 1000 := by
              have h1 := congrArg List.length HH.out.1
              have h2 := congrArg List.length HH.out.2
              have h3 := HPLN.out
              simp only [List.length_map] at h1 h2
              omega
            generalize placV l p = pl at *
            clear hxp hrow hbl
            have hop1 := hopu
            subst hAP
            by_cases hpq : pl = (q : Int) + 1
            · have E := Lib.hid (HHIT.out hpq)
              have d1 : (pl == (q : Int) + 1) = true := by simp [hpq]
              clear HMISS HHIT
              go_wp2_with (first | (go_at_call 77; refine (HPLp.out _ (h.below hb (Nat.le_refl _))).mono ?_; rintro e w5 ⟨rfl, hb5⟩; have hcp5 := (hb5.cell (p := ⟨bp, op + k, none⟩) hlp).trans hcp; have hown5 := hown.below hb5 (Nat.le_refl _); have hopu5 := hopu.below hb5 (Nat.le_refl _); have hb6 := hb.trans (hb5.mono hz); have hz6 := hb6.size; have HO5 := Lib.hid hown5; have HO5' := Lib.hid (show OwnT hdrT w5 w.heap.size (.slice A' hs.length c') hs from HH.out.1 ▸ hown5.own); clear hown5 hop1 hown hopu hb hb5 hcp) | (at_builtin; refine wpList_appN hdrT rfl _ _ rfl w.heap.size _ hs rfl (HO5'.out.alloc _) w.heap.size (hb6.alloc (by omega) _) ⟨some ⟨w5.heap.size, 0, none⟩, 2, 2⟩ _ rfl (w5.heap.size + 1) (by simp) rfl (by omega) (by simp; omega) (Nat.le_refl _) ?_; intro A3 c3 w7 ho7 hb7 hg7))
              go_roundw
              case rel =>
                have hsn := HO5.out.snoc HH.out.1 [(q : Int) + 1, p] #[.int .i64 ((q : Int) + 1), .int .i64 p] 2 rfl rfl (by unfold maxLen; omega) hz6 hg7 ho7
                refine ⟨k + 1, A3, c3, ps ++ [(⟨some ⟨w5.heap.size, 0, none⟩, 2, 2⟩, [(q : Int) + 1, p])], hs ++ [⟨some ⟨w5.heap.size, 0, none⟩, 2, 2⟩], by omega, by go_num, by rw [List.length_append]; rfl, Lib.hid ⟨by rw [List.map_append, HH.out.1]; rfl, by rw [E.out, List.map_append, List.map_append, HH.out.2, hpq]; rfl⟩, by rw [List.length_append]; exact hsn, OwnI.kept (OwnI.alloc (OwnI.alloc hopu5 _) _) hg7 (own_apart HO5'.out hopu5 hdr_int).symm, hb7⟩
              case measure => simp [intOf]; omega
            · have E := Lib.hid (HMISS.out hpq)
              have d1 : (pl == (q : Int) + 1) = false := by simp [hpq]
              clear HMISS HHIT
              go_wp2_with (go_at_call 77; refine (HPLp.out _ (h.below hb (Nat.le_refl _))).mono ?_; rintro e w5 ⟨rfl, hb5⟩)
              go_roundw
              case rel => exact ⟨k + 1, A', c', ps, hs, by omega, by go_num, rfl, Lib.hid ⟨HH.out.1, by rw [E.out]; exact HH.out.2⟩, hown.below hb5 (Nat.le_refl _), hopu.below hb5 (Nat.le_refl _), hb.trans (hb5.mono hz)⟩
              case measure => simp [intOf]; omega
          · have hkl : k = pu.length := by omega
            have HN := Lib.hid (show ps.map Prod.snd = (bkA P (q + 1) 0).map row2 by rw [HH.out.2, hkl, ← HPLN.out, bkA_next])
            clear hkl
            go_wp2
            go_roundw
            case rel => exact ⟨q + 1, A', c', ps, hs, by omega, by go_num, rfl, Lib.hid ⟨HH.out.1, HN.out⟩, hown, hopu, hb⟩
            case measure => simp [intOf]; omega
      · have hql : q = pu.length := by omega
        have HF := Lib.hid (show ps.map Prod.snd = R by rw [HH.out.2, HR.out, hql])
        have HL := Lib.hid (show ps.length = hs.length by have := congrArg List.length HH.out.1; rwa [List.length_map] at this)
        clear hql
        go_wp2
        go_ret2
        exact ⟨A', c', ps, by rw [HL.out]; rfl, HF.out, by rw [HL.out]; exact hown, hb⟩
end Go.Proofs.Ytcbecfkckdalmaa
