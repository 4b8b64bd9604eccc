/-
  Finalists, of the program and of the reference: contracts.
-/
import Derived.Test.YtcbecfkckdalmaaConM
import Derived.Test.YtcbecfkckdalmaaPutW
import Derived.Test.YtcbecfkckdalmaaAppW
namespace Go.Proofs.Ytcbecfkckdalmaa
open Go.RowKit

set_option maxRecDepth 100000 in
set_option maxHeartbeats 4000000 in
theorem finalistsI_any (A : Option Addr) (c : Nat) (l : List SolvedV) (n : Int) (w : World) (hn : l.length ≤ 16777216) (h : RdT solvedT w A l) :
    Calls Try.prog 39 #[.slice A l.length c, .int .i64 n] w (RetI w (finV l n) (finOk l n)) := by
  cases hg : goodB l
  · rw [finV_no (by simp [finOk, hg]), show finOk l n = false by simp [finOk, hg]]
    go_enter Try.func39, Try.ntmps39
    go_wp2_with (first | (go_at_call 24; refine (areSolvedI_any A c l _ hn h).mono ?_; rintro e w1 ⟨rfl, hb1⟩) | (go_at_call 66; refine (within_any _ _ _ _).mono ?_; rintro e w' ⟨rfl, rfl⟩))
    go_ret2
    exact ⟨none, 0, rfl, OwnI.nil _ _, hb1⟩
  cases hh : inB n 1 20
  · rw [finV_no (by simp [finOk, hh]), show finOk l n = false by simp [finOk, hh]]
    go_enter Try.func39, Try.ntmps39
    go_wp2_with (first | (go_at_call 24; refine (areSolvedI_any A c l _ hn h).mono ?_; rintro e w1 ⟨rfl, hb1⟩) | (go_at_call 66; refine (within_any _ _ _ _).mono ?_; rintro e w' ⟨rfl, rfl⟩))
    go_ret2
    exact ⟨none, 0, rfl, OwnI.nil _ _, hb1⟩
  have hok : finOk l n = true := by simp [finOk, hg, hh]
  have hl12 := goodB_len hg
  have hS := Lib.hid (fun W g => standings_any A c l W (by omega) g)
  rw [finV_yes hok, hok, ← fin_same hg n]
  have hst : (stV l).length ≤ 1000 := by
    rw [stV_len]
    have h2 := pupA_len l l.length
    rw [← pupV_eq] at h2
    omega
  have HSR := Lib.hid (show stR l = (stV l).map row2 from rfl)
  have HFL := Lib.hid (finA_len (stV l) n)
  have HF0 := Lib.hid (finA_zero (stV l) n)
  generalize stR l = SR at *
  generalize stV l = R at *
  go_enter Try.func39, Try.ntmps39
  go_wp2_with (first | (go_at_call 24; refine (areSolvedI_any A c l _ hn h).mono ?_; rintro e w1 ⟨rfl, hb1⟩) | (go_at_call 66; refine (within_any _ _ _ _).mono ?_; rintro e w' ⟨rfl, rfl⟩))
  have hz1 := hb1.size
  refine (hS.out _ (h.below hb1 (Nat.le_refl _))).mono ?_
  rintro e w2 ⟨A2, c2, ps, rfl, hps, ho, hb2⟩
  have HAT := Lib.hid (fun m hd lr hx => st_at (hps.trans HSR.out) (m := m) (hd := hd) (l := lr) hx)
  have HPL := Lib.hid (show ps.length = R.length by have := congrArg List.length (hps.trans HSR.out); simpa using this)
  have hpl1 : ps.length ≤ R.length := Nat.le_of_eq HPL.out
  have hpl2 : R.length ≤ ps.length := Nat.le_of_eq HPL.out.symm
  have hrd := ho.rd
  have hb3 := hb1.trans (hb2.mono hz1)
  have hz3 := hb3.size
  clear ho hps hb1 hb2
  go_wp2
  go_loopw [6, 20] (fun o i wr => ∃ (k : Nat) (A' : Option Addr) (c' : Nat), k ≤ ps.length ∧ i = .int .i64 k ∧ o = .slice A' (finA R n k).length c' ∧ OwnI wr w2.heap.size (.slice A' (finA R n k).length c') (finA R n k) ∧ Below w2.heap.size w2 wr) (fun _ i _ => ps.length - (intOf i).toNat)
  case atStart => exact ⟨0, none, 0, by omega, rfl, by rw [HF0.out]; rfl, by rw [HF0.out]; exact OwnI.nil _ _, Below.refl _ _⟩
  case round =>
    obtain ⟨k, A', c', hk, rfl, rfl, hof, hb⟩ := hrel
    have hz := hb.size
    have hfl := HFL.out k
    by_cases hlt : k < ps.length
    · obtain ⟨b3, o3, A5, c5, lr, rfl, hx5, hl5, hc5, hr5⟩ := (hrd.below hb (Nat.le_refl _)).at_ (k := k) hlt
      obtain ⟨x1, x2, rfl, hR⟩ := HAT.out k _ _ hx5
      obtain ⟨b6, o6, x6, rfl, hx6, hl6, hc6⟩ := hr5.at_ (k := 0) (by simp)
      obtain rfl : x1 = x6 := by simpa using hx6
      obtain ⟨b7, o7, x7, hA7, hx7, hl7, hc7⟩ := hr5.at_ (k := 1) (by simp)
      obtain rfl : x2 = x7 := by simpa using hx7
      injection hA7 with hA7
      injection hA7 with e1 e2 _
      subst e1 e2
      have hc5' : wr.cell? ⟨b3, o3 + k, none⟩ = some (.slice (some ⟨b6, o6, none⟩) 2 c5) := hc5
      rw [Nat.add_zero] at hc6
      clear hx5 hx6 hx7 hc5 hr5
      by_cases hle : x1 ≤ n
      · have E := Lib.hid (finA_yes hR hle)
        have d1 : decide (x1 ≤ n) = true := decide_eq_true hle
        clear hR
        go_wp2_with (go_at_call 81; refine (putInt_any w2.heap.size A' c' (finA R n k) x2 _ (by omega) hz hof).mono ?_; rintro e w5 ⟨A8, c8, rfl, ho8, hb8⟩)
        go_roundw
        case rel => exact ⟨k + 1, A8, c8, by omega, by go_num, by rw [E.out], by rw [E.out]; exact ho8, hb.trans hb8⟩
        case measure => simp [intOf]; omega
      · have E := Lib.hid (finA_no hR hle)
        have d1 : decide (x1 ≤ n) = false := decide_eq_false hle
        clear hR
        go_wp2
        go_roundw
        case rel => exact ⟨k + 1, A', c', by omega, by go_num, by rw [E.out], by rw [E.out]; exact hof, hb⟩
        case measure => simp [intOf]; omega
    · have HK := Lib.hid (show finA R n k = finA R n R.length by congr 1; omega)
      go_wp2
      go_ret2
      exact ⟨A', c', by rw [← HK.out]; rfl, by rw [← HK.out]; exact hof.mono hz3, hb3.trans (hb.mono hz3)⟩

set_option maxRecDepth 100000 in
set_option maxHeartbeats 4000000 in
theorem finalistsS_any (A : Option Addr) (c : Nat) (l : List SolvedV) (n : Int) (w : World) (hn : l.length ≤ 16777216) (h : RdT solvedT w A l) :
    Calls Try.prog 38 #[.slice A l.length c, .int .i64 n] w (RetI w (finV l n) (finOk l n)) := by
  have he : OwnI (w.alloc (.cells #[] 3)) w.heap.size (.slice (some ⟨w.heap.size, 0, none⟩) 0 0) [] := World.ownsRow_lit w #[] 0 (Nat.le_refl _) (by unfold maxLen; omega) rfl
  have hb0 : Below w.heap.size w (w.alloc (.cells #[] 3)) := (Below.refl _ _).alloc (Nat.le_refl _) _
  have hG := Lib.hid (fun W g => l18Good_any A c l W hn g)
  cases hg : goodB l
  · rw [finV_no (by simp [finOk, hg]), show finOk l n = false by simp [finOk, hg]]
    rw [hg] at hG
    go_enter Try.func38, Try.ntmps38
    go_wp2_with (first | (go_at_call 69; refine (hG.out _ (h.below hb0 (Nat.le_refl _))).mono ?_; rintro e w1 ⟨rfl, hb1⟩; have he1 := he.below hb1 (Nat.le_refl _)) | (go_at_call 79; refine (l1In_any _ _ _ _).mono ?_; rintro e w' ⟨rfl, rfl⟩))
    go_ret2
    exact ⟨_, 0, rfl, he1, hb0.trans (hb1.mono hb0.size)⟩
  rw [hg] at hG
  cases hh : inB n 1 20
  · rw [finV_no (by simp [finOk, hh]), show finOk l n = false by simp [finOk, hh]]
    go_enter Try.func38, Try.ntmps38
    go_wp2_with (first | (go_at_call 69; refine (hG.out _ (h.below hb0 (Nat.le_refl _))).mono ?_; rintro e w1 ⟨rfl, hb1⟩; have he1 := he.below hb1 (Nat.le_refl _)) | (go_at_call 79; refine (l1In_any _ _ _ _).mono ?_; rintro e w' ⟨rfl, rfl⟩))
    go_ret2
    exact ⟨_, 0, rfl, he1, hb0.trans (hb1.mono hb0.size)⟩
  have hok : finOk l n = true := by simp [finOk, hg, hh]
  have hl12 := goodB_len hg
  rw [finV_yes hok, hok]
  have hP := Lib.hid (fun W g => l18Pupils_any A c l W (by omega) g)
  have hPL := Lib.hid (fun p W g => l18Place_any A c l p W (by omega) g)
  have hpl := pupA_len l l.length
  rw [← pupV_eq] at hpl
  have HFL := Lib.hid (finS_len l n)
  have HF0 := Lib.hid (finS_zero l n)
  have HFY := Lib.hid (fun k p hx hh => finS_yes (l := l) (n := n) (k := k) (p := p) hx hh)
  have HFN := Lib.hid (fun k p hx hh => finS_no (l := l) (n := n) (k := k) (p := p) hx hh)
  generalize finS l n = F at *
  generalize pupV l = pu at *
  go_enter Try.func38, Try.ntmps38
  go_wp2_with (first | (go_at_call 69; refine (hG.out _ (h.below hb0 (Nat.le_refl _))).mono ?_; rintro e w1 ⟨rfl, hb1⟩; have he1 := he.below hb1 (Nat.le_refl _)) | (go_at_call 79; refine (l1In_any _ _ _ _).mono ?_; rintro e w' ⟨rfl, rfl⟩))
  have hb2 := hb0.trans (hb1.mono hb0.size)
  clear he hb0 hb1
  refine (hP.out _ (h.below hb2 (Nat.le_refl _))).mono ?_
  rintro e w2 ⟨AP, cP, rfl, hop, hb3⟩
  have hap2 : ApartV (.slice (some ⟨w.heap.size, 0, none⟩) 0 0) (.slice AP pu.length cP) := .inr (fun e => by have h1 := (OwnI.lt he1 _ rfl).2; have h2 := (OwnI.lt hop _ e.symm).1; omega)
  have he2 := he1.below hb3 (Nat.le_refl _)
  have hop := hop.mono hb2.size
  have hb4 := hb2.trans (hb3.mono hb2.size)
  clear hb2 hb3 he1
  go_wp2
  go_loopw [6, 8] (fun o i wr => ∃ (k : Nat) (A' : Option Addr) (c' : Nat), k ≤ pu.length ∧ i = .int .i64 k ∧ o = .slice A' (F k).length c' ∧ OwnI wr w.heap.size (.slice A' (F k).length c') (F k) ∧ OwnI wr w.heap.size (.slice AP pu.length cP) pu ∧ ApartV (.slice A' (F k).length c') (.slice AP pu.length cP) ∧ Below w.heap.size w wr) (fun _ i _ => pu.length - (intOf i).toNat)
  case atStart => exact ⟨0, _, _, by omega, rfl, by rw [HF0.out]; rfl, by rw [HF0.out]; exact he2, hop, by rw [HF0.out]; exact hap2, hb4⟩
  case round =>
    obtain ⟨k, A', c', hk, rfl, rfl, hof, hopu, hapt, hb⟩ := hrel
    clear he2 hop hb4 hap2
    have hz := hb.size
    have hfl := HFL.out k
    by_cases hlt : k < pu.length
    · obtain ⟨bp, op, p, rfl, hxp, hlp2, hcp⟩ := hopu.rd.at_ hlt
      have HPLp := Lib.hid (fun W g => hPL.out p W g)
      have HY := Lib.hid (fun hh => HFY.out k p hxp hh)
      have HN := Lib.hid (fun hh => HFN.out k p hxp hh)
      generalize placV l p = pl at *
      clear hxp
      by_cases hle : pl ≤ n
      · have E := Lib.hid (HY.out hle)
        have d1 : decide (pl ≤ n) = true := decide_eq_true hle
        clear HY HN
        go_wp2_with (first | (go_at_call 77; refine (HPLp.out _ (h.below hb (Nat.le_refl _))).mono ?_; rintro e w5 ⟨rfl, hb5⟩; have hcp5 := (hb5.cell (p := ⟨bp, op + k, none⟩) hlp2).trans hcp; have hof5 := hof.below hb5 (Nat.le_refl _); have hopu5 := hopu.below hb5 (Nat.le_refl _); have hb6 := hb.trans (hb5.mono hz); have hz6 := hb6.size; clear hof hopu hb hb5 hcp) | (at_builtin; refine wpList_appW intT rfl _ _ rfl w.heap.size _ _ rfl (own_int.2 hof5) w.heap.size hb6 p _ rfl w5.heap.size rfl rfl (by omega) (by omega) (Nat.le_refl _) ?_; intro A3 c3 w7 ho7' hb7 hg7 hap7; have ho7 := own_int.1 ho7'; clear ho7'))
        go_roundw
        case rel =>
          exact ⟨k + 1, A3, c3, by omega, by go_num, by rw [E.out, List.length_append]; rfl, by rw [E.out]; rw [List.length_append]; exact ho7, OwnI.kept (OwnI.alloc hopu5 _) hg7 hapt.symm, by rw [E.out, List.length_append]; exact (hap7.out _ hapt.symm (fun k hk => (OwnI.lt hopu5 k hk).2)).symm, hb7⟩
        case measure => simp [intOf]; omega
      · have E := Lib.hid (HN.out (by omega))
        have d1 : decide (pl ≤ n) = false := decide_eq_false hle
        clear HY HN
        go_wp2_with (go_at_call 77; refine (HPLp.out _ (h.below hb (Nat.le_refl _))).mono ?_; rintro e w5 ⟨rfl, hb5⟩)
        go_roundw
        case rel => exact ⟨k + 1, A', c', by omega, by go_num, by rw [E.out], by rw [E.out]; exact hof.below hb5 (Nat.le_refl _), hopu.below hb5 (Nat.le_refl _), by rw [E.out]; exact hapt, hb.trans (hb5.mono hz)⟩
        case measure => simp [intOf]; omega
    · obtain rfl : k = pu.length := by omega
      go_wp2
      go_ret2
      exact ⟨A', c', rfl, hof, hb⟩
end Go.Proofs.Ytcbecfkckdalmaa
