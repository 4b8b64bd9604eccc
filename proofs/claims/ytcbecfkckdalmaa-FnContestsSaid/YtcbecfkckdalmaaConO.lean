/-
  Standings after a heat, of the program and of the reference: contracts.
-/
import Derived.Test.YtcbecfkckdalmaaConM
namespace Go.Proofs.Ytcbecfkckdalmaa
open Go.RowKit

set_option maxRecDepth 100000 in
set_option maxHeartbeats 4000000 in
theorem placesI_any (A : Option Addr) (c : Nat) (l : List SolvedV) (ht : Int) (w : World) (hn : l.length ≤ 16777216) (h : RdT solvedT w A l) :
    Calls Try.prog 49 #[.slice A l.length c, .int .i64 ht] w (RetSS w (phV l ht) (phOk l ht)) := by
  cases hg : goodB l
  · rw [phV_no (by simp [phOk, hg]), show phOk l ht = false by simp [phOk, hg]]
    go_enter Try.func49, Try.ntmps49
    go_wp2_with (first | (go_at_call 24; refine (areSolvedI_any A c l _ hn h).mono ?_; rintro e w1 ⟨rfl, hb1⟩) | (go_at_call 65; refine (isHeat_any _ _).mono ?_; rintro e w' ⟨rfl, rfl⟩))
    go_ret2
    exact ⟨none, 0, [], rfl, rfl, OwnS.nil _ _, hb1⟩
  cases hh : inB ht 1 4
  · rw [phV_no (by simp [phOk, hh]), show phOk l ht = false by simp [phOk, hh]]
    go_enter Try.func49, Try.ntmps49
    go_wp2_with (first | (go_at_call 24; refine (areSolvedI_any A c l _ hn h).mono ?_; rintro e w1 ⟨rfl, hb1⟩) | (go_at_call 65; refine (isHeat_any _ _).mono ?_; rintro e w' ⟨rfl, rfl⟩))
    go_ret2
    exact ⟨none, 0, [], rfl, rfl, OwnS.nil _ _, hb1⟩
  have hok : phOk l ht = true := by simp [phOk, hg, hh]
  have hl12 := goodB_len hg
  rw [phV_yes hok, hok]
  have HL := Lib.hid (htA_len l ht)
  have H0 := Lib.hid (htA_zero l ht)
  go_enter Try.func49, Try.ntmps49
  go_wp2_with (first | (go_at_call 24; refine (areSolvedI_any A c l _ hn h).mono ?_; rintro e w1 ⟨rfl, hb1⟩) | (go_at_call 65; refine (isHeat_any _ _).mono ?_; rintro e w' ⟨rfl, rfl⟩))
  go_loopw [6, 19] (fun o i wr => ∃ (k : Nat) (A' : Option Addr) (c' : Nat), k ≤ l.length ∧ i = .int .i64 k ∧ o = .slice A' (htA l ht k).length c' ∧ OwnT solvedT wr w.heap.size (.slice A' (htA l ht k).length c') (htA l ht k) ∧ Below w.heap.size w wr) (fun _ i _ => l.length - (intOf i).toNat)
  case atStart => exact ⟨0, none, 0, by omega, rfl, by rw [H0.out]; rfl, by rw [H0.out]; exact OwnT.nil _ _, hb1⟩
  case round =>
    obtain ⟨k, A', c', hk, rfl, rfl, ho, hb⟩ := hrel
    clear hb1
    have hz := hb.size
    have hfl := HL.out k
    by_cases hlt : k < l.length
    · obtain ⟨b, off, p, h', r, q, t, rfl, hx, hlb, hc0, hc1, hc2, hc3, hc4⟩ := solvedT_at (h.below hb (Nat.le_refl _)) hlt
      obtain ⟨bx, hbx⟩ : ∃ bx : Obj, bx = .cells #[.int .i64 p, .int .i64 h', .int .i64 r, .int .i64 q, .int .i64 t] 25 := ⟨_, rfl⟩
      have hbA := hb.alloc hz bx
      have hoA := ho.alloc bx
      have hzA : w.heap.size ≤ (wr.alloc bx).heap.size := hbA.size
      by_cases hle : h' ≤ ht
      · have E := Lib.hid (htA_yes hx hle)
        have d1 : decide (h' ≤ ht) = true := decide_eq_true hle
        clear hx
        rw [hbx] at hbA hoA hzA
        go_wp2_with (at_builtin; refine wpList_appT solvedT rfl _ _ rfl w.heap.size _ _ rfl hoA w.heap.size hbA ⟨p, h', r, q, t⟩ _ rfl 1 1 (by simp [Act.eval]) rfl (by omega) hzA (Nat.le_refl _) ?_; intro A3 c3 w3 hown3 hb3 hgr3)
        go_roundw
        case rel => exact ⟨k + 1, A3, c3, by omega, by go_num, by rw [E.out, List.length_append]; rfl, by rw [E.out]; rw [List.length_append]; exact hown3, hb3⟩
        case measure => simp [intOf]; omega
      · have E := Lib.hid (htA_no hx hle)
        have d1 : decide (h' ≤ ht) = false := decide_eq_false hle
        clear hx
        rw [hbx] at hbA hoA
        go_wp2
        go_roundw
        case rel => exact ⟨k + 1, A', c', by omega, by go_num, by rw [E.out], by rw [E.out]; exact hoA, hbA⟩
        case measure => simp [intOf]; omega
    · obtain rfl : k = l.length := by omega
      have hS := Lib.hid (fun W g => standings_any A' c' (htA l ht l.length) W (by omega) g)
      generalize stR (htA l ht l.length) = R at *
      go_wp2_with fail
      refine (hS.out _ ho.rd).mono ?_
      rintro e w2 ⟨A2, c2, ps, rfl, hps, ho2, hb2⟩
      have HPS := Lib.hid hps
      clear hps
      go_wp2
      go_ret2
      exact ⟨A2, c2, ps, rfl, HPS.out, ho2.mono hz, hb.trans (hb2.mono hz)⟩

set_option maxRecDepth 100000 in
set_option maxHeartbeats 4000000 in
theorem placesS_any (A : Option Addr) (c : Nat) (l : List SolvedV) (ht : Int) (w : World) (hn : l.length ≤ 16777216) (h : RdT solvedT w A l) :
    Calls Try.prog 48 #[.slice A l.length c, .int .i64 ht] w (RetSS w (phV l ht) (phOk l ht)) := by
  cases hg : goodB l
  · rw [phV_no (by simp [phOk, hg]), show phOk l ht = false by simp [phOk, hg]]
    go_enter Try.func48, Try.ntmps48
    go_wp2_with (first | (go_at_call 69; refine (l18Good_any A c l _ hn h).mono ?_; rintro e w1 ⟨rfl, hb1⟩) | (go_at_call 71; refine (l18Heat_any _ _).mono ?_; rintro e w' ⟨rfl, rfl⟩))
    go_ret2
    exact ⟨_, 0, [], rfl, rfl, OwnS.empty _ _ hb1.size, hb1.alloc hb1.size _⟩
  cases hh : inB ht 1 4
  · rw [phV_no (by simp [phOk, hh]), show phOk l ht = false by simp [phOk, hh]]
    go_enter Try.func48, Try.ntmps48
    go_wp2_with (first | (go_at_call 69; refine (l18Good_any A c l _ hn h).mono ?_; rintro e w1 ⟨rfl, hb1⟩) | (go_at_call 71; refine (l18Heat_any _ _).mono ?_; rintro e w' ⟨rfl, rfl⟩))
    go_ret2
    exact ⟨_, 0, [], rfl, rfl, OwnS.empty _ _ hb1.size, hb1.alloc hb1.size _⟩
  have hok : phOk l ht = true := by simp [phOk, hg, hh]
  have hl12 := goodB_len hg
  rw [phV_yes hok, hok]
  have HL := Lib.hid (htA_len l ht)
  have H0 := Lib.hid (htA_zero l ht)
  have HG := Lib.hid (htA_good hg ht)
  go_enter Try.func48, Try.ntmps48
  go_wp2_with (first | (go_at_call 69; refine (l18Good_any A c l _ hn h).mono ?_; rintro e w1 ⟨rfl, hb1⟩) | (go_at_call 71; refine (l18Heat_any _ _).mono ?_; rintro e w' ⟨rfl, rfl⟩))
  have he := ownSolved_empty w1 w.heap.size hb1.size
  have hb2 := hb1.alloc hb1.size (.cells #[] 25)
  go_loopw [6, 7] (fun o i wr => ∃ (k : Nat) (A' : Option Addr) (c' : Nat), k ≤ l.length ∧ i = .int .i64 k ∧ o = .slice A' (htA l ht k).length c' ∧ OwnT solvedT wr w.heap.size (.slice A' (htA l ht k).length c') (htA l ht k) ∧ Below w.heap.size w wr) (fun _ i _ => l.length - (intOf i).toNat)
  case atStart => exact ⟨0, _, 0, by omega, rfl, by rw [H0.out]; rfl, by rw [H0.out]; exact he, hb2⟩
  case round =>
    obtain ⟨k, A', c', hk, rfl, rfl, ho, hb⟩ := hrel
    clear hb1 he hb2
    have hz := hb.size
    have hfl := HL.out k
    by_cases hlt : k < l.length
    · obtain ⟨b, off, p, h', r, q, t, rfl, hx, hlb, hc0, hc1, hc2, hc3, hc4⟩ := solvedT_at (h.below hb (Nat.le_refl _)) hlt
      by_cases hle : h' ≤ ht
      · have E := Lib.hid (htA_yes hx hle)
        have d1 : decide (h' ≤ ht) = true := decide_eq_true hle
        clear hx
        go_wp2_with (at_builtin; refine wpList_appT solvedT rfl _ _ rfl w.heap.size _ _ rfl ho w.heap.size hb ⟨p, h', r, q, t⟩ _ rfl 1 1 rfl rfl (by omega) hz (Nat.le_refl _) ?_; intro A3 c3 w3 hown3 hb3 hgr3)
        go_roundw
        case rel => exact ⟨k + 1, A3, c3, by omega, by go_num, by rw [E.out, List.length_append]; rfl, by rw [E.out]; rw [List.length_append]; exact hown3, hb3⟩
        case measure => simp [intOf]; omega
      · have E := Lib.hid (htA_no hx hle)
        have d1 : decide (h' ≤ ht) = false := decide_eq_false hle
        clear hx
        go_wp2
        go_roundw
        case rel => exact ⟨k + 1, A', c', by omega, by go_num, by rw [E.out], by rw [E.out]; exact ho, hb⟩
        case measure => simp [intOf]; omega
    · obtain rfl : k = l.length := by omega
      have hS := Lib.hid (fun W g => standingsS_any A' c' (htA l ht l.length) W (by omega) g)
      rw [stW_yes HG.out, HG.out] at hS
      generalize stR (htA l ht l.length) = R at *
      go_wp2_with fail
      refine (hS.out _ ho.rd).mono ?_
      rintro e w2 ⟨A2, c2, ps, rfl, hps, ho2, hb2⟩
      have HPS := Lib.hid hps
      clear hps
      go_wp2
      go_ret2
      exact ⟨A2, c2, ps, rfl, HPS.out, ho2.mono hz, hb.trans (hb2.mono hz)⟩
end Go.Proofs.Ytcbecfkckdalmaa
