/-
  How many right answers are needed: the program's contract.
-/
import Derived.Test.YtcbecfkckdalmaaConR
namespace Go.Proofs.Ytcbecfkckdalmaa
open Go.RowKit

set_option maxRecDepth 100000 in
set_option maxHeartbeats 16000000 in
theorem neededI_any (A : Option Addr) (c : Nat) (l : List SolvedV) (p : Int) (w : World) (hn : l.length ≤ 16777216) (h : RdT solvedT w A l) :
    Calls Try.prog 35 #[.slice A l.length c, .int .i64 p] w (RetN w (ndV l p) (ndOk l p)) := by
  have hR := fun W (g : RdT solvedT W A l) => rankedOf_any A c l p W hn g
  cases hg : goodB l
  · have e : totOk l p = false := by simp [totOk, hg]
    rw [(nd_no e).1, (nd_no e).2]
    clear e
    generalize sumsV l p = s at *
    have HR := Lib.hid hR
    clear hR
    go_enter Try.func35, Try.ntmps35
    go_wp2_with fail
    refine (HR.out _ h).mono ?_
    rintro e w1 ⟨rfl, hb1⟩
    go_wp2_with fail
    refine (areSolvedI_any A c l _ hn ((h.below hb1 (Nat.le_refl _)).below ((Below.refl _ _).alloc (Nat.le_refl _) _) (Nat.le_refl _))).mono ?_
    rintro e w2 ⟨rfl, hb2⟩
    have hbx := (box_cells hb2).2
    go_wp2_with fail
    go_ret2
    exact ⟨rfl, (hb1.alloc hb1.size _).trans (hb2.mono (by have := hb1.size; simp; omega))⟩
  cases hr : ((((sumsV l p).rows : Nat) : Int) == 0)
  case true =>
    have e : totOk l p = false := by simp only [totOk, hg, hr]; rfl
    rw [(nd_no e).1, (nd_no e).2]
    clear e
    generalize sumsV l p = s at *
    have HR := Lib.hid hR
    clear hR
    go_enter Try.func35, Try.ntmps35
    go_wp2_with fail
    refine (HR.out _ h).mono ?_
    rintro e w1 ⟨rfl, hb1⟩
    go_wp2_with fail
    refine (areSolvedI_any A c l _ hn ((h.below hb1 (Nat.le_refl _)).below ((Below.refl _ _).alloc (Nat.le_refl _) _) (Nat.le_refl _))).mono ?_
    rintro e w2 ⟨rfl, hb2⟩
    have hbx := (box_cells hb2).2
    go_wp2_with fail
    go_ret2
    exact ⟨rfl, (hb1.alloc hb1.size _).trans (hb2.mono (by have := hb1.size; simp; omega))⟩
  have hok : totOk l p = true := by simp only [totOk, hg, hr]; rfl
  have hl12 := goodB_len hg
  have hT := sumsV_bd hg p
  have HMB := Lib.hid (mostA_bd hg p)
  have HM0 := Lib.hid (mostA_zero l p)
  have hAR := Lib.hid (fun W g => allRanked_any A c l W (by omega) g)
  have hpl := pupA_len l l.length
  rw [← pupV_eq] at hpl
  have hall : ((pupV l).map (rankV l)).length = (pupV l).length := List.length_map _
  have hal : ((pupV l).map (rankV l)).length ≤ 12 := by omega
  have HROW := Lib.hid (fun k q t u v n (hx : ((pupV l).map (rankV l))[k]? = some (⟨q, t, u, v, n⟩ : RankV)) => show (pupV l)[k]? = some q ∧ (sumsV l q).total = t from by
    rw [List.getElem?_map] at hx
    cases hq : (pupV l)[k]? with
    | none => rw [hq] at hx; cases hx
    | some q2 =>
      rw [hq] at hx
      simp only [Option.map_some, Option.some.injEq] at hx
      rw [rankV_eq] at hx
      injection hx with e1 e2
      subst e1
      exact ⟨rfl, e2⟩)
  have HQ := Lib.hid (show ndQ l p = ndF l p (sumsV l p).total (mostA l p ((pupV l).map (rankV l)).length) by unfold ndQ; rw [hall])
  have HSB := Lib.hid (fun k x hx => good_row hg (k := k) (x := x) hx)
  generalize (pupV l).map (rankV l) = all at *
  clear hpl hall
  generalize sumsV l p = s at *
  have HR := Lib.hid hR
  clear hR
  go_enter Try.func35, Try.ntmps35
  go_wp2_with fail
  refine (HR.out _ h).mono ?_
  rintro e w1 ⟨rfl, hb1⟩
  go_wp2_with fail
  refine (areSolvedI_any A c l _ hn ((h.below hb1 (Nat.le_refl _)).below ((Below.refl _ _).alloc (Nat.le_refl _) _) (Nat.le_refl _))).mono ?_
  rintro e w2 ⟨rfl, hb2⟩
  rw [hg]
  have hbx := (box_cells hb2).2
  have hT1 : w2.cell? ⟨w1.heap.size, 1, none⟩ = some (.int .i64 s.total) := hbx 1
  have hT4 : w2.cell? ⟨w1.heap.size, 4, none⟩ = some (.int .i64 (s.rows : Int)) := hbx 4
  have hlt2 : w1.heap.size < w2.heap.size := by have := hb2.size; simp at this; omega
  have hb3 := (hb1.alloc hb1.size _).trans (hb2.mono (by have := hb1.size; simp; omega))
  clear hbx hb1 hb2
  go_wp2_with fail
  refine (hAR.out _ (h.below hb3 (Nat.le_refl _))).mono ?_
  rintro e w3 ⟨AR, cR, rfl, hoR, hb4⟩
  have hrR := hoR.rd
  have hT1' := (hb4.cell (p := ⟨w1.heap.size, 1, none⟩) hlt2).trans hT1
  have hlt3 : w1.heap.size < w3.heap.size := Nat.lt_of_lt_of_le hlt2 hb4.size
  have hb5 := hb3.trans (hb4.mono hb3.size)
  clear hoR hT1 hT4 hb3 hb4 hlt2 hr
  go_wp2
  go_loopw [7, 28] (fun m i wr => ∃ k : Nat, k ≤ all.length ∧ i = .int .i64 k ∧ m = .int .i64 (mostA l p k) ∧ Below w3.heap.size w3 wr) (fun _ i _ => all.length - (intOf i).toNat)
  case atStart => exact ⟨0, by omega, rfl, by rw [HM0.out], Below.refl _ _⟩
  case round =>
    obtain ⟨k, hk, rfl, rfl, hb⟩ := hrel
    have hz := hb.size
    have hmb := HMB.out k
    by_cases hlt : k < all.length
    · obtain ⟨b, off, q, t, u, v, n, rfl, hx, hlb, hc0, hc1, hc2, hc3, hc4⟩ := rank_at (hrR.below hb (Nat.le_refl _)) hlt
      obtain ⟨hq, ht⟩ := HROW.out k q t u v n hx
      clear hx
      by_cases hqp : q = p
      · have E := Lib.hid (mostA_own hq hqp)
        have d1 : (q != p) = false := by simp [hqp]
        clear hq ht hqp
        go_wp2
        go_roundw
        case rel => exact ⟨k + 1, by omega, by go_num, by rw [E.out], hb.alloc hz _⟩
        case measure => simp [intOf]; omega
      · have E := Lib.hid (show mostA l p (k + 1) = max (mostA l p k) t by rw [mostA_other hq hqp, ht])
        have d1 : (q != p) = true := by simp [hqp]
        clear hq ht hqp
        by_cases hmt : mostA l p k < t
        · have e1 : max (mostA l p k) t = t := by omega
          have d2 : decide (mostA l p k < t) = true := decide_eq_true hmt
          rw [e1] at E
          clear e1
          go_wp2
          go_roundw
          case rel => exact ⟨k + 1, by omega, by go_num, by rw [E.out], hb.alloc hz _⟩
          case measure => simp [intOf]; omega
        · have e1 : max (mostA l p k) t = mostA l p k := by omega
          have d2 : decide (mostA l p k < t) = false := decide_eq_false hmt
          rw [e1] at E
          clear e1
          go_wp2
          go_roundw
          case rel => exact ⟨k + 1, by omega, by go_num, by rw [E.out], hb.alloc hz _⟩
          case measure => simp [intOf]; omega
    · obtain rfl : k = all.length := by omega
      have HQ2 := Lib.hid (show ndQ l p = ndF l p s.total (mostA l p all.length) from HQ.out)
      clear HROW HQ HMB HM0 hrR
      generalize mostA l p all.length = M at *
      obtain ⟨wq, rfl⟩ : ∃ wq : World, wq = wr := ⟨_, rfl⟩
      go_wp2
      go_loopw [10] (fun i wr => ∃ n : Nat, n ≤ 101 ∧ i = .int .i64 n ∧ Hid (∀ m, m < n → hitB l p s.total M m l.length = false) ∧ Below w3.heap.size w3 wr) (fun i _ => 101 - (intOf i).toNat)
      case atStart => exact ⟨0, by omega, rfl, Lib.hid (fun m hm => by omega), hb⟩
      case round =>
        obtain ⟨n, hn1, rfl, HN, hb⟩ := hrel
        have hz := hb.size
        by_cases hn2 : n ≤ 100
        · have dn : decide ((n : Int) ≤ 100) = true := decide_eq_true (by omega)
          have dn2 : decide (n ≤ 100) = true := decide_eq_true (by omega)
          obtain ⟨wq, rfl⟩ : ∃ wq : World, wq = wr := ⟨_, rfl⟩
          go_wp2
          clear dn dn2
          go_loopw [47] (fun i wr => ∃ k : Nat, k ≤ l.length ∧ i = .int .i64 k ∧ Hid (hitB l p s.total M n k = false) ∧ Below w3.heap.size w3 wr) (fun i _ => l.length - (intOf i).toNat)
          case atStart => exact ⟨0, by omega, rfl, Lib.hid (hitB_zero _ _ _ _ _), hb⟩
          case round =>
            obtain ⟨k, hk, rfl, HB, hb⟩ := hrel
            have hz := hb.size
            have hbW := hb5.trans (hb.mono hb5.size)
            by_cases hlt : k < l.length
            · obtain ⟨b, off, p', h', r, q, t, rfl, hx, hlb, hc0, hc1, hc2, hc3, hc4⟩ := solvedT_at (h.below hbW (Nat.le_refl _)) hlt
              have hsb := solvedB_iff (HSB.out k _ hx)
              dsimp only at hsb
              by_cases hp : p' = p
              · subst hp
                have hw1 := scoreW_wide (x := ⟨p', h', r, q, t⟩) (by dsimp only; omega) (by dsimp only; omega) (by dsimp only; omega) (by dsimp only; omega)
                have hw2 := scoreW_wide (x := ⟨p', h', r + n, q, t⟩) (by dsimp only; omega) (by dsimp only; omega) (by dsimp only; omega) (by dsimp only; omega)
                have HX := Lib.hid (show hitX p' s.total M n ⟨p', h', r, q, t⟩ = decide (M < s.total - scoreW ⟨p', h', r, q, t⟩ + scoreW ⟨p', h', r + n, q, t⟩) from hitX_own rfl)
                have HNO := Lib.hid (fun hh => hitB_no HB.out hx hh)
                have HYES := Lib.hid (fun (hh : hitX p' s.total M n ⟨p', h', r, q, t⟩ = true) => hitB_yes (n := n) hx hh)
                have arms1 := fun W => (scoreOf_any p' h' r q t W)
                have arms2 := fun W => (scoreOf_any p' h' (r + n) q t W)
                obtain ⟨hw1a, hw1b⟩ := hw1.2
                obtain ⟨hw2a, hw2b⟩ := hw2.2
                clear hw1 hw2 hx HB
                generalize scoreW ⟨p', h', r, q, t⟩ = sx at *
                generalize scoreW ⟨p', h', r + n, q, t⟩ = sy at *
                have HA1 := Lib.hid arms1
                have HA2 := Lib.hid arms2
                clear arms1 arms2
                have i1 : IntKind.i64.wrap (r + n) = r + n := IntWalk.i64_in _ (by omega)
                have i2 : IntKind.i64.wrap (s.total - sx) = s.total - sx := IntWalk.i64_in _ (by omega)
                have i3 : IntKind.i64.wrap (s.total - sx + sy) = s.total - sx + sy := IntWalk.i64_in _ (by omega)
                have hT1r := (hb.cell (p := ⟨w1.heap.size, 1, none⟩) hlt3).trans hT1'
                have d1 : (p' != p') = false := by simp
                go_wp2_with fail
                obtain ⟨wn, hwn⟩ : ∃ wn : World, wn = (wr.alloc (.cells #[.int .i64 p', .int .i64 h', .int .i64 r, .int .i64 q, .int .i64 t] 25)).alloc (.cells #[.int .i64 p', .int .i64 h', .int .i64 (r + n), .int .i64 q, .int .i64 t] 25) := ⟨_, rfl⟩
                have g0 : wn.cell? ⟨w1.heap.size, 1, none⟩ = some (.int .i64 s.total) := by rw [hwn]; exact box_old (box_old hT1r _) _
                have B1 : Blk wn wr.heap.size 25 #[.int .i64 p', .int .i64 h', .int .i64 r, .int .i64 q, .int .i64 t] := by rw [hwn]; exact (Blk.new wr _ _).alloc _
                have B2 : Blk wn (wr.heap.size + 1) 25 #[.int .i64 p', .int .i64 h', .int .i64 (r + n), .int .i64 q, .int .i64 t] := by rw [hwn]; exact Blk.new1 _ _ _ _
                have hbN : Below w3.heap.size w3 wn := by rw [hwn]; exact (hb.alloc hz _).alloc (by simp; omega) _
                rw [← hwn]
                have hzN := hbN.size
                have q0 := cell_regrown g0
                have a0 := cell_regrown (show wn.cell? ⟨wr.heap.size, 0, none⟩ = some (.int .i64 p') from B1.cell 0)
                have a1 := cell_regrown (show wn.cell? ⟨wr.heap.size, 1, none⟩ = some (.int .i64 h') from B1.cell 1)
                have a2 := cell_regrown (show wn.cell? ⟨wr.heap.size, 2, none⟩ = some (.int .i64 r) from B1.cell 2)
                have a3 := cell_regrown (show wn.cell? ⟨wr.heap.size, 3, none⟩ = some (.int .i64 q) from B1.cell 3)
                have a4 := cell_regrown (show wn.cell? ⟨wr.heap.size, 4, none⟩ = some (.int .i64 t) from B1.cell 4)
                have c0 := cell_regrown (show wn.cell? ⟨wr.heap.size + 1, 0, none⟩ = some (.int .i64 p') from B2.cell 0)
                have c1 := cell_regrown (show wn.cell? ⟨wr.heap.size + 1, 1, none⟩ = some (.int .i64 h') from B2.cell 1)
                have c2 := cell_regrown (show wn.cell? ⟨wr.heap.size + 1, 2, none⟩ = some (.int .i64 (r + n)) from B2.cell 2)
                have c3 := cell_regrown (show wn.cell? ⟨wr.heap.size + 1, 3, none⟩ = some (.int .i64 q) from B2.cell 3)
                have c4 := cell_regrown (show wn.cell? ⟨wr.heap.size + 1, 4, none⟩ = some (.int .i64 t) from B2.cell 4)
                clear hwn B1 B2 g0 hc0 hc1 hc2 hc3 hc4 hT1r
                by_cases hM : M < s.total - sx + sy
                · have HE := Lib.hid (nd_hit hok (show ndQ l p' = some n by rw [HQ2.out]; exact nd_some hn2 HN.out (HYES.out (by rw [HX.out]; exact decide_eq_true hM))))
                  have dM : decide (M < s.total - sx + sy) = true := decide_eq_true hM
                  clear HYES HNO HX HN
                  refine wp_region_quiet_below (by kernel_rfl) (by kernel_rfl) ?_
                  repeat (go_big_quiet_step (((first | (go_at_call 68; with_reducible exact Calls.regrown_of (HA1.out _)) | (go_at_call 68; with_reducible exact Calls.regrown_of (HA2.out _))))))
                  refine wpQuiet_nil ?_
                  intro w7 hw'
                  have hb7 := below_of_class hw'
                  clear hw'
                  go_wp2
                  go_ret2
                  rw [HE.out.1, HE.out.2]
                  exact ⟨rfl, hb5.trans ((hbN.trans (hb7.mono hzN)).mono hb5.size)⟩
                · have HB2 := Lib.hid (HNO.out (by rw [HX.out]; exact decide_eq_false hM))
                  have dM : decide (M < s.total - sx + sy) = false := decide_eq_false hM
                  clear HYES HNO HX
                  refine wp_region_quiet_below (by kernel_rfl) (by kernel_rfl) ?_
                  repeat (go_big_quiet_step (((first | (go_at_call 68; with_reducible exact Calls.regrown_of (HA1.out _)) | (go_at_call 68; with_reducible exact Calls.regrown_of (HA2.out _))))))
                  refine wpQuiet_nil ?_
                  intro w7 hw'
                  have hb7 := below_of_class hw'
                  clear hw'
                  go_wp2
                  go_roundw
                  case rel => exact ⟨k + 1, by omega, by go_num, HB2, hbN.trans (hb7.mono hzN)⟩
                  case measure => simp [intOf]; omega
              · have HB2 := Lib.hid (hitB_no HB.out hx (hitX_other hp))
                have d1 : (p' != p) = true := by simp [hp]
                clear hx hp hsb
                go_wp2
                go_roundw
                case rel => exact ⟨k + 1, by omega, by go_num, HB2, hb.alloc hz _⟩
                case measure => simp [intOf]; omega
            · have HN2 := Lib.hid (show ∀ m, m < n + 1 → hitB l p s.total M m l.length = false by
                intro m hm
                by_cases e : m = n
                · rw [e]; have := HB.out; rwa [show k = l.length by omega] at this
                · exact HN.out m (by omega))
              clear HN HB
              go_wp2
              go_roundw
              case rel => exact ⟨n + 1, by omega, by go_num, HN2, hb⟩
              case measure => simp [intOf]; omega
        · have HE := Lib.hid (nd_end (show ndQ l p = none by rw [HQ2.out]; exact nd_none (fun m hm => HN.out m (by omega))))
          have dn : decide ((n : Int) ≤ 100) = false := decide_eq_false (by omega)
          have dn2 : decide (n ≤ 100) = false := decide_eq_false (by omega)
          clear HN
          go_wp2
          go_ret2
          rw [HE.out.1, HE.out.2]
          exact ⟨rfl, hb5.trans (hb.mono hb5.size)⟩
end Go.Proofs.Ytcbecfkckdalmaa
