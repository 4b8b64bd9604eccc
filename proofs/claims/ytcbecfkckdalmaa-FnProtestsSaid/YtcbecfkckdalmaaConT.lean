/-
  How many right answers are needed: the reference's contract.
-/
import Derived.Test.YtcbecfkckdalmaaConR
namespace Go.Proofs.Ytcbecfkckdalmaa
open Go.RowKit

set_option maxRecDepth 100000 in
set_option maxHeartbeats 16000000 in
theorem neededS_any (A : Option Addr) (c : Nat) (l : List SolvedV) (p : Int) (w : World) (hn : l.length ≤ 16777216) (h : RdT solvedT w A l) :
    Calls Try.prog 34 #[.slice A l.length c, .int .i64 p] w (RetN w (ndV l p) (ndOk l p)) := by
  have hR := fun q W (g : RdT solvedT W A l) => l18Sums_any A c l q W hn g
  cases hg : goodB l
  · have e : totOk l p = false := by simp [totOk, hg]
    rw [(nd_no e).1, (nd_no e).2]
    clear e
    have HR := Lib.hid (hR p)
    clear hR
    generalize sumsV l p = s at *
    go_enter Try.func34, Try.ntmps34
    go_wp2_with fail
    refine (HR.out _ h).mono ?_
    rintro e w1 ⟨rfl, hb1⟩
    go_wp2_with fail
    refine (l18Good_any A c l _ hn (h.below hb1 (Nat.le_refl _))).mono ?_
    rintro e w2 ⟨rfl, hb2⟩
    go_wp2_with fail
    go_ret2
    exact ⟨rfl, hb1.trans (hb2.mono hb1.size)⟩
  cases hr : ((((sumsV l p).rows : Nat) : Int) == 0)
  case true =>
    have e : totOk l p = false := by simp only [totOk, hg, hr]; rfl
    rw [(nd_no e).1, (nd_no e).2]
    clear e
    have HR := Lib.hid (hR p)
    clear hR
    generalize sumsV l p = s at *
    go_enter Try.func34, Try.ntmps34
    go_wp2_with fail
    refine (HR.out _ h).mono ?_
    rintro e w1 ⟨rfl, hb1⟩
    go_wp2_with fail
    refine (l18Good_any A c l _ hn (h.below hb1 (Nat.le_refl _))).mono ?_
    rintro e w2 ⟨rfl, hb2⟩
    go_wp2_with fail
    go_ret2
    exact ⟨rfl, hb1.trans (hb2.mono hb1.size)⟩
  have hok : totOk l p = true := by simp only [totOk, hg, hr]; rfl
  have hl12 := goodB_len hg
  have hT := sumsV_bd hg p
  have HMB := Lib.hid (mostA_bd hg p)
  have HM0 := Lib.hid (mostA_zero l p)
  have hP := Lib.hid (fun W g => l18Pupils_any A c l W (by omega) g)
  have hpl := pupA_len l l.length
  rw [← pupV_eq] at hpl
  have HOWN := Lib.hid (fun k q (hx : (pupV l)[k]? = some q) hq => mostA_own (p := p) hx hq)
  have HOTH := Lib.hid (fun k q (hx : (pupV l)[k]? = some q) hq => mostA_other (p := p) hx hq)
  have HQ := Lib.hid (show ndQ l p = ndF l p (sumsV l p).total (mostA l p (pupV l).length) by unfold ndQ; rfl)
  have HSB := Lib.hid (fun k x hx => good_row hg (k := k) (x := x) hx)
  have HR := Lib.hid (hR p)
  have HRQ := Lib.hid hR
  generalize pupV l = pu at *
  clear hR
  generalize sumsV l p = s at *
  go_enter Try.func34, Try.ntmps34
  go_wp2_with fail
  refine (HR.out _ h).mono ?_
  rintro e w1 ⟨rfl, hb1⟩
  go_wp2_with fail
  refine (l18Good_any A c l _ hn (h.below hb1 (Nat.le_refl _))).mono ?_
  rintro e w2 ⟨rfl, hb2⟩
  rw [hg]
  have hb3 := hb1.trans (hb2.mono hb1.size)
  clear hb1 hb2
  go_wp2_with fail
  refine (hP.out _ (h.below hb3 (Nat.le_refl _))).mono ?_
  rintro e w3 ⟨AP, cP, rfl, hop, hb4⟩
  have hrp := hop.rd
  have hb5 := hb3.trans (hb4.mono hb3.size)
  clear hop hb3 hb4 hr
  go_wp2
  go_loopw [10, 12] (fun m i wr => ∃ k : Nat, k ≤ pu.length ∧ i = .int .i64 k ∧ m = .int .i64 (mostA l p k) ∧ Below w3.heap.size w3 wr) (fun _ i _ => pu.length - (intOf i).toNat)
  case atStart => exact ⟨0, by omega, rfl, by rw [HM0.out], Below.refl _ _⟩
  case round =>
    obtain ⟨k, hk, rfl, rfl, hb⟩ := hrel
    have hz := hb.size
    have hmb := HMB.out k
    by_cases hlt : k < pu.length
    · obtain ⟨b, off, q, rfl, hx, hlb, hc⟩ := (hrp.below hb (Nat.le_refl _)).at_ hlt
      by_cases hqp : q = p
      · have E := Lib.hid (HOWN.out k q hx hqp)
        have d1 : (q != p) = false := by simp [hqp]
        clear hx hqp
        go_wp2
        go_roundw
        case rel => exact ⟨k + 1, by omega, by go_num, by rw [E.out], hb⟩
        case measure => simp [intOf]; omega
      · have E := Lib.hid (HOTH.out k q hx hqp)
        have d1 : (q != p) = true := by simp [hqp]
        have HRq := Lib.hid (fun W g => HRQ.out q W g)
        clear hx hqp
        generalize sumsV l q = s2 at *
        go_wp2_with (first | (go_at_call 72; refine (HRq.out _ (h.below (hb5.trans (hb.mono hb5.size)) (Nat.le_refl _))).mono ?_; rintro e w6 ⟨rfl, hb6⟩) | (go_at_call 75; refine (l1Most_any _ _ _).mono ?_; rintro e w' ⟨rfl, rfl⟩))
        go_roundw
        case rel => exact ⟨k + 1, by omega, by go_num, by rw [E.out], hb.trans (hb6.mono hz)⟩
        case measure => simp [intOf]; omega
    · obtain rfl : k = pu.length := by omega
      have HQ2 := Lib.hid (show ndQ l p = ndF l p s.total (mostA l p pu.length) from HQ.out)
      clear HQ HMB HM0 hrp HOWN HOTH HRQ HR
      generalize mostA l p pu.length = M at *
      obtain ⟨wq, rfl⟩ : ∃ wq : World, wq = wr := ⟨_, rfl⟩
      go_wp2
      go_loopw [17] (fun i wr => ∃ n : Nat, n ≤ 101 ∧ i = .int .i64 n ∧ Hid (∀ m, m < n → hitB l p s.total M m l.length = false) ∧ Below w3.heap.size w3 wr) (fun i _ => 101 - (intOf i).toNat)
      case atStart => exact ⟨0, by omega, rfl, Lib.hid (fun m hm => by omega), hb⟩
      case round =>
        obtain ⟨n, hn1, rfl, HN, hb⟩ := hrel
        have hz := hb.size
        by_cases hn2 : n ≤ 100
        · have dn : decide ((n : Int) ≤ 100) = true := decide_eq_true (by omega)
          have dn2 : decide (n ≤ 100) = true := decide_eq_true (by omega)
          obtain ⟨wq, rfl⟩ : ∃ wq : World, wq = wr := ⟨_, rfl⟩
          go_wp2
          clear dn dn2
          go_loopw [18] (fun i wr => ∃ k : Nat, k ≤ l.length ∧ i = .int .i64 k ∧ Hid (hitB l p s.total M n k = false) ∧ Below w3.heap.size w3 wr) (fun i _ => l.length - (intOf i).toNat)
          case atStart => exact ⟨0, by omega, rfl, Lib.hid (hitB_zero _ _ _ _ _), hb⟩
          case round =>
            obtain ⟨k, hk, rfl, HB, hb⟩ := hrel
            have hz := hb.size
            have hbW := hb5.trans (hb.mono hb5.size)
            by_cases hlt : k < l.length
            · obtain ⟨b, off, p', h', r, q, t, rfl, hx, hlb, hc0, hc1, hc2, hc3, hc4⟩ := solvedT_at (h.below hbW (Nat.le_refl _)) hlt
              have hsb := solvedB_iff (HSB.out k _ hx)
              dsimp only at hsb
              by_cases hp : p' = p
              · subst hp
                have hw1 := scoreW_wide (x := ⟨p', h', r, q, t⟩) (by dsimp only; omega) (by dsimp only; omega) (by dsimp only; omega) (by dsimp only; omega)
                have hw2 := scoreW_wide (x := ⟨p', h', r + n, q, t⟩) (by dsimp only; omega) (by dsimp only; omega) (by dsimp only; omega) (by dsimp only; omega)
                have HX := Lib.hid (show hitX p' s.total M n ⟨p', h', r, q, t⟩ = decide (M < s.total - scoreW ⟨p', h', r, q, t⟩ + scoreW ⟨p', h', r + n, q, t⟩) from hitX_own rfl)
                have HNO := Lib.hid (fun hh => hitB_no HB.out hx hh)
                have HYES := Lib.hid (fun (hh : hitX p' s.total M n ⟨p', h', r, q, t⟩ = true) => hitB_yes (n := n) hx hh)
                have arms1 := fun W => (l18Score_any p' h' r q t W)
                have arms2 := fun W => (l18Score_any p' h' (r + n) q t W)
                obtain ⟨hw1a, hw1b⟩ := hw1.2
                obtain ⟨hw2a, hw2b⟩ := hw2.2
                clear hw1 hw2 hx HB
                generalize scoreW ⟨p', h', r, q, t⟩ = sx at *
                generalize scoreW ⟨p', h', r + n, q, t⟩ = sy at *
                have HA1 := Lib.hid arms1
                have HA2 := Lib.hid arms2
                clear arms1 arms2
                have d1 : (p' != p') = false := by simp
                have hbB := hb.alloc hz (.cells #[.int .i64 p', .int .i64 h', .int .i64 r, .int .i64 q, .int .i64 t] 25)
                by_cases hM : M < s.total - sx + sy
                · have HE := Lib.hid (nd_hit hok (show ndQ l p' = some n by rw [HQ2.out]; exact nd_some hn2 HN.out (HYES.out (by rw [HX.out]; exact decide_eq_true hM))))
                  have dM : decide (M < s.total - sx + sy) = true := decide_eq_true hM
                  clear HYES HNO HX HN
                  go_wp2_with fail
                  refine (HA1.out _).mono ?_
                  rintro e w6 ⟨rfl, hb6⟩
                  have B6 := Blk.own hb6
                  have m0 := B6.cell 0
                  have m1 := B6.cell 1
                  have m2 := B6.cell 2
                  have m3 := B6.cell 3
                  have m4 := B6.cell 4
                  have f2 := B6.frozen 2
                  have hb7 := hbB.trans (hb6.mono hbB.size)
                  clear B6 hb6 hbB
                  go_wp2_with fail
                  refine (HA2.out _).mono ?_
                  rintro e w8 ⟨rfl, hb8⟩
                  go_wp2
                  go_ret2
                  rw [HE.out.1, HE.out.2]
                  exact ⟨rfl, hb5.trans (((hb7.setCell hz _).trans (hb8.mono (by have := hb7.size; simp; omega))).mono hb5.size)⟩
                · have HB2 := Lib.hid (HNO.out (by rw [HX.out]; exact decide_eq_false hM))
                  have dM : decide (M < s.total - sx + sy) = false := decide_eq_false hM
                  clear HYES HNO HX
                  go_wp2_with fail
                  refine (HA1.out _).mono ?_
                  rintro e w6 ⟨rfl, hb6⟩
                  have B6 := Blk.own hb6
                  have m0 := B6.cell 0
                  have m1 := B6.cell 1
                  have m2 := B6.cell 2
                  have m3 := B6.cell 3
                  have m4 := B6.cell 4
                  have f2 := B6.frozen 2
                  have hb7 := hbB.trans (hb6.mono hbB.size)
                  clear B6 hb6 hbB
                  go_wp2_with fail
                  refine (HA2.out _).mono ?_
                  rintro e w8 ⟨rfl, hb8⟩
                  go_wp2
                  go_roundw
                  case rel => exact ⟨k + 1, by omega, by go_num, HB2, (hb7.setCell hz _).trans (hb8.mono (by have := hb7.size; simp; omega))⟩
                  case measure => simp [intOf]; omega
              · have HB2 := Lib.hid (hitB_no HB.out hx (hitX_other hp))
                have d1 : (p' != p) = true := by simp [hp]
                clear hx hp hsb
                go_wp2
                go_roundw
                case rel => exact ⟨k + 1, by omega, by go_num, HB2, hb.alloc hz _⟩
                case measure => simp [intOf]; omega
            · have HN2 := Lib.hid (show ∀ m, m < n + 1 → hitB l p s.total M m l.length = false by
                intro m hm
                by_cases e : m = n
                · rw [e]; have := HB.out; rwa [show k = l.length by omega] at this
                · exact HN.out m (by omega))
              clear HN HB
              go_wp2
              go_roundw
              case rel => exact ⟨n + 1, by omega, by go_num, HN2, hb⟩
              case measure => simp [intOf]; omega
        · have HE := Lib.hid (nd_end (show ndQ l p = none by rw [HQ2.out]; exact nd_none (fun m hm => HN.out m (by omega))))
          have dn : decide ((n : Int) ≤ 100) = false := decide_eq_false (by omega)
          have dn2 : decide (n ≤ 100) = false := decide_eq_false (by omega)
          clear HN
          go_wp2
          go_ret2
          rw [HE.out.1, HE.out.2]
          exact ⟨rfl, hb5.trans (hb.mono hb5.size)⟩
end Go.Proofs.Ytcbecfkckdalmaa
