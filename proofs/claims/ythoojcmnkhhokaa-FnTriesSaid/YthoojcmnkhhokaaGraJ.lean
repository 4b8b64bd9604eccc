/-
  The hardest part: contracts.
-/
import Derived.Test.YthoojcmnkhhokaaGraI
import Derived.Test.YthoojcmnkhhokaaGraD
import Derived.Test.YthoojcmnkhhokaaGraG
namespace Go.Proofs.Ythoojcmnkhhokaa
set_option maxRecDepth 100000
open Go.RowKit

set_option maxHeartbeats 4000000 in
theorem hardS_t (A : Option Addr) (c : Nat) (s : List PartV) (B : Option Addr) (d : Nat) (ps : List (TryH × List Int)) (ts : List TryV) (sv : ps.map toV = ts) (w : World) (hn : s.length ≤ 16777216) (hcap : s.length ≤ c) (h : RdT partT w A s) (hok : ∀ x ∈ s, x.ok) (hm : ps.length ≤ 16777216) (hsm : ∀ p ∈ ps, p.2.length ≤ 16777216) (hr : RdY tryT w B ps) :
    Calls Try.prog 41 #[.slice A s.length c, .slice B ps.length d] w (RetN w (harV s ts) (harO s ts)) := by
  have hG := Lib.hid (fun W g g2 => l17Good_t A c s B d ps ts sv W hn hcap g hok hm hsm g2)
  have hlm : ts.length = ps.length := by rw [← sv, List.length_map]
  have TV := fun k p (hp : ps[k]? = some p) => (show ts[k]? = some (toV p) by rw [← sv, List.getElem?_map, hp]; rfl)
  cases gg : goodB s ts
  · rw [harV_no (harO_no gg), harO_no gg]
    rw [gg] at hG
    clear hlm
    go_enter Try.func41, Try.ntmps41
    go_wp2_with fail
    refine (hG.out _ h hr).mono ?_
    rintro e w1 ⟨rfl, hb1⟩
    go_wp2
    go_ret2
    exact ⟨rfl, hb1⟩
  rw [gg] at hG
  by_cases h0 : ps.length = 0
  · have e := harO_nil (s := s) (ts := ts) (by omega)
    rw [harV_no e, e]
    obtain rfl : ps = [] := List.eq_nil_of_length_eq_zero h0
    clear hlm h0
    go_enter Try.func41, Try.ntmps41
    go_wp2_with fail
    refine (hG.out _ h hr).mono ?_
    rintro e w1 ⟨rfl, hb1⟩
    go_wp2
    go_ret2
    exact ⟨rfl, hb1⟩
  obtain ⟨hs, h10, hall⟩ := goodB_iff gg
  obtain ⟨hs1, hs6⟩ := sch_len hs
  rw [harV_yes (harO_yes gg (by omega)), harO_yes gg (by omega), hlm]
  have HP := Lib.hid (fun k x hx => sch_part hs (k := k) (x := x) hx)
  have HC := Lib.hid (fun i k => colA_bd gg i k)
  have HBL := Lib.hid (fun k (hk : k ≤ s.length) => bstA_lt s (colF ts ps.length) (n := s.length) (by omega) hk)
  have HSL := Lib.hid (fun k p (hp : ps[k]? = some p) => (tryB_iff (hall _ (List.mem_of_getElem? (TV k p hp)))).2.2.1)
  have HPT := Lib.hid (fun k i p n (hp : ps[k]? = some p) (hn : p.2[i]? = some n) => ptX_at (TV k p hp) (show (toV p).points[i]? = some n from hn))
  have HPB := Lib.hid (fun k i => ptX_bd gg k i)
  have d0 : ((ps.length : Int) == 0) = false := by rw [beq_eq_false_iff_ne]; omega
  have d1 : decide (ps.length = 0) = false := decide_eq_false (by omega)
  have d2 : decide (ps = []) = false := decide_eq_false (fun e => h0 (by rw [e]; rfl))
  have hp10 : ps.length ≤ 10 := by omega
  clear hlm hs hall TV h10
  go_enter Try.func41, Try.ntmps41
  go_wp2_with fail
  refine (hG.out _ h hr).mono ?_
  rintro e w1 ⟨rfl, hb1⟩
  go_wp2
  clear d0 d1 d2 h0
  go_loopw [6, 7, 8] (fun p q i wr => ∃ k : Nat, k ≤ s.length ∧ i = .int .i64 k ∧ ((k = 0 ∧ p = .int .i64 (-1) ∧ q = .int .i64 0) ∨ (0 < k ∧ p = .int .i64 (bstA s (colF ts ps.length) k : Nat) ∧ q = .int .i64 (colF ts ps.length (bstA s (colF ts ps.length) k)))) ∧ Below w.heap.size w wr) (fun _ _ i _ => s.length - (intOf i).toNat)
  case atStart => exact ⟨0, by omega, rfl, .inl ⟨rfl, rfl, rfl⟩, hb1⟩
  case round =>
    obtain ⟨k, hk, rfl, hcase, hb⟩ := hrel
    clear hb1
    have hz := hb.size
    obtain ⟨wq, rfl⟩ : ∃ wq : World, wq = wr := ⟨_, rfl⟩
    by_cases hlt : k < s.length
    · have dk1 : decide (k < s.length) = true := decide_eq_true hlt
      have dk2 : decide ((k : Int) < (s.length : Int)) = true := decide_eq_true (by omega)
      go_wp2
      clear dk1 dk2
      go_loopw [9, 10] (fun p i wr => ∃ j : Nat, j ≤ ps.length ∧ i = .int .i64 j ∧ p = .int .i64 (colA ts k j) ∧ Below w.heap.size w wr) (fun _ i _ => ps.length - (intOf i).toNat)
      case atStart => exact ⟨0, by omega, rfl, rfl, hb⟩
      case round =>
        obtain ⟨j, hj, rfl, rfl, hbj⟩ := hrel
        clear hb
        have hzj := hbj.size
        obtain ⟨c1, c2⟩ := HC.out k j
        by_cases hlj : j < ps.length
        · obtain ⟨b, off, pu, gr, A2, c2', l, rfl, hx, hlb, hc0, hc1, hc2, hrl⟩ := (hr.below hbj (Nat.le_refl _)).atT hlj
          have hll : l.length = s.length := HSL.out j _ hx
          have hll1 : s.length ≤ l.length := by omega
          clear hll
          obtain ⟨b2, o2, n, rfl, hn2, hlb2, hcn⟩ := hrl.at_ (k := k) (by omega)
          have hpt := HPT.out j k _ n hx hn2
          obtain ⟨hp1, hp2⟩ := HPB.out j k
          rw [hpt] at hp1 hp2
          have E := Lib.hid (colA_succ hpt)
          have i1 : IntKind.i64.wrap (colA ts k j + n) = colA ts k j + n := IntWalk.i64_in _ (by omega)
          have j1 : (k : Int) < (l.length : Int) := by omega
          clear hpt hx hn2
          go_wp2
          go_roundw
          case rel => exact ⟨j + 1, by omega, by go_num, by rw [E.out], hbj⟩
          case measure => simp [intOf]; omega
        · obtain rfl : j = ps.length := by omega
          obtain ⟨b, off, nm, fu, ne, rfl, hy, hlb2, hd0, hd1, hd2⟩ := partT_at (h.below hbj (Nat.le_refl _)) hlt
          have HY := Lib.hid (fulX_at hy)
          obtain ⟨⟨q1, q2⟩, _, _⟩ := HP.out k _ hy
          dsimp only at q1 q2
          clear hy
          rcases hcase with ⟨rfl, rfl, rfl⟩ | ⟨hk0, rfl, rfl⟩
          · have d5 : decide ((-1 : Int) < 0) = true := rfl
            go_wp2_with fail
            go_quiet (fail)
            go_wp2
            go_roundw
            case rel => exact ⟨1, by omega, by go_num, .inr ⟨by omega, by rw [bstA_one]; rfl, by rw [bstA_one]; rfl⟩, below_drewN hbj _⟩
            case measure => simp [intOf]; omega
          · have hbl := HBL.out k (by omega)
            have HE1 := Lib.hid (fun e => bstA_yes (s := s) (c := colF ts ps.length) (k := k) e)
            have HE2 := Lib.hid (fun e => bstA_no (s := s) (c := colF ts ps.length) (k := k) e)
            generalize bstA s (colF ts ps.length) k = z at *
            obtain ⟨b', off', nm', fu', ne', hA', hy', hlb3, he0, he1, he2⟩ := partT_at (h.below hbj (Nat.le_refl _)) hbl
            injection hA' with hA'
            injection hA' with g1 g2 _
            subst g1 g2
            have HY' := Lib.hid (fulX_at hy')
            obtain ⟨⟨q3, q4⟩, _, _⟩ := HP.out z _ hy'
            dsimp only at q3 q4
            obtain ⟨c3, c4⟩ := HC.out z ps.length
            have p1 := prod_bd c1 (by omega) (by omega) q4
            have p2 := prod_bd c3 (by omega) (by omega) q2
            have i1 : IntKind.i64.wrap (colA ts k ps.length * fu') = colA ts k ps.length * fu' := IntWalk.i64_in _ (by omega)
            have i2 : IntKind.i64.wrap (colF ts ps.length z * fu) = colF ts ps.length z * fu := IntWalk.i64_in _ (by show -9223372036854775808 ≤ colA ts z ps.length * fu ∧ colA ts z ps.length * fu ≤ 9223372036854775807; omega)
            have d5 : decide ((z : Int) < 0) = false := decide_eq_false (by omega)
            have j1 : (z : Int) < (s.length : Int) := by omega
            clear hy'
            by_cases hcmp : colA ts k ps.length * fu' < colF ts ps.length z * fu
            · have d6 : decide (colA ts k ps.length * fu' < colF ts ps.length z * fu) = true := decide_eq_true hcmp
              have E := Lib.hid (HE1.out (by rw [HY.out, HY'.out]; exact hcmp))
              clear hcmp p1 p2
              go_wp2_with fail
              go_quiet (fail)
              go_wp2
              go_roundw
              case rel => exact ⟨k + 1, by omega, by go_num, .inr ⟨by omega, by rw [E.out], by rw [E.out]; rfl⟩, below_drewN hbj _⟩
              case measure => simp [intOf]; omega
            · have d6 : decide (colA ts k ps.length * fu' < colF ts ps.length z * fu) = false := decide_eq_false hcmp
              have E := Lib.hid (HE2.out (by rw [HY.out, HY'.out]; exact hcmp))
              clear hcmp p1 p2
              go_wp2_with fail
              go_quiet (fail)
              go_wp2
              go_roundw
              case rel => exact ⟨k + 1, by omega, by go_num, .inr ⟨by omega, by rw [E.out], by rw [E.out]⟩, below_drewN hbj _⟩
              case measure => simp [intOf]; omega
    · obtain rfl : k = s.length := by omega
      rcases hcase with ⟨e0, _, _⟩ | ⟨hk0, rfl, rfl⟩
      · omega
      go_wp2
      go_ret2
      exact ⟨rfl, hb⟩
end Go.Proofs.Ythoojcmnkhhokaa
