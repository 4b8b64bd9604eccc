/-
  The hardest part, the program's own: contract.
-/
import Derived.Test.YthoojcmnkhhokaaGraJ
namespace Go.Proofs.Ythoojcmnkhhokaa
set_option maxRecDepth 100000
open Go.RowKit

set_option maxHeartbeats 4000000 in
theorem hardI_t (A : Option Addr) (c : Nat) (s : List PartV) (B : Option Addr) (d : Nat) (ps : List (TryH × List Int)) (ts : List TryV) (sv : ps.map toV = ts) (w : World) (hn : s.length ≤ 16777216) (hcap : s.length ≤ c) (h : RdT partT w A s) (hok : ∀ x ∈ s, x.ok) (hm : ps.length ≤ 16777216) (hsm : ∀ p ∈ ps, p.2.length ≤ 16777216) (hr : RdY tryT w B ps) :
    Calls Try.prog 42 #[.slice A s.length c, .slice B ps.length d] w (RetN w (harV s ts) (harO s ts)) := by
  have hG := Lib.hid (fun W g g2 => areTriesI_t A c s B d ps ts sv W hn hcap g hok hm hsm g2)
  have hlm : ts.length = ps.length := by rw [← sv, List.length_map]
  have TV := fun k p (hp : ps[k]? = some p) => (show ts[k]? = some (toV p) by rw [← sv, List.getElem?_map, hp]; rfl)
  cases gg : goodB s ts
  · rw [harV_no (harO_no gg), harO_no gg]
    rw [gg] at hG
    clear hlm
    go_enter Try.func42, Try.ntmps42
    go_wp2_with fail
    refine (hG.out _ h hr).mono ?_
    rintro e w1 ⟨rfl, hb1⟩
    go_wp2
    go_ret2
    exact ⟨rfl, hb1⟩
  rw [gg] at hG
  by_cases h0 : ps.length = 0
  · have e := harO_nil (s := s) (ts := ts) (by omega)
    rw [harV_no e, e]
    obtain rfl : ps = [] := List.eq_nil_of_length_eq_zero h0
    clear hlm h0
    go_enter Try.func42, Try.ntmps42
    go_wp2_with fail
    refine (hG.out _ h hr).mono ?_
    rintro e w1 ⟨rfl, hb1⟩
    go_wp2
    go_ret2
    exact ⟨rfl, hb1⟩
  obtain ⟨hs, h10, hall⟩ := goodB_iff gg
  obtain ⟨hs1, hs6⟩ := sch_len hs
  rw [harV_yes (harO_yes gg (by omega)), harO_yes gg (by omega), hlm]
  have HP := Lib.hid (fun k x hx => sch_part hs (k := k) (x := x) hx)
  have HC := Lib.hid (fun i k => colA_bd gg i k)
  have HBL := Lib.hid (fun k (hk : k ≤ s.length) => bstA_lt s (colF ts ps.length) (n := s.length) (by omega) hk)
  have HSL := Lib.hid (fun k p (hp : ps[k]? = some p) => (tryB_iff (hall _ (List.mem_of_getElem? (TV k p hp)))).2.2.1)
  have HPT := Lib.hid (fun k i p n (hp : ps[k]? = some p) (hn : p.2[i]? = some n) => ptX_at (TV k p hp) (show (toV p).points[i]? = some n from hn))
  have HPB := Lib.hid (fun k i => ptX_bd gg k i)
  have d0 : ((ps.length : Int) == 0) = false := by rw [beq_eq_false_iff_ne]; omega
  have d1 : decide (ps.length = 0) = false := decide_eq_false (by omega)
  have d2 : decide (ps = []) = false := decide_eq_false (fun e => h0 (by rw [e]; rfl))
  have hp10 : ps.length ≤ 10 := by omega
  clear hlm hs hall TV h10
  go_enter Try.func42, Try.ntmps42
  go_wp2_with fail
  refine (hG.out _ h hr).mono ?_
  rintro e w1 ⟨rfl, hb1⟩
  have h1 := h.below hb1 (Nat.le_refl _)
  have hr1 := hr.below hb1 (Nat.le_refl _)
  have hz1 := hb1.size
  go_wp2_with (at_make; refine wpList_makeT (w0 := w1) (B := w1.heap.size) intT rfl _ _ rfl w1.heap.size _ _ s.length rfl rfl rfl rfl (by omega) (Nat.le_refl _) (Below.refl _ _) (Nat.le_refl _) ?_; intro w2 hown0 hb2 hgr2; have hown1 : OwnI w2 w1.heap.size (.slice (some ⟨w1.heap.size, 0, none⟩) s.length s.length) (List.replicate s.length 0) := own_int.1 hown0; clear hown0 hgr2)
  clear d0 d1 d2 h0
  rw [← tabA_zero ts s.length] at hown1
  go_loopw [28] (fun i wr => ∃ k : Nat, k ≤ ps.length ∧ i = .int .i64 k ∧ OwnI wr w1.heap.size (.slice (some ⟨w1.heap.size, 0, none⟩) s.length s.length) (tabA ts s.length k 0) ∧ Below w1.heap.size w1 wr) (fun i _ => ps.length - (intOf i).toNat)
  case atStart => exact ⟨0, by omega, rfl, hown1, hb2⟩
  case round =>
    obtain ⟨k, hk, rfl, hown, hb⟩ := hrel
    clear hown1 hb2
    have hz := hb.size
    by_cases hlt : k < ps.length
    · obtain ⟨b, off, pu, gr, A2, c2', l, rfl, hx, hlb, hc0, hc1, hc2, hrl⟩ := hr1.atT hlt
      have hll : l.length = s.length := HSL.out k _ hx
      have hll1 : s.length ≤ l.length := by omega
      have hll2 : l.length ≤ s.length := by omega
      have PT := Lib.hid (fun i n hn => HPT.out k i _ n hx hn)
      clear hll hx
      have e0 := (hb.cell (p := ⟨b, off + k * 3, none⟩) hlb).trans hc0
      have e1 := (hb.cell (p := ⟨b, off + k * 3 + 1, none⟩) hlb).trans hc1
      have e2 := (hb.cell (p := ⟨b, off + k * 3 + 2, none⟩) hlb).trans hc2
      obtain ⟨wq, hwq⟩ : ∃ wq : World, wq = wr.alloc (.cells #[.int .i64 pu, .int .i64 gr, .slice A2 l.length c2'] 35) := ⟨_, rfl⟩
      have hbq : Below w1.heap.size w1 wq := by rw [hwq]; exact hb.alloc hz _
      have hownq : OwnI wq w1.heap.size (.slice (some ⟨w1.heap.size, 0, none⟩) s.length s.length) (tabA ts s.length k 0) := by rw [hwq]; exact hown.alloc _
      have HWQ := Lib.hid hwq
      have dk1 : decide (k < ps.length) = true := decide_eq_true hlt
      have dk2 : decide ((k : Int) < (ps.length : Int)) = true := decide_eq_true (by omega)
      clear hwq hc0 hc1 hc2
      go_wp2
      clear dk1 dk2
      rw [← HWQ.out]
      clear HWQ
      go_loopw [35] (fun i wr => ∃ j : Nat, j ≤ l.length ∧ i = .int .i64 j ∧ OwnI wr w1.heap.size (.slice (some ⟨w1.heap.size, 0, none⟩) s.length s.length) (tabA ts s.length k j) ∧ Below w1.heap.size w1 wr) (fun i _ => l.length - (intOf i).toNat)
      case atStart => exact ⟨0, by omega, rfl, hownq, hbq⟩
      case round =>
        obtain ⟨j, hj, rfl, ho, hbj⟩ := hrel
        clear hown hownq hbq e0 e1 e2
        have hzj := hbj.size
        by_cases hlj : j < l.length
        · obtain ⟨b2, o2, n, rfl, hn2, hlb2, hcn⟩ := (hrl.below hbj (Nat.le_refl _)).at_ hlj
          have hpt := PT.out j n hn2
          obtain ⟨hp1, hp2⟩ := HPB.out k j
          obtain ⟨c1, c2⟩ := HC.out j k
          rw [hpt] at hp1 hp2
          have hcur := tabA_cur ts (n := s.length) (j := j) k (by omega)
          have hcell := ho.cell hcur
          have hfz := ho.frozen (j := j)
          have hset := ho.set j (colA ts j k + n)
          have hE := tabA_set ts (n := s.length) (j := j) k (by omega)
          rw [hpt] at hE
          rw [hE] at hset
          have HS := Lib.hid hset
          have hgl := (ho.lt w1.heap.size rfl).1
          have i1 : IntKind.i64.wrap (colA ts j k + n) = colA ts j k + n := IntWalk.i64_in _ (by omega)
          have j1 : (j : Int) < (s.length : Int) := by omega
          clear hpt hn2 hcur hE hset
          go_wp2
          go_roundw
          case rel => exact ⟨j + 1, by omega, by go_num, HS.out.1, hbj.setCell hgl _⟩
          case measure => simp [intOf]; omega
        · obtain rfl : j = l.length := by omega
          have ho' : OwnI wr w1.heap.size (.slice (some ⟨w1.heap.size, 0, none⟩) s.length s.length) (tabA ts s.length (k + 1) 0) := by rw [← tabA_next, show s.length = l.length by omega]; rw [show s.length = l.length by omega] at ho; exact ho
          clear ho
          go_wp2
          go_roundw
          case rel => exact ⟨k + 1, by omega, by go_num, ho', hbj⟩
          case measure => simp [intOf]; omega
    · obtain rfl : k = ps.length := by omega
      go_wp2
      go_loopw [11, 51] (fun p i wr => ∃ m : Nat, m ≤ s.length ∧ i = .int .i64 m ∧ p = .int .i64 (bstA s (colF ts ps.length) m : Nat) ∧ OwnI wr w1.heap.size (.slice (some ⟨w1.heap.size, 0, none⟩) s.length s.length) (tabA ts s.length ps.length 0) ∧ Below w1.heap.size w1 wr) (fun _ i _ => s.length - (intOf i).toNat)
      case atStart => exact ⟨0, by omega, rfl, rfl, hown, hb⟩
      case round =>
        obtain ⟨m, hmm, rfl, rfl, ho, hbj⟩ := hrel
        clear hown hb
        have hzj := hbj.size
        by_cases hlj : m < s.length
        · have hbl := HBL.out m (by omega)
          have HE1 := Lib.hid (fun e => bstA_yes (s := s) (c := colF ts ps.length) (k := m) e)
          have HE2 := Lib.hid (fun e => bstA_no (s := s) (c := colF ts ps.length) (k := m) e)
          generalize bstA s (colF ts ps.length) m = z at *
          obtain ⟨b, off, nm, fu, ne, rfl, hy, hlb2, hd0, hd1, hd2⟩ := partT_at (h1.below hbj (Nat.le_refl _)) hlj
          obtain ⟨b', off', nm', fu', ne', hA', hy', hlb3, he0, he1, he2⟩ := partT_at (h1.below hbj (Nat.le_refl _)) hbl
          injection hA' with hA'
          injection hA' with g1 g2 _
          subst g1 g2
          have HY := Lib.hid (fulX_at hy)
          have HY' := Lib.hid (fulX_at hy')
          obtain ⟨⟨q1, q2⟩, _, _⟩ := HP.out m _ hy
          obtain ⟨⟨q3, q4⟩, _, _⟩ := HP.out z _ hy'
          dsimp only at q1 q2 q3 q4
          obtain ⟨c1, c2⟩ := HC.out m ps.length
          obtain ⟨c3, c4⟩ := HC.out z ps.length
          have p1 := prod_bd c1 (by omega) (by omega) q4
          have p2 := prod_bd c3 (by omega) (by omega) q2
          obtain ⟨wq, hwq⟩ : ∃ wq : World, wq = wr.alloc (.cells #[.string nm, .int .i64 fu, .int .i64 ne] 71) := ⟨_, rfl⟩
          have hbq : Below wr.heap.size wr wq := by rw [hwq]; exact (Below.refl _ _).alloc (Nat.le_refl _) _
          have u1 : wq.cell? ⟨wr.heap.size, 1, none⟩ = some (.int .i64 fu) := by rw [hwq]; exact cell_of_row _ _ 1 _ _ (0, 0) (heap_alloc_new wr _)
          have hoq : OwnI wq w1.heap.size (.slice (some ⟨w1.heap.size, 0, none⟩) s.length s.length) (tabA ts s.length ps.length 0) := by rw [hwq]; exact ho.alloc _
          have t1 := hoq.cell (tabA_end ts (n := s.length) (i := m) ps.length hlj)
          have t2 := hoq.cell (tabA_end ts (n := s.length) (i := z) ps.length hbl)
          have x1 := (hbq.cell (p := ⟨b, off + z * 3 + 1, none⟩) hlb3).trans he1
          have i1 : IntKind.i64.wrap (colA ts m ps.length * fu') = colA ts m ps.length * fu' := IntWalk.i64_in _ (by omega)
          have i2 : IntKind.i64.wrap (colA ts z ps.length * fu) = colA ts z ps.length * fu := IntWalk.i64_in _ (by omega)
          have j1 : (z : Int) < (s.length : Int) := by omega
          have j2 : (m : Int) < (s.length : Int) := by omega
          have HWQ := Lib.hid hwq
          have hbx := hbj.trans (hbq.mono hzj)
          clear hy hy' hwq
          by_cases hcmp : colA ts m ps.length * fu' < colA ts z ps.length * fu
          · have d6 : decide (colA ts m ps.length * fu' < colA ts z ps.length * fu) = true := decide_eq_true hcmp
            have E := Lib.hid (HE1.out (by rw [HY.out, HY'.out]; exact hcmp))
            clear hcmp p1 p2
            go_wp2_with fail
            rw [← HWQ.out]
            clear HWQ
            go_quiet (fail)
            go_wp2
            go_roundw
            case rel => exact ⟨m + 1, by omega, by go_num, by rw [E.out], hoq.drewN _, below_drewN hbx _⟩
            case measure => simp [intOf]; omega
          · have d6 : decide (colA ts m ps.length * fu' < colA ts z ps.length * fu) = false := decide_eq_false hcmp
            have E := Lib.hid (HE2.out (by rw [HY.out, HY'.out]; exact hcmp))
            clear hcmp p1 p2
            go_wp2_with fail
            rw [← HWQ.out]
            clear HWQ
            go_quiet (fail)
            go_wp2
            go_roundw
            case rel => exact ⟨m + 1, by omega, by go_num, by rw [E.out], hoq.drewN _, below_drewN hbx _⟩
            case measure => simp [intOf]; omega
        · obtain rfl : m = s.length := by omega
          go_wp2
          go_ret2
          exact ⟨rfl, hb1.trans (hbj.mono hz1)⟩
end Go.Proofs.Ythoojcmnkhhokaa
