/-
  RodErrors, of the program: contract.
-/
import Derived.Test.YtkcbldaondflmaaRecL
import Derived.Test.YtkcbldaondflmaaBlk
namespace Go.Proofs.Ytkcbldaondflmaa
open Go.RowKit

theorem abs_any (n : Int) (w : World) (h0 : -100000 ≤ n) :
    Calls Try.prog 52 #[.int .i64 n] w fun e w' => e = .returned (.int .i64 (max n (-n))) ∧ w = w' := by
  by_cases h : n < 0
  · rw [Int.max_eq_right (by omega)]
    go_enter Try.func52, Try.ntmps52
    go_wp2
    go_ret
    exact ⟨rfl, rfl⟩
  · rw [Int.max_eq_left (by omega)]
    go_enter Try.func52, Try.ntmps52
    go_wp2
    go_ret
    exact ⟨rfl, rfl⟩

/-- The states of the counts: none, behind the first list, behind both. -/
def reS (a b : List MoveV) (n : Nat) : Nat → List Int
  | 0 => List.replicate n 0
  | 1 => e1L a n
  | _ => e2L a b n
theorem reS_zero (a b : List MoveV) (n : Nat) : reS a b n 0 = List.replicate n 0 := rfl
theorem reS_two (a b : List MoveV) (n : Nat) : reS a b n 2 = e2L a b n := rfl
theorem reS_len (a b : List MoveV) (n j : Nat) : (reS a b n j).length = n := by
  match j with
  | 0 => simp [reS]
  | 1 => exact e1L_len a n
  | _ + 2 => exact e2L_len a b n
theorem abd_mono {R R' : Int} {l : List Int} (h : abd R l) (hr : R ≤ R') : abd R' l := fun j => by have := h j; omega
theorem reS_bd {a b : List MoveV} (ha : recB a = true) (hb : recB b = true) (n j : Nat) : abd 24 (reS a b n j) := by
  have h1 := (recB_iff ha).1
  have h2 := (recB_iff hb).1
  have e1 : abd 12 (e1L a n) := abd_mono (errA_bd a 1 (by omega) (List.replicate n 0) 0 (by omega) (abd_zero n) a.length) (by omega)
  match j with
  | 0 => exact abd_mono (abd_zero n) (by omega)
  | 1 => exact abd_mono e1 (by omega)
  | _ + 2 => exact abd_mono (errA_bd b (-1) (by omega) (e1L a n) 12 (by omega) e1 b.length) (by omega)
def rodTo (n : Int) (l : List MoveV) (k : Nat) : Bool := (l.take k).all fun m => decide (m.rod < n)
theorem rodTo_zero (n : Int) (l : List MoveV) : rodTo n l 0 = true := by simp [rodTo]
theorem rodTo_succ {n : Int} {l : List MoveV} {k : Nat} {x : MoveV} (h : rodTo n l k = true) (hx : l[k]? = some x) (hr : x.rod < n) : rodTo n l (k + 1) = true := by
  unfold rodTo at *
  rw [take_snoc' hx, List.all_append, h]; simp [hr]
theorem rodTo_all {n : Int} {l : List MoveV} (h : rodTo n l l.length = true) : rodB n l = true := by
  unfold rodTo at h
  rw [List.take_length] at h
  unfold rodB
  exact h
theorem rodB_bad {n : Int} {l : List MoveV} {k : Nat} {x : MoveV} (hx : l[k]? = some x) (hr : ¬ x.rod < n) : rodB n l = false := by
  unfold rodB
  rw [List.all_eq_false]
  exact ⟨x, List.mem_of_getElem? hx, by simp; omega⟩
def reH (l1 l2 : List MoveV) (n j : Nat) : Prop := (1 ≤ j → rodB (n : Int) l1 = true) ∧ (2 ≤ j → rodB (n : Int) l2 = true)
theorem reH_zero (l1 l2 : List MoveV) (n : Nat) : reH l1 l2 n 0 := ⟨fun h => by omega, fun h => by omega⟩
theorem re_step {n : Nat} {w : World} {l1 l2 : List MoveV} (A1 : Option Addr) (c1 : Nat) (h1 : RdT moveT w A1 l1) (A2 : Option Addr) (c2 : Nat) (h2 : RdT moveT w A2 l2) (hm1 : recB l1 = true) (hm2 : recB l2 = true) (j : Nat) (hj : j < 2) :
    ∃ (A : Option Addr) (c : Nat) (L : List MoveV), (#[Value.slice A1 l1.length c1, .slice A2 l2.length c2])[j]? = some (.slice A L.length c) ∧ RdT moveT w A L ∧ recB L = true ∧ reS l1 l2 n (j + 1) = errA L (1 - 2 * (j : Int)) (reS l1 l2 n j) L.length ∧ (rodB (n : Int) L = false → reOk l1 l2 n = false) ∧
      (reH l1 l2 n j → rodB (n : Int) L = true → reH l1 l2 n (j + 1)) := by
  match j, hj with
  | 0, _ => exact ⟨A1, c1, l1, rfl, h1, hm1, rfl, fun h => by simp [reOk, h], fun _ h => ⟨fun _ => h, fun h2 => by omega⟩⟩
  | 1, _ => exact ⟨A2, c2, l2, rfl, h2, hm2, rfl, fun h => by simp [reOk, h], fun h h2 => ⟨fun _ => h.1 (by omega), fun _ => h2⟩⟩
set_option maxRecDepth 100000 in
set_option maxHeartbeats 8000000 in
theorem rodErrorsI_any (A1 : Option Addr) (c1 : Nat) (l1 : List MoveV) (A2 : Option Addr) (c2 : Nat) (l2 : List MoveV) (rods : Int) (w : World) (hn1 : l1.length ≤ 16777216) (h1 : RdT moveT w A1 l1) (hn2 : l2.length ≤ 16777216) (h2 : RdT moveT w A2 l2) :
    Calls Try.prog 29 #[.slice A1 l1.length c1, .slice A2 l2.length c2, .int .i64 rods] w (RetI w (reV l1 l2 rods) (reOk l1 l2 rods)) := by
  cases hm1 : recB l1
  · have e : reOk l1 l2 rods = false := by simp [reOk, hm1]
    rw [reV_no e, e]
    go_enter Try.func29, Try.ntmps29
    go_wp2_with (go_at_call 43; refine (areRecorded_any A1 _ l1 _ hn1 h1).mono ?_; rintro e w2 ⟨rfl, hb2⟩; rw [hm1])
    go_ret2
    exact ⟨none, 0, rfl, OwnI.nil _ _, hb2⟩
  cases hm2 : recB l2
  · have e : reOk l1 l2 rods = false := by simp [reOk, hm2]
    rw [reV_no e, e]
    go_enter Try.func29, Try.ntmps29
    go_wp2_with fail
    refine (areRecorded_any A1 _ l1 _ hn1 h1).mono ?_
    rintro e w1 ⟨rfl, hb1⟩
    rw [hm1]
    go_wp2_with fail
    refine (areRecorded_any A2 _ l2 _ hn2 (h2.below hb1 (Nat.le_refl _))).mono ?_
    rintro e w2 ⟨rfl, hb2⟩
    rw [hm2]
    go_wp2
    go_ret2
    exact ⟨none, 0, rfl, OwnI.nil _ _, hb1.trans (hb2.mono hb1.size)⟩
  cases hm3 : inB rods 1 8
  · have e : reOk l1 l2 rods = false := by simp [reOk, hm3]
    rw [reV_no e, e]
    go_enter Try.func29, Try.ntmps29
    go_wp2_with fail
    refine (areRecorded_any A1 _ l1 _ hn1 h1).mono ?_
    rintro e w1 ⟨rfl, hb1⟩
    rw [hm1]
    go_wp2_with fail
    refine (areRecorded_any A2 _ l2 _ hn2 (h2.below hb1 (Nat.le_refl _))).mono ?_
    rintro e w2 ⟨rfl, hb2⟩
    rw [hm2]
    go_wp2_with (go_at_call 51; refine (within_any _ _ _ _).mono ?_; rintro e w' ⟨rfl, rfl⟩; rw [hm3])
    go_ret2
    exact ⟨none, 0, rfl, OwnI.nil _ _, hb1.trans (hb2.mono hb1.size)⟩
  have hrb := (inB_iff _ _ _).1 hm3
  obtain ⟨n, rfl⟩ : ∃ n : Nat, rods = (n : Int) := ⟨rods.toNat, by omega⟩
  have hL1 := recB_iff hm1
  have hL2 := recB_iff hm2
  have HV2 := Lib.hid (fun h => reV_yes (a := l1) (b := l2) (n := (n : Int)) h)
  have HV1 := Lib.hid (fun h => reV_no (a := l1) (b := l2) (n := (n : Int)) h)
  have HO2 := Lib.hid (fun (h : rodB (n : Int) l1 = true) (h' : rodB (n : Int) l2 = true) => (show reOk l1 l2 n = true by simp [reOk, hm1, hm2, hm3, h, h']))
  have HJ := Lib.hid (re_step (n := n) (w := w) A1 c1 h1 A2 c2 h2 hm1 hm2)
  have HS0 := Lib.hid (reS_zero l1 l2 n)
  have HS2 := Lib.hid (reS_two l1 l2 n)
  have HSL := Lib.hid (reS_len l1 l2 n)
  have HSB := Lib.hid (reS_bd hm1 hm2 n)
  clear hL1 hL2
  generalize reOk l1 l2 n = ok at *
  generalize reV l1 l2 n = res at *
  generalize reS l1 l2 n = St at *
  have HC1 := Lib.hid (fun W g => hm1 ▸ areRecorded_any A1 c1 l1 W hn1 g)
  have HC2 := Lib.hid (fun W g => hm2 ▸ areRecorded_any A2 c2 l2 W hn2 g)
  have HC3 := Lib.hid (fun W => hm3 ▸ within_any (n : Int) 1 8 W)
  clear hm1 hm2 hm3
  go_enter Try.func29, Try.ntmps29
  go_wp2_with fail
  refine (HC1.out _ h1).mono ?_
  rintro e w1 ⟨rfl, hb1⟩
  go_wp2_with fail
  refine (HC2.out _ (h2.below hb1 (Nat.le_refl _))).mono ?_
  rintro e w2 ⟨rfl, hb2⟩
  have hbw := hb1.trans (hb2.mono hb1.size)
  have hzw := hbw.size
  clear hb1 hb2
  go_wp2_with (first | (go_at_call 51; refine (HC3.out _).mono ?_; rintro e w' ⟨rfl, rfl⟩) | (at_make; refine wpList_makeI (w0 := w) (B := w.heap.size) rfl _ _ rfl w.heap.size (n : Int) (n : Int) n rfl rfl rfl rfl (by omega) hzw hbw hzw ?_; intro g w3 hg0 hg1 hown3 hb3 hb3'))
  have hz3 := hb3.size
  obtain ⟨nb, hnb⟩ : ∃ nb : Nat, nb = w3.heap.size := ⟨_, rfl⟩
  obtain ⟨w4, hw4⟩ : ∃ w4 : World, w4 = w3.alloc (.cells #[.slice A1 l1.length c1, .slice A2 l2.length c2] 26) := ⟨_, rfl⟩
  have BL : Blk w4 nb 26 #[.slice A1 l1.length c1, .slice A2 l2.length c2] := by rw [hw4, hnb]; exact Blk.new _ _ _
  have hown4 : OwnI w4 w.heap.size (.slice (some ⟨g, 0, none⟩) n n) (St 0) := by rw [hw4, HS0.out]; exact OwnI.alloc hown3 _
  have hb4 : Below w.heap.size w w4 := by rw [hw4]; exact hb3.alloc hz3 _
  have hgn : ¬ g = nb := by omega
  rw [← hw4, ← hnb]
  clear hw4 hnb hown3 hb3 hb3' hz3 hbw hzw hg1
  go_loopw [34] (fun i wr => ∃ j : Nat, j ≤ 2 ∧ i = .int .i64 j ∧ OwnI wr w.heap.size (.slice (some ⟨g, 0, none⟩) n n) (St j) ∧ Blk wr nb 26 #[.slice A1 l1.length c1, .slice A2 l2.length c2] ∧ Hid (reH l1 l2 n j) ∧ Below w.heap.size w wr) (fun i _ => 2 - (intOf i).toNat)
  case atStart => exact ⟨0, by omega, rfl, hown4, BL, Lib.hid (reH_zero l1 l2 n), hb4⟩
  case round =>
    obtain ⟨j, hj, rfl, hown, BB, HR, hb⟩ := hrel
    clear hown4 BL hb4
    have hz := hb.size
    by_cases hlt : j < 2
    · obtain ⟨AJ, cJ, LJ, hcell, hrd, hrec, hst, hbad, hnext⟩ := HJ.out j hlt
      have hc0 : wr.cell? ⟨nb, j, none⟩ = some (.slice AJ LJ.length cJ) := (BB.cell j).trans hcell
      have HST := Lib.hid hst
      have HBAD := Lib.hid hbad
      have HNEXT := Lib.hid (hnext HR.out)
      have h12 := (recB_iff hrec).1
      have HMB := Lib.hid (recB_iff hrec).2
      have hsb := HSB.out j
      have hsl := HSL.out j
      have HO0 := Lib.hid (errA_zero LJ (1 - 2 * (j : Int)) (St j))
      have HOS := Lib.hid (fun (k r : Nat) (x1 x2 : Int) (h : LJ[k]? = some (⟨(r : Int), x1, x2⟩ : MoveV)) => errA_succ (1 - 2 * (j : Int)) (St j) h)
      have HOL := Lib.hid (fun k => (errA_len LJ (1 - 2 * (j : Int)) (St j) k).trans hsl)
      have HOB := Lib.hid (errA_bd LJ (1 - 2 * (j : Int)) (by omega) (St j) 24 (by omega) hsb)
      have dk1 : decide ((j : Int) < 2) = true := decide_eq_true (by omega)
      have dk2 : decide (j < 2) = true := decide_eq_true (by omega)
      have j2 : (j : Int) < 2 := by omega
      generalize errA LJ (1 - 2 * (j : Int)) (St j) = E at *
      clear hst hbad hnext hcell hrec hsl hsb HR HSB HSL HJ
      obtain ⟨wq, rfl⟩ : ∃ wq : World, wq = wr := ⟨_, rfl⟩
      go_wp2
      clear dk1 dk2
      go_loopw [41] (fun i wy => ∃ k : Nat, k ≤ LJ.length ∧ i = .int .i64 k ∧ OwnI wy w.heap.size (.slice (some ⟨g, 0, none⟩) n n) (E k) ∧ Blk wy nb 26 #[.slice A1 l1.length c1, .slice A2 l2.length c2] ∧ Hid (rodTo (n : Int) LJ k = true) ∧ Below w.heap.size w wy) (fun i _ => LJ.length - (intOf i).toNat)
      case atStart => exact ⟨0, by omega, rfl, by rw [HO0.out]; exact hown, BB, Lib.hid (rodTo_zero _ _), hb⟩
      case round =>
        obtain ⟨k, hk, rfl, hown, BB, HRT, hb⟩ := hrel
        have hz := hb.size
        by_cases hlk : k < LJ.length
        · obtain ⟨b, off, rod, part, by_, hAJ, hx, hlb, hd0, hd1, hd2⟩ := moveT_at (hrd.below hb (Nat.le_refl _)) hlk
          have hmb := moveB_iff (HMB.out k _ hx)
          dsimp only at hmb
          obtain ⟨⟨r0, r7⟩, _, _⟩ := hmb
          subst hAJ
          obtain ⟨bx, hbx⟩ : ∃ bx : Obj, bx = .cells #[.int .i64 rod, .int .i64 part, .int .i64 by_] 52 := ⟨_, rfl⟩
          by_cases hrn : rod < (n : Int)
          · obtain ⟨r, rfl⟩ : ∃ r : Nat, rod = (r : Int) := ⟨rod.toNat, by omega⟩
            have HSUC := Lib.hid (HOS.out k r _ _ hx)
            have HRT2 := Lib.hid (rodTo_succ HRT.out hx hrn)
            have hEl : (E k).length = n := HOL.out k
            have hEr : (E k)[r]? = some ((E k).getD r 0) := get_getD _ r (by omega)
            obtain ⟨q1, q2⟩ := HOB.out k r
            have hcr := OwnI.cell hown hEr
            have hfr := OwnI.frozen hown r
            have dr : decide ((n : Int) ≤ (r : Int)) = false := decide_eq_false (by omega)
            have rn : (r : Int) < (n : Int) := by omega
            generalize (E k).getD r 0 = v at *
            have a1 := box_old hcr bx
            have hoA := hown.alloc bx
            have a2 : (wr.alloc bx).frozen? ⟨g, r, none⟩ = false := OwnI.frozen hoA r
            have hbN := (hb.alloc hz bx).setCell (p := ⟨g, r, none⟩) hg0 (.int .i64 (v + (1 - 2 * (j : Int))))
            have BBN := (BB.alloc bx).far (p := ⟨g, r, none⟩) (fun e => hgn e.symm) (.int .i64 (v + (1 - 2 * (j : Int))))
            have HSET2 := OwnI.set hoA r (v + (1 - 2 * (j : Int)))
            rw [hbx] at a1 a2 hbN BBN HSET2
            have HSET := Lib.hid HSET2
            clear HSET2
            clear hx hEr hEl BB hoA
            go_wp2
            go_roundw
            case rel => exact ⟨k + 1, by omega, by go_num, by rw [HSUC.out]; exact HSET.out.1, BBN, HRT2, hbN⟩
            case measure => simp [intOf]; omega
          · have HOKF := Lib.hid (HBAD.out (rodB_bad hx hrn))
            have HRES := Lib.hid (HV1.out HOKF.out)
            have dr : decide ((n : Int) ≤ rod) = true := decide_eq_true (by omega)
            clear hx
            go_wp2
            go_ret2
            exact ⟨none, 0, by rw [HOKF.out, HRES.out]; rfl, by rw [HRES.out]; exact OwnI.nil _ _, hb.alloc hz _⟩
        · obtain rfl : k = LJ.length := by omega
          have HR2 := Lib.hid (HNEXT.out (rodTo_all HRT.out))
          rw [← HST.out] at hown
          go_wp2
          go_roundw
          case rel => exact ⟨j + 1, by omega, by go_num, hown, BB, HR2, hb⟩
          case measure => simp [intOf]; omega
    · have HJ2 := Lib.hid (show j = 2 by omega)
      have dk1 : decide ((j : Int) < 2) = false := decide_eq_false (by omega)
      have HOK := Lib.hid (HO2.out (HR.out.1 (by omega)) (HR.out.2 (by omega)))
      have HRES := Lib.hid (show res = absL (St j) n by rw [HV2.out HOK.out, HJ2.out, HS2.out, Int.toNat_natCast])
      have hsb := HSB.out j
      have HSB2 := Lib.hid hsb
      have HAZ := Lib.hid (absL_zero (St j))
      have HAS := Lib.hid (absL_succ (St j))
      have HAG := Lib.hid (absL_get (St j))
      have HAN := Lib.hid ((absL_len (St j) n).trans (HSL.out j))
      have HSN := Lib.hid (HSL.out j)
      clear hsb HR BB HJ HJ2
      generalize absL (St j) = G at *
      generalize St j = F at *
      go_wp2
      clear dk1
      go_loopw [63] (fun i wy => ∃ k : Nat, k ≤ n ∧ i = .int .i64 k ∧ OwnI wy w.heap.size (.slice (some ⟨g, 0, none⟩) n n) (G k) ∧ Below w.heap.size w wy) (fun i _ => n - (intOf i).toNat)
      case atStart => exact ⟨0, by omega, rfl, by rw [HAZ.out]; exact hown, hb⟩
      case round =>
        obtain ⟨k, hk, rfl, hown, hb⟩ := hrel
        by_cases hlk : k < n
        · have hgk := HAG.out k (by rw [HSN.out]; exact hlk)
          have hc := OwnI.cell hown hgk
          have hf := OwnI.frozen hown k
          obtain ⟨q1, q2⟩ := HSB2.out k
          have HSU := Lib.hid (HAS.out k)
          generalize F.getD k 0 = v at *
          have HSET := Lib.hid (OwnI.set hown k (max v (-v)))
          have HAB := Lib.hid (fun W => abs_any v W (by omega))
          generalize max v (-v) = av at *
          clear hgk
          go_wp2_with (go_at_call 52; refine (HAB.out _).mono ?_; rintro e w' ⟨rfl, rfl⟩)
          go_roundw
          case rel => exact ⟨k + 1, by omega, by go_num, by rw [HSU.out]; exact HSET.out.1, hb.setCell hg0 _⟩
          case measure => simp [intOf]; omega
        · obtain rfl : k = n := by omega
          have HRL := Lib.hid (show res.length = k by rw [HRES.out]; exact HAN.out)
          go_wp2
          go_ret2
          exact ⟨some ⟨g, 0, none⟩, k, by rw [HOK.out, HRL.out]; rfl, by rw [HRL.out, HRES.out]; exact hown, hb⟩
end Go.Proofs.Ytkcbldaondflmaa
