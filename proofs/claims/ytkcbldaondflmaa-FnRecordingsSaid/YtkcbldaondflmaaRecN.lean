/-
  The recording with the smallest distance: plain, contracts.
-/
import Derived.Test.YtkcbldaondflmaaRecK
import Derived.Test.YtkcbldaondflmaaMSS
import Derived.Lib.QuietBelow
namespace Go.Proofs.Ytkcbldaondflmaa
open Go.RowKit

def dsA (ls : List (List MoveV)) (b : List MoveV) (k : Nat) : Int := match ls[k]? with
  | some a => distV a b
  | none => 0
theorem dsA_at {ls : List (List MoveV)} {b a : List MoveV} {k : Nat} (h : ls[k]? = some a) : dsA ls b k = distV a b := by simp [dsA, h]
def bestA (D : Nat → Int) : Nat → Nat
  | 0 => 0
  | k + 1 => if D k < D (bestA D k) then k else bestA D k
theorem bestA_zero (D : Nat → Int) : bestA D 0 = 0 := rfl
theorem bestA_one (D : Nat → Int) : bestA D 1 = 0 := by simp [bestA]
theorem bestA_yes {D : Nat → Int} {k : Nat} (h : D k < D (bestA D k)) : bestA D (k + 1) = k := if_pos h
theorem bestA_no {D : Nat → Int} {k : Nat} (h : ¬ D k < D (bestA D k)) : bestA D (k + 1) = bestA D k := if_neg h
theorem bestA_lt (D : Nat → Int) (k : Nat) (h : 0 < k) : bestA D k < k := by
  induction k with
  | zero => omega
  | succ k ih =>
    simp only [bestA]
    split
    · omega
    · by_cases e : k = 0
      · subst e; simp [bestA]
      · have := ih (by omega); omega
def allTo (ls : List (List MoveV)) (k : Nat) : Bool := (ls.take k).all recB
theorem allTo_zero (ls : List (List MoveV)) : allTo ls 0 = true := by simp [allTo]
theorem allTo_succ {ls : List (List MoveV)} {k : Nat} {a : List MoveV} (h : allTo ls k = true) (hx : ls[k]? = some a) (ha : recB a = true) : allTo ls (k + 1) = true := by
  unfold allTo at *
  rw [take_snoc' hx, List.all_append, h]
  simp [ha]
def brB (ls : List (List MoveV)) (b : List MoveV) : Bool := inB (ls.length : Int) 1 6 && recB b && ls.all recB
def brV (ls : List (List MoveV)) (b : List MoveV) : Int := if brB ls b = true then ((bestA (dsA ls b) ls.length : Nat) : Int) else 0
theorem brV_no {ls : List (List MoveV)} {b : List MoveV} (h : brB ls b = false) : brV ls b = 0 := if_neg (by simp [h])
theorem brV_yes {ls : List (List MoveV)} {b : List MoveV} (h : brB ls b = true) : brV ls b = ((bestA (dsA ls b) ls.length : Nat) : Int) := if_pos h
theorem br_len {ls : List (List MoveV)} {b : List MoveV} (h : inB (ls.length : Int) 1 6 = false) : brB ls b = false := by simp [brB, h]
theorem br_b {ls : List (List MoveV)} {b : List MoveV} (h : recB b = false) : brB ls b = false := by simp [brB, h]
theorem br_bad {ls : List (List MoveV)} {b a : List MoveV} {k : Nat} (hx : ls[k]? = some a) (h : recB a = false) : brB ls b = false := by
  have : ls.all recB = false := by
    rw [List.all_eq_false]
    exact ⟨a, List.mem_of_getElem? hx, by simp [h]⟩
  simp [brB, this]
theorem br_good {ls : List (List MoveV)} {b : List MoveV} (h1 : inB (ls.length : Int) 1 6 = true) (h2 : recB b = true) (h3 : allTo ls ls.length = true) : brB ls b = true := by
  unfold allTo at h3
  rw [List.take_length] at h3
  simp [brB, h1, h2, h3]
theorem all_at {ls : List (List MoveV)} {a : List MoveV} {k : Nat} (h : allTo ls ls.length = true) (hx : ls[k]? = some a) : recB a = true := by
  unfold allTo at h
  rw [List.take_length] at h
  exact List.all_eq_true.1 h a (List.mem_of_getElem? hx)
theorem dist48 {a b : List MoveV} (ha : recB a = true) (hb : recB b = true) : 0 ≤ distV a b ∧ distV a b ≤ 100 := by
  have h1 := distV_bd a b
  have h2 := (recB_iff ha).1
  have h3 := (recB_iff hb).1
  omega
attribute [irreducible] bestA

set_option maxRecDepth 100000 in
set_option maxHeartbeats 4000000 in
theorem bestI_any (A : Option Addr) (c : Nat) (ps : List (HdrV × List MoveV)) (ls : List (List MoveV)) (hls : ps.map Prod.snd = ls) (B : Option Addr) (d : Nat) (b : List MoveV) (w : World) (hn : ps.length ≤ 16777216) (hsm : ∀ p ∈ ps, p.2.length ≤ 16777216) (h : RdM hdrM moveT w A ps) (hnb : b.length ≤ 16777216) (hr : RdT moveT w B b) :
    Calls Try.prog 33 #[.slice A ps.length c, .slice B b.length d] w fun e w' => e = .returned (.tuple #[.int .i64 (brV ls b), .bool (brB ls b)]) ∧ Below w.heap.size w w' := by
  have hlen : ls.length = ps.length := by rw [← hls, List.length_map]
  have TV := Lib.hid (fun k (p : HdrV × List MoveV) (hp : ps[k]? = some p) => (show ls[k]? = some p.2 by rw [← hls, List.getElem?_map, hp]; rfl))
  cases h1 : inB (ps.length : Int) 1 6
  · have e := br_len (b := b) (show inB (ls.length : Int) 1 6 = false by rw [hlen]; exact h1)
    have HW := Lib.hid (fun W => h1 ▸ within_any (ps.length : Int) 1 6 W)
    rw [brV_no e, e]
    clear e h1 hlen hls
    go_enter Try.func33, Try.ntmps33
    go_wp2_with fail
    refine (HW.out _).mono ?_
    rintro e wz ⟨rfl, rfl⟩
    go_wp2
    go_ret2
    exact ⟨rfl, Below.refl _ _⟩
  have HW := Lib.hid (fun W => h1 ▸ within_any (ps.length : Int) 1 6 W)
  cases h2 : recB b
  · have e := br_b (ls := ls) h2
    have HR := Lib.hid (fun W g => h2 ▸ areRecorded_any B d b W hnb g)
    rw [brV_no e, e]
    clear e h1 hlen hls h2
    go_enter Try.func33, Try.ntmps33
    go_wp2_with fail
    refine (HW.out _).mono ?_
    rintro e wz ⟨rfl, rfl⟩
    go_wp2_with fail
    refine (HR.out _ hr).mono ?_
    rintro e w1 ⟨rfl, hb1⟩
    go_wp2
    go_ret2
    exact ⟨rfl, hb1⟩
  have HR := Lib.hid (fun W g => h2 ▸ areRecorded_any B d b W hnb g)
  obtain ⟨p1, p6⟩ := (inB_iff _ _ _).1 h1
  have hb12 := (recB_iff h2).1
  have HBAD := Lib.hid (fun k a (hx : ls[k]? = some a) (hh : recB a = false) => br_bad (b := b) hx hh)
  have HGOOD := Lib.hid (fun h3 => br_good (ls := ls) (b := b) (by rw [hlen]; exact h1) h2 h3)
  have HV0 := Lib.hid (fun (hh : brB ls b = false) => brV_no hh)
  have HV1 := Lib.hid (fun (hh : brB ls b = true) => brV_yes hh)
  have HDA := Lib.hid (fun k a (hx : ls[k]? = some a) => dsA_at (b := b) hx)
  have HDB := Lib.hid (fun a (ha : recB a = true) => dist48 ha h2)
  have HD := Lib.hid (fun (A' : Option Addr) (c' : Nat) a W (ha : recB a = true) g g2 => moveDistance_any A' c' a B d b W (recB_iff ha).1 g hb12 g2)
  have HZ := Lib.hid (bestA_zero (dsA ls b))
  have HLT := Lib.hid (bestA_lt (dsA ls b))
  have HONE := Lib.hid (bestA_one (dsA ls b))
  have HYES := Lib.hid (fun k (hh : dsA ls b k < dsA ls b (bestA (dsA ls b) k)) => bestA_yes hh)
  have HNO := Lib.hid (fun k (hh : ¬ dsA ls b k < dsA ls b (bestA (dsA ls b) k)) => bestA_no hh)
  have HLEN := Lib.hid hlen
  have hleq : ls.length ≤ ps.length := Nat.le_of_eq hlen
  have hlge : ps.length ≤ ls.length := Nat.le_of_eq hlen.symm
  clear h1 h2 hls hlen
  generalize brV ls b = V at *
  generalize brB ls b = T at *
  generalize bestA (dsA ls b) = Bst at *
  generalize dsA ls b = D at *
  go_enter Try.func33, Try.ntmps33
  go_wp2_with fail
  refine (HW.out _).mono ?_
  rintro e wz ⟨rfl, rfl⟩
  go_wp2_with fail
  refine (HR.out _ hr).mono ?_
  rintro e w1 ⟨rfl, hb1⟩
  clear HR HW
  go_wp2
  go_loopw [6, 7, 22] (fun x y i wr => ∃ (k : Nat) (m : Int), k ≤ ps.length ∧ i = .int .i64 k ∧ x = .int .i64 (Bst k : Nat) ∧ y = .int .i64 m ∧ Hid ((k = 0 ∧ m = -1) ∨ (0 < k ∧ m = D (Bst k) ∧ 0 ≤ m)) ∧ -1 ≤ m ∧ m ≤ 100 ∧ Hid (allTo ls k = true) ∧ Below w1.heap.size w1 wr) (fun _ _ i _ => ps.length - (intOf i).toNat)
  case atStart => exact ⟨0, -1, by omega, rfl, by rw [HZ.out]; rfl, rfl, Lib.hid (.inl ⟨rfl, rfl⟩), by omega, by omega, Lib.hid (allTo_zero ls), Below.refl _ _⟩
  case round =>
    obtain ⟨k, m, hk, rfl, rfl, rfl, HM, hm1, hm2, HA, hb⟩ := hrel
    have hz := hb.size
    have hbw := hb1.trans (hb.mono hb1.size)
    by_cases hlt : k < ps.length
    · obtain ⟨bb, off, A2, c2, l, hAA, hx, hlb, hc, hrl⟩ := (h.below hbw (Nat.le_refl _)).atM hlt
      have hll : l.length ≤ 16777216 := hsm _ (List.mem_of_getElem? hx)
      have hxl := TV.out k _ hx
      dsimp only at hxl
      subst hAA
      cases hra : recB l
      · have HE := Lib.hid (HBAD.out k l hxl hra)
        have HE2 := Lib.hid (HV0.out HE.out)
        have HRL := Lib.hid (fun W g => hra ▸ areRecorded_any A2 c2 l W hll g)
        clear hx hxl hra
        go_wp2_with fail
        refine (HRL.out _ hrl).mono ?_
        rintro e w2 ⟨rfl, hb2⟩
        go_wp2
        go_ret2
        exact ⟨by rw [HE.out, HE2.out]; rfl, hbw.trans (hb2.mono hbw.size)⟩
      · have HRL := Lib.hid (fun W g => hra ▸ areRecorded_any A2 c2 l W hll g)
        have HDL := Lib.hid (fun W g g2 => HD.out A2 c2 l W hra g g2)
        obtain ⟨q1, q2⟩ := HDB.out l hra
        have HDK := Lib.hid (HDA.out k l hxl)
        have HA2 := Lib.hid (allTo_succ HA.out hxl hra)
        generalize distV l b = dl at *
        clear hx hxl hra
        by_cases hm : m < 0
        · have HK0 := Lib.hid (show k = 0 by rcases HM.out with ⟨e, _⟩ | ⟨_, _, e⟩ <;> omega)
          have HB1 := Lib.hid (show (k : Int) = (Bst (k + 1) : Nat) by rw [HK0.out, HONE.out])
          have HM2 := Lib.hid (show (k + 1 = 0 ∧ dl = -1) ∨ (0 < k + 1 ∧ dl = D (Bst (k + 1)) ∧ 0 ≤ dl) from .inr ⟨by omega, (by have e2 : Bst (k + 1) = k := (by have := HB1.out; omega); rw [e2, HDK.out]), q1⟩)
          clear HM
          go_wp2_with fail
          refine (HRL.out _ hrl).mono ?_
          rintro e w2 ⟨rfl, hb2⟩
          have hb3 := hb.trans (hb2.mono hz)
          have hbw3 := hbw.trans (hb2.mono hbw.size)
          go_wp2_with fail
          refine (HDL.out _ (hrl.below hb2 (Nat.le_refl _)) (hr.below hbw3 (Nat.le_refl _))).mono ?_
          rintro e w4 ⟨rfl, hb4⟩
          go_wp2
          go_roundw
          case rel => exact ⟨k + 1, dl, by omega, by go_num, by rw [← HB1.out], rfl, HM2, by omega, by omega, HA2, hb3.trans (hb4.mono hb3.size)⟩
          case measure => simp [intOf]; omega
        · have HK0 := Lib.hid (show 0 < k ∧ m = D (Bst k) by rcases HM.out with ⟨_, e⟩ | ⟨e1, e2, _⟩ <;> first | omega | exact ⟨e1, e2⟩)
          by_cases hd : dl < m
          · have HB1 := Lib.hid (show Bst (k + 1) = k from HYES.out k (by rw [HDK.out, ← HK0.out.2]; omega))
            have HM2 := Lib.hid (show (k + 1 = 0 ∧ dl = -1) ∨ (0 < k + 1 ∧ dl = D (Bst (k + 1)) ∧ 0 ≤ dl) from .inr ⟨by omega, by rw [HB1.out, HDK.out], q1⟩)
            clear HM HK0
            go_wp2_with fail
            refine (HRL.out _ hrl).mono ?_
            rintro e w2 ⟨rfl, hb2⟩
            have hb3 := hb.trans (hb2.mono hz)
            have hbw3 := hbw.trans (hb2.mono hbw.size)
            go_wp2_with fail
            refine (HDL.out _ (hrl.below hb2 (Nat.le_refl _)) (hr.below hbw3 (Nat.le_refl _))).mono ?_
            rintro e w4 ⟨rfl, hb4⟩
            go_wp2
            go_roundw
            case rel => exact ⟨k + 1, dl, by omega, by go_num, by rw [HB1.out], rfl, HM2, by omega, by omega, HA2, hb3.trans (hb4.mono hb3.size)⟩
            case measure => simp [intOf]; omega
          · have HB1 := Lib.hid (show Bst (k + 1) = Bst k from HNO.out k (by rw [HDK.out, ← HK0.out.2]; omega))
            have HM2 := Lib.hid (show (k + 1 = 0 ∧ m = -1) ∨ (0 < k + 1 ∧ m = D (Bst (k + 1)) ∧ 0 ≤ m) from .inr ⟨by omega, by rw [HB1.out]; exact HK0.out.2, by omega⟩)
            clear HM HK0
            go_wp2_with fail
            refine (HRL.out _ hrl).mono ?_
            rintro e w2 ⟨rfl, hb2⟩
            have hb3 := hb.trans (hb2.mono hz)
            have hbw3 := hbw.trans (hb2.mono hbw.size)
            go_wp2_with fail
            refine (HDL.out _ (hrl.below hb2 (Nat.le_refl _)) (hr.below hbw3 (Nat.le_refl _))).mono ?_
            rintro e w4 ⟨rfl, hb4⟩
            go_wp2
            go_roundw
            case rel => exact ⟨k + 1, m, by omega, by go_num, by rw [HB1.out], rfl, HM2, by omega, by omega, HA2, hb3.trans (hb4.mono hb3.size)⟩
            case measure => simp [intOf]; omega
    · have hkl : k = ps.length := by omega
      have HE := Lib.hid (HGOOD.out (by have := HA.out; rwa [hkl, ← HLEN.out] at this))
      have HE2 := Lib.hid (show V = ((Bst k : Nat) : Int) by rw [HV1.out HE.out, HLEN.out, hkl])
      clear hkl
      go_wp2
      go_ret2
      exact ⟨by rw [HE.out, HE2.out]; rfl, hbw⟩

set_option maxRecDepth 100000 in
set_option maxHeartbeats 4000000 in
theorem bestS_any (A : Option Addr) (c : Nat) (ps : List (HdrV × List MoveV)) (ls : List (List MoveV)) (hls : ps.map Prod.snd = ls) (B : Option Addr) (d : Nat) (b : List MoveV) (w : World) (hn : ps.length ≤ 16777216) (hsm : ∀ p ∈ ps, p.2.length ≤ 16777216) (h : RdM hdrM moveT w A ps) (hnb : b.length ≤ 16777216) (hr : RdT moveT w B b) :
    Calls Try.prog 31 #[.slice A ps.length c, .slice B b.length d] w fun e w' => e = .returned (.tuple #[.int .i64 (brV ls b), .bool (brB ls b)]) ∧ Below w.heap.size w w' := by
  have hlen : ls.length = ps.length := by rw [← hls, List.length_map]
  have TV := Lib.hid (fun k (p : HdrV × List MoveV) (hp : ps[k]? = some p) => (show ls[k]? = some p.2 by rw [← hls, List.getElem?_map, hp]; rfl))
  have HBAD := Lib.hid (fun k a (hx : ls[k]? = some a) (hh : recB a = false) => br_bad (b := b) hx hh)
  have HV0 := Lib.hid (fun (hh : brB ls b = false) => brV_no hh)
  have HLEN := Lib.hid hlen
  have hleq : ls.length ≤ ps.length := Nat.le_of_eq hlen
  have hlge : ps.length ≤ ls.length := Nat.le_of_eq hlen.symm
  go_enter Try.func31, Try.ntmps31
  go_wp2
  go_loopw [6] (fun i wr => ∃ k : Nat, k ≤ ps.length ∧ i = .int .i64 k ∧ Hid (allTo ls k = true) ∧ Below w.heap.size w wr) (fun i _ => ps.length - (intOf i).toNat)
  case atStart => exact ⟨0, by omega, rfl, Lib.hid (allTo_zero ls), Below.refl _ _⟩
  case round =>
    obtain ⟨k, hk, rfl, HA, hb⟩ := hrel
    have hz := hb.size
    by_cases hlt : k < ps.length
    · obtain ⟨bb, off, A2, c2, l, hAA, hx, hlb, hc, hrl⟩ := (h.below hb (Nat.le_refl _)).atM hlt
      have hll : l.length ≤ 16777216 := hsm _ (List.mem_of_getElem? hx)
      have hxl := TV.out k _ hx
      dsimp only at hxl
      subst hAA
      cases hra : recB l
      · have HE := Lib.hid (HBAD.out k l hxl hra)
        have HE2 := Lib.hid (HV0.out HE.out)
        have HRL := Lib.hid (fun W g => hra ▸ l19Good_any A2 c2 l W hll g)
        clear hx hxl hra hls hlen
        go_wp2_with fail
        refine (HRL.out _ hrl).mono ?_
        rintro e w2 ⟨rfl, hb2⟩
        go_wp2
        go_ret2
        exact ⟨by rw [HE.out, HE2.out]; rfl, hb.trans (hb2.mono hz)⟩
      · have HRL := Lib.hid (fun W g => hra ▸ l19Good_any A2 c2 l W hll g)
        have HA2 := Lib.hid (allTo_succ HA.out hxl hra)
        clear hx hxl hra hls hlen
        go_wp2_with fail
        refine (HRL.out _ hrl).mono ?_
        rintro e w2 ⟨rfl, hb2⟩
        go_wp2
        go_roundw
        case rel => exact ⟨k + 1, by omega, by go_num, HA2, hb.trans (hb2.mono hz)⟩
        case measure => simp [intOf]; omega
    · have hkl : k = ps.length := by omega
      have HAL := Lib.hid (show allTo ls ls.length = true by have := HA.out; rwa [hkl, ← HLEN.out] at this)
      clear hkl HA
      cases h1 : inB (ps.length : Int) 1 6
      · have HE := Lib.hid (br_len (b := b) (show inB (ls.length : Int) 1 6 = false by rw [hlen]; exact h1))
        have HE2 := Lib.hid (HV0.out HE.out)
        have HW := Lib.hid (fun W => h1 ▸ l1In_any (ps.length : Int) 1 6 W)
        clear h1 hlen hls
        go_wp2_with fail
        refine (HW.out _).mono ?_
        rintro e wz ⟨rfl, rfl⟩
        go_wp2
        go_ret2
        exact ⟨by rw [HE.out, HE2.out]; rfl, hb⟩
      have HW := Lib.hid (fun W => h1 ▸ l1In_any (ps.length : Int) 1 6 W)
      obtain ⟨p1, p6⟩ := (inB_iff _ _ _).1 h1
      cases h2 : recB b
      · have HE := Lib.hid (br_b (ls := ls) h2)
        have HE2 := Lib.hid (HV0.out HE.out)
        have HR := Lib.hid (fun W g => h2 ▸ l19Good_any B d b W hnb g)
        clear h1 hlen hls h2
        go_wp2_with fail
        refine (HW.out _).mono ?_
        rintro e wz ⟨rfl, rfl⟩
        go_wp2_with fail
        refine (HR.out _ (hr.below hb (Nat.le_refl _))).mono ?_
        rintro e w1 ⟨rfl, hb1⟩
        go_wp2
        go_ret2
        exact ⟨by rw [HE.out, HE2.out]; rfl, hb.trans (hb1.mono hz)⟩
      have HR := Lib.hid (fun W g => h2 ▸ l19Good_any B d b W hnb g)
      have hb12 := (recB_iff h2).1
      have HE := Lib.hid (br_good (ls := ls) (b := b) (by rw [hlen]; exact h1) h2 HAL.out)
      have HE2 := Lib.hid (brV_yes HE.out)
      have HAT := Lib.hid (fun k a (hx : ls[k]? = some a) => all_at HAL.out hx)
      have HDA := Lib.hid (fun k a (hx : ls[k]? = some a) => dsA_at (b := b) hx)
      have HDL := Lib.hid (fun (A' : Option Addr) (c' : Nat) a W (ha : recB a = true) g g2 => l19Distance_any A' c' a B d b W (recB_iff ha).1 g hb12 g2)
      have HLT := Lib.hid (bestA_lt (dsA ls b))
      have HONE := Lib.hid (bestA_one (dsA ls b))
      have HYES := Lib.hid (fun k (hh : dsA ls b k < dsA ls b (bestA (dsA ls b) k)) => bestA_yes hh)
      have HNO := Lib.hid (fun k (hh : ¬ dsA ls b k < dsA ls b (bestA (dsA ls b) k)) => bestA_no hh)
      clear h1 h2 hls hlen HBAD HV0 HAL
      generalize bestA (dsA ls b) = Bst at *
      generalize dsA ls b = D at *
      go_wp2_with fail
      refine (HW.out _).mono ?_
      rintro e wz ⟨rfl, rfl⟩
      go_wp2_with fail
      refine (HR.out _ (hr.below hb (Nat.le_refl _))).mono ?_
      rintro e w1 ⟨rfl, hb1⟩
      have hbA := hb.trans (hb1.mono hz)
      clear HR HW hb hb1 hz
      go_wp2
      go_loopw [7, 8] (fun x i wy => ∃ k : Nat, 1 ≤ k ∧ k ≤ ps.length ∧ i = .int .i64 k ∧ x = .int .i64 (Bst k : Nat) ∧ Below w1.heap.size w1 wy) (fun _ i _ => ps.length - (intOf i).toNat)
      case atStart => exact ⟨1, by omega, by omega, rfl, by rw [HONE.out]; rfl, Below.refl _ _⟩
      case round =>
        obtain ⟨k, hk1, hk, rfl, rfl, hb⟩ := hrel
        have hz := hb.size
        have hbw := hbA.trans (hb.mono hbA.size)
        have hbt := HLT.out k hk1
        by_cases hlt : k < ps.length
        · obtain ⟨bb, off, A2, c2, l, hAA, hx, hlb, hc, hrl⟩ := (h.below hbw (Nat.le_refl _)).atM hlt
          obtain ⟨bb3, off3, A3, c3, l3, hAA3, hx3, hlb3, hc3, hrl3⟩ := (h.below hbw (Nat.le_refl _)).atM (k := Bst k) (by omega)
          have hxl := TV.out k _ hx
          have hxl3 := TV.out (Bst k) _ hx3
          dsimp only at hxl hxl3
          subst hAA
          injection hAA3 with hAA3
          injection hAA3 with e1 e2 _
          subst e1 e2
          have ha := HAT.out k l hxl
          have ha3 := HAT.out (Bst k) l3 hxl3
          have HD1 := Lib.hid (fun W g g2 => HDL.out A2 c2 l W ha g g2)
          have HD3 := Lib.hid (fun W g g2 => HDL.out A3 c3 l3 W ha3 g g2)
          have HK1 := Lib.hid (HDA.out k l hxl)
          have HK3 := Lib.hid (HDA.out (Bst k) l3 hxl3)
          have x1 := cell_regrown hc
          have x3 := cell_regrown hc3
          have hrw := hr.below hbw (Nat.le_refl _)
          have b1 : (k : Int) < (ps.length : Int) := by omega
          have b2 : ((Bst k : Nat) : Int) < (ps.length : Int) := by omega
          generalize distV l b = dl at *
          generalize distV l3 b = dm at *
          clear hx hx3 hxl hxl3 ha ha3 HDL
          have RG := fun {T' : Ty MoveV} {A' : Option Addr} {l' : List MoveV} {W' : World} (hh : RdT T' W' A' l') (dd : Nat) (os : Array Obj) => (hh.below (below_regrown W' dd os) (Nat.le_refl _) : RdT T' (Sort.grow (redrawn W' dd) os) A' l')
          by_cases hd : dl < dm
          · have d1 : decide (dl < dm) = true := decide_eq_true hd
            have HB1 := Lib.hid (show Bst (k + 1) = k from HYES.out k (by rw [HK1.out, HK3.out]; omega))
            go_wp2_with fail
            refine wp_region_quiet_below (by kernel_rfl) (by kernel_rfl) ?_
            repeat (go_big_quiet_step (((first | (go_at_call 48; with_reducible exact Calls.regrown_of (HD1.out _ (RG hrl _ _) (RG hrw _ _))) | (go_at_call 48; with_reducible exact Calls.regrown_of (HD3.out _ (RG hrl3 _ _) (RG hrw _ _)))))))
            refine wpQuiet_nil ?_
            intro w5 hw'
            have hb5 := below_of_class hw'
            clear hw'
            go_wp2
            go_roundw
            case rel => exact ⟨k + 1, by omega, by omega, by go_num, by rw [HB1.out], hb.trans (hb5.mono hz)⟩
            case measure => simp [intOf]; omega
          · have d1 : decide (dl < dm) = false := decide_eq_false hd
            have HB1 := Lib.hid (show Bst (k + 1) = Bst k from HNO.out k (by rw [HK1.out, HK3.out]; omega))
            go_wp2_with fail
            refine wp_region_quiet_below (by kernel_rfl) (by kernel_rfl) ?_
            repeat (go_big_quiet_step (((first | (go_at_call 48; with_reducible exact Calls.regrown_of (HD1.out _ (RG hrl _ _) (RG hrw _ _))) | (go_at_call 48; with_reducible exact Calls.regrown_of (HD3.out _ (RG hrl3 _ _) (RG hrw _ _)))))))
            refine wpQuiet_nil ?_
            intro w5 hw'
            have hb5 := below_of_class hw'
            clear hw'
            go_wp2
            go_roundw
            case rel => exact ⟨k + 1, by omega, by omega, by go_num, by rw [HB1.out], hb.trans (hb5.mono hz)⟩
            case measure => simp [intOf]; omega
        · have hkl : k = ps.length := by omega
          have HE3 := Lib.hid (show brV ls b = ((Bst k : Nat) : Int) by rw [HE2.out, HLEN.out, hkl])
          clear hkl
          go_wp2
          go_ret2
          exact ⟨by rw [HE.out, HE3.out]; rfl, hbw⟩
end Go.Proofs.Ytkcbldaondflmaa
