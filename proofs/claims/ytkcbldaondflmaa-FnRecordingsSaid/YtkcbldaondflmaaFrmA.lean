/-
  Frames: the element type of rods; value, digit, power, number; validity: contracts of the reference's functions.
-/
import Derived.Test.YtkcbldaondflmaaList
import Derived.Test.YtkcbldaondflmaaBlk
import Derived.Test.YtkcbldaondflmaaInts
import Derived.StillTailTactics
import Derived.Lib.QuietBelow
import Derived.Deep.RegionHeld3
import Derived.Deep.DeepCutAuto
namespace Go.Proofs.Ytkcbldaondflmaa
open Go.RowKit

def rodT : Ty (Int × Int) where
  enc p := [.int .i64 p.1, .int .i64 p.2]
  sz := 2
  e := 80
  st := 69
  bytes := 16
  zero := (0, 0)
  zv := .agg #[.int .i64 0, .int .i64 0]
  henc _ := rfl
  one _ u hu := by simp at hu; rcases hu with rfl | rfl <;> rfl
  hsz := by decide
  hz := rfl
  hst := Try.underlying69
  info := by kernel_rfl
  hbytes := by decide
theorem rod_at {w : World} {A : Option Addr} {l : List (Int × Int)} (h : RdT rodT w A l) {k : Nat} (hk : k < l.length) :
    ∃ b off p q, A = some ⟨b, off, none⟩ ∧ l[k]? = some (p, q) ∧ b < w.heap.size ∧ w.cell? ⟨b, off + k * 2, none⟩ = some (.int .i64 p) ∧ w.cell? ⟨b, off + k * 2 + 1, none⟩ = some (.int .i64 q) := by
  obtain ⟨b, off, ⟨p, q⟩, hA, hx, hlt, hc⟩ := h.at_ hk
  exact ⟨b, off, p, q, hA, hx, hlt, hc 0 _ rfl, hc 1 _ rfl⟩
theorem rod_own {w : World} {base n c g : Nat} {l : List (Int × Int)} (h : OwnT rodT w base (.slice (some ⟨g, 0, none⟩) n c) l) {k : Nat} (hk : k < l.length) :
    ∃ p q, l[k]? = some (p, q) ∧ w.cell? ⟨g, k * 2, none⟩ = some (.int .i64 p) ∧ w.cell? ⟨g, k * 2 + 1, none⟩ = some (.int .i64 q) ∧ w.frozen? ⟨g, k * 2, none⟩ = false ∧ w.frozen? ⟨g, k * 2 + 1, none⟩ = false := by
  have hx : l[k]? = some l[k] := List.getElem?_eq_getElem hk
  exact ⟨l[k].1, l[k].2, hx, h.cell hx 0 _ rfl, h.cell hx 1 _ rfl, h.frozen _, h.frozen _⟩
def pw : Nat → Int
  | 0 => 1
  | k + 1 => 10 * pw k
theorem pw_pos (k : Nat) : 1 ≤ pw k := by induction k with
  | zero => simp [pw]
  | succ k ih => simp [pw]; omega
theorem pw_mono {j k : Nat} (h : j ≤ k) : pw j ≤ pw k := by
  induction h with
  | refl => omega
  | step _ ih => simp only [pw]; have := pw_pos j; omega
theorem pw_le {k : Nat} (h : k ≤ 8) : pw k ≤ 100000000 := pw_mono (k := 8) h
set_option maxHeartbeats 400000 in
theorem l2Power_any (n : Int) (w : World) (h0 : 0 ≤ n) (h8 : n ≤ 8) :
    Calls Try.prog 75 #[.int .i64 n] w fun e w' => e = .returned (.int .i64 (pw n.toNat)) ∧ w' = w := by
  go_enter Try.func75, Try.ntmps75
  go_wp2
  go_loop [3, 4] (fun o i => ∃ k : Nat, k ≤ n.toNat ∧ i = .int .i64 k ∧ o = .int .i64 (pw k)) (fun _ i => n.toNat - (intOf i).toNat)
  case atStart => exact ⟨0, by omega, rfl, rfl⟩
  case round =>
    obtain ⟨k, hk, rfl, rfl⟩ := hrel
    have hp := pw_pos k
    have hp2 := pw_le (k := k) (by omega)
    by_cases hlt : (k : Int) < n
    · go_wp2
      go_round
      case rel => exact ⟨k + 1, by omega, by go_num, by simp [pw]⟩
      case measure => simp [intOf]; omega
    · have e : n.toNat = k := by omega
      have E := Lib.hid e
      clear e
      go_wp2
      go_ret
      exact ⟨by rw [E.out]; rfl, rfl⟩
def valW (a b : Int) : Int := wrap64 (wrap64 (5 * a) + b)
set_option maxHeartbeats 400000 in
theorem l2Value_any (a b : Int) (w : World) :
    Calls Try.prog 84 #[.agg #[.int .i64 a, .int .i64 b]] w fun e w' => e = .returned (.int .i64 (valW a b)) ∧ Below w.heap.size w w' := by
  go_enter Try.func84, Try.ntmps84
  go_wp2
  go_ret
  exact ⟨rfl, (Below.refl _ _).alloc (Nat.le_refl _) _⟩
set_option maxHeartbeats 400000 in
theorem l2Digit_any (d : Int) (w : World) :
    Calls Try.prog 72 #[.int .i64 d] w fun e w' => ∃ a b : Int, e = .returned (.agg #[.int .i64 a, .int .i64 b]) ∧ Below w.heap.size w w' := by
  obtain ⟨wz, hwz⟩ : ∃ wz : World, wz = w.alloc (.cells #[.int .i64 0, .int .i64 0] 80) := ⟨_, rfl⟩
  obtain ⟨rb, hrb⟩ : ∃ rb : Nat, rb = w.heap.size := ⟨_, rfl⟩
  have BR : Blk wz rb 80 #[.int .i64 0, .int .i64 0] := by rw [hwz, hrb]; exact Blk.new w _ _
  have hz : Below w.heap.size w wz := by rw [hwz]; exact (Below.refl _ _).alloc (Nat.le_refl _) _
  have hwr : w.heap.size ≤ rb := by omega
  have r0 := BR.cell 0
  have r1 := BR.cell 1
  have q0 := BR.frozen 0
  have q1 := BR.frozen 1
  go_enter Try.func72, Try.ntmps72
  go_upto_region 1 with fail
  rw [← hwz, ← hrb]
  clear hwz hrb
  go_wp2
  refine bodyPost_ret (v := .agg #[.int .i64 (wrap64 (Int.tdiv d 5)), .int .i64 (Int.tmod d 5)]) (by simp [results, Try.results72, go_sem, r0, r1]) rfl ⟨_, _, rfl, ?_⟩
  exact (hz.setCell hwr _).setCell hwr _
attribute [irreducible] valW
def rodB (up lo : Int) (r : Int × Int) : Bool := inB r.1 0 up && inB r.2 0 lo
def goodF (up lo : Int) (R : List (Int × Int)) : Bool := R.all (rodB up lo) && (inB up 1 2 && (inB lo 4 5 && inB (R.length : Int) 1 8))
theorem goodF_bad {up lo : Int} {R : List (Int × Int)} (h : R.all (rodB up lo) = false) : goodF up lo R = false := by simp [goodF, h]
theorem goodF_all {up lo : Int} {R : List (Int × Int)} (h : R.all (rodB up lo) = true) : goodF up lo R = (inB up 1 2 && (inB lo 4 5 && inB (R.length : Int) 1 8)) := by simp [goodF, h]
theorem goodF_len {up lo : Int} {R : List (Int × Int)} (h : goodF up lo R = true) : 1 ≤ R.length ∧ R.length ≤ 8 := by
  simp only [goodF, Bool.and_eq_true, inB_iff] at h
  omega
set_option maxRecDepth 100000 in
set_option maxHeartbeats 4000000 in
theorem l2Good_any (up lo : Int) (A : Option Addr) (c : Nat) (R : List (Int × Int)) (w : World) (hn : R.length ≤ 1000) (h : RdT rodT w A R) :
    Calls Try.prog 83 #[.agg #[.int .i64 up, .int .i64 lo, .slice A R.length c]] w fun e w' => e = .returned (.bool (goodF up lo R)) ∧ Below w.heap.size w w' := by
  obtain ⟨wb, hwb⟩ : ∃ wb : World, wb = w.alloc (.cells #[.int .i64 up, .int .i64 lo, .slice A R.length c] 71) := ⟨_, rfl⟩
  obtain ⟨tb, htb⟩ : ∃ tb : Nat, tb = w.heap.size := ⟨_, rfl⟩
  have BT : Blk wb tb 71 #[.int .i64 up, .int .i64 lo, .slice A R.length c] := by rw [hwb, htb]; exact Blk.new w _ _
  have hb0 : Below w.heap.size w wb := by rw [hwb]; exact (Below.refl _ _).alloc (Nat.le_refl _) _
  have h := h.below hb0 (Nat.le_refl _)
  go_enter Try.func83, Try.ntmps83
  go_upto_region 1 with fail
  rw [← hwb, ← htb]
  clear hwb htb
  go_wp2_with fail
  go_loopw [3] (fun i wr => ∃ k : Nat, k ≤ R.length ∧ i = .int .i64 k ∧ Hid ((R.take k).all (rodB up lo) = true) ∧ Below wb.heap.size wb wr) (fun i _ => R.length - (intOf i).toNat)
  case atStart => exact ⟨0, by omega, rfl, Lib.hid (by simp), Below.refl _ _⟩
  case round =>
    obtain ⟨k, hk, rfl, hall, hb⟩ := hrel
    have b0 := (BT.below hb BT.lt).cell 0
    have b1 := (BT.below hb BT.lt).cell 1
    have b2 := (BT.below hb BT.lt).cell 2
    have hB := hb0.trans (hb.mono hb0.size)
    by_cases hlt : k < R.length
    · obtain ⟨b, off, p, q, rfl, hx, hlb, e0, e1⟩ := rod_at (h.below hb (Nat.le_refl _)) hlt
      have j1 : (k : Int) < (R.length : Int) := by omega
      have L1 := fun W => same_symm (l1In_any p 0 up W)
      have L2 := fun W => same_symm (l1In_any q 0 lo W)
      cases g1 : inB p 0 up
      · have E := Lib.hid (goodF_bad (all_bad (rodB up lo) hx (show rodB up lo (p, q) = false by simp [rodB, g1])))
        simp only [g1] at L1
        clear hx
        go_wp2_with fail
        go_quiet ((first | (go_at_call 50; with_reducible exact Calls.quiet_of_same (L1 _)) | (go_at_call 50; with_reducible exact Calls.quiet_of_same (L2 _))))
        go_wp2
        go_ret
        exact ⟨by rw [E.out]; rfl, below_drewN hB _⟩
      · cases g2 : inB q 0 lo
        · have E := Lib.hid (goodF_bad (all_bad (rodB up lo) hx (show rodB up lo (p, q) = false by simp [rodB, g2])))
          simp only [g1] at L1
          simp only [g2] at L2
          clear hx
          go_wp2_with fail
          go_quiet ((first | (go_at_call 50; with_reducible exact Calls.quiet_of_same (L1 _)) | (go_at_call 50; with_reducible exact Calls.quiet_of_same (L2 _))))
          go_wp2
          go_ret
          exact ⟨by rw [E.out]; rfl, below_drewN hB _⟩
        · have hall' := Lib.hid (show (R.take (k + 1)).all (rodB up lo) = true by rw [all_succ (rodB up lo) hx, hall.out]; simp [rodB, g1, g2])
          simp only [g1] at L1
          simp only [g2] at L2
          clear hx hall
          go_wp2_with fail
          go_quiet ((first | (go_at_call 50; with_reducible exact Calls.quiet_of_same (L1 _)) | (go_at_call 50; with_reducible exact Calls.quiet_of_same (L2 _))))
          go_wp2
          go_roundw
          case rel => exact ⟨k + 1, by omega, by go_num, hall', below_drewN hb _⟩
          case measure => first | (simp [intOf]; done) | (simp [intOf]; omega)
    · have hall2 : R.all (rodB up lo) = true := by rw [← all_take R (rodB up lo) k (by omega)]; exact hall.out
      have EG := Lib.hid (goodF_all hall2)
      clear hall hall2
      have d1 : decide (k < R.length) = false := decide_eq_false hlt
      cases g1 : inB up 1 2
      · go_wp2_with (go_at_call 50; refine (l1In_any _ _ _ _).mono ?_; rintro e w' ⟨rfl, rfl⟩; (try rw [g1]))
        go_ret
        exact ⟨by rw [EG.out, g1]; rfl, hB⟩
      · cases g2 : inB lo 4 5
        · go_wp2_with (go_at_call 50; refine (l1In_any _ _ _ _).mono ?_; rintro e w' ⟨rfl, rfl⟩; (first | rw [g1] | rw [g2]))
          go_ret
          exact ⟨by rw [EG.out, g1, g2]; rfl, hB⟩
        · go_wp2_with (go_at_call 50; refine (l1In_any _ _ _ _).mono ?_; rintro e w' ⟨rfl, rfl⟩; (first | rw [g1] | rw [g2] | skip))
          go_ret
          exact ⟨by rw [EG.out, g1, g2]; rfl, hB⟩
end Go.Proofs.Ytkcbldaondflmaa
