/-
  Slices of strings: owned, read; equal, marked, held.
-/
import Derived.Test.YthoojcmnkhhokaaIntSS
import Derived.Test.YthoojcmnkhhokaaStr
import Derived.Lib.QuietBelow
namespace Go.Proofs.Ythoojcmnkhhokaa
set_option maxRecDepth 100000
open Go.RowKit

def strT : Ty ByteArray where
  enc x := [.string x]
  sz := 1
  e := 9
  st := 48
  bytes := 16
  zero := ByteArray.empty
  zv := .string ByteArray.empty
  henc _ := rfl
  one _ u hu := by simp at hu; subst hu; rfl
  hsz := by decide
  hz := rfl
  hst := Try.underlying48
  info := by kernel_rfl
  hbytes := by decide
theorem str_at {w : World} {A : Option Addr} {l : List ByteArray} (h : RdT strT w A l) {k : Nat} (hk : k < l.length) : ∃ b off s, A = some ⟨b, off, none⟩ ∧ l[k]? = some s ∧ b < w.heap.size ∧ w.cell? ⟨b, off + k, none⟩ = some (.string s) := by
  obtain ⟨b, off, s, hA, hx, hlt, hc⟩ := h.at_ hk
  refine ⟨b, off, s, hA, hx, hlt, ?_⟩
  have := hc 0 _ rfl
  rwa [Nat.add_zero, show k * strT.sz = k from Nat.mul_one k] at this
theorem str_cells {w : World} {A : Option Addr} {l : List ByteArray} (h : RdT strT w A l) (hn : 0 < l.length) : ∃ b off, A = some ⟨b, off, none⟩ ∧ b < w.heap.size ∧ ∀ (k : Nat) s, l[k]? = some s → w.cell? ⟨b, off + k, none⟩ = some (.string s) := by
  obtain ⟨b, off, hA, hlt, hc⟩ := h.2 hn
  refine ⟨b, off, hA, hlt, fun k s hx => ?_⟩
  have := hc (k * 1 + 0) _ (flat_at strT l k 0 s _ hx rfl)
  rwa [Nat.add_zero, Nat.mul_one] at this
set_option maxHeartbeats 800000 in
theorem eqStringS_same (A1 A2 : Option Addr) (n c1 c2 : Nat) (l : List ByteArray) (w : World) (hn : n = l.length) (hm : n ≤ 16777216) (h1 : RdT strT w A1 l) (h2 : RdT strT w A2 l) :
    Calls Try.prog 36 #[.slice A1 n c1, .slice A2 n c2] w fun e w' => e = .returned (.bool true) ∧ Below w.heap.size w w' := by
  have e1 : (decide ((n : Int) = n)) = true := by simp
  go_enter Try.func36, Try.ntmps36
  go_wp2
  go_loopw [5] (fun i wr => ∃ k : Nat, k ≤ n ∧ i = .int .i64 k ∧ Below w.heap.size w wr) (fun i _ => n - (intOf i).toNat)
  case atStart => exact ⟨0, by omega, rfl, Below.refl _ _⟩
  case round =>
    obtain ⟨k, hk, rfl, hb⟩ := hrel
    by_cases hlt : k < n
    · obtain ⟨b1, o1, s, rfl, hx, hl1, hc1⟩ := str_at (h1.below hb (Nat.le_refl _)) (k := k) (by omega)
      obtain ⟨b2, o2, rfl, hl2, hcells⟩ := str_cells (h2.below hb (Nat.le_refl _)) (by omega)
      have hc2 := hcells k s hx
      clear hx hcells
      go_wp2_with fail
      go_quiet (fail)
      go_wp2
      go_roundw
      case rel => exact ⟨k + 1, by omega, by go_num, below_drewN hb _⟩
      case measure => simp [intOf]; omega
    · go_wp2
      go_ret
      exact ⟨rfl, hb⟩

/-! ### marked, held -/
def marksStr (k : Int) (n : Nat) : List ByteArray := (List.range n).map fun i => mt (k + (i : Nat))
theorem length_marksStr (k : Int) (n : Nat) : (marksStr k n).length = n := by simp [marksStr]
theorem marksStr_at (k : Int) (n i : Nat) (h : i < n) : (marksStr k n)[i]? = some (mt (k + i)) := by simp [marksStr, h]
def markToStr (k : Int) (l : List ByteArray) : Nat → List ByteArray
  | 0 => l
  | i + 1 => (markToStr k l i).set i (mt (k + i))
theorem length_markToStr (k : Int) (l : List ByteArray) (i : Nat) : (markToStr k l i).length = l.length := by
  induction i with
  | zero => rfl
  | succ i ih => simp [markToStr, ih]
theorem markToStr_at (k : Int) (l : List ByteArray) (i j : Nat) (hj : j < l.length) (hi : j < i) : (markToStr k l i)[j]? = some (mt (k + j)) := by
  induction i with
  | zero => omega
  | succ i ih =>
    simp only [markToStr, List.getElem?_set, length_markToStr]
    by_cases e : i = j
    · subst e; simp [hj]
    · rw [if_neg e]; exact ih (by omega)
theorem markToStr_all (k : Int) (l : List ByteArray) : markToStr k l l.length = marksStr k l.length := by
  apply List.ext_getElem?
  intro j
  by_cases hj : j < l.length
  · rw [markToStr_at k l _ j hj hj, marksStr_at k _ j hj]
  · rw [List.getElem?_eq_none (by rw [length_markToStr]; omega), List.getElem?_eq_none (by rw [length_marksStr]; omega)]

set_option maxHeartbeats 1600000 in
theorem markStringS_ok (base : Nat) (A : Option Addr) (c : Nat) (l : List ByteArray) (k : Int) (w : World) (hk0 : 0 ≤ k) (hk1 : k ≤ 1073741824) (hm : l.length ≤ 16777216) (h : OwnT strT w base (.slice A l.length c) l) :
    Calls Try.prog 39 #[.slice A l.length c, .int .i64 k] w fun e w' => e = .returned (.int .i64 (k + l.length)) ∧ OwnT strT w' base (.slice A l.length c) (marksStr k l.length) ∧ w.grownBy w' (Value.slice A l.length c).ownBlock := by
  go_enter Try.func39, Try.ntmps39
  go_wp2
  go_loopw [1, 5] (fun q i wr => ∃ j : Nat, j ≤ l.length ∧ i = .int .i64 j ∧ q = .int .i64 (k + j) ∧ OwnT strT wr base (.slice A l.length c) (markToStr k l j) ∧ w.grownBy wr (Value.slice A l.length c).ownBlock) (fun _ i _ => l.length - (intOf i).toNat)
  case atStart => exact ⟨0, by omega, rfl, by go_num, h, gr_refl _ _⟩
  case round =>
    obtain ⟨j, hj, rfl, rfl, hown, hgr⟩ := hrel
    by_cases hlt : j < l.length
    · obtain ⟨g, rfl, hg, hgl⟩ := hown.head (by rw [length_markToStr]; omega)
      go_wp2_with fail
      refine (markText_any _ _ (by omega)).mono ?_
      rintro e w2 ⟨rfl, hb2⟩
      have hk : j < (markToStr k l j).length := by rw [length_markToStr]; exact hlt
      have hp := own_part_cells (us1 := []) hown hk hb2
      have hs := own_parts (us1 := []) (y := mt (k + j)) hown hk rfl hb2
      obtain ⟨z0, ez0'⟩ := hp.1 0 (by decide)
      have ez0 : w2.cell? ⟨g, j, none⟩ = some z0 := by rw [Nat.add_zero, show j * strT.sz = j from Nat.mul_one j] at ez0'; exact ez0'
      have fz0 : w2.frozen? ⟨g, j, none⟩ = false := by have := hp.2 j; exact this
      rw [show j * strT.sz = j from Nat.mul_one j] at hs
      have hs1 := Lib.hid hs.1
      have hs2 := Lib.hid hs.2
      clear hs hp hown hk ez0'
      go_wp2
      go_roundw
      case rel => exact ⟨j + 1, by omega, by go_num, by go_num, hs1.out, gr_trans hgr hs2.out⟩
      case measure => simp [intOf]; omega
    · obtain rfl : j = l.length := by omega
      rw [markToStr_all] at hown
      go_wp2
      go_ret
      exact ⟨rfl, hown, hgr⟩
set_option maxHeartbeats 800000 in
theorem heldStringS_ok (A : Option Addr) (n c : Nat) (k : Int) (w : World) (hk0 : 0 ≤ k) (hk1 : k ≤ 1073741824) (hm : n ≤ 16777216) (h : RdT strT w A (marksStr k n)) :
    Calls Try.prog 40 #[.slice A n c, .int .i64 k] w fun e w' => e = .returned (.int .i64 (k + n)) ∧ Below w.heap.size w w' := by
  have HK := Lib.hid (fun (q : Int) W (hq : q ≤ 1000000000000) => markText_any q W hq)
  go_enter Try.func40, Try.ntmps40
  go_wp2
  go_loopw [1, 5] (fun q i wr => ∃ j : Nat, j ≤ n ∧ i = .int .i64 j ∧ q = .int .i64 (k + j) ∧ Below w.heap.size w wr) (fun _ i _ => n - (intOf i).toNat)
  case atStart => exact ⟨0, by omega, rfl, by go_num, Below.refl _ _⟩
  case round =>
    obtain ⟨j, hj, rfl, rfl, hb⟩ := hrel
    by_cases hlt : j < n
    · obtain ⟨b1, o1, x, rfl, hx, hlx, hc1⟩ := str_at (h.below hb (Nat.le_refl _)) (k := j) (by rw [length_marksStr]; exact hlt)
      obtain rfl : x = mt (k + j) := by rw [marksStr_at k n j hlt] at hx; injection hx with hx; exact hx.symm
      have hr1 := cell_regrown hc1
      have HKj := Lib.hid (fun W => HK.out (k + j) W (by omega))
      clear hx
      generalize mt (k + j) = m at *
      go_wp2_with fail
      refine wp_region_quiet_below (by kernel_rfl) (by kernel_rfl) ?_
      repeat (go_big_quiet_step (((go_at_call 84; exact Calls.regrown_of (HKj.out _)))))
      refine wpQuiet_nil ?_
      intro w2 hw'
      have hb2 := below_of_class hw'
      clear hw'
      go_wp2
      go_roundw
      case rel => exact ⟨j + 1, by omega, by go_num, by go_num, hb.trans (hb2.mono hb.size)⟩
      case measure => simp [intOf]; omega
    · obtain rfl : j = n := by omega
      go_wp2
      go_ret
      exact ⟨rfl, hb⟩
/-- A call that returns a slice of strings of its own, and whether there is one. -/
def RetStrS (w : World) (l : List ByteArray) (ok : Bool) (e : Ending) (w' : World) : Prop :=
  ∃ A c, e = .returned (.tuple #[.slice A l.length c, .bool ok]) ∧ OwnT strT w' w.heap.size (.slice A l.length c) l ∧ Below w.heap.size w w'
end Go.Proofs.Ythoojcmnkhhokaa
