/-
  The choices read from bytes: the cursor.
-/
import Derived.Test.YtkcbldaondflmaaTyped
import Derived.Deep.RegionHeld3
import Derived.StillTailTactics
import Derived.Deep.AppendLies
import Derived.Maps.AppendAt
import Derived.Lib.BufferOwn
import Derived.Lib.HexFns2
namespace Go.Proofs.Ytkcbldaondflmaa
open Go.RowKit Go.Lib Go.Lib.Hx

def byteT : Ty (Fin 256) where
  enc b := [.int .u8 (b.val : Int)]
  sz := 1
  e := 5
  st := 45
  bytes := 1
  zero := 0
  zv := .int .u8 0
  henc _ := rfl
  one _ u hu := by simp at hu; subst hu; rfl
  hsz := by decide
  hz := rfl
  hst := Try.underlying45
  info := by kernel_rfl
  hbytes := by decide

theorem RdT.grown {α : Type} (T : Ty α) {w w' : World} {row : Option Nat} {A : Option Addr} {l : List α} (h : RdT T w A l) (hg : w.grownBy w' row) (hne : 0 < l.length → ∀ b off, A = some ⟨b, off, none⟩ → some b ≠ row) : RdT T w' A l := by
  refine ⟨flat_length T l, fun hn => ?_⟩
  obtain ⟨b, off, hA, hlt, hc⟩ := h.2 hn
  exact ⟨b, off, hA, Nat.lt_of_lt_of_le hlt hg.size, fun j u hu => (hg.cell_far _ hlt (hne hn b off hA)).trans (hc j u hu)⟩

/-- The cursor's block. -/
def CurB (w : World) (g : Nat) (cs : Array Value) : Prop := w.heap[g]? = some (.cells cs 64 (0, 0))
section
variable {w w' : World} {g : Nat} {cs : Array Value}
theorem CurB.lt (h : CurB w g cs) : g < w.heap.size := by
  rcases Nat.lt_or_ge g w.heap.size with hlt | hge
  · exact hlt
  · unfold CurB at h; rw [Array.getElem?_eq_none hge] at h; cases h
theorem CurB.cell (h : CurB w g cs) (i : Nat) : w.cell? ⟨g, i, none⟩ = cs[i]? := cell_of_row w g i cs _ (0, 0) h
theorem CurB.frozen (h : CurB w g cs) (i : Nat) : w.frozen? ⟨g, i, none⟩ = false := by
  unfold CurB at h
  simp [World.frozen?, h]
theorem CurB.set_ (h : CurB w g cs) (i : Nat) (u : Value) : CurB (w.setCell ⟨g, i, none⟩ u) g (cs.setIfInBounds i u) := by
  unfold CurB at h ⊢
  simp [World.setCell, Array.getElem?_modify, h]
end
/-- A cursor over these bytes, at most P choices on. -/
def Cur (w : World) (g : Nat) (A : Option Addr) (c : Nat) (l : List (Fin 256)) (P : Nat) : Prop :=
  ∃ (k : Nat) (s : Int), k ≤ P ∧ CurB w g #[.slice A l.length c, .int .i64 k, .int .u64 s] ∧ RdT byteT w A l ∧ (0 < l.length → ∀ b off, A = some ⟨b, off, none⟩ → b < g)
theorem Cur.kept {w w' : World} {g c P : Nat} {A : Option Addr} {l : List (Fin 256)} {row : Option Nat} (h : Cur w g A c l P) (hg : w.grownBy w' row) (hr : ∀ r, row = some r → g < r) : Cur w' g A c l P := by
  obtain ⟨k, s, hk, hb, hrd, hA⟩ := h
  refine ⟨k, s, hk, (hg.block g hb.lt (fun he => by have := hr g he.symm; omega)).trans hb, hrd.grown byteT hg (fun hn b off hb' he => by have := hr b he.symm; have := hA hn b off hb'; omega), hA⟩
theorem Cur.more {w : World} {g c P Q : Nat} {A : Option Addr} {l : List (Fin 256)} (h : Cur w g A c l P) (hPQ : P ≤ Q) : Cur w g A c l Q := by
  obtain ⟨k, s, hk, h⟩ := h
  exact ⟨k, s, by omega, h⟩
theorem Cur.lt {w : World} {g c P : Nat} {A : Option Addr} {l : List (Fin 256)} (h : Cur w g A c l P) : g < w.heap.size := by
  obtain ⟨k, s, hk, hb, _⟩ := h
  exact hb.lt

theorem low_byte (X : Int) : ∃ b : Nat, b ≤ 255 ∧ wrap64 (bits .and .u64 X 255) = (b : Int) := by
  have hle : ((BitVec.ofInt 64 X) &&& (BitVec.ofInt 64 255)).toNat ≤ 255 := by
    rw [BitVec.toNat_and]
    exact Nat.le_trans Nat.and_le_right (by decide)
  refine ⟨_, hle, ?_⟩
  show wrap64 (IntKind.u64.wrap (((BitVec.ofInt 64 X) &&& (BitVec.ofInt 64 255)).toNat : Int)) = _
  generalize ((BitVec.ofInt 64 X) &&& (BitVec.ofInt 64 255)).toNat = n at *
  have hu : IntKind.u64.wrap (n : Int) = n := by simp [IntKind.wrap, IntKind.signed, IntKind.bits]; omega
  rw [hu]
  unfold wrap64
  omega

set_option maxHeartbeats 2000000 in
theorem next_any (g c P : Nat) (A : Option Addr) (l : List (Fin 256)) (w : World) (_hn : l.length ≤ 65536) (hP : P ≤ 1000000000) (h : Cur w g A c l P) :
    Calls Try.prog 69 #[.pointer (some ⟨g, 0, none⟩)] w fun e w' => ∃ b : Nat, b ≤ 255 ∧ e = .returned (.int .i64 b) ∧ Cur w' g A c l (P + 1) ∧ w.grownBy w' (some g) := by
  obtain ⟨k, s, hk, hb, hr, hA⟩ := h
  have c0 := hb.cell 0
  have c1 := hb.cell 1
  have c2 := hb.cell 2
  have f1 := hb.frozen 1
  have f2 := hb.frozen 2
  simp only [List.getElem?_toArray, List.getElem?_cons_zero, List.getElem?_cons_succ] at c0 c1 c2
  have w1 : IntKind.i64.wrap ((k : Int) + 1) = (k : Int) + 1 := IntWalk.i64_in _ (by omega)
  by_cases hlt : k < l.length
  · have d1 : decide (k < l.length) = true := decide_eq_true hlt
    have d2 : decide (k + 1 ≤ l.length) = true := decide_eq_true hlt
    obtain ⟨b, off, x, rfl, hx, hbl, hc⟩ := hr.at_ hlt
    have hx2 := x.isLt
    have c3 : w.cell? ⟨b, off + k, none⟩ = some (.int .u8 (x.val : Int)) := by have := hc 0 _ rfl; simpa [byteT] using this
    have w3 : IntKind.i64.wrap (x.val : Int) = (x.val : Int) := IntWalk.i64_in _ (by omega)
    go_enter Try.func69, Try.ntmps69
    go_wp2_with fail
    go_region
    go_wp2_with fail
    go_region
    go_wp2_with fail
    generalize IntKind.u64.wrap (IntKind.u64.wrap (IntKind.u64.wrap (s * 6364136223846793005) + _) + 100606) = S
    obtain ⟨w5, hw5⟩ : ∃ w5 : World, w5 = (w.setCell ⟨g, 1, none⟩ (.int .i64 ((k : Int) + 1))).setCell ⟨g, 2, none⟩ (.int .u64 S) := ⟨_, rfl⟩
    have hb5 : CurB w5 g #[.slice (some ⟨b, off, none⟩) l.length c, .int .i64 ((k : Int) + 1), .int .u64 S] := by rw [hw5]; exact (hb.set_ 1 _).set_ 2 _
    have hg5 : w.grownBy w5 (some g) := by rw [hw5]; exact grownBy_setB (grownBy_setB (World.grownBy.refl w _) 1 _) 2 _
    rw [← hw5]
    clear hw5 c0 c1 c2 c3 f1 f2
    have c0 := hb5.cell 0
    have c1 := hb5.cell 1
    simp only [List.getElem?_toArray, List.getElem?_cons_zero, List.getElem?_cons_succ] at c0 c1
    go_region
    go_wp2
    go_ret
    have hg6 : w.grownBy w5.drew.drew.drew (some g) := grownBy_drew (grownBy_drew (grownBy_drew hg5))
    exact ⟨x.val, by omega, rfl, ⟨k + 1, S, by omega, hb5, hr.grown byteT hg6 (fun hn b' off' hb' he => by have := hA hn b' off' hb'; cases he; omega), hA⟩, hg6⟩
  · have d1 : decide (k < l.length) = false := decide_eq_false hlt
    have d2 : decide (k + 1 ≤ l.length) = false := decide_eq_false hlt
    go_enter Try.func69, Try.ntmps69
    go_wp2_with fail
    go_region
    go_wp2_with fail
    generalize IntKind.u64.wrap (IntKind.u64.wrap _ + 100606) = S
    obtain ⟨w5, hw5⟩ : ∃ w5 : World, w5 = (w.setCell ⟨g, 1, none⟩ (.int .i64 ((k : Int) + 1))).setCell ⟨g, 2, none⟩ (.int .u64 S) := ⟨_, rfl⟩
    have hb5 : CurB w5 g #[.slice A l.length c, .int .i64 ((k : Int) + 1), .int .u64 S] := by rw [hw5]; exact (hb.set_ 1 _).set_ 2 _
    have hg5 : w.grownBy w5 (some g) := by rw [hw5]; exact grownBy_setB (grownBy_setB (World.grownBy.refl w _) 1 _) 2 _
    rw [← hw5]
    clear hw5 c0 c1 c2 f1 f2
    have c0 := hb5.cell 0
    have c1 := hb5.cell 1
    have c2 := hb5.cell 2
    simp only [List.getElem?_toArray, List.getElem?_cons_zero, List.getElem?_cons_succ] at c0 c1 c2
    go_region
    go_wp2
    go_ret
    have hg6 : w.grownBy w5.drew.drew (some g) := grownBy_drew (grownBy_drew hg5)
    obtain ⟨b, hb255, hbv⟩ := low_byte (S / 1099511627776)
    refine ⟨b, hb255, by rw [← hbv]; rfl, ⟨k + 1, S, by omega, hb5, hr.grown byteT hg6 (fun hn b' off' hb' he => by have := hA hn b' off' hb'; cases he; omega), hA⟩, hg6⟩

set_option maxHeartbeats 2000000 in
theorem pick_any (g c P n : Nat) (A : Option Addr) (l : List (Fin 256)) (w : World) (hl : l.length ≤ 65536) (hP : P ≤ 900000000) (hn : 0 < n) (hn' : n ≤ 1000000000) (h : Cur w g A c l P) :
    Calls Try.prog 57 #[.pointer (some ⟨g, 0, none⟩), .int .i64 n] w fun e w' => ∃ b : Nat, b < n ∧ e = .returned (.int .i64 b) ∧ Cur w' g A c l (P + 2) ∧ w.grownBy w' (some g) := by
  go_enter Try.func57, Try.ntmps57
  by_cases h1 : n ≤ 1
  · have d1 : decide (n ≤ 1) = true := decide_eq_true h1
    go_wp2
    go_ret
    exact ⟨0, hn, rfl, h.more (by omega), World.grownBy.refl _ _⟩
  · have d1 : decide (n ≤ 1) = false := decide_eq_false h1
    have hc0 : decide (n = 0) = false := decide_eq_false (by omega)
    go_wp2_with fail
    refine (next_any g c P A l _ hl (by omega) h).mono ?_
    rintro e w1 ⟨b1, hb1, rfl, hc1, hg1⟩
    by_cases h2 : 200 < n
    · have d2 : decide (200 < n) = true := decide_eq_true h2
      have i1 : IntKind.i64.wrap ((b1 : Int) * 256) = (b1 : Int) * 256 := IntWalk.i64_in _ (by omega)
      go_wp2_with fail
      refine (next_any g c (P + 1) A l _ hl (by omega) hc1).mono ?_
      rintro e w2 ⟨b2, hb2, rfl, hc2, hg2⟩
      have i2 : IntKind.i64.wrap ((b1 : Int) * 256 + (b2 : Int)) = (b1 : Int) * 256 + (b2 : Int) := IntWalk.i64_in _ (by omega)
      have hm := Nat.mod_lt (b1 * 256 + b2) hn
      go_wp2
      go_ret
      exact ⟨(b1 * 256 + b2) % n, hm, by simp, hc2, hg1.trans hg2⟩
    · have d2 : decide (200 < n) = false := decide_eq_false h2
      have hm := Nat.mod_lt b1 hn
      go_wp2
      go_ret
      exact ⟨b1 % n, hm, by simp, hc1.more (by omega), hg1⟩
end Go.Proofs.Ytkcbldaondflmaa
