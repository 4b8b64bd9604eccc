/-
  Part, a struct of 3 fields, ints and strings: the element types, and the helpers of the laws over slices of it: counted, copied, equal, marked, held.
-/
import Derived.Test.YthoojcmnkhhokaaTyped
import Derived.Test.YthoojcmnkhhokaaStr
import Derived.Deep.RegionHeld3
import Derived.StillTailTactics
namespace Go.Proofs.Ythoojcmnkhhokaa
set_option maxRecDepth 100000
open Go.RowKit

structure PartV where
  name : ByteArray
  full : Int
  needed : Int
/-- Its strings are of the laws' size. -/
def PartV.ok (x : PartV) : Prop := x.name.size ≤ 1048576
def PartV.okw (x : PartV) : Prop := x.name.size ≤ maxLen

def partT : Ty PartV where
  enc x := [.string x.name, .int .i64 x.full, .int .i64 x.needed]
  sz := 3
  e := 71
  st := 25
  bytes := 32
  zero := ⟨ByteArray.empty, 0, 0⟩
  zv := .agg #[.string ByteArray.empty, .int .i64 0, .int .i64 0]
  henc _ := rfl
  one _ u hu := by simp at hu; rcases hu with rfl | rfl | rfl <;> rfl
  hsz := by decide
  hz := rfl
  hst := Try.underlying25
  info := by kernel_rfl
  hbytes := by decide

def partL : Ty PartV where
  enc x := [.string x.name, .int .i64 x.full, .int .i64 x.needed]
  sz := 3
  e := 76
  st := 22
  bytes := 32
  zero := ⟨ByteArray.empty, 0, 0⟩
  zv := .agg #[.string ByteArray.empty, .int .i64 0, .int .i64 0]
  henc _ := rfl
  one _ u hu := by simp at hu; rcases hu with rfl | rfl | rfl <;> rfl
  hsz := by decide
  hz := rfl
  hst := Try.underlying22
  info := by kernel_rfl
  hbytes := by decide

theorem partT_at {w : World} {A : Option Addr} {l : List PartV} (h : RdT partT w A l) {k : Nat} (hk : k < l.length) :
    ∃ b off name full needed, A = some ⟨b, off, none⟩ ∧ l[k]? = some ⟨name, full, needed⟩ ∧ b < w.heap.size ∧ w.cell? ⟨b, off + k * 3, none⟩ = some (.string name) ∧ w.cell? ⟨b, off + k * 3 + 1, none⟩ = some (.int .i64 full) ∧ w.cell? ⟨b, off + k * 3 + 2, none⟩ = some (.int .i64 needed) := by
  obtain ⟨b, off, ⟨name, full, needed⟩, hA, hx, hlt, hc⟩ := h.at_ hk
  exact ⟨b, off, name, full, needed, hA, hx, hlt, hc 0 _ rfl, hc 1 _ rfl, hc 2 _ rfl⟩
theorem partT_cells {w : World} {A : Option Addr} {l : List PartV} (h : RdT partT w A l) (hn : 0 < l.length) :
    ∃ b off, A = some ⟨b, off, none⟩ ∧ b < w.heap.size ∧ ∀ (k : Nat) name full needed, l[k]? = some ⟨name, full, needed⟩ → w.cell? ⟨b, off + k * 3, none⟩ = some (.string name) ∧ w.cell? ⟨b, off + k * 3 + 1, none⟩ = some (.int .i64 full) ∧ w.cell? ⟨b, off + k * 3 + 2, none⟩ = some (.int .i64 needed) := by
  obtain ⟨b, off, hA, hlt, hc⟩ := h.2 hn
  refine ⟨b, off, hA, hlt, fun k name full needed hx => ?_⟩
  have hat := fun j u hu => hc (k * 3 + j) u (flat_at partT l k j _ u hx hu)
  exact ⟨by have := hat 0 _ rfl; exact this, by have := hat 1 _ rfl; rw [← Nat.add_assoc] at this; exact this, by have := hat 2 _ rfl; rw [← Nat.add_assoc] at this; exact this⟩

theorem partL_at {w : World} {A : Option Addr} {l : List PartV} (h : RdT partL w A l) {k : Nat} (hk : k < l.length) :
    ∃ b off name full needed, A = some ⟨b, off, none⟩ ∧ l[k]? = some ⟨name, full, needed⟩ ∧ b < w.heap.size ∧ w.cell? ⟨b, off + k * 3, none⟩ = some (.string name) ∧ w.cell? ⟨b, off + k * 3 + 1, none⟩ = some (.int .i64 full) ∧ w.cell? ⟨b, off + k * 3 + 2, none⟩ = some (.int .i64 needed) := by
  obtain ⟨b, off, ⟨name, full, needed⟩, hA, hx, hlt, hc⟩ := h.at_ hk
  exact ⟨b, off, name, full, needed, hA, hx, hlt, hc 0 _ rfl, hc 1 _ rfl, hc 2 _ rfl⟩
theorem partL_cells {w : World} {A : Option Addr} {l : List PartV} (h : RdT partL w A l) (hn : 0 < l.length) :
    ∃ b off, A = some ⟨b, off, none⟩ ∧ b < w.heap.size ∧ ∀ (k : Nat) name full needed, l[k]? = some ⟨name, full, needed⟩ → w.cell? ⟨b, off + k * 3, none⟩ = some (.string name) ∧ w.cell? ⟨b, off + k * 3 + 1, none⟩ = some (.int .i64 full) ∧ w.cell? ⟨b, off + k * 3 + 2, none⟩ = some (.int .i64 needed) := by
  obtain ⟨b, off, hA, hlt, hc⟩ := h.2 hn
  refine ⟨b, off, hA, hlt, fun k name full needed hx => ?_⟩
  have hat := fun j u hu => hc (k * 3 + j) u (flat_at partL l k j _ u hx hu)
  exact ⟨by have := hat 0 _ rfl; exact this, by have := hat 1 _ rfl; rw [← Nat.add_assoc] at this; exact this, by have := hat 2 _ rfl; rw [← Nat.add_assoc] at this; exact this⟩

theorem part_own {w : World} {base m c g : Nat} {l : List PartV} (h : OwnT partT w base (.slice (some ⟨g, 0, none⟩) m c) l) {k : Nat} (hk : k < l.length) :
    ∃ name full needed, l[k]? = some ⟨name, full, needed⟩ ∧ w.cell? ⟨g, k * 3, none⟩ = some (.string name) ∧ w.cell? ⟨g, k * 3 + 1, none⟩ = some (.int .i64 full) ∧ w.cell? ⟨g, k * 3 + 2, none⟩ = some (.int .i64 needed) ∧ w.frozen? ⟨g, k * 3, none⟩ = false ∧ w.frozen? ⟨g, k * 3 + 1, none⟩ = false ∧ w.frozen? ⟨g, k * 3 + 2, none⟩ = false := by
  have hx : l[k]? = some l[k] := List.getElem?_eq_getElem hk
  exact ⟨l[k].name, l[k].full, l[k].needed, hx, h.cell hx 0 _ rfl, h.cell hx 1 _ rfl, h.cell hx 2 _ rfl, h.frozen _, h.frozen _, h.frozen _⟩

/-! ### counted -/
set_option maxHeartbeats 800000 in
theorem szPart_lt (name : ByteArray) (full : Int) (needed : Int) (left : Int) (w : World) (h0 : 0 ≤ left) (h1 : left ≤ 1048576) (hn : name.size ≤ 9223372036854775807) (h : left < name.size) :
    Calls Try.prog 66 #[.agg #[.string name, .int .i64 full, .int .i64 needed], .int .i64 left] w fun e w' => e = .returned (.int .i64 (-1)) ∧ Below w.heap.size w w' := by
  go_enter Try.func66, Try.ntmps66
  go_wp2
  go_ret
  refine ⟨rfl, ?_⟩
  repeat (first | exact Below.refl _ _ | (refine Below.setCell ?_ (by first | omega | (simp; done) | (simp; omega)) _) | (refine Below.alloc ?_ (by first | omega | (simp; done) | (simp; omega)) _) | (refine below_drewN ?_ _))
set_option maxHeartbeats 800000 in
theorem szPart_ge (name : ByteArray) (full : Int) (needed : Int) (left : Int) (w : World) (h0 : 0 ≤ left) (h1 : left ≤ 1048576) (hn : name.size ≤ 9223372036854775807) (h : ¬ left < name.size) :
    Calls Try.prog 66 #[.agg #[.string name, .int .i64 full, .int .i64 needed], .int .i64 left] w fun e w' => e = .returned (.int .i64 (left - name.size)) ∧ Below w.heap.size w w' := by
  go_enter Try.func66, Try.ntmps66
  go_wp2
  go_ret
  refine ⟨rfl, ?_⟩
  repeat (first | exact Below.refl _ _ | (refine Below.setCell ?_ (by first | omega | (simp; done) | (simp; omega)) _) | (refine Below.alloc ?_ (by first | omega | (simp; done) | (simp; omega)) _) | (refine below_drewN ?_ _))

set_option maxHeartbeats 1600000 in
theorem szPartS_any (A : Option Addr) (c : Nat) (l : List PartV) (left : Int) (w : World) (h0 : 0 ≤ left) (h1 : left ≤ 1048576) (hn : l.length ≤ maxLen) (hr : RdT partL w A l) (hok : ∀ x ∈ l, x.okw) :
    Calls Try.prog 15 #[.slice A l.length c, .int .i64 left] w fun e w' => (∃ r : Int, e = .returned (.int .i64 r) ∧ (r < 0 ∨ (0 ≤ r ∧ r ≤ left - l.length ∧ ∀ x ∈ l, x.ok))) ∧ Below w.heap.size w w' := by
  unfold maxLen at hn
  by_cases h : left < l.length
  · go_enter Try.func15, Try.ntmps15
    go_wp2
    go_ret
    exact ⟨⟨_, rfl, .inl (by omega)⟩, Below.refl _ _⟩
  · go_enter Try.func15, Try.ntmps15
    go_wp2
    go_loopw [1, 5] (fun q i wr => ∃ (k : Nat) (r : Int), k ≤ l.length ∧ i = .int .i64 k ∧ q = .int .i64 r ∧ 0 ≤ r ∧ r ≤ left - l.length ∧ Hid (∀ x ∈ l.take k, x.ok) ∧ RdT partL wr A l ∧ Below w.heap.size w wr) (fun _ i _ => l.length - (intOf i).toNat)
    case atStart => exact ⟨0, _, by omega, rfl, rfl, by omega, by omega, Lib.hid (by simp), hr, Below.refl _ _⟩
    case round =>
      obtain ⟨k, r, hk, rfl, rfl, hr0, hr1, hall, hrd, hb⟩ := hrel
      have hz := hb.size
      by_cases hlt : k < l.length
      · obtain ⟨b, off, name, full, needed, rfl, hx, hlb, hc0, hc1, hc2⟩ := partL_at hrd hlt
        have hw : name.size ≤ maxLen := (hok _ (List.mem_of_getElem? hx))
        unfold maxLen at hw
        have hw2 : name.size ≤ 9223372036854775807 := by omega
        clear hw
        by_cases hs : r < name.size
        · clear hx
          go_wp2_with (go_at_call 66; refine (szPart_lt name full needed r _ hr0 (by omega) hw2 hs).mono ?_; rintro e w2 ⟨rfl, hb2⟩)
          go_ret
          exact ⟨⟨_, rfl, .inl (by omega)⟩, hb.trans (hb2.mono hz)⟩
        · have hall' := Lib.hid (show ∀ x ∈ l.take (k + 1), x.ok by
            intro x hxm
            rw [take_snoc' hx, List.mem_append, List.mem_singleton] at hxm
            rcases hxm with hxm | rfl
            · exact hall.out x hxm
            · show name.size ≤ 1048576
              omega)
          clear hx hall
          go_wp2_with (go_at_call 66; refine (szPart_ge name full needed r _ hr0 (by omega) hw2 hs).mono ?_; rintro e w2 ⟨rfl, hb2⟩)
          go_roundw
          case rel => exact ⟨k + 1, _, by omega, by go_num, rfl, by omega, by omega, hall', hrd.below hb2 (Nat.le_refl _), hb.trans (hb2.mono hz)⟩
          case measure => simp [intOf]; omega
      · obtain rfl : k = l.length := by omega
        have H := Lib.hid (show ∀ x ∈ l, x.ok by have := hall.out; rwa [List.take_length] at this)
        clear hall
        go_wp2
        go_ret
        exact ⟨⟨_, rfl, .inr ⟨hr0, hr1, H.out⟩⟩, hb⟩

/-! ### copied -/
set_option maxHeartbeats 1600000 in
theorem toPart_any (name : ByteArray) (full : Int) (needed : Int) (w : World) :
    Calls Try.prog 68 #[.agg #[.string name, .int .i64 full, .int .i64 needed]] w fun e w' => e = .returned (.agg #[.string name, .int .i64 full, .int .i64 needed]) ∧ Below w.heap.size w w' := by
  go_enter Try.func68, Try.ntmps68
  go_wp2
  refine bodyPost_ret (v := .agg #[.string name, .int .i64 full, .int .i64 needed]) (by simp [results, Try.results68, go_sem]) rfl ⟨rfl, ?_⟩
  repeat (first | exact Below.refl _ _ | (refine Below.setCell ?_ (by first | omega | (simp; done) | (simp; omega)) _) | (refine Below.alloc ?_ (by first | omega | (simp; done) | (simp; omega)) _) | (refine below_drewN ?_ _))

set_option maxHeartbeats 1600000 in
theorem toPartS_any (A : Option Addr) (c : Nat) (l : List PartV) (w : World) (hn : l.length ≤ 1048576) (h : RdT partL w A l) :
    Calls Try.prog 17 #[.slice A l.length c] w fun e w' => ∃ A' c', e = .returned (.slice A' l.length c') ∧ OwnT partT w' w.heap.size (.slice A' l.length c') l ∧ Below w.heap.size w w' := by
  go_enter Try.func17, Try.ntmps17
  go_wp2_with (at_make; refine wpList_makeT (w0 := w) (B := w.heap.size) partT rfl _ _ rfl w.heap.size _ _ l.length rfl rfl rfl rfl (by omega) (Nat.le_refl _) (Below.refl _ _) (Nat.le_refl _) ?_; intro w1 hown1 hb1 hgr1)
  have e0 := copyTo_zero l (partT.zero)
  rw [← e0] at hown1
  clear e0
  go_loopw [4] (fun i wr => ∃ k : Nat, k ≤ l.length ∧ i = .int .i64 k ∧ OwnT partT wr w.heap.size (.slice (some ⟨w.heap.size, 0, none⟩) l.length l.length) (copyTo l partT.zero k) ∧ Below w.heap.size w wr) (fun i _ => l.length - (intOf i).toNat)
  case atStart => exact ⟨0, by omega, rfl, hown1, hb1⟩
  case round =>
    obtain ⟨k, hk, rfl, hown, hb⟩ := hrel
    by_cases hlt : k < l.length
    · obtain ⟨b, off, name, full, needed, rfl, hx, hlb, hc0, hc1, hc2⟩ := partL_at (h.below hb (Nat.le_refl _)) hlt
      go_wp2_with (go_at_call 68; refine (toPart_any name full needed _).mono ?_; rintro e w2 ⟨rfl, hb2⟩; have hown2 := hown.below hb2 (Nat.le_refl _); obtain ⟨q0, q1, q2, _, hq0, hq1, hq2, hf0, hf1, hf2⟩ := part_own hown2 (k := k) (by rw [length_copyTo _ _ _ hk]; exact hlt))
      go_roundw
      case rel =>
        have hs := hown2.set (k := k) (by rw [length_copyTo _ _ _ hk]; exact hlt) ⟨name, full, needed⟩
        rw [copyTo_succ l _ _ k hx] at hs
        exact ⟨k + 1, by omega, by go_num, hs.1, (hb.trans (hb2.mono hb.size)).grown hs.2 (by have := hb.size; have := hb2.size; omega) (by simp)⟩
      case measure => simp [intOf]; omega
    · obtain rfl : k = l.length := by omega
      rw [copyTo_all] at hown
      go_wp2
      go_ret
      exact ⟨_, _, rfl, hown, hb⟩

set_option maxHeartbeats 1600000 in
theorem eqPart_same (name : ByteArray) (full : Int) (needed : Int) (w : World) :
    Calls Try.prog 71 #[.agg #[.string name, .int .i64 full, .int .i64 needed], .agg #[.string name, .int .i64 full, .int .i64 needed]] w fun e w' => e = .returned (.bool true) ∧ Below w.heap.size w w' := by
  go_enter Try.func71, Try.ntmps71
  go_wp2
  go_ret
  refine ⟨rfl, ?_⟩
  repeat (first | exact Below.refl _ _ | (refine Below.setCell ?_ (by first | omega | (simp; done) | (simp; omega)) _) | (refine Below.alloc ?_ (by first | omega | (simp; done) | (simp; omega)) _) | (refine below_drewN ?_ _))

set_option maxHeartbeats 1600000 in
theorem eqPartS_same (A1 A2 : Option Addr) (n c1 c2 : Nat) (l : List PartV) (w : World) (hn : n = l.length) (hm : n ≤ 16777216) (h1 : RdT partT w A1 l) (h2 : RdT partT w A2 l) :
    Calls Try.prog 19 #[.slice A1 n c1, .slice A2 n c2] w fun e w' => e = .returned (.bool true) ∧ Below w.heap.size w w' := by
  have e1 : (decide ((n : Int) = n)) = true := by simp
  go_enter Try.func19, Try.ntmps19
  go_wp2
  go_loopw [5] (fun i wr => ∃ k : Nat, k ≤ n ∧ i = .int .i64 k ∧ RdT partT wr A1 l ∧ RdT partT wr A2 l ∧ Below w.heap.size w wr) (fun i _ => n - (intOf i).toNat)
  case atStart => exact ⟨0, by omega, rfl, h1, h2, Below.refl _ _⟩
  case round =>
    obtain ⟨k, hk, rfl, g1, g2, hb⟩ := hrel
    clear h1 h2
    by_cases hlt : k < n
    · obtain ⟨b1, o1, name, full, needed, rfl, hx, hl1, hc0, hc1, hc2⟩ := partT_at g1 (k := k) (by omega)
      obtain ⟨b2, o2, rfl, hl2, hcells⟩ := partT_cells g2 (by omega)
      obtain ⟨hd0, hd1, hd2⟩ := hcells k name full needed hx
      clear hx hcells
      go_wp2_with fail
      go_still_tail 8, (by kernel_rfl)
      change wpList _ _ _ _ _ wr.drew
      go_wp2_with (go_at_call 71; refine (eqPart_same name full needed _).mono ?_; rintro e w2 ⟨rfl, hb2⟩)
      go_roundw
      case rel => exact ⟨k + 1, by omega, by go_num, g1.below (w := wr) (B := wr.heap.size) ((Below.refl _ _).drew.trans hb2) (Nat.le_refl _), g2.below (w := wr) (B := wr.heap.size) ((Below.refl _ _).drew.trans hb2) (Nat.le_refl _), hb.trans (((Below.refl _ _).drew.trans hb2).mono hb.size)⟩
      case measure => simp [intOf]; omega
    · go_wp2
      go_ret
      exact ⟨rfl, hb⟩

/-! ### marked, held -/
def marksPart (k : Int) (n : Nat) : List PartV := (List.range n).map fun i => ⟨mt (k + 3 * (i : Nat)), k + 3 * (i : Nat) + 1, k + 3 * (i : Nat) + 1 + 1⟩
theorem length_marksPart (k : Int) (n : Nat) : (marksPart k n).length = n := by simp [marksPart]
theorem marksPart_at (k : Int) (n i : Nat) (h : i < n) : (marksPart k n)[i]? = some ⟨mt (k + 3 * i), k + 3 * i + 1, k + 3 * i + 1 + 1⟩ := by simp [marksPart, h]
def markToPart (k : Int) (l : List PartV) : Nat → List PartV
  | 0 => l
  | i + 1 => (markToPart k l i).set i ⟨mt (k + 3 * i), k + 3 * i + 1, k + 3 * i + 1 + 1⟩
theorem length_markToPart (k : Int) (l : List PartV) (i : Nat) : (markToPart k l i).length = l.length := by
  induction i with
  | zero => rfl
  | succ i ih => simp [markToPart, ih]
theorem markToPart_at (k : Int) (l : List PartV) (i j : Nat) (hj : j < l.length) (hi : j < i) : (markToPart k l i)[j]? = some ⟨mt (k + 3 * j), k + 3 * j + 1, k + 3 * j + 1 + 1⟩ := by
  induction i with
  | zero => omega
  | succ i ih =>
    simp only [markToPart, List.getElem?_set, length_markToPart]
    by_cases e : i = j
    · subst e; simp [hj]
    · rw [if_neg e]; exact ih (by omega)
theorem markToPart_all (k : Int) (l : List PartV) : markToPart k l l.length = marksPart k l.length := by
  apply List.ext_getElem?
  intro j
  by_cases hj : j < l.length
  · rw [markToPart_at k l _ j hj hj, marksPart_at k _ j hj]
  · rw [List.getElem?_eq_none (by rw [length_markToPart]; omega), List.getElem?_eq_none (by rw [length_marksPart]; omega)]

set_option maxHeartbeats 1600000 in
theorem markPartS_ok (base : Nat) (A : Option Addr) (c : Nat) (l : List PartV) (k : Int) (w : World) (hk0 : 0 ≤ k) (hk1 : k ≤ 1073741824) (hm : l.length ≤ 16777216) (h : OwnT partT w base (.slice A l.length c) l) :
    Calls Try.prog 37 #[.slice A l.length c, .int .i64 k] w fun e w' => e = .returned (.int .i64 (k + 3 * l.length)) ∧ OwnT partT w' base (.slice A l.length c) (marksPart k l.length) ∧ w.grownBy w' (Value.slice A l.length c).ownBlock := by
  have hlow := h.lt
  go_enter Try.func37, Try.ntmps37
  go_wp2
  go_loopw [1, 5] (fun q i wr => ∃ j : Nat, j ≤ l.length ∧ i = .int .i64 j ∧ q = .int .i64 (k + 3 * j) ∧ OwnT partT wr base (.slice A l.length c) (markToPart k l j) ∧ w.grownBy wr (Value.slice A l.length c).ownBlock) (fun _ i _ => l.length - (intOf i).toNat)
  case atStart => exact ⟨0, by omega, rfl, by go_num, h, gr_refl _ _⟩
  case round =>
    obtain ⟨j, hj, rfl, rfl, hown, hgr⟩ := hrel
    by_cases hlt : j < l.length
    · obtain ⟨g, rfl, hg, hgl⟩ := hown.head (by rw [length_markToPart]; omega)
      obtain ⟨q0, q1, q2, _, hc0, hc1, hc2, hf0, hf1, hf2⟩ := part_own hown (k := j) (by rw [length_markToPart]; exact hlt)
      go_wp2_with fail
      refine (markText_any _ _ (by omega)).mono ?_
      rintro e w2 ⟨rfl, hb2⟩
      have hk : j < (markToPart k l j).length := by rw [length_markToPart]; exact hlt
      have hp := own_part_cells (us1 := []) hown hk hb2
      have hs := own_parts (us1 := []) (y := ⟨mt (k + 3 * j), k + 3 * j + 1, k + 3 * j + 1 + 1⟩) hown hk rfl hb2
      obtain ⟨z0, ez0⟩ : ∃ v, w2.cell? ⟨g, j * 3, none⟩ = some v := hp.1 0 (by decide)
      have fz0 : w2.frozen? ⟨g, j * 3, none⟩ = false := hp.2 _
      obtain ⟨z1, ez1⟩ : ∃ v, w2.cell? ⟨g, j * 3 + 1, none⟩ = some v := hp.1 1 (by decide)
      have fz1 : w2.frozen? ⟨g, j * 3 + 1, none⟩ = false := hp.2 _
      obtain ⟨z2, ez2⟩ : ∃ v, w2.cell? ⟨g, j * 3 + 2, none⟩ = some v := hp.1 2 (by decide)
      have fz2 : w2.frozen? ⟨g, j * 3 + 2, none⟩ = false := hp.2 _
      have hs1 := Lib.hid hs.1
      have hs2 := Lib.hid hs.2
      clear hs hp hown hk hc0 hc1 hc2 hf0 hf1 hf2
      go_wp2
      go_roundw
      case rel => exact ⟨j + 1, by omega, by go_num, by go_num, hs1.out, gr_trans hgr hs2.out⟩
      case measure => simp [intOf]; omega
    · obtain rfl : j = l.length := by omega
      rw [markToPart_all] at hown
      go_wp2
      go_ret
      exact ⟨rfl, hown, hgr⟩


theorem ownPart_empty (w : World) (base : Nat) (hb : base ≤ w.heap.size) : OwnT partT (w.alloc (.cells #[] 71)) base (.slice (some ⟨w.heap.size, 0, none⟩) 0 0) [] := World.ownsRow_lit w #[] 0 hb (by unfold maxLen; omega) rfl
/-- A call that returns a slice of its own, and whether there is one. -/
def RetPart (w : World) (l : List PartV) (ok : Bool) (e : Ending) (w' : World) : Prop :=
  ∃ A c, e = .returned (.tuple #[.slice A l.length c, .bool ok]) ∧ OwnT partT w' w.heap.size (.slice A l.length c) l ∧ Below w.heap.size w w'
end Go.Proofs.Ythoojcmnkhhokaa
