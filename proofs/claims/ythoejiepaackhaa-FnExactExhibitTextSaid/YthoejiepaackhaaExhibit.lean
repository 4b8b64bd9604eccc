/-
  Exhibit, a struct of 7 fields, ints and strings: the element types, and the helpers of the laws over slices of it: counted, copied, equal, marked, held.
-/
import Derived.Test.YthoejiepaackhaaTyped
import Derived.Test.YthoejiepaackhaaStr
import Derived.Deep.RegionHeld3
import Derived.StillTailTactics
namespace Go.Proofs.Ythoejiepaackhaa
open Go.RowKit

structure ExhibitV where
  id_ : Int
  land : ByteArray
  made : Int
  upper : Int
  lower : Int
  rods : Int
  case_ : Int
/-- Its strings are of the laws' size. -/
def ExhibitV.ok (x : ExhibitV) : Prop := x.land.size ≤ 1048576
def ExhibitV.okw (x : ExhibitV) : Prop := x.land.size ≤ maxLen

def exhibitT : Ty ExhibitV where
  enc x := [.int .i64 x.id_, .string x.land, .int .i64 x.made, .int .i64 x.upper, .int .i64 x.lower, .int .i64 x.rods, .int .i64 x.case_]
  sz := 7
  e := 26
  st := 36
  bytes := 64
  zero := ⟨0, ByteArray.empty, 0, 0, 0, 0, 0⟩
  zv := .agg #[.int .i64 0, .string ByteArray.empty, .int .i64 0, .int .i64 0, .int .i64 0, .int .i64 0, .int .i64 0]
  henc _ := rfl
  one _ u hu := by simp at hu; rcases hu with rfl | rfl | rfl | rfl | rfl | rfl | rfl <;> rfl
  hsz := by decide
  hz := rfl
  hst := Try.underlying36
  info := by kernel_rfl
  hbytes := by decide

def exhibitL : Ty ExhibitV where
  enc x := [.int .i64 x.id_, .string x.land, .int .i64 x.made, .int .i64 x.upper, .int .i64 x.lower, .int .i64 x.rods, .int .i64 x.case_]
  sz := 7
  e := 23
  st := 33
  bytes := 64
  zero := ⟨0, ByteArray.empty, 0, 0, 0, 0, 0⟩
  zv := .agg #[.int .i64 0, .string ByteArray.empty, .int .i64 0, .int .i64 0, .int .i64 0, .int .i64 0, .int .i64 0]
  henc _ := rfl
  one _ u hu := by simp at hu; rcases hu with rfl | rfl | rfl | rfl | rfl | rfl | rfl <;> rfl
  hsz := by decide
  hz := rfl
  hst := Try.underlying33
  info := by kernel_rfl
  hbytes := by decide

theorem exhibitT_at {w : World} {A : Option Addr} {l : List ExhibitV} (h : RdT exhibitT w A l) {k : Nat} (hk : k < l.length) :
    ∃ b off id_ land made upper lower rods case_, A = some ⟨b, off, none⟩ ∧ l[k]? = some ⟨id_, land, made, upper, lower, rods, case_⟩ ∧ b < w.heap.size ∧ w.cell? ⟨b, off + k * 7, none⟩ = some (.int .i64 id_) ∧ w.cell? ⟨b, off + k * 7 + 1, none⟩ = some (.string land) ∧ w.cell? ⟨b, off + k * 7 + 2, none⟩ = some (.int .i64 made) ∧ w.cell? ⟨b, off + k * 7 + 3, none⟩ = some (.int .i64 upper) ∧ w.cell? ⟨b, off + k * 7 + 4, none⟩ = some (.int .i64 lower) ∧ w.cell? ⟨b, off + k * 7 + 5, none⟩ = some (.int .i64 rods) ∧ w.cell? ⟨b, off + k * 7 + 6, none⟩ = some (.int .i64 case_) := by
  obtain ⟨b, off, ⟨id_, land, made, upper, lower, rods, case_⟩, hA, hx, hlt, hc⟩ := h.at_ hk
  exact ⟨b, off, id_, land, made, upper, lower, rods, case_, hA, hx, hlt, hc 0 _ rfl, hc 1 _ rfl, hc 2 _ rfl, hc 3 _ rfl, hc 4 _ rfl, hc 5 _ rfl, hc 6 _ rfl⟩
theorem exhibitT_cells {w : World} {A : Option Addr} {l : List ExhibitV} (h : RdT exhibitT w A l) (hn : 0 < l.length) :
    ∃ b off, A = some ⟨b, off, none⟩ ∧ b < w.heap.size ∧ ∀ (k : Nat) id_ land made upper lower rods case_, l[k]? = some ⟨id_, land, made, upper, lower, rods, case_⟩ → w.cell? ⟨b, off + k * 7, none⟩ = some (.int .i64 id_) ∧ w.cell? ⟨b, off + k * 7 + 1, none⟩ = some (.string land) ∧ w.cell? ⟨b, off + k * 7 + 2, none⟩ = some (.int .i64 made) ∧ w.cell? ⟨b, off + k * 7 + 3, none⟩ = some (.int .i64 upper) ∧ w.cell? ⟨b, off + k * 7 + 4, none⟩ = some (.int .i64 lower) ∧ w.cell? ⟨b, off + k * 7 + 5, none⟩ = some (.int .i64 rods) ∧ w.cell? ⟨b, off + k * 7 + 6, none⟩ = some (.int .i64 case_) := by
  obtain ⟨b, off, hA, hlt, hc⟩ := h.2 hn
  refine ⟨b, off, hA, hlt, fun k id_ land made upper lower rods case_ hx => ?_⟩
  have hat := fun j u hu => hc (k * 7 + j) u (flat_at exhibitT l k j _ u hx hu)
  exact ⟨by have := hat 0 _ rfl; exact this, by have := hat 1 _ rfl; rw [← Nat.add_assoc] at this; exact this, by have := hat 2 _ rfl; rw [← Nat.add_assoc] at this; exact this, by have := hat 3 _ rfl; rw [← Nat.add_assoc] at this; exact this, by have := hat 4 _ rfl; rw [← Nat.add_assoc] at this; exact this, by have := hat 5 _ rfl; rw [← Nat.add_assoc] at this; exact this, by have := hat 6 _ rfl; rw [← Nat.add_assoc] at this; exact this⟩

theorem exhibitL_at {w : World} {A : Option Addr} {l : List ExhibitV} (h : RdT exhibitL w A l) {k : Nat} (hk : k < l.length) :
    ∃ b off id_ land made upper lower rods case_, A = some ⟨b, off, none⟩ ∧ l[k]? = some ⟨id_, land, made, upper, lower, rods, case_⟩ ∧ b < w.heap.size ∧ w.cell? ⟨b, off + k * 7, none⟩ = some (.int .i64 id_) ∧ w.cell? ⟨b, off + k * 7 + 1, none⟩ = some (.string land) ∧ w.cell? ⟨b, off + k * 7 + 2, none⟩ = some (.int .i64 made) ∧ w.cell? ⟨b, off + k * 7 + 3, none⟩ = some (.int .i64 upper) ∧ w.cell? ⟨b, off + k * 7 + 4, none⟩ = some (.int .i64 lower) ∧ w.cell? ⟨b, off + k * 7 + 5, none⟩ = some (.int .i64 rods) ∧ w.cell? ⟨b, off + k * 7 + 6, none⟩ = some (.int .i64 case_) := by
  obtain ⟨b, off, ⟨id_, land, made, upper, lower, rods, case_⟩, hA, hx, hlt, hc⟩ := h.at_ hk
  exact ⟨b, off, id_, land, made, upper, lower, rods, case_, hA, hx, hlt, hc 0 _ rfl, hc 1 _ rfl, hc 2 _ rfl, hc 3 _ rfl, hc 4 _ rfl, hc 5 _ rfl, hc 6 _ rfl⟩
theorem exhibitL_cells {w : World} {A : Option Addr} {l : List ExhibitV} (h : RdT exhibitL w A l) (hn : 0 < l.length) :
    ∃ b off, A = some ⟨b, off, none⟩ ∧ b < w.heap.size ∧ ∀ (k : Nat) id_ land made upper lower rods case_, l[k]? = some ⟨id_, land, made, upper, lower, rods, case_⟩ → w.cell? ⟨b, off + k * 7, none⟩ = some (.int .i64 id_) ∧ w.cell? ⟨b, off + k * 7 + 1, none⟩ = some (.string land) ∧ w.cell? ⟨b, off + k * 7 + 2, none⟩ = some (.int .i64 made) ∧ w.cell? ⟨b, off + k * 7 + 3, none⟩ = some (.int .i64 upper) ∧ w.cell? ⟨b, off + k * 7 + 4, none⟩ = some (.int .i64 lower) ∧ w.cell? ⟨b, off + k * 7 + 5, none⟩ = some (.int .i64 rods) ∧ w.cell? ⟨b, off + k * 7 + 6, none⟩ = some (.int .i64 case_) := by
  obtain ⟨b, off, hA, hlt, hc⟩ := h.2 hn
  refine ⟨b, off, hA, hlt, fun k id_ land made upper lower rods case_ hx => ?_⟩
  have hat := fun j u hu => hc (k * 7 + j) u (flat_at exhibitL l k j _ u hx hu)
  exact ⟨by have := hat 0 _ rfl; exact this, by have := hat 1 _ rfl; rw [← Nat.add_assoc] at this; exact this, by have := hat 2 _ rfl; rw [← Nat.add_assoc] at this; exact this, by have := hat 3 _ rfl; rw [← Nat.add_assoc] at this; exact this, by have := hat 4 _ rfl; rw [← Nat.add_assoc] at this; exact this, by have := hat 5 _ rfl; rw [← Nat.add_assoc] at this; exact this, by have := hat 6 _ rfl; rw [← Nat.add_assoc] at this; exact this⟩

theorem exhibit_own {w : World} {base m c g : Nat} {l : List ExhibitV} (h : OwnT exhibitT w base (.slice (some ⟨g, 0, none⟩) m c) l) {k : Nat} (hk : k < l.length) :
    ∃ id_ land made upper lower rods case_, l[k]? = some ⟨id_, land, made, upper, lower, rods, case_⟩ ∧ w.cell? ⟨g, k * 7, none⟩ = some (.int .i64 id_) ∧ w.cell? ⟨g, k * 7 + 1, none⟩ = some (.string land) ∧ w.cell? ⟨g, k * 7 + 2, none⟩ = some (.int .i64 made) ∧ w.cell? ⟨g, k * 7 + 3, none⟩ = some (.int .i64 upper) ∧ w.cell? ⟨g, k * 7 + 4, none⟩ = some (.int .i64 lower) ∧ w.cell? ⟨g, k * 7 + 5, none⟩ = some (.int .i64 rods) ∧ w.cell? ⟨g, k * 7 + 6, none⟩ = some (.int .i64 case_) ∧ w.frozen? ⟨g, k * 7, none⟩ = false ∧ w.frozen? ⟨g, k * 7 + 1, none⟩ = false ∧ w.frozen? ⟨g, k * 7 + 2, none⟩ = false ∧ w.frozen? ⟨g, k * 7 + 3, none⟩ = false ∧ w.frozen? ⟨g, k * 7 + 4, none⟩ = false ∧ w.frozen? ⟨g, k * 7 + 5, none⟩ = false ∧ w.frozen? ⟨g, k * 7 + 6, none⟩ = false := by
  have hx : l[k]? = some l[k] := List.getElem?_eq_getElem hk
  exact ⟨l[k].id_, l[k].land, l[k].made, l[k].upper, l[k].lower, l[k].rods, l[k].case_, hx, h.cell hx 0 _ rfl, h.cell hx 1 _ rfl, h.cell hx 2 _ rfl, h.cell hx 3 _ rfl, h.cell hx 4 _ rfl, h.cell hx 5 _ rfl, h.cell hx 6 _ rfl, h.frozen _, h.frozen _, h.frozen _, h.frozen _, h.frozen _, h.frozen _, h.frozen _⟩

/-! ### counted -/
set_option maxHeartbeats 800000 in
theorem szExhibit_lt (id_ : Int) (land : ByteArray) (made : Int) (upper : Int) (lower : Int) (rods : Int) (case_ : Int) (left : Int) (w : World) (h0 : 0 ≤ left) (h1 : left ≤ 1048576) (hn : land.size ≤ 9223372036854775807) (h : left < land.size) :
    Calls Try.prog 12 #[.agg #[.int .i64 id_, .string land, .int .i64 made, .int .i64 upper, .int .i64 lower, .int .i64 rods, .int .i64 case_], .int .i64 left] w fun e w' => e = .returned (.int .i64 (-1)) ∧ Below w.heap.size w w' := by
  go_enter Try.func12, Try.ntmps12
  go_wp2
  go_ret
  refine ⟨rfl, ?_⟩
  repeat (first | exact Below.refl _ _ | (refine Below.setCell ?_ (by first | omega | (simp; done) | (simp; omega)) _) | (refine Below.alloc ?_ (by first | omega | (simp; done) | (simp; omega)) _) | (refine below_drewN ?_ _))
set_option maxHeartbeats 800000 in
theorem szExhibit_ge (id_ : Int) (land : ByteArray) (made : Int) (upper : Int) (lower : Int) (rods : Int) (case_ : Int) (left : Int) (w : World) (h0 : 0 ≤ left) (h1 : left ≤ 1048576) (hn : land.size ≤ 9223372036854775807) (h : ¬ left < land.size) :
    Calls Try.prog 12 #[.agg #[.int .i64 id_, .string land, .int .i64 made, .int .i64 upper, .int .i64 lower, .int .i64 rods, .int .i64 case_], .int .i64 left] w fun e w' => e = .returned (.int .i64 (left - land.size)) ∧ Below w.heap.size w w' := by
  go_enter Try.func12, Try.ntmps12
  go_wp2
  go_ret
  refine ⟨rfl, ?_⟩
  repeat (first | exact Below.refl _ _ | (refine Below.setCell ?_ (by first | omega | (simp; done) | (simp; omega)) _) | (refine Below.alloc ?_ (by first | omega | (simp; done) | (simp; omega)) _) | (refine below_drewN ?_ _))

set_option maxHeartbeats 1600000 in
theorem szExhibitS_any (A : Option Addr) (c : Nat) (l : List ExhibitV) (left : Int) (w : World) (h0 : 0 ≤ left) (h1 : left ≤ 1048576) (hn : l.length ≤ maxLen) (hr : RdT exhibitL w A l) (hok : ∀ x ∈ l, x.okw) :
    Calls Try.prog 20 #[.slice A l.length c, .int .i64 left] w fun e w' => (∃ r : Int, e = .returned (.int .i64 r) ∧ (r < 0 ∨ (0 ≤ r ∧ r ≤ left - l.length ∧ ∀ x ∈ l, x.ok))) ∧ Below w.heap.size w w' := by
  unfold maxLen at hn
  by_cases h : left < l.length
  · go_enter Try.func20, Try.ntmps20
    go_wp2
    go_ret
    exact ⟨⟨_, rfl, .inl (by omega)⟩, Below.refl _ _⟩
  · go_enter Try.func20, Try.ntmps20
    go_wp2
    go_loopw [1, 5] (fun q i wr => ∃ (k : Nat) (r : Int), k ≤ l.length ∧ i = .int .i64 k ∧ q = .int .i64 r ∧ 0 ≤ r ∧ r ≤ left - l.length ∧ Hid (∀ x ∈ l.take k, x.ok) ∧ RdT exhibitL wr A l ∧ Below w.heap.size w wr) (fun _ i _ => l.length - (intOf i).toNat)
    case atStart => exact ⟨0, _, by omega, rfl, rfl, by omega, by omega, Lib.hid (by simp), hr, Below.refl _ _⟩
    case round =>
      obtain ⟨k, r, hk, rfl, rfl, hr0, hr1, hall, hrd, hb⟩ := hrel
      have hz := hb.size
      by_cases hlt : k < l.length
      · obtain ⟨b, off, id_, land, made, upper, lower, rods, case_, rfl, hx, hlb, hc0, hc1, hc2, hc3, hc4, hc5, hc6⟩ := exhibitL_at hrd hlt
        have hw : land.size ≤ maxLen := (hok _ (List.mem_of_getElem? hx))
        unfold maxLen at hw
        have hw2 : land.size ≤ 9223372036854775807 := by omega
        clear hw
        by_cases hs : r < land.size
        · clear hx
          go_wp2_with (go_at_call 12; refine (szExhibit_lt id_ land made upper lower rods case_ r _ hr0 (by omega) hw2 hs).mono ?_; rintro e w2 ⟨rfl, hb2⟩)
          go_ret
          exact ⟨⟨_, rfl, .inl (by omega)⟩, hb.trans (hb2.mono hz)⟩
        · have hall' := Lib.hid (show ∀ x ∈ l.take (k + 1), x.ok by
            intro x hxm
            rw [take_snoc' hx, List.mem_append, List.mem_singleton] at hxm
            rcases hxm with hxm | rfl
            · exact hall.out x hxm
            · show land.size ≤ 1048576
              omega)
          clear hx hall
          go_wp2_with (go_at_call 12; refine (szExhibit_ge id_ land made upper lower rods case_ r _ hr0 (by omega) hw2 hs).mono ?_; rintro e w2 ⟨rfl, hb2⟩)
          go_roundw
          case rel => exact ⟨k + 1, _, by omega, by go_num, rfl, by omega, by omega, hall', hrd.below hb2 (Nat.le_refl _), hb.trans (hb2.mono hz)⟩
          case measure => simp [intOf]; omega
      · obtain rfl : k = l.length := by omega
        have H := Lib.hid (show ∀ x ∈ l, x.ok by have := hall.out; rwa [List.take_length] at this)
        clear hall
        go_wp2
        go_ret
        exact ⟨⟨_, rfl, .inr ⟨hr0, hr1, H.out⟩⟩, hb⟩

/-! ### copied -/
set_option maxHeartbeats 1600000 in
theorem toExhibit_any (id_ : Int) (land : ByteArray) (made : Int) (upper : Int) (lower : Int) (rods : Int) (case_ : Int) (w : World) :
    Calls Try.prog 14 #[.agg #[.int .i64 id_, .string land, .int .i64 made, .int .i64 upper, .int .i64 lower, .int .i64 rods, .int .i64 case_]] w fun e w' => e = .returned (.agg #[.int .i64 id_, .string land, .int .i64 made, .int .i64 upper, .int .i64 lower, .int .i64 rods, .int .i64 case_]) ∧ Below w.heap.size w w' := by
  go_enter Try.func14, Try.ntmps14
  go_wp2
  refine bodyPost_ret (v := .agg #[.int .i64 id_, .string land, .int .i64 made, .int .i64 upper, .int .i64 lower, .int .i64 rods, .int .i64 case_]) (by simp [results, Try.results14, go_sem]) rfl ⟨rfl, ?_⟩
  repeat (first | exact Below.refl _ _ | (refine Below.setCell ?_ (by first | omega | (simp; done) | (simp; omega)) _) | (refine Below.alloc ?_ (by first | omega | (simp; done) | (simp; omega)) _) | (refine below_drewN ?_ _))

set_option maxHeartbeats 1600000 in
theorem toExhibitS_any (A : Option Addr) (c : Nat) (l : List ExhibitV) (w : World) (hn : l.length ≤ 1048576) (h : RdT exhibitL w A l) :
    Calls Try.prog 22 #[.slice A l.length c] w fun e w' => ∃ A' c', e = .returned (.slice A' l.length c') ∧ OwnT exhibitT w' w.heap.size (.slice A' l.length c') l ∧ Below w.heap.size w w' := by
  go_enter Try.func22, Try.ntmps22
  go_wp2_with (at_make; refine wpList_makeT (w0 := w) (B := w.heap.size) exhibitT rfl _ _ rfl w.heap.size _ _ l.length rfl rfl rfl rfl (by omega) (Nat.le_refl _) (Below.refl _ _) (Nat.le_refl _) ?_; intro w1 hown1 hb1 hgr1)
  have e0 := copyTo_zero l (exhibitT.zero)
  rw [← e0] at hown1
  clear e0
  go_loopw [4] (fun i wr => ∃ k : Nat, k ≤ l.length ∧ i = .int .i64 k ∧ OwnT exhibitT wr w.heap.size (.slice (some ⟨w.heap.size, 0, none⟩) l.length l.length) (copyTo l exhibitT.zero k) ∧ Below w.heap.size w wr) (fun i _ => l.length - (intOf i).toNat)
  case atStart => exact ⟨0, by omega, rfl, hown1, hb1⟩
  case round =>
    obtain ⟨k, hk, rfl, hown, hb⟩ := hrel
    by_cases hlt : k < l.length
    · obtain ⟨b, off, id_, land, made, upper, lower, rods, case_, rfl, hx, hlb, hc0, hc1, hc2, hc3, hc4, hc5, hc6⟩ := exhibitL_at (h.below hb (Nat.le_refl _)) hlt
      go_wp2_with (go_at_call 14; refine (toExhibit_any id_ land made upper lower rods case_ _).mono ?_; rintro e w2 ⟨rfl, hb2⟩; have hown2 := hown.below hb2 (Nat.le_refl _); obtain ⟨q0, q1, q2, q3, q4, q5, q6, _, hq0, hq1, hq2, hq3, hq4, hq5, hq6, hf0, hf1, hf2, hf3, hf4, hf5, hf6⟩ := exhibit_own hown2 (k := k) (by rw [length_copyTo _ _ _ hk]; exact hlt))
      go_roundw
      case rel =>
        have hs := hown2.set (k := k) (by rw [length_copyTo _ _ _ hk]; exact hlt) ⟨id_, land, made, upper, lower, rods, case_⟩
        rw [copyTo_succ l _ _ k hx] at hs
        exact ⟨k + 1, by omega, by go_num, hs.1, (hb.trans (hb2.mono hb.size)).grown hs.2 (by have := hb.size; have := hb2.size; omega) (by simp)⟩
      case measure => simp [intOf]; omega
    · obtain rfl : k = l.length := by omega
      rw [copyTo_all] at hown
      go_wp2
      go_ret
      exact ⟨_, _, rfl, hown, hb⟩

set_option maxHeartbeats 1600000 in
theorem eqExhibit_same (id_ : Int) (land : ByteArray) (made : Int) (upper : Int) (lower : Int) (rods : Int) (case_ : Int) (w : World) :
    Calls Try.prog 50 #[.agg #[.int .i64 id_, .string land, .int .i64 made, .int .i64 upper, .int .i64 lower, .int .i64 rods, .int .i64 case_], .agg #[.int .i64 id_, .string land, .int .i64 made, .int .i64 upper, .int .i64 lower, .int .i64 rods, .int .i64 case_]] w fun e w' => e = .returned (.bool true) ∧ Below w.heap.size w w' := by
  go_enter Try.func50, Try.ntmps50
  go_wp2
  go_ret
  refine ⟨rfl, ?_⟩
  repeat (first | exact Below.refl _ _ | (refine Below.setCell ?_ (by first | omega | (simp; done) | (simp; omega)) _) | (refine Below.alloc ?_ (by first | omega | (simp; done) | (simp; omega)) _) | (refine below_drewN ?_ _))

set_option maxHeartbeats 1600000 in
theorem eqExhibitS_same (A1 A2 : Option Addr) (n c1 c2 : Nat) (l : List ExhibitV) (w : World) (hn : n = l.length) (hm : n ≤ 16777216) (h1 : RdT exhibitT w A1 l) (h2 : RdT exhibitT w A2 l) :
    Calls Try.prog 24 #[.slice A1 n c1, .slice A2 n c2] w fun e w' => e = .returned (.bool true) ∧ Below w.heap.size w w' := by
  have e1 : (decide ((n : Int) = n)) = true := by simp
  go_enter Try.func24, Try.ntmps24
  go_wp2
  go_loopw [5] (fun i wr => ∃ k : Nat, k ≤ n ∧ i = .int .i64 k ∧ RdT exhibitT wr A1 l ∧ RdT exhibitT wr A2 l ∧ Below w.heap.size w wr) (fun i _ => n - (intOf i).toNat)
  case atStart => exact ⟨0, by omega, rfl, h1, h2, Below.refl _ _⟩
  case round =>
    obtain ⟨k, hk, rfl, g1, g2, hb⟩ := hrel
    clear h1 h2
    by_cases hlt : k < n
    · obtain ⟨b1, o1, id_, land, made, upper, lower, rods, case_, rfl, hx, hl1, hc0, hc1, hc2, hc3, hc4, hc5, hc6⟩ := exhibitT_at g1 (k := k) (by omega)
      obtain ⟨b2, o2, rfl, hl2, hcells⟩ := exhibitT_cells g2 (by omega)
      obtain ⟨hd0, hd1, hd2, hd3, hd4, hd5, hd6⟩ := hcells k id_ land made upper lower rods case_ hx
      clear hx hcells
      go_wp2_with fail
      go_still_tail 8, (by kernel_rfl)
      change wpList _ _ _ _ _ wr.drew
      go_wp2_with (go_at_call 50; refine (eqExhibit_same id_ land made upper lower rods case_ _).mono ?_; rintro e w2 ⟨rfl, hb2⟩)
      go_roundw
      case rel => exact ⟨k + 1, by omega, by go_num, g1.below (w := wr) (B := wr.heap.size) ((Below.refl _ _).drew.trans hb2) (Nat.le_refl _), g2.below (w := wr) (B := wr.heap.size) ((Below.refl _ _).drew.trans hb2) (Nat.le_refl _), hb.trans (((Below.refl _ _).drew.trans hb2).mono hb.size)⟩
      case measure => simp [intOf]; omega
    · go_wp2
      go_ret
      exact ⟨rfl, hb⟩

/-! ### marked, held -/
def marksExhibit (k : Int) (n : Nat) : List ExhibitV := (List.range n).map fun i => ⟨k + 7 * (i : Nat), mt (k + 7 * (i : Nat) + 1), k + 7 * (i : Nat) + 1 + 1, k + 7 * (i : Nat) + 1 + 1 + 1, k + 7 * (i : Nat) + 1 + 1 + 1 + 1, k + 7 * (i : Nat) + 1 + 1 + 1 + 1 + 1, k + 7 * (i : Nat) + 1 + 1 + 1 + 1 + 1 + 1⟩
theorem length_marksExhibit (k : Int) (n : Nat) : (marksExhibit k n).length = n := by simp [marksExhibit]
theorem marksExhibit_at (k : Int) (n i : Nat) (h : i < n) : (marksExhibit k n)[i]? = some ⟨k + 7 * i, mt (k + 7 * i + 1), k + 7 * i + 1 + 1, k + 7 * i + 1 + 1 + 1, k + 7 * i + 1 + 1 + 1 + 1, k + 7 * i + 1 + 1 + 1 + 1 + 1, k + 7 * i + 1 + 1 + 1 + 1 + 1 + 1⟩ := by simp [marksExhibit, h]
def markToExhibit (k : Int) (l : List ExhibitV) : Nat → List ExhibitV
  | 0 => l
  | i + 1 => (markToExhibit k l i).set i ⟨k + 7 * i, mt (k + 7 * i + 1), k + 7 * i + 1 + 1, k + 7 * i + 1 + 1 + 1, k + 7 * i + 1 + 1 + 1 + 1, k + 7 * i + 1 + 1 + 1 + 1 + 1, k + 7 * i + 1 + 1 + 1 + 1 + 1 + 1⟩
theorem length_markToExhibit (k : Int) (l : List ExhibitV) (i : Nat) : (markToExhibit k l i).length = l.length := by
  induction i with
  | zero => rfl
  | succ i ih => simp [markToExhibit, ih]
theorem markToExhibit_at (k : Int) (l : List ExhibitV) (i j : Nat) (hj : j < l.length) (hi : j < i) : (markToExhibit k l i)[j]? = some ⟨k + 7 * j, mt (k + 7 * j + 1), k + 7 * j + 1 + 1, k + 7 * j + 1 + 1 + 1, k + 7 * j + 1 + 1 + 1 + 1, k + 7 * j + 1 + 1 + 1 + 1 + 1, k + 7 * j + 1 + 1 + 1 + 1 + 1 + 1⟩ := by
  induction i with
  | zero => omega
  | succ i ih =>
    simp only [markToExhibit, List.getElem?_set, length_markToExhibit]
    by_cases e : i = j
    · subst e; simp [hj]
    · rw [if_neg e]; exact ih (by omega)
theorem markToExhibit_all (k : Int) (l : List ExhibitV) : markToExhibit k l l.length = marksExhibit k l.length := by
  apply List.ext_getElem?
  intro j
  by_cases hj : j < l.length
  · rw [markToExhibit_at k l _ j hj hj, marksExhibit_at k _ j hj]
  · rw [List.getElem?_eq_none (by rw [length_markToExhibit]; omega), List.getElem?_eq_none (by rw [length_marksExhibit]; omega)]

set_option maxHeartbeats 1600000 in
theorem markExhibitS_ok (base : Nat) (A : Option Addr) (c : Nat) (l : List ExhibitV) (k : Int) (w : World) (hk0 : 0 ≤ k) (hk1 : k ≤ 1073741824) (hm : l.length ≤ 16777216) (h : OwnT exhibitT w base (.slice A l.length c) l) :
    Calls Try.prog 32 #[.slice A l.length c, .int .i64 k] w fun e w' => e = .returned (.int .i64 (k + 7 * l.length)) ∧ OwnT exhibitT w' base (.slice A l.length c) (marksExhibit k l.length) ∧ w.grownBy w' (Value.slice A l.length c).ownBlock := by
  have hlow := h.lt
  go_enter Try.func32, Try.ntmps32
  go_wp2
  go_loopw [1, 5] (fun q i wr => ∃ j : Nat, j ≤ l.length ∧ i = .int .i64 j ∧ q = .int .i64 (k + 7 * j) ∧ OwnT exhibitT wr base (.slice A l.length c) (markToExhibit k l j) ∧ w.grownBy wr (Value.slice A l.length c).ownBlock) (fun _ i _ => l.length - (intOf i).toNat)
  case atStart => exact ⟨0, by omega, rfl, by go_num, h, gr_refl _ _⟩
  case round =>
    obtain ⟨j, hj, rfl, rfl, hown, hgr⟩ := hrel
    by_cases hlt : j < l.length
    · obtain ⟨g, rfl, hg, hgl⟩ := hown.head (by rw [length_markToExhibit]; omega)
      obtain ⟨q0, q1, q2, q3, q4, q5, q6, _, hc0, hc1, hc2, hc3, hc4, hc5, hc6, hf0, hf1, hf2, hf3, hf4, hf5, hf6⟩ := exhibit_own hown (k := j) (by rw [length_markToExhibit]; exact hlt)
      go_wp2_with fail
      refine (markText_any _ _ (by omega)).mono ?_
      rintro e w2 ⟨rfl, hb2⟩
      have hk : j < (markToExhibit k l j).length := by rw [length_markToExhibit]; exact hlt
      have hp := own_part_cells (us1 := [.int .i64 (k + 7 * (j : Int))]) hown hk hb2
      have hs := own_parts (us1 := [.int .i64 (k + 7 * (j : Int))]) (y := ⟨k + 7 * j, mt (k + 7 * j + 1), k + 7 * j + 1 + 1, k + 7 * j + 1 + 1 + 1, k + 7 * j + 1 + 1 + 1 + 1, k + 7 * j + 1 + 1 + 1 + 1 + 1, k + 7 * j + 1 + 1 + 1 + 1 + 1 + 1⟩) hown hk rfl hb2
      obtain ⟨z1, ez1⟩ : ∃ v, w2.cell? ⟨g, j * 7 + 1, none⟩ = some v := hp.1 1 (by decide)
      have fz1 : w2.frozen? ⟨g, j * 7 + 1, none⟩ = false := hp.2 _
      obtain ⟨z2, ez2⟩ : ∃ v, w2.cell? ⟨g, j * 7 + 2, none⟩ = some v := hp.1 2 (by decide)
      have fz2 : w2.frozen? ⟨g, j * 7 + 2, none⟩ = false := hp.2 _
      obtain ⟨z3, ez3⟩ : ∃ v, w2.cell? ⟨g, j * 7 + 3, none⟩ = some v := hp.1 3 (by decide)
      have fz3 : w2.frozen? ⟨g, j * 7 + 3, none⟩ = false := hp.2 _
      obtain ⟨z4, ez4⟩ : ∃ v, w2.cell? ⟨g, j * 7 + 4, none⟩ = some v := hp.1 4 (by decide)
      have fz4 : w2.frozen? ⟨g, j * 7 + 4, none⟩ = false := hp.2 _
      obtain ⟨z5, ez5⟩ : ∃ v, w2.cell? ⟨g, j * 7 + 5, none⟩ = some v := hp.1 5 (by decide)
      have fz5 : w2.frozen? ⟨g, j * 7 + 5, none⟩ = false := hp.2 _
      obtain ⟨z6, ez6⟩ : ∃ v, w2.cell? ⟨g, j * 7 + 6, none⟩ = some v := hp.1 6 (by decide)
      have fz6 : w2.frozen? ⟨g, j * 7 + 6, none⟩ = false := hp.2 _
      have hs1 := Lib.hid hs.1
      have hs2 := Lib.hid hs.2
      clear hs hp hown hk hc0 hc1 hc2 hc3 hc4 hc5 hc6 hf0 hf1 hf2 hf3 hf4 hf5 hf6
      go_wp2
      go_roundw
      case rel => exact ⟨j + 1, by omega, by go_num, by go_num, hs1.out, gr_trans hgr hs2.out⟩
      case measure => simp [intOf]; omega
    · obtain rfl : j = l.length := by omega
      rw [markToExhibit_all] at hown
      go_wp2
      go_ret
      exact ⟨rfl, hown, hgr⟩


set_option maxHeartbeats 1600000 in
theorem heldExhibitS_ok (A : Option Addr) (n c : Nat) (k : Int) (w : World) (hk0 : 0 ≤ k) (hk1 : k ≤ 1073741824) (hm : n ≤ 16777216) (h : RdT exhibitT w A (marksExhibit k n)) :
    Calls Try.prog 37 #[.slice A n c, .int .i64 k] w fun e w' => e = .returned (.int .i64 (k + 7 * n)) ∧ Below w.heap.size w w' := by
  go_enter Try.func37, Try.ntmps37
  go_wp2
  go_loopw [1, 5] (fun q i wr => ∃ j : Nat, j ≤ n ∧ i = .int .i64 j ∧ q = .int .i64 (k + 7 * j) ∧ RdT exhibitT wr A (marksExhibit k n) ∧ Below w.heap.size w wr) (fun _ i _ => n - (intOf i).toNat)
  case atStart => exact ⟨0, by omega, rfl, by go_num, h, Below.refl _ _⟩
  case round =>
    obtain ⟨j, hj, rfl, rfl, hr, hb⟩ := hrel
    by_cases hlt : j < n
    · obtain ⟨b1, o1, id_, land, made, upper, lower, rods, case_, rfl, hx, hlb, hc0, hc1, hc2, hc3, hc4, hc5, hc6⟩ := exhibitT_at hr (k := j) (by rw [length_marksExhibit]; exact hlt)
      have hz := hb.size
      obtain ⟨rfl, rfl, rfl, rfl, rfl, rfl, rfl⟩ : id_ = k + 7 * j ∧ land = mt (k + 7 * j + 1) ∧ made = k + 7 * j + 1 + 1 ∧ upper = k + 7 * j + 1 + 1 + 1 ∧ lower = k + 7 * j + 1 + 1 + 1 + 1 ∧ rods = k + 7 * j + 1 + 1 + 1 + 1 + 1 ∧ case_ = k + 7 * j + 1 + 1 + 1 + 1 + 1 + 1 := by
        rw [marksExhibit_at k n j hlt] at hx
        injection hx with hx
        injection hx with h1 h2 h3 h4 h5 h6 h7
        exact ⟨h1.symm, h2.symm, h3.symm, h4.symm, h5.symm, h6.symm, h7.symm⟩
      clear hx
      go_wp2_with fail
      have hq := cell_regrown hc1
      refine wp_region_quiet_below (by kernel_rfl) (by kernel_rfl) ?_
      repeat (go_big_quiet_step (((go_at_call 54; exact Calls.regrown_of (markText_any _ _ (by omega))))))
      refine wpQuiet_nil ?_
      intro w2 hw'
      have hb2 := below_of_class hw'
      clear hw'
      clear hq
      have d2 := (hb2.cell (p := ⟨b1, o1 + j * 7 + 2, none⟩) hlb).trans hc2
      have d3 := (hb2.cell (p := ⟨b1, o1 + j * 7 + 3, none⟩) hlb).trans hc3
      have d4 := (hb2.cell (p := ⟨b1, o1 + j * 7 + 4, none⟩) hlb).trans hc4
      have d5 := (hb2.cell (p := ⟨b1, o1 + j * 7 + 5, none⟩) hlb).trans hc5
      have d6 := (hb2.cell (p := ⟨b1, o1 + j * 7 + 6, none⟩) hlb).trans hc6
      clear hc0 hc1 hc2 hc3 hc4 hc5 hc6
      go_wp2
      go_roundw
      case rel => exact ⟨j + 1, by omega, by go_num, by go_num, hr.below hb2 (Nat.le_refl _), hb.trans (hb2.mono hz)⟩
      case measure => simp [intOf]; omega
    · obtain rfl : j = n := by omega
      go_wp2
      go_ret
      exact ⟨rfl, hb⟩


theorem ownExhibit_empty (w : World) (base : Nat) (hb : base ≤ w.heap.size) : OwnT exhibitT (w.alloc (.cells #[] 26)) base (.slice (some ⟨w.heap.size, 0, none⟩) 0 0) [] := World.ownsRow_lit w #[] 0 hb (by unfold maxLen; omega) rfl
/-- A call that returns a slice of its own, and whether there is one. -/
def RetExhibit (w : World) (l : List ExhibitV) (ok : Bool) (e : Ending) (w' : World) : Prop :=
  ∃ A c, e = .returned (.tuple #[.slice A l.length c, .bool ok]) ∧ OwnT exhibitT w' w.heap.size (.slice A l.length c) l ∧ Below w.heap.size w w'
end Go.Proofs.Ythoejiepaackhaa
