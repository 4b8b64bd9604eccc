/-
  Is it a scheme: plain; contracts.
-/
import Derived.Test.YthoojcmnkhhokaaPart
import Derived.Test.YthoojcmnkhhokaaMost
namespace Go.Proofs.Ythoojcmnkhhokaa
set_option maxRecDepth 100000
open Go.RowKit

def RetN (w : World) (n : Int) (ok : Bool) (e : Ending) (w' : World) : Prop := e = .returned (.tuple #[.int .i64 n, .bool ok]) ∧ Below w.heap.size w w'
def partB (x : PartV) : Bool := wordB x.name && inB x.full 1 100 && inB x.needed 0 x.full
theorem partB_iff {x : PartV} (h : partB x = true) : wordB x.name = true ∧ (1 ≤ x.full ∧ x.full ≤ 100) ∧ (0 ≤ x.needed ∧ x.needed ≤ x.full) := by
  simp only [partB, Bool.and_eq_true, inB_iff] at h
  exact ⟨h.1.1, h.1.2, h.2⟩
def dupTo (l : List PartV) (s : ByteArray) (j : Nat) : Bool := (l.take j).any fun y => y.name.toList == s.toList
theorem dupTo_zero (l : List PartV) (s : ByteArray) : dupTo l s 0 = false := by simp [dupTo]
theorem dupTo_no {l : List PartV} {s : ByteArray} {j : Nat} {y : PartV} (h : dupTo l s j = false) (hy : l[j]? = some y) (hh : (y.name.toList == s.toList) = false) : dupTo l s (j + 1) = false := by
  unfold dupTo at *; rw [take_snoc' hy, List.any_append, h]; simp only [List.any_cons, hh, List.any_nil, Bool.or_self]
theorem dupTo_yes {l : List PartV} {s : ByteArray} {j k : Nat} {y : PartV} (hj : j < k) (hy : l[j]? = some y) (hh : (y.name.toList == s.toList) = true) : dupTo l s k = true := by
  unfold dupTo
  rw [List.any_eq_true]
  exact ⟨y, List.mem_of_getElem? (i := j) (by rw [List.getElem?_take_of_lt hj]; exact hy), hh⟩
def okP (l : List PartV) (k : Nat) : Bool := match l[k]? with
  | some x => partB x && !dupTo l x.name k
  | none => true
theorem okP_at {l : List PartV} {k : Nat} {x : PartV} (hx : l[k]? = some x) : okP l k = (partB x && !dupTo l x.name k) := by simp [okP, hx]
theorem okP_part {l : List PartV} {k : Nat} {x : PartV} (hx : l[k]? = some x) (h : partB x = false) : okP l k = false := by rw [okP_at hx, h]; rfl
theorem okP_dup {l : List PartV} {k : Nat} {x : PartV} (hx : l[k]? = some x) (h : dupTo l x.name k = true) : okP l k = false := by rw [okP_at hx, h]; simp
theorem okP_yes {l : List PartV} {k : Nat} {x : PartV} (hx : l[k]? = some x) (h : partB x = true) (h2 : dupTo l x.name k = false) : okP l k = true := by rw [okP_at hx, h, h2]; rfl
def okTo (l : List PartV) : Nat → Bool
  | 0 => true
  | k + 1 => okTo l k && okP l k
theorem okTo_zero (l : List PartV) : okTo l 0 = true := rfl
theorem okTo_succ {l : List PartV} {k : Nat} (h : okTo l k = true) (h2 : okP l k = true) : okTo l (k + 1) = true := by simp [okTo, h, h2]
theorem okTo_bad {l : List PartV} {k m : Nat} (hk : okP l k = false) (hm : k < m) : okTo l m = false := by
  induction m with
  | zero => omega
  | succ m ih =>
    simp only [okTo]
    by_cases e : k = m
    · rw [← e, hk]; simp
    · rw [ih (by omega)]; rfl
theorem okTo_all {l : List PartV} {m : Nat} (h : okTo l m = true) {k : Nat} (hk : k < m) : okP l k = true := by
  cases e : okP l k
  · rw [okTo_bad e hk] at h; cases h
  · rfl
def schB (l : List PartV) : Bool := inB (l.length : Int) 1 6 && okTo l l.length
theorem schB_bad {l : List PartV} {k : Nat} (hk : okP l k = false) (hm : k < l.length) : schB l = false := by simp [schB, okTo_bad hk hm]
theorem schB_len {l : List PartV} (h : inB (l.length : Int) 1 6 = false) : schB l = false := by simp [schB, h]
theorem schB_yes {l : List PartV} (h2 : okTo l l.length = true) : schB l = inB (l.length : Int) 1 6 := by simp [schB, h2]
theorem schB_iff {l : List PartV} (h : schB l = true) : (1 ≤ l.length ∧ l.length ≤ 6) ∧ ∀ (k : Nat) (x : PartV), l[k]? = some x → partB x = true := by
  simp only [schB, Bool.and_eq_true, inB_iff] at h
  refine ⟨by omega, fun k x hx => ?_⟩
  have := okTo_all h.2 (List.getElem?_eq_some_iff.1 hx).1
  rw [okP_at hx] at this
  simp only [Bool.and_eq_true] at this
  exact this.1
attribute [irreducible] dupTo okP okTo partB schB
theorem partB_eq (x : PartV) : partB x = (wordB x.name && inB x.full 1 100 && inB x.needed 0 x.full) := by unfold partB; rfl

set_option maxHeartbeats 8000000 in
theorem isScheme_any (A : Option Addr) (c : Nat) (l : List PartV) (w : World) (hn : l.length ≤ 16777216) (hcap : l.length ≤ c) (h : RdT partT w A l) (hok : ∀ x ∈ l, x.ok) :
    Calls Try.prog 18 #[.slice A l.length c] w fun e w' => e = .returned (.bool (schB l)) ∧ Below w.heap.size w w' := by
  cases hg0 : inB (l.length : Int) 1 6
  · rw [schB_len hg0]
    go_enter Try.func18, Try.ntmps18
    go_wp2_with (go_at_call 69; refine (within_any _ _ _ _).mono ?_; rintro e w' ⟨rfl, rfl⟩; rw [hg0])
    go_ret
    exact ⟨rfl, Below.refl _ _⟩
  · go_enter Try.func18, Try.ntmps18
    go_wp2_with (go_at_call 69; refine (within_any _ _ _ _).mono ?_; rintro e w' ⟨rfl, rfl⟩; rw [hg0])
    go_loopw [13] (fun i wr => ∃ k : Nat, k ≤ l.length ∧ i = .int .i64 k ∧ Hid (okTo l k = true) ∧ Below w.heap.size w wr) (fun i _ => l.length - (intOf i).toNat)
    case atStart => exact ⟨0, by omega, rfl, Lib.hid (okTo_zero l), Below.refl _ _⟩
    case round =>
      obtain ⟨k, hk, rfl, hall, hb⟩ := hrel
      have hz := hb.size
      by_cases hlt : k < l.length
      · obtain ⟨b, off, rfl, hlb, hcells⟩ := partT_cells (h.below hb (Nat.le_refl _)) (by omega)
        obtain ⟨⟨name, full, needed⟩, hx⟩ := get_of_lt l hlt
        obtain ⟨hc0, hc1, hc2⟩ := hcells k name full needed hx
        have hnm : name.size ≤ maxLen := by have : name.size ≤ 1048576 := hok _ (List.mem_of_getElem? hx); unfold maxLen; omega
        have HWD := Lib.hid (fun W => isWord_any name W hnm)
        have HP := Lib.hid (partB_eq ⟨name, full, needed⟩)
        have HX := Lib.hid hx
        have HC := Lib.hid hcells
        clear hx hcells hnm
        cases g0 : wordB name
        · have E := Lib.hid (schB_bad (okP_part HX.out (by rw [HP.out, g0]; rfl)) hlt)
          clear hall
          go_wp2_with (go_at_call 70; refine (HWD.out _).mono ?_; rintro e w' ⟨rfl, rfl⟩; rw [g0])
          go_ret
          exact ⟨by rw [E.out]; rfl, hb.alloc hz _⟩
        cases g1 : inB full 1 100
        · have E := Lib.hid (schB_bad (okP_part HX.out (by rw [HP.out, g0, g1]; rfl)) hlt)
          clear hall
          go_wp2_with (first | (go_at_call 70; refine (HWD.out _).mono ?_; rintro e w' ⟨rfl, rfl⟩; rw [g0]) | (go_at_call 69; refine (within_any _ _ _ _).mono ?_; rintro e w' ⟨rfl, rfl⟩; rw [g1]))
          go_ret
          exact ⟨by rw [E.out]; rfl, hb.alloc hz _⟩
        cases g2 : inB needed 0 full
        · have E := Lib.hid (schB_bad (okP_part HX.out (by rw [HP.out, g0, g1, g2]; rfl)) hlt)
          clear hall
          go_wp2_with (first | (go_at_call 70; refine (HWD.out _).mono ?_; rintro e w' ⟨rfl, rfl⟩; rw [g0]) | (go_at_call 69; refine (within_any _ _ _ _).mono ?_; rintro e w' ⟨rfl, rfl⟩; first | rw [g1] | rw [g2]))
          go_ret
          exact ⟨by rw [E.out]; rfl, hb.alloc hz _⟩
        have HPY := Lib.hid (show partB ⟨name, full, needed⟩ = true by rw [HP.out, g0, g1, g2]; rfl)
        obtain ⟨wb, hwb⟩ : ∃ wb : World, wb = wr.alloc (.cells #[.string name, .int .i64 full, .int .i64 needed] 71) := ⟨_, rfl⟩
        have hbb : Below w.heap.size w wb := by rw [hwb]; exact hb.alloc hz _
        have hw0 : wb.cell? ⟨wr.heap.size, 0, none⟩ = some (.string name) := by rw [hwb]; exact cell_of_row _ _ 0 _ _ (0, 0) (heap_alloc_new wr _)
        have hwl : wr.heap.size < wb.heap.size := by rw [hwb]; simp
        have hrr := h.below hbb (Nat.le_refl _)
        go_wp2_with (first | (go_at_call 70; refine (HWD.out _).mono ?_; rintro e w' ⟨rfl, rfl⟩; rw [g0]) | (go_at_call 69; refine (within_any _ _ _ _).mono ?_; rintro e w' ⟨rfl, rfl⟩; first | rw [g1] | rw [g2]))
        rw [← hwb]
        clear hwb hc0 hc1 hc2 HWD HP g0 g1 g2
        obtain ⟨wq, rfl⟩ : ∃ wq : World, wq = wr := ⟨_, rfl⟩
        go_loopw [40] (fun i wy => ∃ j : Nat, j ≤ k ∧ i = .int .i64 j ∧ Hid (dupTo l name j = false) ∧ Below wb.heap.size wb wy) (fun i _ => k - (intOf i).toNat)
        case atStart => exact ⟨0, by omega, rfl, Lib.hid (dupTo_zero l name), Below.refl _ _⟩
        case round =>
          obtain ⟨j, hj, rfl, hd, hby⟩ := hrel
          have hzy := hby.size
          by_cases hjk : j < k
          · obtain ⟨b', off', n2, f2, d2, hA', hy, hlb', hd0, hd1, hd2⟩ := partT_at (hrr.below hby (Nat.le_refl _)) (k := j) (by omega)
            injection hA' with hA'
            injection hA' with e1 e2 _
            subst e1 e2
            have hw1 := (hby.cell (p := ⟨wq.heap.size, 0, none⟩) hwl).trans hw0
            have hwl2 : wq.heap.size < wr.heap.size := by omega
            cases he : (n2.toList == name.toList)
            · have HD2 := Lib.hid (dupTo_no hd.out hy he)
              clear hy hd
              go_wp2
              go_roundw
              case rel => exact ⟨j + 1, by omega, by go_num, HD2, hby.alloc hzy _⟩
              case measure => simp [intOf]; omega
            · have E := Lib.hid (schB_bad (okP_dup HX.out (dupTo_yes hjk hy he)) hlt)
              clear hy hd
              go_wp2
              go_ret
              exact ⟨by rw [E.out]; rfl, hbb.trans ((hby.alloc hzy _).mono hbb.size)⟩
          · have HA2 := Lib.hid (okTo_succ hall.out (okP_yes HX.out HPY.out (by have := hd.out; rwa [show j = k by omega] at this)))
            clear hd hall
            go_wp2
            go_roundw
            case rel => exact ⟨k + 1, by omega, by go_num, HA2, hbb.trans (hby.mono hbb.size)⟩
            case measure => simp [intOf]; omega
      · obtain rfl : k = l.length := by omega
        have E := Lib.hid ((schB_yes hall.out).trans hg0)
        clear hall
        go_wp2
        go_ret
        exact ⟨by rw [E.out]; rfl, hb⟩
end Go.Proofs.Ythoojcmnkhhokaa
