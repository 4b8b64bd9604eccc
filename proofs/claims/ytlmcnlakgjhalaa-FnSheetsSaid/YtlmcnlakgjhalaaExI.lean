/-
  SheetCarries, of the program and of the reference: contracts.
-/
import Derived.Test.YtlmcnlakgjhalaaExH
namespace Go.Proofs.Ytlmcnlakgjhalaa
open Go.RowKit

def carP (x : Int × Int) : Int := (cols x.1 x.2 4).length
def carV (l : List (Int × Int)) : Int := if sheetB l = true then sumTo carP l l.length else 0
theorem carV_yes {l : List (Int × Int)} (h : sheetB l = true) : carV l = sumTo carP l l.length := if_pos h
theorem carV_no {l : List (Int × Int)} (h : sheetB l = false) : carV l = 0 := if_neg (by simp [h])

set_option maxHeartbeats 800000 in
theorem sheetCarriesI_any (A : Option Addr) (c : Nat) (l : List (Int × Int)) (w : World) (hn : l.length ≤ 16777216) (h : RdT pairT w A l) :
    Calls Try.prog 37 #[.slice A l.length c] w (RetN w (carV l) (sheetB l)) := by
  cases hs : sheetB l
  · rw [carV_no hs]
    go_enter Try.func37, Try.ntmps37
    go_wp2_with (go_at_call 66; refine (isSheet_any A _ l _ hn h).mono ?_; rintro e w1 ⟨rfl, hb1⟩)
    go_ret2
    exact ⟨rfl, hb1⟩
  · rw [carV_yes hs]
    obtain ⟨h12, hbd⟩ := sheetB_iff hs
    have hsb := sumTo_bd carP 4 l (fun x _ => by have := cols_len x.1 x.2 4; unfold carP; omega)
    go_enter Try.func37, Try.ntmps37
    go_wp2_with (go_at_call 66; refine (isSheet_any A _ l _ hn h).mono ?_; rintro e w1 ⟨rfl, hb1⟩)
    go_loopw [4, 12] (fun t i wr => ∃ k : Nat, k ≤ l.length ∧ i = .int .i64 k ∧ t = .int .i64 (sumTo carP l k) ∧ RdT pairT wr A l ∧ Below w.heap.size w wr) (fun _ i _ => l.length - (intOf i).toNat)
    case atStart => exact ⟨0, by omega, rfl, by rw [sumTo_zero], h.below hb1 (Nat.le_refl _), hb1⟩
    case round =>
      obtain ⟨k, hk, rfl, rfl, hr, hb⟩ := hrel
      have hz := hb.size
      have hsk := hsb k
      by_cases hlt : k < l.length
      · obtain ⟨b, off, p, q, rfl, hx, _, hc1, hc2⟩ := pair_at hr hlt
        have hpq := hbd k p q hx
        have E := Lib.hid (sumTo_succ carP hx)
        have hcol := fun W => carry_any p q W (by omega) (by omega) (by omega) (by omega)
        have hll := cols_len p q 4
        have e : carP (p, q) = (cols p q 4).length := rfl
        have E2 := Lib.hid e
        clear hx e
        generalize cols p q 4 = m at *
        have HC := Lib.hid hcol
        clear hcol
        go_wp2_with (go_at_call 56; refine (HC.out _).mono ?_; rintro e w3 ⟨A1, c1, rfl, hown1, hb3⟩)
        go_roundw
        case rel => exact ⟨k + 1, by omega, by go_num, by rw [E.out, E2.out], hr.below ((Below.refl _ _).alloc (Nat.le_refl _) _ |>.trans (hb3.mono (by simp))) (Nat.le_refl _), (hb.alloc hz _).trans (hb3.mono (by simp; omega))⟩
        case measure => simp [intOf]; omega
      · obtain rfl : k = l.length := by omega
        go_wp2
        go_ret2
        exact ⟨rfl, hb⟩

set_option maxHeartbeats 800000 in
theorem sheetCarriesS_any (A : Option Addr) (c : Nat) (l : List (Int × Int)) (w : World) (hn : l.length ≤ 16777216) (h : RdT pairT w A l) :
    Calls Try.prog 36 #[.slice A l.length c] w (RetN w (carV l) (sheetB l)) := by
  cases hs : sheetB l
  · rw [carV_no hs]
    go_enter Try.func36, Try.ntmps36
    go_wp2_with (go_at_call 64; refine (l20Sheet_any A _ l _ hn h).mono ?_; rintro e w1 ⟨rfl, hb1⟩)
    go_ret2
    exact ⟨rfl, hb1⟩
  · rw [carV_yes hs]
    obtain ⟨h12, hbd⟩ := sheetB_iff hs
    have hsb := sumTo_bd carP 4 l (fun x _ => by have := cols_len x.1 x.2 4; unfold carP; omega)
    go_enter Try.func36, Try.ntmps36
    go_wp2_with (go_at_call 64; refine (l20Sheet_any A _ l _ hn h).mono ?_; rintro e w1 ⟨rfl, hb1⟩)
    go_loopw [4, 5] (fun t i wr => ∃ k : Nat, k ≤ l.length ∧ i = .int .i64 k ∧ t = .int .i64 (sumTo carP l k) ∧ RdT pairT wr A l ∧ Below w.heap.size w wr) (fun _ i _ => l.length - (intOf i).toNat)
    case atStart => exact ⟨0, by omega, rfl, by rw [sumTo_zero], h.below hb1 (Nat.le_refl _), hb1⟩
    case round =>
      obtain ⟨k, hk, rfl, rfl, hr, hb⟩ := hrel
      have hz := hb.size
      have hsk := hsb k
      by_cases hlt : k < l.length
      · obtain ⟨b, off, p, q, rfl, hx, hlb, hc1, hc2⟩ := pair_at hr hlt
        have hpq := hbd k p q hx
        have E := Lib.hid (sumTo_succ carP hx)
        have hcol := fun W => columns_any p q W (by omega) (by omega) (by omega) (by omega)
        have hll := cols_len p q 4
        have e : carP (p, q) = (cols p q 4).length := rfl
        have E2 := Lib.hid e
        clear hx e
        generalize cols p q 4 = m at *
        have HC := Lib.hid hcol
        clear hcol
        go_wp2_with fail
        go_region_held3 (fun wx => wx.cell? ⟨b, off + k * 2, none⟩ = some (.int .i64 p) ∧ wx.cell? ⟨b, off + k * 2 + 1, none⟩ = some (.int .i64 q)) (go_keep) (first | (go_at_call 53; refine (HC.out _).mono ?_; rintro e w3 ⟨A1, c1, rfl, hown1, hb3⟩; have hcc : ∀ o, w3.cell? ⟨b, o, none⟩ = wr.cell? ⟨b, o, none⟩ := fun o => hb3.cell (p := ⟨b, o, none⟩) hlb))
        go_wp2
        have hb3' : Below wr.heap.size wr w3 := (Below.refl _ _).drew.trans hb3
        go_roundw
        case rel => exact ⟨k + 1, by omega, by go_num, by rw [E.out, E2.out, IntWalk.i64_in _ (by omega)], hr.below hb3' (Nat.le_refl _), hb.trans (hb3'.mono hz)⟩
        case measure => simp [intOf]; omega
      · obtain rfl : k = l.length := by omega
        go_wp2
        go_ret2
        exact ⟨rfl, hb⟩
end Go.Proofs.Ytlmcnlakgjhalaa
