/-
  Tables compared: rTable.
-/
import Derived.Test.YtcbecfkckdalmaaCurR
import Derived.Test.YtcbecfkckdalmaaIntSS
import Derived.StillTailTactics
namespace Go.Proofs.Ytcbecfkckdalmaa
open Go.RowKit

set_option maxHeartbeats 1600000 in
theorem rTable_same (A1 A2 : Option Addr) (n m c1 c2 : Nat) (ps qs : List (HdrV × List Int)) (w : World) (hn : n = ps.length) (hm : m = qs.length) (hl : n ≤ 16777216) (hpq : ps.map Prod.snd = qs.map Prod.snd) (hsm : ∀ p ∈ ps, p.2.length ≤ 16777216) (h1 : RdS w A1 ps) (h2 : RdS w A2 qs) :
    Calls Try.prog 59 #[.slice A1 n c1, .slice A2 m c2] w fun e w' => e = .returned (.bool true) ∧ Below w.heap.size w w' := by
  have hmn := rows_len hpq
  obtain rfl : n = m := by omega
  have HPQ := Lib.hid (fun k p q => rows_at hpq (k := k) (p := p) (q := q))
  clear hpq hm
  have e1 : (decide ((n : Int) = n)) = true := by simp
  go_enter Try.func59, Try.ntmps59
  go_wp2
  go_loopw [5] (fun i wr => ∃ k : Nat, k ≤ n ∧ i = .int .i64 k ∧ RdS wr A1 ps ∧ RdS wr A2 qs ∧ Below w.heap.size w wr) (fun i _ => n - (intOf i).toNat)
  case atStart => exact ⟨0, by omega, rfl, h1, h2, Below.refl _ _⟩
  case round =>
    obtain ⟨k, hk, rfl, g1, g2, hb⟩ := hrel
    clear h1 h2
    by_cases hlt : k < n
    · obtain ⟨b1, o1, A3, c3, l1, rfl, hx1, hl1, hc1, hr1⟩ := g1.at_ (k := k) (by omega)
      obtain ⟨b2, o2, A4, c4, l2, rfl, hx2, hl2, hc2, hr2⟩ := g2.at_ (k := k) (by omega)
      obtain rfl : l1 = l2 := HPQ.out k _ _ hx1 hx2
      have hs1 := hsm _ (List.mem_of_getElem? hx1)
      dsimp only at hs1
      clear hx1 hx2
      go_wp2_with fail
      go_still_tail 8, (by kernel_rfl)
      change wpList _ _ _ _ _ wr.drew
      go_wp2_with (go_at_call 58; refine (rInts_same A3 A4 _ c3 c4 l1 wr.drew rfl hs1 (by exact hr1) (by exact hr2)).mono ?_; rintro e w2 ⟨rfl, hb2⟩)
      go_roundw
      case rel => exact ⟨k + 1, by omega, by go_num, g1.below (w := wr) (B := wr.heap.size) ((Below.refl _ _).drew.trans hb2) (Nat.le_refl _), g2.below (w := wr) (B := wr.heap.size) ((Below.refl _ _).drew.trans hb2) (Nat.le_refl _), hb.trans (((Below.refl _ _).drew.trans hb2).mono hb.size)⟩
      case measure => simp [intOf]; omega
    · go_wp2
      go_ret
      exact ⟨rfl, hb⟩
end Go.Proofs.Ytcbecfkckdalmaa
