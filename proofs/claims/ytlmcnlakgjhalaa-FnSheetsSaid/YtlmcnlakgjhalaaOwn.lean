/-
  An own copy of a slice of ints: contract.
-/
import Derived.Test.YtlmcnlakgjhalaaSpread
namespace Go.Proofs.Ytlmcnlakgjhalaa
open Go.RowKit

theorem below3 {w wn w3 w4 : World} (h0 : Below w.heap.size w wn) (h1 : Below wn.drew.heap.size wn.drew w3) (h2 : Below w3.heap.size w3 w4) : Below w.heap.size w w4 := by
  have h1' : Below wn.heap.size wn w3 := (Below.refl _ _).drew.trans h1
  exact h0.trans ((h1'.trans (h2.mono h1'.size)).mono h0.size)
set_option maxHeartbeats 800000 in
theorem l1Own_any (A : Option Addr) (n c : Nat) (l : List Int) (w : World) (hn : n = l.length) (hl : l.length ≤ 1000000) (h : RdI w A l) :
    Calls Try.prog 69 #[.slice A n c] w fun e w' => ∃ A' c', e = .returned (.slice A' l.length c') ∧ OwnI w' w.heap.size (.slice A' l.length c') l ∧ Below w.heap.size w w' := by
  have hz := (Below.refl w.heap.size w).alloc (Nat.le_refl _) (.cells #[] 3)
  have he : OwnI (w.alloc (.cells #[] 3)) w.heap.size (.slice (some ⟨w.heap.size, 0, none⟩) 0 0) [] := World.ownsRow_lit w #[] 0 (Nat.le_refl _) (by unfold maxLen; omega) rfl
  have hr := h.below hz (Nat.le_refl _)
  go_enter Try.func69, Try.ntmps69
  go_wp2_with (at_builtin; refine wpList_spreadT intT rfl _ _ rfl w.heap.size _ [] rfl (own_int.2 he) w.heap.size hz A l n _ hn rfl (rd_int.2 hr) (by simp; omega) (by simp) (Nat.le_refl _) ?_; intro A1 c1 w1 ho1 hb1 hgr1)
  go_ret
  have ho2 := own_int.1 ho1
  simp only [List.length_nil, Nat.zero_add, List.nil_append] at ho2
  exact ⟨A1, c1, by simp, ho2, hb1⟩
end Go.Proofs.Ytlmcnlakgjhalaa
