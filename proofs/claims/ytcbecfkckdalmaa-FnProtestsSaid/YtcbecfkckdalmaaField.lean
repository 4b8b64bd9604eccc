/-
  One field of an element of an owned row stored.
-/
import Derived.Test.YtcbecfkckdalmaaTyped
namespace Go.Proofs.Ytcbecfkckdalmaa
open Go.RowKit

theorem flat_setField {α : Type} (T : Ty α) : ∀ (l : List α) (k j : Nat) (x y : α) (u : Value), l[k]? = some x → T.enc y = (T.enc x).set j u → j < T.sz → (T.flat l).set (k * T.sz + j) u = T.flat (l.set k y)
  | [], k, j, x, y, u, h, _, _ => by simp at h
  | z :: l, 0, j, x, y, u, h, he, hj => by
    simp only [List.getElem?_cons_zero, Option.some.injEq] at h
    subst h
    unfold Ty.flat
    rw [List.set_cons_zero, List.flatMap_cons, List.flatMap_cons, Nat.zero_mul, Nat.zero_add, List.set_append_left (h := by rw [T.henc]; exact hj), he]
  | z :: l, k + 1, j, x, y, u, h, he, hj => by
    simp only [List.getElem?_cons_succ] at h
    have ih := flat_setField T l k j x y u h he hj
    unfold Ty.flat at *
    rw [List.set_cons_succ, List.flatMap_cons, List.flatMap_cons, Nat.add_mul, Nat.one_mul, List.set_append_right (h := by rw [T.henc]; omega), T.henc]
    rw [show k * T.sz + T.sz + j - T.sz = k * T.sz + j by omega, ih]
theorem OwnT.setField {α : Type} {T : Ty α} {w : World} {base n c g k j : Nat} {l : List α} {x y : α} {u : Value} (h : OwnT T w base (.slice (some ⟨g, 0, none⟩) n c) l) (hx : l[k]? = some x) (he : T.enc y = (T.enc x).set j u) (hj : j < T.sz) :
    OwnT T (w.setCell ⟨g, k * T.sz + j, none⟩ u) base (.slice (some ⟨g, 0, none⟩) n c) (l.set k y) ∧ w.grownBy (w.setCell ⟨g, k * T.sz + j, none⟩ u) (some g) := by
  obtain ⟨A', c', hv⟩ := h.form
  injection hv with _ h2 h3
  subst h2 h3
  have := World.ownsRow.stored (h := (h : w.ownsRow _ _ _ _ _ _)) (k * T.sz + j) u
  refine ⟨?_, this.2⟩
  unfold OwnT
  rw [List.length_set, ← flat_setField T l k j x y u hx he hj]
  exact this.1
end Go.Proofs.Ytcbecfkckdalmaa
