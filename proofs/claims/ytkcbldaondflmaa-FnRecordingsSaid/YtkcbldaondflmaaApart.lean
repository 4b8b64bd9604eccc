/-
  Rows that lie apart (for seats without slices of slices).
-/
import Derived.Test.YtkcbldaondflmaaTyped
namespace Go.Proofs.Ytkcbldaondflmaa
open Go.RowKit

def ApartV (v v' : Value) : Prop := v.ownBlock = none ∨ v.ownBlock ≠ v'.ownBlock
theorem ApartV.symm {v v' : Value} (h : ApartV v v') : ApartV v' v := by
  unfold ApartV at *
  cases e : v'.ownBlock with
  | none => exact .inl rfl
  | some k =>
    right
    intro e2
    rcases h with h | h
    · rw [h] at e2; cases e2
    · exact h (by rw [e, ← e2])
theorem own_same {w w' : World} {base : Nat} {e : TypeId} {size : Nat} {v : Value} {n : Nat} {xs : List Value} (h : w.ownsRow base e size v n xs) (hs : ∀ k, v.ownBlock = some k → w'.heap[k]? = w.heap[k]?) : w'.ownsRow base e size v n xs := by
  refine ⟨h.1, ?_⟩
  rcases h.2 with h2 | ⟨g, cap, cur, rfl, hg, hh, r⟩
  · exact .inl h2
  · exact .inr ⟨g, cap, cur, rfl, hg, (hs g rfl).trans hh, r⟩
/-- Rows of different element types lie apart. -/
theorem own_apart {w : World} {base base' : Nat} {e e' : TypeId} {size size' : Nat} {v v' : Value} {n n' : Nat} {xs xs' : List Value} (h : w.ownsRow base e size v n xs) (h' : w.ownsRow base' e' size' v' n' xs') (he : e ≠ e') : ApartV v v' := by
  rcases h.2 with ⟨rfl, _⟩ | ⟨g, cap, cur, rfl, hg, hh, r⟩
  · exact .inl rfl
  · right
    rcases h'.2 with ⟨rfl, _⟩ | ⟨g', cap', cur', rfl, hg', hh', r'⟩
    · intro h; cases h
    · intro h
      injection h with h
      subst h
      rw [hh] at hh'
      injection hh' with hh'
      injection hh' with _ h2 _
      exact he h2
end Go.Proofs.Ytkcbldaondflmaa
