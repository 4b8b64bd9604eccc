/-
  Rising lists with the same members are the same.
-/
import Derived.Test.YthoojcmnkhhokaaPut
namespace Go.Proofs.Ythoojcmnkhhokaa
set_option maxRecDepth 100000
open Go.RowKit

theorem rise_ext : ∀ (L1 L2 : List Int), rise L1 → rise L2 → (∀ x, x ∈ L1 ↔ x ∈ L2) → L1 = L2
  | [], [], _, _, _ => rfl
  | [], b :: L2, _, _, h => by have := (h b).2 (by simp); cases this
  | a :: L1, [], _, _, h => by have := (h a).1 (by simp); cases this
  | a :: L1, b :: L2, h1, h2, h => by
    obtain ⟨h1a, h1b⟩ := List.pairwise_cons.1 h1
    obtain ⟨h2a, h2b⟩ := List.pairwise_cons.1 h2
    have e : a = b := by
      rcases List.mem_cons.1 ((h a).1 (by simp)) with e | e
      · exact e
      · rcases List.mem_cons.1 ((h b).2 (by simp)) with e2 | e2
        · exact e2.symm
        · have := h2a a e; have := h1a b e2; omega
    subst e
    rw [rise_ext L1 L2 h1b h2b (fun x => ?_)]
    constructor
    · intro hx
      rcases List.mem_cons.1 ((h x).1 (List.mem_cons_of_mem _ hx)) with e | e
      · have := h1a x hx; omega
      · exact e
    · intro hx
      rcases List.mem_cons.1 ((h x).2 (List.mem_cons_of_mem _ hx)) with e | e
      · have := h2a x hx; omega
      · exact e
end Go.Proofs.Ythoojcmnkhhokaa
