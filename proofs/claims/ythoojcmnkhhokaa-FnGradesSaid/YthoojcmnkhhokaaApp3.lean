/-
  Helpers for three appends in one region: rows new and empty, rows of one.
-/
import Derived.Test.YthoojcmnkhhokaaSpread
import Derived.Deep.RegionHeld3
import Derived.Deep.AppendLies
import Derived.Deep.DrawnRows
namespace Go.Proofs.Ythoojcmnkhhokaa
set_option maxRecDepth 100000
open Go.RowKit

theorem RdT.gr3 {α : Type} {T : Ty α} {w w' : World} {row : Option Nat} {A : Option Addr} {l : List α} (h : RdT T w A l) (hg : w.grownBy w' row) (hne : 0 < l.length → ∀ b off, A = some ⟨b, off, none⟩ → some b ≠ row) : RdT T w' A l := by
  refine ⟨h.1, fun hn => ?_⟩
  obtain ⟨b, off, hA, hlt, hc⟩ := h.2 hn
  exact ⟨b, off, hA, Nat.lt_of_lt_of_le hlt hg.size, fun j u hu => (hg.cell_far _ hlt (hne hn b off hA)).trans (hc j u hu)⟩
theorem oneT_new {α : Type} (T : Ty α) (W : World) (y : α) (us : Array Value) (hus : us = (T.enc y).toArray) : RdT T (W.alloc (.cells us T.e)) (some ⟨W.heap.size, 0, none⟩) [y] :=
  RdT.one T (y := y) (fun j u hu => by
    subst hus
    have h := cells_new W (T.enc y) T.e j u hu
    rwa [show (⟨W.heap.size, 0, none⟩ : Addr).add j = ⟨W.heap.size, j, none⟩ by unfold Addr.add; by_cases e : j = 0 <;> simp [e]] at h)
theorem oneT_new2 {α : Type} (T : Ty α) (W : World) (o : Obj) (y : α) (us : Array Value) (hus : us = (T.enc y).toArray) : RdT T ((W.alloc o).alloc (.cells us T.e)) (some ⟨W.heap.size + 1, 0, none⟩) [y] := by
  have h := oneT_new T (W.alloc o) y us hus
  rwa [show (W.alloc o).heap.size = W.heap.size + 1 by simp] at h
theorem oneT_new3 {α : Type} (T : Ty α) (W : World) (o : Obj) (y : α) (us : Array Value) (hus : us = (T.enc y).toArray) : RdT T ((W.alloc (.cells us T.e)).alloc o).drew (some ⟨W.heap.size, 0, none⟩) [y] :=
  (oneT_new T W y us hus).below (((Below.refl _ _).alloc (Nat.le_refl _) o).drew) (Nat.le_refl _)
theorem ownT_e0 {α : Type} (T : Ty α) (W : World) (base : Nat) (hb : base ≤ W.heap.size) : OwnT T (W.alloc (.cells #[] T.e)) base (.slice (some ⟨W.heap.size, 0, none⟩) 0 0) [] :=
  World.ownsRow_lit W #[] 0 hb (by unfold maxLen; omega) (by simp)
theorem ownT_e02 {α : Type} (T : Ty α) (W : World) (o : Obj) (base : Nat) (hb : base ≤ W.heap.size + 1) : OwnT T ((W.alloc o).alloc (.cells #[] T.e)) base (.slice (some ⟨W.heap.size + 1, 0, none⟩) 0 0) [] := by
  have h := ownT_e0 T (W.alloc o) base (by simp; omega)
  rwa [show (W.alloc o).heap.size = W.heap.size + 1 by simp] at h
end Go.Proofs.Ythoojcmnkhhokaa
