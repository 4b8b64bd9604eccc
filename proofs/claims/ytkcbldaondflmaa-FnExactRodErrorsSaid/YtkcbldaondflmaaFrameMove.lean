/-
  An argument that is a slice of BeadMove, or one by value, opened.
-/
import Derived.Test.YtkcbldaondflmaaMove
import Derived.Test.YtkcbldaondflmaaFrame
namespace Go.Proofs.Ytkcbldaondflmaa
open Go.ChangeShapes Go.WideShapes Go.ChangeAt Go.RowKit

theorem dec_move {H : Type} (W : World) (enc : TypeId × Value → H) (n : Nat) (cs : List Value) (x : DataW H × List MemPlace) (h : DataW.trod enc Try.prog W 0 (fun _ => true) true n moveL.e cs = some x) : ∃ y, cs = moveL.enc y := by
  obtain ⟨xs, m, _, _, hlen, hxl, hf⟩ := DataW.trod_struct Try.underlying54 h
  have hC : Try.prog.cellsOf 54 = 3 := by kernel_rfl
  have hI : Try.prog.cellsOf 3 = 1 := by kernel_rfl
  have hl : cs.length = 3 := hlen.trans hC
  have hx : xs.length = 3 := hxl
  have h0 : DataW.trod enc Try.prog W 0 (fun _ => true) true m 3 ((cs.drop 0).take (Try.prog.cellsOf 3)) = xs[0]? := hf 0 _ rfl
  have h1 : DataW.trod enc Try.prog W 0 (fun _ => true) true m 3 ((cs.drop 1).take (Try.prog.cellsOf 3)) = xs[1]? := hf 1 _ rfl
  have h2 : DataW.trod enc Try.prog W 0 (fun _ => true) true m 3 ((cs.drop 2).take (Try.prog.cellsOf 3)) = xs[2]? := hf 2 _ rfl
  match cs, hl with
  | [u0, u1, u2], _ =>
    rw [hI] at h0 h1 h2
    simp only [List.drop_zero, List.take_succ_cons, List.take_zero, List.drop_succ_cons] at h0 h1 h2
    obtain ⟨b0, a0, _, _⟩ := DataW.trod_int Try.underlying3 (h0.trans (List.getElem?_eq_getElem (i := 0) (by omega)))
    obtain ⟨b1, a1, _, _⟩ := DataW.trod_int Try.underlying3 (h1.trans (List.getElem?_eq_getElem (i := 1) (by omega)))
    obtain ⟨b2, a2, _, _⟩ := DataW.trod_int Try.underlying3 (h2.trans (List.getElem?_eq_getElem (i := 2) (by omega)))
    simp at a0 a1 a2
    subst a0 a1 a2
    exact ⟨⟨b0, b1, b2⟩, rfl⟩

theorem open_move {H : Type} (W : World) (enc : TypeId × Value → H) {r : Reach} {b0 : Nat} {v : Value} {d : DataW H} {p : List MemPlace} (hv : Value.okWide Try.prog W r b0 54 v) (h : DataW.Trod enc Try.prog W 0 (fun _ => true) true 54 v d p) :
    ∃ x : MoveV, v = .agg #[.int .i64 x.rod, .int .i64 x.part, .int .i64 x.by_] ∧ True := by
  obtain ⟨cs, rfl, hsz⟩ := okWide_struct Try.underlying54 hv
  obtain ⟨l⟩ := cs
  have hC : Try.prog.cellsOf 54 = 3 := by kernel_rfl
  match l, hsz.trans hC with
  | [u0, u1, u2], _ =>
    obtain ⟨fuel, hf⟩ := h
    obtain ⟨y, hy⟩ := dec_move W enc fuel _ _ hf
    simp only [Value.cells, moveL] at hy
    simp at hy
    obtain ⟨rfl, rfl, rfl⟩ := hy
    exact ⟨y, rfl, trivial⟩
end Go.Proofs.Ytkcbldaondflmaa
