/-
  An argument that is a slice of Solved, or one by value, opened.
-/
import Derived.Test.YtcbecfkckdalmaaSolved
import Derived.Test.YtcbecfkckdalmaaFrame
namespace Go.Proofs.Ytcbecfkckdalmaa
open Go.ChangeShapes Go.WideShapes Go.ChangeAt Go.RowKit

theorem dec_solved {H : Type} (W : World) (enc : TypeId × Value → H) (n : Nat) (cs : List Value) (x : DataW H × List MemPlace) (h : DataW.trod enc Try.prog W 0 (fun _ => true) true n solvedL.e cs = some x) : ∃ y, cs = solvedL.enc y := by
  obtain ⟨xs, m, _, _, hlen, hxl, hf⟩ := DataW.trod_struct Try.underlying23 h
  have hC : Try.prog.cellsOf 23 = 5 := by kernel_rfl
  have hI : Try.prog.cellsOf 3 = 1 := by kernel_rfl
  have hl : cs.length = 5 := hlen.trans hC
  have hx : xs.length = 5 := hxl
  have h0 : DataW.trod enc Try.prog W 0 (fun _ => true) true m 3 ((cs.drop 0).take (Try.prog.cellsOf 3)) = xs[0]? := hf 0 _ rfl
  have h1 : DataW.trod enc Try.prog W 0 (fun _ => true) true m 3 ((cs.drop 1).take (Try.prog.cellsOf 3)) = xs[1]? := hf 1 _ rfl
  have h2 : DataW.trod enc Try.prog W 0 (fun _ => true) true m 3 ((cs.drop 2).take (Try.prog.cellsOf 3)) = xs[2]? := hf 2 _ rfl
  have h3 : DataW.trod enc Try.prog W 0 (fun _ => true) true m 3 ((cs.drop 3).take (Try.prog.cellsOf 3)) = xs[3]? := hf 3 _ rfl
  have h4 : DataW.trod enc Try.prog W 0 (fun _ => true) true m 3 ((cs.drop 4).take (Try.prog.cellsOf 3)) = xs[4]? := hf 4 _ rfl
  match cs, hl with
  | [u0, u1, u2, u3, u4], _ =>
    rw [hI] at h0 h1 h2 h3 h4
    simp only [List.drop_zero, List.take_succ_cons, List.take_zero, List.drop_succ_cons] at h0 h1 h2 h3 h4
    obtain ⟨b0, a0, _, _⟩ := DataW.trod_int Try.underlying3 (h0.trans (List.getElem?_eq_getElem (i := 0) (by omega)))
    obtain ⟨b1, a1, _, _⟩ := DataW.trod_int Try.underlying3 (h1.trans (List.getElem?_eq_getElem (i := 1) (by omega)))
    obtain ⟨b2, a2, _, _⟩ := DataW.trod_int Try.underlying3 (h2.trans (List.getElem?_eq_getElem (i := 2) (by omega)))
    obtain ⟨b3, a3, _, _⟩ := DataW.trod_int Try.underlying3 (h3.trans (List.getElem?_eq_getElem (i := 3) (by omega)))
    obtain ⟨b4, a4, _, _⟩ := DataW.trod_int Try.underlying3 (h4.trans (List.getElem?_eq_getElem (i := 4) (by omega)))
    simp at a0 a1 a2 a3 a4
    subst a0 a1 a2 a3 a4
    exact ⟨⟨b0, b1, b2, b3, b4⟩, rfl⟩

theorem open_solved {H : Type} (W : World) (enc : TypeId × Value → H) {r : Reach} {b0 : Nat} {v : Value} {d : DataW H} {p : List MemPlace} (hv : Value.okWide Try.prog W r b0 23 v) (h : DataW.Trod enc Try.prog W 0 (fun _ => true) true 23 v d p) :
    ∃ x : SolvedV, v = .agg #[.int .i64 x.pupil, .int .i64 x.heat, .int .i64 x.right, .int .i64 x.wrong, .int .i64 x.time] ∧ True := by
  obtain ⟨cs, rfl, hsz⟩ := okWide_struct Try.underlying23 hv
  obtain ⟨l⟩ := cs
  have hC : Try.prog.cellsOf 23 = 5 := by kernel_rfl
  match l, hsz.trans hC with
  | [u0, u1, u2, u3, u4], _ =>
    obtain ⟨fuel, hf⟩ := h
    obtain ⟨y, hy⟩ := dec_solved W enc fuel _ _ hf
    simp only [Value.cells, solvedL] at hy
    simp at hy
    obtain ⟨rfl, rfl, rfl, rfl, rfl⟩ := hy
    exact ⟨y, rfl, trivial⟩
end Go.Proofs.Ytcbecfkckdalmaa
