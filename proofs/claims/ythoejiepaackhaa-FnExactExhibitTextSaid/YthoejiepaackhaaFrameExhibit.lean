/-
  An argument that is a slice of Exhibit, or one by value, opened.
-/
import Derived.Test.YthoejiepaackhaaExhibit
import Derived.Test.YthoejiepaackhaaFrameS
import Derived.ChangeMaps5
namespace Go.Proofs.Ythoejiepaackhaa
open Go.ChangeShapes Go.WideShapes Go.ChangeAt Go.RowKit

theorem dec_exhibit {H : Type} (W : World) (enc : TypeId × Value → H) (n : Nat) (cs : List Value) (x : DataW H × List MemPlace) (h : DataW.trod enc Try.prog W 0 (fun _ => true) true n exhibitL.e cs = some x) : ∃ y, cs = exhibitL.enc y ∧ y.okw := by
  obtain ⟨xs, m, _, _, hlen, hxl, hf⟩ := DataW.trod_struct Try.underlying23 h
  have hC : Try.prog.cellsOf 23 = 7 := by kernel_rfl
  have hI : Try.prog.cellsOf 3 = 1 := by kernel_rfl
  have hS : Try.prog.cellsOf 9 = 1 := by kernel_rfl
  have hl : cs.length = 7 := hlen.trans hC
  have hx : xs.length = 7 := hxl
  have h0 : DataW.trod enc Try.prog W 0 (fun _ => true) true m 3 ((cs.drop 0).take (Try.prog.cellsOf 3)) = xs[0]? := hf 0 _ rfl
  have h1 : DataW.trod enc Try.prog W 0 (fun _ => true) true m 9 ((cs.drop 1).take (Try.prog.cellsOf 9)) = xs[1]? := hf 1 _ rfl
  have h2 : DataW.trod enc Try.prog W 0 (fun _ => true) true m 3 ((cs.drop 2).take (Try.prog.cellsOf 3)) = xs[2]? := hf 2 _ rfl
  have h3 : DataW.trod enc Try.prog W 0 (fun _ => true) true m 3 ((cs.drop 3).take (Try.prog.cellsOf 3)) = xs[3]? := hf 3 _ rfl
  have h4 : DataW.trod enc Try.prog W 0 (fun _ => true) true m 3 ((cs.drop 4).take (Try.prog.cellsOf 3)) = xs[4]? := hf 4 _ rfl
  have h5 : DataW.trod enc Try.prog W 0 (fun _ => true) true m 3 ((cs.drop 5).take (Try.prog.cellsOf 3)) = xs[5]? := hf 5 _ rfl
  have h6 : DataW.trod enc Try.prog W 0 (fun _ => true) true m 3 ((cs.drop 6).take (Try.prog.cellsOf 3)) = xs[6]? := hf 6 _ rfl
  match cs, hl with
  | [u0, u1, u2, u3, u4, u5, u6], _ =>
    simp only [hI, hS] at h0 h1 h2 h3 h4 h5 h6
    simp only [List.drop_zero, List.take_succ_cons, List.take_zero, List.drop_succ_cons] at h0 h1 h2 h3 h4 h5 h6
    obtain ⟨b0, a0, _, k0⟩ := DataW.trod_int Try.underlying3 (h0.trans (List.getElem?_eq_getElem (i := 0) (by omega)))
    obtain ⟨b1, a1, _, k1⟩ := DataW.trod_string Try.underlying9 (h1.trans (List.getElem?_eq_getElem (i := 1) (by omega)))
    obtain ⟨b2, a2, _, k2⟩ := DataW.trod_int Try.underlying3 (h2.trans (List.getElem?_eq_getElem (i := 2) (by omega)))
    obtain ⟨b3, a3, _, k3⟩ := DataW.trod_int Try.underlying3 (h3.trans (List.getElem?_eq_getElem (i := 3) (by omega)))
    obtain ⟨b4, a4, _, k4⟩ := DataW.trod_int Try.underlying3 (h4.trans (List.getElem?_eq_getElem (i := 4) (by omega)))
    obtain ⟨b5, a5, _, k5⟩ := DataW.trod_int Try.underlying3 (h5.trans (List.getElem?_eq_getElem (i := 5) (by omega)))
    obtain ⟨b6, a6, _, k6⟩ := DataW.trod_int Try.underlying3 (h6.trans (List.getElem?_eq_getElem (i := 6) (by omega)))
    simp at a0 a1 a2 a3 a4 a5 a6
    subst a0 a1 a2 a3 a4 a5 a6
    exact ⟨⟨b0, b1, b2, b3, b4, b5, b6⟩, rfl, k1⟩

theorem open_exhibit {H : Type} (W : World) (enc : TypeId × Value → H) {r : Reach} {b0 : Nat} {v : Value} {d : DataW H} {p : List MemPlace} (hv : Value.okWide Try.prog W r b0 23 v) (h : DataW.Trod enc Try.prog W 0 (fun _ => true) true 23 v d p) :
    ∃ x : ExhibitV, v = .agg #[.int .i64 x.id_, .string x.land, .int .i64 x.made, .int .i64 x.upper, .int .i64 x.lower, .int .i64 x.rods, .int .i64 x.case_] ∧ x.okw := by
  obtain ⟨cs, rfl, hsz⟩ := okWide_struct Try.underlying23 hv
  obtain ⟨l⟩ := cs
  have hC : Try.prog.cellsOf 23 = 7 := by kernel_rfl
  match l, hsz.trans hC with
  | [u0, u1, u2, u3, u4, u5, u6], _ =>
    obtain ⟨fuel, hf⟩ := h
    obtain ⟨y, hy, ho⟩ := dec_exhibit W enc fuel _ _ hf
    simp only [Value.cells, exhibitL] at hy
    simp at hy
    obtain ⟨rfl, rfl, rfl, rfl, rfl, rfl, rfl⟩ := hy
    exact ⟨y, rfl, ho⟩
end Go.Proofs.Ythoejiepaackhaa
