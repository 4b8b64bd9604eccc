/-
  An argument that is a slice of Part, or one by value, opened.
-/
import Derived.Test.YthoojcmnkhhokaaPart
import Derived.Test.YthoojcmnkhhokaaFrameS
import Derived.ChangeMaps5
namespace Go.Proofs.Ythoojcmnkhhokaa
set_option maxRecDepth 100000
open Go.ChangeShapes Go.WideShapes Go.ChangeAt Go.RowKit

theorem dec_part {H : Type} (W : World) (enc : TypeId × Value → H) (n : Nat) (cs : List Value) (x : DataW H × List MemPlace) (h : DataW.trod enc Try.prog W 0 (fun _ => true) true n partL.e cs = some x) : ∃ y, cs = partL.enc y ∧ y.okw := by
  obtain ⟨xs, m, _, _, hlen, hxl, hf⟩ := DataW.trod_struct Try.underlying76 h
  have hC : Try.prog.cellsOf 76 = 3 := by kernel_rfl
  have hI : Try.prog.cellsOf 3 = 1 := by kernel_rfl
  have hS : Try.prog.cellsOf 9 = 1 := by kernel_rfl
  have hl : cs.length = 3 := hlen.trans hC
  have hx : xs.length = 3 := hxl
  have h0 : DataW.trod enc Try.prog W 0 (fun _ => true) true m 9 ((cs.drop 0).take (Try.prog.cellsOf 9)) = xs[0]? := hf 0 _ rfl
  have h1 : DataW.trod enc Try.prog W 0 (fun _ => true) true m 3 ((cs.drop 1).take (Try.prog.cellsOf 3)) = xs[1]? := hf 1 _ rfl
  have h2 : DataW.trod enc Try.prog W 0 (fun _ => true) true m 3 ((cs.drop 2).take (Try.prog.cellsOf 3)) = xs[2]? := hf 2 _ rfl
  match cs, hl with
  | [u0, u1, u2], _ =>
    simp only [hI, hS] at h0 h1 h2
    simp only [List.drop_zero, List.take_succ_cons, List.take_zero, List.drop_succ_cons] at h0 h1 h2
    obtain ⟨b0, a0, _, k0⟩ := DataW.trod_string Try.underlying9 (h0.trans (List.getElem?_eq_getElem (i := 0) (by omega)))
    obtain ⟨b1, a1, _, k1⟩ := DataW.trod_int Try.underlying3 (h1.trans (List.getElem?_eq_getElem (i := 1) (by omega)))
    obtain ⟨b2, a2, _, k2⟩ := DataW.trod_int Try.underlying3 (h2.trans (List.getElem?_eq_getElem (i := 2) (by omega)))
    simp at a0 a1 a2
    subst a0 a1 a2
    exact ⟨⟨b0, b1, b2⟩, rfl, k0⟩

theorem open_part {H : Type} (W : World) (enc : TypeId × Value → H) {r : Reach} {b0 : Nat} {v : Value} {d : DataW H} {p : List MemPlace} (hv : Value.okWide Try.prog W r b0 76 v) (h : DataW.Trod enc Try.prog W 0 (fun _ => true) true 76 v d p) :
    ∃ x : PartV, v = .agg #[.string x.name, .int .i64 x.full, .int .i64 x.needed] ∧ x.okw := by
  obtain ⟨cs, rfl, hsz⟩ := okWide_struct Try.underlying76 hv
  obtain ⟨l⟩ := cs
  have hC : Try.prog.cellsOf 76 = 3 := by kernel_rfl
  match l, hsz.trans hC with
  | [u0, u1, u2], _ =>
    obtain ⟨fuel, hf⟩ := h
    obtain ⟨y, hy, ho⟩ := dec_part W enc fuel _ _ hf
    simp only [Value.cells, partL] at hy
    simp at hy
    obtain ⟨rfl, rfl, rfl⟩ := hy
    exact ⟨y, rfl, ho⟩
end Go.Proofs.Ythoojcmnkhhokaa
