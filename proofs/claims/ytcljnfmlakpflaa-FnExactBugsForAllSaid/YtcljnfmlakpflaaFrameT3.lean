/-
  An argument that is a slice of triples, opened.
-/
import Derived.Test.YtcljnfmlakpflaaTriples
import Derived.Test.YtcljnfmlakpflaaFrame
namespace Go.Proofs.Ytcljnfmlakpflaa
open Go.ChangeShapes Go.WideShapes Go.ChangeAt Go.RowKit

theorem dec_trip {H : Type} (W : World) (enc : TypeId × Value → H) (n : Nat) (cs : List Value) (xx : DataW H × List MemPlace) (h : DataW.trod enc Try.prog W 0 (fun _ => true) true n tripT.e cs = some xx) : ∃ y, cs = tripT.enc y := by
  obtain ⟨xs, m, _, _, hlen, _, hf⟩ := DataW.trod_array Try.underlying54 h
  have hC : Try.prog.cellsOf 54 = 3 := by kernel_rfl
  have hI : Try.prog.cellsOf 3 = 1 := by kernel_rfl
  have h0 := hf 0 (by omega)
  have h1 := hf 1 (by omega)
  have h2 := hf 2 (by omega)
  have hl : cs.length = 3 := hlen.trans hC
  match cs, hl with
  | [u, v, x], _ =>
    rw [hI] at h0 h1 h2
    simp only [Nat.mul_one, List.drop_zero, List.take_succ_cons, List.take_zero, List.drop_succ_cons] at h0 h1 h2
    have e0 : ∃ y, DataW.trod enc Try.prog W 0 (fun _ => true) true m 3 [u] = some y := by
      cases hx : xs[0]? with
      | none => rw [List.getElem?_eq_none_iff] at hx; omega
      | some y => exact ⟨y, by rw [h0, hx]⟩
    have e1 : ∃ y, DataW.trod enc Try.prog W 0 (fun _ => true) true m 3 [v] = some y := by
      cases hx : xs[1]? with
      | none => rw [List.getElem?_eq_none_iff] at hx; omega
      | some y => exact ⟨y, by rw [h1, hx]⟩
    have e2 : ∃ y, DataW.trod enc Try.prog W 0 (fun _ => true) true m 3 [x] = some y := by
      cases hx : xs[2]? with
      | none => rw [List.getElem?_eq_none_iff] at hx; omega
      | some y => exact ⟨y, by rw [h2, hx]⟩
    obtain ⟨y0, e0⟩ := e0
    obtain ⟨y1, e1⟩ := e1
    obtain ⟨y2, e2⟩ := e2
    obtain ⟨a, ha, _, _⟩ := DataW.trod_int Try.underlying3 e0
    obtain ⟨b, hb, _, _⟩ := DataW.trod_int Try.underlying3 e1
    obtain ⟨c, hc, _, _⟩ := DataW.trod_int Try.underlying3 e2
    simp at ha hb hc
    subst ha hb hc
    exact ⟨(a, b, c), rfl⟩

end Go.Proofs.Ytcljnfmlakpflaa
