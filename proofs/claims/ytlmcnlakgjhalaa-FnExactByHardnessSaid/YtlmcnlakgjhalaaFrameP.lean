/-
  An argument that is a slice of pairs, opened.
-/
import Derived.Test.YtlmcnlakgjhalaaPairs
import Derived.Test.YtlmcnlakgjhalaaFrame
namespace Go.Proofs.Ytlmcnlakgjhalaa
open Go.ChangeShapes Go.WideShapes Go.ChangeAt Go.RowKit

theorem dec_pair {H : Type} (W : World) (enc : TypeId × Value → H) (n : Nat) (cs : List Value) (x : DataW H × List MemPlace) (h : DataW.trod enc Try.prog W 0 (fun _ => true) true n pairT.e cs = some x) : ∃ y, cs = pairT.enc y := by
  obtain ⟨xs, m, _, _, hlen, _, hf⟩ := DataW.trod_array Try.underlying45 h
  have hC : Try.prog.cellsOf 45 = 2 := by kernel_rfl
  have hI : Try.prog.cellsOf 3 = 1 := by kernel_rfl
  have h0 := hf 0 (by omega)
  have h1 := hf 1 (by omega)
  have hl : cs.length = 2 := hlen.trans hC
  match cs, hl with
  | [u, v], _ =>
    rw [hI] at h0 h1
    simp only [Nat.zero_mul, Nat.one_mul, List.drop_zero, List.take_succ_cons, List.take_zero, List.drop_succ_cons] at h0 h1
    have e0 : ∃ y, DataW.trod enc Try.prog W 0 (fun _ => true) true m 3 [u] = some y := by
      cases hx : xs[0]? with
      | none => rw [List.getElem?_eq_none_iff] at hx; omega
      | some y => exact ⟨y, by rw [h0, hx]⟩
    have e1 : ∃ y, DataW.trod enc Try.prog W 0 (fun _ => true) true m 3 [v] = some y := by
      cases hx : xs[1]? with
      | none => rw [List.getElem?_eq_none_iff] at hx; omega
      | some y => exact ⟨y, by rw [h1, hx]⟩
    obtain ⟨y0, e0⟩ := e0
    obtain ⟨y1, e1⟩ := e1
    obtain ⟨a, ha, _, _⟩ := DataW.trod_int Try.underlying3 e0
    obtain ⟨b, hb, _, _⟩ := DataW.trod_int Try.underlying3 e1
    simp at ha hb
    subst ha hb
    exact ⟨(a, b), rfl⟩

end Go.Proofs.Ytlmcnlakgjhalaa
