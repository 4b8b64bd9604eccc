/-
  The frame of a law whose parameter is a slice of bytes.
-/
import Derived.Test.YtkcbldaondflmaaFrame
import Derived.Test.YtkcbldaondflmaaCur
namespace Go.Proofs.Ytkcbldaondflmaa
open Go.ChangeShapes Go.WideShapes Go.ChangeAt Go.RowKit

theorem dec_byte {H : Type} (W : World) (enc : TypeId × Value → H) (n : Nat) (cs : List Value) (x : DataW H × List MemPlace) (h : DataW.trod enc Try.prog W 0 (fun _ => true) true n byteT.e cs = some x) : ∃ y, cs = byteT.enc y := by
  obtain ⟨a, rfl, _, hw⟩ := DataW.trod_int Try.underlying5 h
  simp only [Lit.wf, IntKind.min, IntKind.max, IntKind.signed, IntKind.bits, Bool.and_eq_true] at hw
  have h0 : 0 ≤ a := by simpa using hw.1
  have h1 : a ≤ 255 := by have := hw.2; simp at this; omega
  refine ⟨⟨a.toNat, by omega⟩, ?_⟩
  show [Value.int .u8 a] = [Value.int .u8 ((a.toNat : Nat) : Int)]
  rw [Int.toNat_of_nonneg h0]
end Go.Proofs.Ytkcbldaondflmaa
