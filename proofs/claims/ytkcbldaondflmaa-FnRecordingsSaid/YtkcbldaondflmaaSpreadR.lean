/-
  A slice spread behind an owned row; an owned row cut at its ends: over any element type.
-/
import Derived.Test.YtkcbldaondflmaaTyped
import Derived.Test.YtkcbldaondflmaaStep
import Derived.Deep.DrawnRows
namespace Go.Proofs.Ytkcbldaondflmaa
open Go.RowKit

section
variable {P : Program}
theorem run_append_none_c {w : World} (base : Nat) (t ty e : TypeId) (i : TypeInfo) (size : Nat) (ht : P.underlying t = some (.slice e)) (hi : P.info? e = some i)
    (v : Value) (n c : Nat) (xs : List Value) (hown : w.ownsRow base e size v n xs) : (Builtin.append_ #[t, t] ty #[v, .slice none 0 c]).run P w = .ok v w := by
  rcases hown.2 with ⟨rfl, rfl⟩ | ⟨g, cap, cur, rfl, _, _, hnc, _⟩
  · simp [Builtin.append_, run_underlying ht, sizeOf, typeInfo, hi, Builtin.lenOf, Builtin.firstCells]
  · simp [Builtin.append_, run_underlying ht, sizeOf, typeInfo, hi, Builtin.lenOf, Builtin.firstCells, hnc, storeCells]
end

section
variable {α : Type} (T : Ty α)
theorem flat_take (L : List α) (k : Nat) : T.flat (L.take k) = (T.flat L).take (k * T.sz) := by
  unfold Ty.flat
  induction L generalizing k with
  | nil => simp
  | cons x L ih =>
    cases k with
    | zero => simp
    | succ k =>
      rw [List.take_succ_cons, List.flatMap_cons, List.flatMap_cons, ih, Nat.add_mul, Nat.one_mul, Nat.add_comm, List.take_append, T.henc, List.take_of_length_le (l := T.enc x) (by rw [T.henc]; omega)]
      rw [show T.sz + k * T.sz - T.sz = k * T.sz by omega]
theorem flat_drop (L : List α) (k : Nat) : T.flat (L.drop k) = (T.flat L).drop (k * T.sz) := by
  unfold Ty.flat
  induction L generalizing k with
  | nil => simp
  | cons x L ih =>
    cases k with
    | zero => simp
    | succ k =>
      rw [List.drop_succ_cons, List.flatMap_cons, ih, Nat.add_mul, Nat.one_mul, Nat.add_comm, List.drop_append, T.henc, List.drop_eq_nil_of_le (show (T.enc x).length ≤ T.sz + k * T.sz by rw [T.henc]; omega)]
      rw [show T.sz + k * T.sz - T.sz = k * T.sz by omega]; rfl
theorem flat_one (L : List α) : ∀ u ∈ T.flat L, u.oneCell' = true := by
  intro u hu
  obtain ⟨x, _, hx⟩ := List.mem_flatMap.1 hu
  exact T.one x u hx
theorem wp_spreadT {w w0 : World} {o : Oper} {a : Act} {K : Act → World → Prop} {Q : Exit → Act → World → Prop} (s x : Operand)
    (ho : o.op = .call { callee := .builtin .append, args := #[s, x], argTypes := #[T.st, T.st] })
    (base : Nat) (v : Value) (l : List α) (hs : a.eval s = v) (hown : OwnT T w base v l) (B : Nat) (hB : Below B w0 w)
    (X : Option Addr) (m : List α) (nm c : Nat) (hnm : nm = m.length) (hx : a.eval x = .slice X nm c) (hr : RdT T w X m)
    (hlen : l.length + m.length ≤ 16777216) (hbase : base ≤ w.heap.size) (hBb : B ≤ base)
    (h : ∀ A' c' w', OwnT T w' base (.slice A' (l.length + m.length) c') (l ++ m) → Below B w0 w' → w.grownBy w' v.ownBlock → K (a.put o.dst (.slice A' (l.length + m.length) c')) w') : o.wp Try.prog a w K Q := by
  obtain ⟨i0, hi, hz0, hz1, hz2⟩ := info_parts T.info
  have hby := T.hbytes
  have hzs : T.zv.cells.size = T.sz := by rw [← Array.length_toList, T.hz, T.henc]
  have hlt := hown.lt
  subst hnm
  cases X with
  | none =>
    obtain rfl : m = [] := by
      cases m with
      | nil => rfl
      | cons y m => obtain ⟨b, off, hA, _⟩ := hr.2 (by simp); cases hA
    obtain ⟨A', c', rfl⟩ := hown.form
    have hrun := run_append_none_c (P := Try.prog) base T.st o.type T.e i0 T.sz T.hst hi _ _ c _ (hown : w.ownsRow _ _ _ _ _ _)
    have := h A' c' w (by simpa using hown) hB (gr_refl _ _)
    unfold Oper.wp
    simp only [execOp, ho, resolve, invoke, builtin]
    simp [hs, hx, hrun, Result.andThen]
    simp only [List.length_nil, Nat.add_zero] at this
    exact this
  | some ad =>
    refine wp_append_own w s x _ ho base T.e i0 T.zv T.sz T.bytes T.hst hi hz0 hz1 hz2 hzs T.hsz v _ _ hs (hown : w.ownsRow _ _ _ _ _ _) ad m.length c (T.flat m) hx (flat_length T m) ?_ (flat_one T m) ?_ ?_ hbase ?_
    · intro j u hu
      have hj := (List.getElem?_eq_some_iff.1 hu).1
      rw [flat_length] at hj
      have hm : 0 < m.length := by
        rcases Nat.eq_zero_or_pos m.length with h0 | h0
        · rw [h0, Nat.zero_mul] at hj; omega
        · exact h0
      obtain ⟨b, off, hA, _, hc⟩ := hr.2 hm
      injection hA with hA
      subst hA
      rw [Addr.add_lit]
      exact hc j u hu
    · unfold maxLen; omega
    · have : (l.length + m.length) * T.bytes ≤ 16777216 * 256 := Nat.mul_le_mul hlen hby
      omega
    · intro v' w' hown' hgr _
      obtain ⟨A', c', rfl⟩ := own_form hown'
      refine h A' c' w' ?_ (hB.grown hgr (by omega) (fun k hk => by have := hlt k hk; omega)) hgr
      unfold OwnT
      rw [flat_append, List.length_append]
      exact hown'
theorem wpList_spreadT {w w0 : World} {ops : Array Oper} {rest : List Oper} {o : Oper} {a : Act} {Q : Exit → Act → World → Prop} (hgd : o.guard = none) (s x : Operand)
    (ho : o.op = .call { callee := .builtin .append, args := #[s, x], argTypes := #[T.st, T.st] })
    (base : Nat) (v : Value) (l : List α) (hs : a.eval s = v) (hown : OwnT T w base v l) (B : Nat) (hB : Below B w0 w)
    (X : Option Addr) (m : List α) (nm c : Nat) (hnm : nm = m.length) (hx : a.eval x = .slice X nm c) (hr : RdT T w X m)
    (hlen : l.length + m.length ≤ 16777216) (hbase : base ≤ w.heap.size) (hBb : B ≤ base)
    (h : ∀ A' c' w', OwnT T w' base (.slice A' (l.length + m.length) c') (l ++ m) → Below B w0 w' → w.grownBy w' v.ownBlock → wpList Try.prog ops Q rest (a.put o.dst (.slice A' (l.length + m.length) c')) w') : wpList Try.prog ops Q (o :: rest) a w :=
  wpList_plain hgd fun _ hK => wp_spreadT T s x ho base v l hs hown B hB X m nm c hnm hx hr hlen hbase hBb fun A' c' w' h1 h2 h3 => hK _ _ (h A' c' w' h1 h2 h3)
theorem step_spreadT {w w0 : World} {ops : Array Oper} {o : Oper} {a : Act} {K : Act → World → Prop} {Q : Exit → Act → World → Prop} {E : Prop} (hgd : o.guard = none) (s x : Operand)
    (ho : o.op = .call { callee := .builtin .append, args := #[s, x], argTypes := #[T.st, T.st] })
    (base : Nat) (v : Value) (l : List α) (hs : a.eval s = v) (hown : OwnT T w base v l) (B : Nat) (hB : Below B w0 w)
    (X : Option Addr) (m : List α) (nm c : Nat) (hnm : nm = m.length) (hx : a.eval x = .slice X nm c) (hr : RdT T w X m)
    (hlen : l.length + m.length ≤ 16777216) (hbase : base ≤ w.heap.size) (hBb : B ≤ base)
    (h : ∀ A' c' w', OwnT T w' base (.slice A' (l.length + m.length) c') (l ++ m) → Below B w0 w' → w.grownBy w' v.ownBlock → K (a.put o.dst (.slice A' (l.length + m.length) c')) w') :
    if Region.wanted o (yielded ops a.tmps) = true then Oper.wp Try.prog o a w K Q else E := by
  have hw : Region.wanted o (yielded ops a.tmps) = true := by simp [Region.wanted, hgd]
  rw [if_pos hw]
  exact wp_spreadT T s x ho base v l hs hown B hB X m nm c hnm hx hr hlen hbase hBb h

/-! ### a row cut at its ends -/
theorem RdT.take {w : World} {A : Option Addr} {l : List α} (h : RdT T w A l) (k : Nat) : RdT T w A (l.take k) := by
  refine ⟨flat_length T _, fun hn => ?_⟩
  obtain ⟨b, off, hA, hlt, hc⟩ := h.2 (by rw [List.length_take] at hn; omega)
  refine ⟨b, off, hA, hlt, fun j u hu => hc j u ?_⟩
  rw [flat_take] at hu
  have hj := (List.getElem?_eq_some_iff.1 hu).1
  rw [List.length_take] at hj
  rwa [List.getElem?_take_of_lt (by omega)] at hu
theorem RdT.drop {w : World} {b off : Nat} {l : List α} (h : RdT T w (some ⟨b, off, none⟩) l) (k : Nat) (X : Option Addr) (hX : k < l.length → X = some ⟨b, off + k * T.sz, none⟩) : RdT T w X (l.drop k) := by
  refine ⟨flat_length T _, fun hn => ?_⟩
  rw [List.length_drop] at hn
  obtain ⟨b', off', hA, hlt, hc⟩ := h.2 (by omega)
  injection hA with hA
  injection hA with e1 e2 _
  subst e1 e2
  refine ⟨b, off + k * T.sz, hX (by omega), hlt, fun j u hu => ?_⟩
  rw [flat_drop, List.getElem?_drop] at hu
  have := hc _ u hu
  rwa [← Nat.add_assoc] at this
theorem RdT.one {w : World} {g : Nat} {y : α} (h : ∀ j u, (T.enc y)[j]? = some u → w.cell? ⟨g, j, none⟩ = some u) : RdT T w (some ⟨g, 0, none⟩) [y] := by
  refine ⟨flat_length T _, fun _ => ?_⟩
  have h0 : ∃ u, (T.enc y)[0]? = some u := ⟨_, List.getElem?_eq_getElem (by rw [T.henc]; exact T.hsz)⟩
  obtain ⟨u0, hu0⟩ := h0
  refine ⟨g, 0, rfl, World.block_lt_of_cell? w _ (h 0 u0 hu0), fun j u hu => ?_⟩
  rw [Nat.zero_add]
  refine h j u ?_
  simpa [Ty.flat] using hu
end
end Go.Proofs.Ytkcbldaondflmaa
