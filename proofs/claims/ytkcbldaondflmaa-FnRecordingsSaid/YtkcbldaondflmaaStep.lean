/-
  An append of one element as a step of a region that draws its order.
-/
import Derived.Test.YtkcbldaondflmaaTyped
namespace Go.Proofs.Ytkcbldaondflmaa
open Go.RowKit

theorem box_old {w : World} {a : Addr} {v : Value} (h : w.cell? a = some v) (o : Obj) : (w.alloc o).cell? a = some v := (World.cell?_alloc_lt w o a (World.block_lt_of_cell? w a h)).trans h
theorem step_appT {α : Type} (T : Ty α) {w w0 : World} {ops : Array Oper} {o : Oper} {a : Act} {K : Act → World → Prop} {Q : Exit → Act → World → Prop} {E : Prop} (hgd : o.guard = none) (s x : Operand)
    (ho : o.op = .call { callee := .builtin .append, args := #[s, x], argTypes := #[T.st, T.st] })
    (base : Nat) (v : Value) (l : List α) (hs : a.eval s = v) (hown : OwnT T w base v l) (B : Nat) (hB : Below B w0 w)
    (y : α) (us : Array Value) (hus : us = (T.enc y).toArray) (m c : Nat) (hx : a.eval x = .slice (some ⟨w.heap.size, 0, none⟩) m c) (hm : m = 1)
    (hlen : l.length + 1 ≤ 16777216) (hbase : base ≤ w.heap.size) (hBb : B ≤ base)
    (h : ∀ A' c' w', OwnT T w' base (.slice A' (l.length + 1) c') (l ++ [y]) → Below B w0 w' → (w.alloc (.cells us T.e)).grownBy w' v.ownBlock → K (a.put o.dst (.slice A' (l.length + 1) c')) w') :
    if Region.wanted o (yielded ops a.tmps) = true then Oper.wp Try.prog o a (w.alloc (.cells us T.e)) K Q else E := by
  obtain ⟨i0, hi, hz0, hz1, hz2⟩ := info_parts T.info
  have hby := T.hbytes
  have hzs : T.zv.cells.size = T.sz := by rw [← Array.length_toList, T.hz, T.henc]
  subst hm hus
  have hlt := hown.lt
  have hw : Region.wanted o (yielded ops a.tmps) = true := by simp [Region.wanted, hgd]
  rw [if_pos hw]
  refine wp_append_own _ s x _ ho base T.e i0 T.zv T.sz T.bytes T.hst hi hz0 hz1 hz2 hzs T.hsz v _ _ hs (World.ownsRow.alloc hown _) ⟨w.heap.size, 0, none⟩ 1 c (T.enc y) hx (by rw [T.henc, Nat.one_mul]) ?_ ?_ ?_ ?_ ?_ ?_
  · exact cells_new _ _ _
  · exact T.one y
  · unfold maxLen; omega
  · have : (l.length + 1) * T.bytes ≤ 16777216 * 256 := Nat.mul_le_mul hlen hby
    omega
  · simp; omega
  · intro v' w' hown' hgr _
    obtain ⟨A', c', rfl⟩ := own_form hown'
    refine h A' c' w' ?_ ?_ hgr
    · unfold OwnT
      rw [flat_snoc, List.length_append]
      exact hown'
    · exact (hB.alloc (by omega) _).grown hgr (by simp; omega) (fun k hk => by have := hlt k hk; omega)
theorem step_app_int {w w0 : World} {ops : Array Oper} {o : Oper} {a : Act} {K : Act → World → Prop} {Q : Exit → Act → World → Prop} {E : Prop} (hgd : o.guard = none) (s x : Operand)
    (ho : o.op = .call { callee := .builtin .append, args := #[s, x], argTypes := #[30, 30] })
    (base : Nat) (v : Value) (l : List Int) (hs : a.eval s = v) (hown : OwnI w base v l) (B : Nat) (hB : Below B w0 w)
    (y : Int) (m c : Nat) (hx : a.eval x = .slice (some ⟨w.heap.size, 0, none⟩) m c) (hm : m = 1)
    (hlen : l.length + 1 ≤ 16777216) (hbase : base ≤ w.heap.size) (hBb : B ≤ base)
    (h : ∀ A' c' w', OwnI w' base (.slice A' (l.length + 1) c') (l ++ [y]) → Below B w0 w' → (w.alloc (.cells #[.int .i64 y] 3)).grownBy w' v.ownBlock → K (a.put o.dst (.slice A' (l.length + 1) c')) w') :
    if Region.wanted o (yielded ops a.tmps) = true then Oper.wp Try.prog o a (w.alloc (.cells #[.int .i64 y] 3)) K Q else E := by
  obtain ⟨i0, hi, hz0, hz1, hz2⟩ := info_parts int_info
  subst hm
  have hlt := hown.lt
  have hw : Region.wanted o (yielded ops a.tmps) = true := by simp [Region.wanted, hgd]
  rw [if_pos hw]
  refine wp_append_own _ s x _ ho base 3 i0 (.int .i64 0) 1 8 Try.underlying30 hi hz0 hz1 hz2 rfl (by decide) v _ _ hs (World.ownsRow.alloc hown _) ⟨w.heap.size, 0, none⟩ 1 c [.int .i64 y] hx rfl ?_ ?_ ?_ ?_ ?_ ?_
  · exact cell_one_new _ _ _
  · intro u hu; simp at hu; subst hu; rfl
  · unfold maxLen; omega
  · omega
  · simp; omega
  · intro v' w' hown' hgr _
    obtain ⟨A', c', rfl⟩ := own_form hown'
    refine h A' c' w' ?_ ?_ hgr
    · unfold OwnI
      rw [ints_snoc, List.length_append]
      exact hown'
    · exact (hB.alloc (by omega) _).grown hgr (by simp; omega) (fun k hk => by have := hlt k hk; omega)
end Go.Proofs.Ytkcbldaondflmaa
