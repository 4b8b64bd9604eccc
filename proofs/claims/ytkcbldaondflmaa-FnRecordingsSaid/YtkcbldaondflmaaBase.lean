/-
  Words for memory that all texts of this seat share: slices that read as lists, owned rows, one-element appends. No statement is proved here.
-/
import Derived.Test.YtkcbldaondflmaaRows
import Derived.WalkKit
import Derived.WalkSpells
import Derived.WalkLawsBesides
import Derived.Deep.QuietTactic
import Derived.BigQuiet
import Derived.Lib.Hide
import Derived.Laws.CopyOwn
import Derived.Lib.QuietBelow
namespace Go.Proofs.Ytkcbldaondflmaa
open Go.RowKit

theorem below_drewN {B : Nat} {a w : World} (h : Below B a w) (n : Nat) : Below B a (w.drewN n) := ⟨h.os, h.tape, h.output, h.size, h.block⟩
theorem own_drewN {w : World} {base : Nat} {e : TypeId} {size : Nat} {v : Value} {n : Nat} {xs : List Value} (h : w.ownsRow base e size v n xs) (k : Nat) : (w.drewN k).ownsRow base e size v n xs := h

/-- What is owned from a base on is owned from a smaller one on. -/
theorem own_mono {w : World} {base base' : Nat} {e : TypeId} {size : Nat} {v : Value} {n : Nat} {xs : List Value} (h : w.ownsRow base e size v n xs) (hb : base' ≤ base) : w.ownsRow base' e size v n xs := by
  refine ⟨h.1, ?_⟩
  rcases h.2 with h2 | ⟨g, cap, cur, hv, hg, r⟩
  · exact .inl h2
  · exact .inr ⟨g, cap, cur, hv, by omega, r⟩

/-- An owned row over a call that turns nothing below a number above it. -/
theorem own_below {w w' : World} {base B : Nat} {e : TypeId} {size : Nat} {v : Value} {n : Nat} {xs : List Value} (h : w.ownsRow base e size v n xs) (hb : Below B w w') (hB : w.heap.size ≤ B) : w'.ownsRow base e size v n xs := by
  refine ⟨h.1, ?_⟩
  rcases h.2 with h2 | ⟨g, cap, cur, hv, hg, hh, r⟩
  · exact .inl h2
  · have hlt := (Array.getElem?_eq_some_iff.1 hh).1
    exact .inr ⟨g, cap, cur, hv, hg, (hb.block g (by omega)).trans hh, r⟩

/-- The shape of an owned slice. -/
theorem own_form {w : World} {base : Nat} {e : TypeId} {size : Nat} {v : Value} {n : Nat} {xs : List Value} (h : w.ownsRow base e size v n xs) : ∃ A c, v = .slice A n c := by
  rcases h.2 with ⟨rfl, rfl⟩ | ⟨g, cap, cur, rfl, _⟩
  · exact ⟨_, _, rfl⟩
  · exact ⟨_, _, rfl⟩

/-- A slice whose cells read as a list of values; nil where there is none. -/
def Rd (w : World) (A : Option Addr) (n size : Nat) (xs : List Value) : Prop :=
  xs.length = n * size ∧ (0 < n → ∃ b off, A = some ⟨b, off, none⟩ ∧ b < w.heap.size ∧ ∀ j u, xs[j]? = some u → w.cell? ⟨b, off + j, none⟩ = some u)

theorem rd_of_own {w : World} {base : Nat} {e : TypeId} {size n c : Nat} {A : Option Addr} {xs : List Value} (h : w.ownsRow base e size (.slice A n c) n xs) : Rd w A n size xs := by
  refine ⟨h.1, fun hn => ?_⟩
  rcases h.2 with ⟨h2, h3⟩ | ⟨g, cap, cur, hv, hg, hh, _⟩
  · omega
  · injection hv with hv
    subst hv
    refine ⟨g, 0, rfl, (Array.getElem?_eq_some_iff.1 hh).1, fun j u hu => ?_⟩
    have := h.cells (g := g) rfl j u hu
    rw [Addr.add_lit] at this
    exact this

theorem rd_below {w w' : World} {B n size : Nat} {A : Option Addr} {xs : List Value} (h : Rd w A n size xs) (hb : Below B w w') (hB : w.heap.size ≤ B) : Rd w' A n size xs := by
  refine ⟨h.1, fun hn => ?_⟩
  obtain ⟨b, off, hA, hlt, hc⟩ := h.2 hn
  exact ⟨b, off, hA, Nat.lt_of_lt_of_le hlt hb.size, fun j u hu => (hb.cell (p := ⟨b, off + j, none⟩) (by show b < B; omega)).trans (hc j u hu)⟩
theorem rd_drewN {w : World} {n size : Nat} {A : Option Addr} {xs : List Value} (h : Rd w A n size xs) (k : Nat) : Rd (w.drewN k) A n size xs := h
theorem rd_nil (w : World) (A : Option Addr) (size : Nat) : Rd w A 0 size [] := ⟨by simp, fun h => absurd h (by omega)⟩

/-! ### numbers -/
def ints (l : List Int) : List Value := l.map (.int .i64)
theorem length_ints (l : List Int) : (ints l).length = l.length := List.length_map _
theorem ints_snoc (l : List Int) (x : Int) : ints (l ++ [x]) = ints l ++ [.int .i64 x] := by simp [ints]
theorem ints_at? (l : List Int) (k : Nat) : (ints l)[k]? = l[k]?.map (.int .i64) := List.getElem?_map
theorem take_snoc' {α : Type} {l : List α} {k : Nat} {x : α} (h : l[k]? = some x) : l.take (k + 1) = l.take k ++ [x] := by
  rw [List.take_add_one, h]; rfl

/-- A slice of ints reads as a list. -/
def RdI (w : World) (A : Option Addr) (l : List Int) : Prop := Rd w A l.length 1 (ints l)
/-- A slice value that owns a row of ints. -/
def OwnI (w : World) (base : Nat) (v : Value) (l : List Int) : Prop := w.ownsRow base 3 1 v l.length (ints l)

theorem RdI.at_ {w : World} {A : Option Addr} {l : List Int} (h : RdI w A l) {k : Nat} (hk : k < l.length) : ∃ b off x, A = some ⟨b, off, none⟩ ∧ l[k]? = some x ∧ b < w.heap.size ∧ w.cell? ⟨b, off + k, none⟩ = some (.int .i64 x) := by
  obtain ⟨b, off, hA, hlt, hc⟩ := h.2 (by omega)
  exact ⟨b, off, l[k], hA, List.getElem?_eq_getElem hk, hlt, hc k _ (by rw [ints_at?, List.getElem?_eq_getElem hk]; rfl)⟩
theorem OwnI.rd {w : World} {base n c : Nat} {A : Option Addr} {l : List Int} (h : OwnI w base (.slice A n c) l) : RdI w A l := by
  obtain ⟨A', c', hv⟩ := own_form h
  injection hv with h1 h2 h3
  subst h1 h2 h3
  exact rd_of_own h
theorem OwnI.form {w : World} {base : Nat} {v : Value} {l : List Int} (h : OwnI w base v l) : ∃ A c, v = .slice A l.length c := own_form h
theorem OwnI.nil (w : World) (base : Nat) : OwnI w base (.slice none 0 0) [] := World.ownsRow_nil _ _ _ _
theorem OwnI.drewN {w : World} {base : Nat} {v : Value} {l : List Int} (h : OwnI w base v l) (k : Nat) : OwnI (w.drewN k) base v l := h
theorem OwnI.mono {w : World} {base base' : Nat} {v : Value} {l : List Int} (h : OwnI w base v l) (hb : base' ≤ base) : OwnI w base' v l := own_mono h hb
theorem OwnI.below {w w' : World} {base B : Nat} {v : Value} {l : List Int} (h : OwnI w base v l) (hb : Below B w w') (hB : w.heap.size ≤ B) : OwnI w' base v l := own_below h hb hB
theorem OwnI.alloc {w : World} {base : Nat} {v : Value} {l : List Int} (h : OwnI w base v l) (o : Obj) : OwnI (w.alloc o) base v l := World.ownsRow.alloc h o
theorem RdI.below {w w' : World} {B : Nat} {A : Option Addr} {l : List Int} (h : RdI w A l) (hb : Below B w w') (hB : w.heap.size ≤ B) : RdI w' A l := rd_below h hb hB
theorem OwnI.kept {w w' : World} {base : Nat} {v : Value} {l : List Int} {row : Option Nat} (h : OwnI w base v l) (hg : w.grownBy w' row) (hne : v.ownBlock = none ∨ v.ownBlock ≠ row) : OwnI w' base v l := World.ownsRow.kept h hg hne
theorem OwnI.lt {w : World} {base : Nat} {v : Value} {l : List Int} (h : OwnI w base v l) : ∀ k, v.ownBlock = some k → base ≤ k ∧ k < w.heap.size := World.ownsRow.lt h

theorem int_info : (Try.prog.info? 3).map (fun i => (i.zero, i.size, i.bytes)) = some (some (.int .i64 0), 1, 8) := by kernel_rfl

/-- 'out = append(out, x)' of ints: the new element lies in a block of its own. -/
theorem wpList_app_int {w : World} {ops : Array Oper} {rest : List Oper} {o : Oper} {a : Act} {Q : Exit → Act → World → Prop} (hgd : o.guard = none) (s x : Operand)
    (ho : o.op = .call { callee := .builtin .append, args := #[s, x], argTypes := #[30, 30] })
    (base : Nat) (v : Value) (l : List Int) (hs : a.eval s = v) (hown : OwnI w base v l) (B : Nat) (w0 : World) (hB : Below B w0 w)
    (y : Int) (m c : Nat) (hx : a.eval x = .slice (some ⟨w.heap.size, 0, none⟩) m c) (hm : m = 1)
    (hlen : l.length + 1 ≤ 16777216) (hbase : base ≤ w.heap.size) (hBb : B ≤ base)
    (h : ∀ A' c' w', OwnI w' base (.slice A' (l.length + 1) c') (l ++ [y]) → Below B w0 w' → (w.alloc (.cells #[.int .i64 y] 3)).grownBy w' v.ownBlock → wpList Try.prog ops Q rest (a.put o.dst (.slice A' (l.length + 1) c')) w') :
    wpList Try.prog ops Q (o :: rest) a (w.alloc (.cells #[.int .i64 y] 3)) := by
  obtain ⟨i0, hi, hz0, hz1, hz2⟩ := info_parts int_info
  subst hm
  have hlt := hown.lt
  refine wpList_append_own _ hgd s x _ ho base 3 i0 (.int .i64 0) 1 8 Try.underlying30 hi hz0 hz1 hz2 rfl (by decide) v _ _ hs (World.ownsRow.alloc hown _) ⟨w.heap.size, 0, none⟩ 1 c [.int .i64 y] hx rfl ?_ ?_ ?_ ?_ ?_ ?_
  · exact cell_one_new _ _ _
  · intro u hu; simp at hu; subst hu; rfl
  · unfold maxLen; omega
  · omega
  · simp; omega
  · intro v' w' hown' hgr _
    obtain ⟨A', c', rfl⟩ := own_form hown'
    refine h A' c' w' ?_ ?_ hgr
    · unfold OwnI
      rw [ints_snoc, List.length_append]
      exact hown'
    · exact (hB.alloc (by omega) _).grown hgr (by simp; omega) (fun k hk => by have := hlt k hk; omega)

/-- An owned row of ints, seen as a list of cells in one block. -/
theorem OwnI.cell {w : World} {base n c g : Nat} {l : List Int} (h : OwnI w base (.slice (some ⟨g, 0, none⟩) n c) l) {k : Nat} {x : Int} (hk : l[k]? = some x) : w.cell? ⟨g, k, none⟩ = some (.int .i64 x) := by
  have := World.ownsRow.cells h (g := g) rfl k (.int .i64 x) (by rw [ints_at?, hk]; rfl)
  rw [Addr.add_lit, Nat.zero_add] at this
  exact this

/-! ### tests -/
def inB (n lo hi : Int) : Bool := decide (lo ≤ n) && decide (n ≤ hi)
theorem inB_iff (n lo hi : Int) : inB n lo hi = true ↔ lo ≤ n ∧ n ≤ hi := by simp [inB]
theorem inB_not (n lo hi : Int) : inB n lo hi = false ↔ ¬ (lo ≤ n ∧ n ≤ hi) := by simp [inB]

theorem same_symm {P : Program} {f : FuncId} {args : Array Value} {w : World} {v : Value} (h : Calls P f args w fun e w' => e = .returned v ∧ w = w') : Calls P f args w fun e w' => e = .returned v ∧ w' = w :=
  h.mono fun _ _ ⟨a, b⟩ => ⟨a, b.symm⟩
theorem results_tmp4 {fn : Func} {t u v x : Tmp} (h : fn.results = #[.tmp t, .tmp u, .tmp v, .tmp x]) (tmps : Array Value) (P : Program) (w : World) :
    (results fn tmps).run P w = .ok (.tuple #[tmps.getD t undef, tmps.getD u undef, tmps.getD v undef, tmps.getD x undef]) w := by simp [results, h]
/-- Behind a call that was made in a world with one new box: the old cells, and the box's own. -/
theorem box_cells {w w2 : World} {cs : Array Value} {t : TypeId} (hb : Below (w.alloc (.cells cs t)).heap.size (w.alloc (.cells cs t)) w2) :
    (∀ b o, b < w.heap.size → w2.cell? ⟨b, o, none⟩ = w.cell? ⟨b, o, none⟩) ∧ (∀ o, w2.cell? ⟨w.heap.size, o, none⟩ = cs[o]?) := by
  have hs : (w.alloc (.cells cs t)).heap.size = w.heap.size + 1 := by simp
  refine ⟨fun b o h => ?_, fun o => ?_⟩
  · rw [hb.cell (p := ⟨b, o, none⟩) (by rw [hs]; exact Nat.lt_succ_of_lt h)]
    exact World.cell?_of_block (heap_alloc_old w _ h)
  · rw [hb.cell (p := ⟨w.heap.size, o, none⟩) (by rw [hs]; exact Nat.lt_succ_self _)]
    exact cell_of_row _ _ o cs t (0, 0) (heap_alloc_new w _)
theorem below_of_class {w w' : World} (h : ∃ p : Regrown, w' = Go.Sort.grow (redrawn w p.d) p.os) : Below w.heap.size w w' := by
  obtain ⟨p, rfl⟩ := h
  exact below_regrown _ _ _
end Go.Proofs.Ytkcbldaondflmaa
