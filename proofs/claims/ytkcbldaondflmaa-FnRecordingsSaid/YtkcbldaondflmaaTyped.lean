/-
  Rows of elements of several cells (arrays, structs): reading, appending, storing, making; over any program.
-/
import Derived.Test.YtkcbldaondflmaaMem
namespace Go.Proofs.Ytkcbldaondflmaa
open Go.RowKit

/-- An element type of the program, and how a plain value is laid into cells. -/
structure Ty (α : Type) where
  enc : α → List Value
  sz : Nat
  e : TypeId
  st : TypeId
  bytes : Nat
  zero : α
  zv : Value
  henc : ∀ x, (enc x).length = sz
  one : ∀ x u, u ∈ enc x → u.oneCell' = true
  hsz : 0 < sz
  hz : zv.cells.toList = enc zero
  hst : Try.prog.underlying st = some (.slice e)
  info : (Try.prog.info? e).map (fun i => (i.zero, i.size, i.bytes)) = some (some zv, sz, bytes)
  hbytes : bytes ≤ 256

section
variable {α : Type} (T : Ty α)
def Ty.flat (l : List α) : List Value := l.flatMap T.enc
def OwnT (w : World) (base : Nat) (v : Value) (l : List α) : Prop := w.ownsRow base T.e T.sz v l.length (T.flat l)
def RdT (w : World) (A : Option Addr) (l : List α) : Prop := Rd w A l.length T.sz (T.flat l)

theorem flat_length (l : List α) : (T.flat l).length = l.length * T.sz := by
  unfold Ty.flat
  induction l with
  | nil => simp
  | cons x l ih => rw [List.flatMap_cons, List.length_append, ih, T.henc, List.length_cons, Nat.add_mul]; omega
theorem flat_snoc (l : List α) (x : α) : T.flat (l ++ [x]) = T.flat l ++ T.enc x := by simp [Ty.flat]
theorem flat_append (l m : List α) : T.flat (l ++ m) = T.flat l ++ T.flat m := by simp [Ty.flat]
theorem flat_at (l : List α) (k j : Nat) (x : α) (u : Value) (hx : l[k]? = some x) (hu : (T.enc x)[j]? = some u) : (T.flat l)[k * T.sz + j]? = some u := by
  unfold Ty.flat
  have hj : j < T.sz := by
    have := (List.getElem?_eq_some_iff.1 hu).1
    rwa [T.henc] at this
  induction l generalizing k with
  | nil => simp at hx
  | cons y l ih =>
    rw [List.flatMap_cons]
    cases k with
    | zero =>
      simp only [List.getElem?_cons_zero, Option.some.injEq] at hx
      subst hx
      rw [Nat.zero_mul, Nat.zero_add, List.getElem?_append_left (by rw [T.henc]; exact hj)]
      exact hu
    | succ k =>
      simp only [List.getElem?_cons_succ] at hx
      rw [Nat.add_mul, Nat.one_mul, List.getElem?_append_right (by rw [T.henc]; omega), T.henc]
      rw [show k * T.sz + T.sz + j - T.sz = k * T.sz + j by omega]
      exact ih k hx

variable {T} {w w' : World} {base n c : Nat} {A : Option Addr} {v : Value} {l : List α}
theorem RdT.at_ (h : RdT T w A l) {k : Nat} (hk : k < l.length) : ∃ b off x, A = some ⟨b, off, none⟩ ∧ l[k]? = some x ∧ b < w.heap.size ∧ ∀ j u, (T.enc x)[j]? = some u → w.cell? ⟨b, off + k * T.sz + j, none⟩ = some u := by
  obtain ⟨b, off, hA, hlt, hc⟩ := h.2 (by omega)
  exact ⟨b, off, l[k], hA, List.getElem?_eq_getElem hk, hlt, fun j u hu => by rw [Nat.add_assoc]; exact hc _ _ (flat_at T l k j _ u (List.getElem?_eq_getElem hk) hu)⟩
theorem RdT.below {B : Nat} (h : RdT T w A l) (hb : Below B w w') (hB : w.heap.size ≤ B) : RdT T w' A l := rd_below h hb hB
theorem RdT.nil (w : World) (A : Option Addr) : RdT T w A ([] : List α) := rd_nil _ _ _
theorem OwnT.form (h : OwnT T w base v l) : ∃ A c, v = .slice A l.length c := own_form h
theorem OwnT.rd (h : OwnT T w base (.slice A n c) l) : RdT T w A l := by
  obtain ⟨A', c', hv⟩ := h.form
  injection hv with h1 h2 h3
  subst h1 h2 h3
  exact rd_of_own h
theorem OwnT.nil (w : World) (base : Nat) : OwnT T w base (.slice none 0 0) ([] : List α) := World.ownsRow_nil _ _ _ _
theorem OwnT.drewN (h : OwnT T w base v l) (k : Nat) : OwnT T (w.drewN k) base v l := h
theorem OwnT.mono {base' : Nat} (h : OwnT T w base v l) (hb : base' ≤ base) : OwnT T w base' v l := own_mono h hb
theorem OwnT.below {B : Nat} (h : OwnT T w base v l) (hb : Below B w w') (hB : w.heap.size ≤ B) : OwnT T w' base v l := own_below h hb hB
theorem OwnT.alloc (h : OwnT T w base v l) (o : Obj) : OwnT T (w.alloc o) base v l := World.ownsRow.alloc h o
theorem OwnT.kept {row : Option Nat} (h : OwnT T w base v l) (hg : w.grownBy w' row) (hne : v.ownBlock = none ∨ v.ownBlock ≠ row) : OwnT T w' base v l := World.ownsRow.kept h hg hne
theorem OwnT.lt (h : OwnT T w base v l) : ∀ k, v.ownBlock = some k → base ≤ k ∧ k < w.heap.size := World.ownsRow.lt h
theorem OwnT.head (h : OwnT T w base (.slice A n c) l) (hn : 0 < l.length) : ∃ g, A = some ⟨g, 0, none⟩ ∧ base ≤ g ∧ g < w.heap.size := by
  rcases h.2 with ⟨h2, h3⟩ | ⟨g, cap, cur, hv, hg, hh, _⟩
  · omega
  · injection hv with hv
    exact ⟨g, hv, hg, (Array.getElem?_eq_some_iff.1 hh).1⟩
theorem OwnT.frozen {g : Nat} (h : OwnT T w base (.slice (some ⟨g, 0, none⟩) n c) l) (j : Nat) : w.frozen? ⟨g, j, none⟩ = false := by
  obtain ⟨A', c', hv⟩ := h.form
  injection hv with _ h2 h3
  subst h2 h3
  exact World.ownsRow.frozenAt (h := (h : w.ownsRow _ _ _ _ _ _)) j
/-- The cells of an element of an owned row. -/
theorem OwnT.cell {g k : Nat} {x : α} (h : OwnT T w base (.slice (some ⟨g, 0, none⟩) n c) l) (hx : l[k]? = some x) : ∀ j u, (T.enc x)[j]? = some u → w.cell? ⟨g, k * T.sz + j, none⟩ = some u := by
  intro j u hu
  have := World.ownsRow.cells h (g := g) rfl (k * T.sz + j) u (flat_at T l k j x u hx hu)
  rw [Addr.add_lit, Nat.zero_add] at this
  exact this

/-! ### storing an element -/
def setAll (xs : List Value) (off : Nat) : List Value → List Value
  | [] => xs
  | u :: us => setAll (xs.set off u) (off + 1) us
theorem setAll_append (xs ys : List Value) (us : List Value) : ∀ off, setAll (xs ++ ys) (xs.length + off) us = xs ++ setAll ys off us := by
  induction us generalizing ys with
  | nil => intro off; rfl
  | cons u us ih =>
    intro off
    simp only [setAll]
    rw [List.set_append_right (h := by omega), show xs.length + off - xs.length = off by omega, Nat.add_assoc]
    exact ih _ _
theorem setAll_zero : ∀ (us xs ys : List Value), xs.length = us.length → setAll (xs ++ ys) 0 us = us ++ ys
  | [], [], ys, _ => rfl
  | u :: us, x :: xs, ys, h => by
    simp only [setAll, List.cons_append, List.set_cons_zero, Nat.zero_add]
    have := setAll_append [u] (xs ++ ys) us 0
    simp only [List.length_singleton, Nat.add_zero, List.singleton_append] at this
    rw [this, setAll_zero us xs ys (by simpa using h)]
theorem flat_set (l : List α) (k : Nat) (y : α) (hk : k < l.length) : setAll (T.flat l) (k * T.sz) (T.enc y) = T.flat (l.set k y) := by
  unfold Ty.flat
  induction l generalizing k with
  | nil => simp at hk
  | cons x l ih =>
    cases k with
    | zero =>
      rw [List.set_cons_zero, List.flatMap_cons, List.flatMap_cons, Nat.zero_mul]
      exact setAll_zero _ _ _ (by rw [T.henc, T.henc])
    | succ k =>
      rw [List.set_cons_succ, List.flatMap_cons, List.flatMap_cons, Nat.add_mul, Nat.one_mul, Nat.add_comm]
      have := setAll_append (T.enc x) (l.flatMap T.enc) (T.enc y) (k * T.sz)
      rw [T.henc] at this
      rw [this, ih k (by simpa using hk)]
def setCells (w : World) (g off : Nat) : List Value → World
  | [] => w
  | u :: us => setCells (w.setCell ⟨g, off, none⟩ u) g (off + 1) us
theorem own_setCells {e : TypeId} {size : Nat} {g cap : Nat} : ∀ (us : List Value) (w : World) (off : Nat) (xs : List Value), w.ownsRow base e size (.slice (some ⟨g, 0, none⟩) n cap) n xs →
    (setCells w g off us).ownsRow base e size (.slice (some ⟨g, 0, none⟩) n cap) n (setAll xs off us) ∧ w.grownBy (setCells w g off us) (some g)
  | [], w, off, xs, h => ⟨h, gr_refl _ _⟩
  | u :: us, w, off, xs, h => by
    have h1 := World.ownsRow.stored h off u
    have h2 := own_setCells us _ (off + 1) _ h1.1
    exact ⟨h2.1, gr_trans h1.2 h2.2⟩
theorem OwnT.set {g k : Nat} (h : OwnT T w base (.slice (some ⟨g, 0, none⟩) n c) l) (hk : k < l.length) (y : α) :
    OwnT T (setCells w g (k * T.sz) (T.enc y)) base (.slice (some ⟨g, 0, none⟩) n c) (l.set k y) ∧ w.grownBy (setCells w g (k * T.sz) (T.enc y)) (some g) := by
  obtain ⟨A', c', hv⟩ := h.form
  injection hv with _ h2 h3
  subst h2 h3
  have := own_setCells (T.enc y) w (k * T.sz) _ (h : w.ownsRow _ _ _ _ _ _)
  refine ⟨?_, this.2⟩
  unfold OwnT
  rw [List.length_set, ← flat_set l k y hk]
  exact this.1

/-! ### make -/
theorem toList_madeCells (z : Array Value) (hz : 0 < z.size) (n : Nat) : (madeCells z (n * z.size)).toList = (List.replicate n z.toList).flatten := by
  induction n with
  | zero => simp [madeCells]
  | succ n ih =>
    rw [List.replicate_succ', List.flatten_append, ← ih]
    apply List.ext_getElem?
    intro j
    simp only [List.flatten_cons, List.flatten_nil, List.append_nil]
    by_cases hj : j < n * z.size
    · rw [List.getElem?_append_left (by simp [madeCells]; exact hj)]
      have h1 : j < (n + 1) * z.size := by rw [Nat.add_mul]; omega
      simp [madeCells, hj, h1]
    · rw [List.getElem?_append_right (by simp [madeCells]; omega)]
      by_cases h1 : j < (n + 1) * z.size
      · have h2 : j - n * z.size < z.size := by rw [Nat.add_mul] at h1; omega
        have h3 : j % z.size = j - n * z.size := by
          rw [← Nat.mod_eq_of_lt h2]
          conv => lhs; rw [show j = j - n * z.size + n * z.size by omega]
          rw [Nat.add_mul_mod_self_right]
        simp [madeCells, h1, h2, h3]
      · have h2 : ¬ j - n * z.size < z.size := by rw [Nat.add_mul] at h1; omega
        simp [madeCells, h1, h2]
theorem flat_replicate (n : Nat) : T.flat (List.replicate n T.zero) = (List.replicate n T.zv.cells.toList).flatten := by
  unfold Ty.flat
  rw [T.hz]
  induction n with
  | zero => simp
  | succ n ih => rw [List.replicate_succ, List.replicate_succ, List.flatMap_cons, List.flatten_cons, ih]

/-- 'make([]T, n)'. -/
theorem wpList_makeT {w0 : World} {B : Nat} {ops : Array Oper} {rest : List Oper} {o : Oper} {a : Act} {Q : Exit → Act → World → Prop} (T : Ty α)
    (hg : o.guard = none) (lo co : Operand) (hop : o.op = Op.makeSlice T.st lo co)
    (base : Nat) (L C : Int) (n : Nat) (hl : a.eval lo = .int .i64 L) (hc : a.eval co = .int .i64 C) (hL : L = (n : Int)) (hC : C = (n : Int)) (hn : n ≤ 16777216) (hb : base ≤ w.heap.size) (hB : Below B w0 w) (hBb : B ≤ w.heap.size)
    (hK : ∀ w', OwnT T w' base (.slice (some ⟨w.heap.size, 0, none⟩) n n) (List.replicate n T.zero) → Below B w0 w' → w.grownBy w' none → wpList Try.prog ops Q rest (a.put o.dst (.slice (some ⟨w.heap.size, 0, none⟩) n n)) w') :
    wpList Try.prog ops Q (o :: rest) a w := by
  obtain ⟨i0, hi, hz0, hz1, hz2⟩ := info_parts T.info
  have hby := T.hbytes
  have hzs : T.zv.cells.size = T.sz := by rw [← Array.length_toList, T.hz, T.henc]
  refine wpList_make_full w hg lo co T.st hop base T.e i0 T.zv T.sz T.hst hi hz0 hz1 .i64 .i64 L C n hl hc hL hC ?_ ?_ hb ?_
  · rw [hz2]
    have : T.bytes * n ≤ 256 * 16777216 := Nat.mul_le_mul hby hn
    omega
  · unfold maxLen; omega
  · intro w' hown hgr
    refine hK w' ?_ (hB.grown hgr hBb (fun k hk => by cases hk)) hgr
    unfold OwnT
    rw [List.length_replicate, flat_replicate, ← toList_madeCells _ (by rw [hzs]; exact T.hsz), hzs]
    exact hown

/-! ### append of one element that lies in a block of its own -/
theorem cells_new (w : World) (us : List Value) (e : TypeId) : ∀ j u, us[j]? = some u → (w.alloc (.cells us.toArray e)).cell? ((⟨w.heap.size, 0, none⟩ : Addr).add j) = some u := by
  intro j u hu
  rw [Addr.add_lit, Nat.zero_add, cell_of_row _ _ j us.toArray e (0, 0) (heap_alloc_new w _)]
  simpa using hu
theorem wpList_appT {w0 : World} {ops : Array Oper} {rest : List Oper} {o : Oper} {a : Act} {Q : Exit → Act → World → Prop} (T : Ty α) (hgd : o.guard = none) (s x : Operand)
    (ho : o.op = .call { callee := .builtin .append, args := #[s, x], argTypes := #[T.st, T.st] })
    (base : Nat) (v : Value) (l : List α) (hs : a.eval s = v) (hown : OwnT T w base v l) (B : Nat) (hB : Below B w0 w)
    (y : α) (us : Array Value) (hus : us = (T.enc y).toArray) (m c : Nat) (hx : a.eval x = .slice (some ⟨w.heap.size, 0, none⟩) m c) (hm : m = 1)
    (hlen : l.length + 1 ≤ 16777216) (hbase : base ≤ w.heap.size) (hBb : B ≤ base)
    (h : ∀ A' c' w', OwnT T w' base (.slice A' (l.length + 1) c') (l ++ [y]) → Below B w0 w' → (w.alloc (.cells us T.e)).grownBy w' v.ownBlock → wpList Try.prog ops Q rest (a.put o.dst (.slice A' (l.length + 1) c')) w') :
    wpList Try.prog ops Q (o :: rest) a (w.alloc (.cells us T.e)) := by
  obtain ⟨i0, hi, hz0, hz1, hz2⟩ := info_parts T.info
  have hby := T.hbytes
  have hzs : T.zv.cells.size = T.sz := by rw [← Array.length_toList, T.hz, T.henc]
  subst hm hus
  have hlt := hown.lt
  refine wpList_append_own _ hgd s x _ ho base T.e i0 T.zv T.sz T.bytes T.hst hi hz0 hz1 hz2 hzs T.hsz v _ _ hs (World.ownsRow.alloc hown _) ⟨w.heap.size, 0, none⟩ 1 c (T.enc y) hx (by rw [T.henc, Nat.one_mul]) ?_ ?_ ?_ ?_ ?_ ?_
  · exact cells_new _ _ _
  · exact T.one y
  · unfold maxLen; omega
  · have : (l.length + 1) * T.bytes ≤ 16777216 * 256 := Nat.mul_le_mul hlen hby
    omega
  · simp; omega
  · intro v' w' hown' hgr _
    obtain ⟨A', c', rfl⟩ := own_form hown'
    refine h A' c' w' ?_ ?_ hgr
    · unfold OwnT
      rw [flat_snoc, List.length_append]
      exact hown'
    · exact (hB.alloc (by omega) _).grown hgr (by simp; omega) (fun k hk => by have := hlt k hk; omega)
end

/-- The copy of a row of pairs, made element by element. -/
def copyTo {α : Type} (l : List α) (z : α) (i : Nat) : List α := l.take i ++ List.replicate (l.length - i) z
theorem length_copyTo {α : Type} (l : List α) (z : α) (i : Nat) (h : i ≤ l.length) : (copyTo l z i).length = l.length := by simp [copyTo]; omega
theorem copyTo_succ {α : Type} (l : List α) (z x : α) (i : Nat) (hx : l[i]? = some x) : (copyTo l z i).set i x = copyTo l z (i + 1) := by
  have hi : i < l.length := (List.getElem?_eq_some_iff.1 hx).1
  unfold copyTo
  rw [take_snoc' hx, List.set_append_right (h := by simp; omega)]
  have e : l.length - i = (l.length - (i + 1)) + 1 := by omega
  rw [e, List.replicate_succ, List.length_take, Nat.min_eq_left (by omega), Nat.sub_self, List.set_cons_zero]
  simp
theorem copyTo_all {α : Type} (l : List α) (z : α) : copyTo l z l.length = l := by simp [copyTo]
theorem copyTo_zero {α : Type} (l : List α) (z : α) : copyTo l z 0 = List.replicate l.length z := by simp [copyTo]

theorem hone_ints (l : List Int) : ∀ u ∈ l.map (Value.int .i64), u.oneCell' = true := by
  intro u hu
  obtain ⟨_, _, rfl⟩ := List.mem_map.1 hu
  rfl
end Go.Proofs.Ytkcbldaondflmaa
