/-
  Tables that are reckoned row by row: plain; a made row of ints.
-/
import Derived.Test.YtkcbldaondflmaaRecC
namespace Go.Proofs.Ytkcbldaondflmaa
open Go.RowKit

/-! ### a made row of ints -/
def intT : Ty Int where
  enc x := [.int .i64 x]
  sz := 1
  e := 3
  st := 30
  bytes := 8
  zero := 0
  zv := .int .i64 0
  henc _ := rfl
  one _ u hu := by simp at hu; subst hu; rfl
  hsz := by decide
  hz := rfl
  hst := Try.underlying30
  info := by kernel_rfl
  hbytes := by decide
theorem flat_int (l : List Int) : intT.flat l = ints l := by
  induction l with
  | nil => rfl
  | cons x l ih =>
    show intT.enc x ++ intT.flat l = Value.int .i64 x :: ints l
    rw [ih]; rfl
theorem own_int {w : World} {base : Nat} {v : Value} {l : List Int} (h : OwnT intT w base v l) : OwnI w base v l := by
  unfold OwnT at h
  rw [flat_int] at h
  exact h
theorem wpList_makeI {w w0 : World} {B : Nat} {ops : Array Oper} {rest : List Oper} {o : Oper} {a : Act} {Q : Exit → Act → World → Prop}
    (hg : o.guard = none) (lo co : Operand) (hop : o.op = Op.makeSlice 30 lo co)
    (base : Nat) (L C : Int) (n : Nat) (hl : a.eval lo = .int .i64 L) (hc : a.eval co = .int .i64 C) (hL : L = (n : Int)) (hC : C = (n : Int)) (hn : n ≤ 16777216) (hb : base ≤ w.heap.size) (hB : Below B w0 w) (hBb : B ≤ w.heap.size)
    (hK : ∀ g w', base ≤ g → g < w'.heap.size → OwnI w' base (.slice (some ⟨g, 0, none⟩) n n) (List.replicate n 0) → Below B w0 w' → Below w.heap.size w w' → wpList Try.prog ops Q rest (a.put o.dst (.slice (some ⟨g, 0, none⟩) n n)) w') :
    wpList Try.prog ops Q (o :: rest) a w := by
  refine wpList_makeT intT hg lo co hop base L C n hl hc hL hC hn hb hB hBb ?_
  intro w' hown hb' hgr
  have hlt := OwnI.lt (own_int hown) w.heap.size rfl
  exact hK w.heap.size w' hlt.1 hlt.2 (own_int hown) hb' ((Below.refl _ _).grown hgr (Nat.le_refl _) (fun k hk => by cases hk))

/-! ### plain -/
def pad (l : List Int) (n : Nat) : List Int := l ++ List.replicate n 0
theorem pad_zero (l : List Int) : pad l 0 = l := by simp [pad]
theorem pad_nil (n : Nat) : pad [0] n = List.replicate (n + 1) 0 := by simp [pad, List.replicate_succ]
theorem pad_len (l : List Int) (n : Nat) : (pad l n).length = l.length + n := by simp [pad]
theorem pad_set (l : List Int) (n : Nat) (v : Int) : (pad l (n + 1)).set l.length v = pad (l ++ [v]) n := by
  unfold pad
  rw [List.set_append_right (h := Nat.le_refl _), Nat.sub_self, List.replicate_succ, List.set_cons_zero, List.append_assoc]; rfl
theorem pad_get (l : List Int) (n j : Nat) (h : j < l.length) : (pad l n)[j]? = some (l.getD j 0) := by
  unfold pad
  rw [List.getElem?_append_left h, List.getElem?_eq_getElem h, List.getD_eq_getElem?_getD, List.getElem?_eq_getElem h]; rfl
theorem get_getD (l : List Int) (j : Nat) (h : j < l.length) : l[j]? = some (l.getD j 0) := by
  rw [List.getElem?_eq_getElem h, List.getD_eq_getElem?_getD, List.getElem?_eq_getElem h]; rfl
def dpN (f : Nat → Int → Int → Int → Int) (s : Int) (row : List Int) : Nat → List Int
  | 0 => [s]
  | k + 1 => dpN f s row k ++ [f k (row.getD k 0) (row.getD (k + 1) 0) ((dpN f s row k).getD k 0)]
theorem dpN_succ (f : Nat → Int → Int → Int → Int) (s : Int) (row : List Int) (k : Nat) : dpN f s row (k + 1) = dpN f s row k ++ [f k (row.getD k 0) (row.getD (k + 1) 0) ((dpN f s row k).getD k 0)] := rfl
theorem dpN_zero (f : Nat → Int → Int → Int → Int) (s : Int) (row : List Int) : dpN f s row 0 = [s] := rfl
theorem dpN_len (f : Nat → Int → Int → Int → Int) (s : Int) (row : List Int) (k : Nat) : (dpN f s row k).length = k + 1 := by
  induction k with
  | zero => rfl
  | succ k ih => rw [dpN_succ, List.length_append, ih]; rfl
def bnd (R : Int) (l : List Int) : Prop := ∀ x ∈ l, 0 ≤ x ∧ x ≤ R
theorem bnd_getD {R : Int} {l : List Int} (h : bnd R l) (hR : 0 ≤ R) (k : Nat) : 0 ≤ l.getD k 0 ∧ l.getD k 0 ≤ R := by
  by_cases hk : k < l.length
  · exact h _ (List.mem_of_getElem? (get_getD l k hk))
  · rw [List.getD_eq_getElem?_getD, List.getElem?_eq_none (by omega)]; exact ⟨Int.le_refl _, hR⟩
def okF (R : Int) (f : Nat → Int → Int → Int → Int) : Prop := ∀ k x y z, (0 ≤ x ∧ x ≤ R) → (0 ≤ y ∧ y ≤ R) → (0 ≤ z ∧ z ≤ R + 2) → 0 ≤ f k x y z ∧ f k x y z ≤ R + 2
theorem dpN_bd {R : Int} (hR : 0 ≤ R) {f : Nat → Int → Int → Int → Int} (hf : okF R f) {s : Int} (hs : 0 ≤ s ∧ s ≤ R + 2) {row : List Int} (hr : bnd R row) (k : Nat) : bnd (R + 2) (dpN f s row k) := by
  induction k with
  | zero => intro x hx; simp [dpN] at hx; subst hx; exact hs
  | succ k ih =>
    intro x hx
    rw [dpN_succ, List.mem_append, List.mem_singleton] at hx
    rcases hx with hx | rfl
    · exact ih x hx
    · exact hf _ _ _ _ (bnd_getD hr hR _) (bnd_getD hr hR _) (bnd_getD ih (by omega) _)
/-- The rows of the table. -/
def dpR (F : MoveV → Nat → Int → Int → Int → Int) (S : Nat → Int) (r0 : List Int) (a : List MoveV) (L : Nat) : Nat → List Int
  | 0 => r0
  | i + 1 => match a[i]? with
    | some m => dpN (F m) (S i) (dpR F S r0 a L i) L
    | none => dpR F S r0 a L i
theorem dpR_succ (F : MoveV → Nat → Int → Int → Int → Int) (S : Nat → Int) (r0 : List Int) {a : List MoveV} (L : Nat) {i : Nat} {m : MoveV} (h : a[i]? = some m) : dpR F S r0 a L (i + 1) = dpN (F m) (S i) (dpR F S r0 a L i) L := by simp [dpR, h]
theorem dpR_len (F : MoveV → Nat → Int → Int → Int → Int) (S : Nat → Int) (r0 : List Int) (a : List MoveV) (L : Nat) (h0 : r0.length = L + 1) (i : Nat) : (dpR F S r0 a L i).length = L + 1 := by
  induction i with
  | zero => exact h0
  | succ i ih =>
    simp only [dpR]
    split
    · exact dpN_len _ _ _ _
    · exact ih
theorem dpR_bd (F : MoveV → Nat → Int → Int → Int → Int) (S : Nat → Int) (r0 : List Int) (a : List MoveV) (L : Nat) (R : Int) (hR : 0 ≤ R) (hF : ∀ m T, 0 ≤ T → okF T (F m)) (hS : ∀ i, 0 ≤ S i ∧ S i ≤ R + 2 * (i : Int) + 2) (h0 : bnd R r0) (i : Nat) : bnd (R + 2 * (i : Int)) (dpR F S r0 a L i) := by
  induction i with
  | zero => intro x hx; have := h0 x hx; omega
  | succ i ih =>
    have e : R + 2 * ((i + 1 : Nat) : Int) = R + 2 * (i : Int) + 2 := by omega
    simp only [dpR]
    split
    · rw [e]
      exact dpN_bd (by omega) (hF _ _ (by omega)) (hS i) ih L
    · intro x hx
      have := ih x hx
      omega

/-! ### the moves that can be kept -/
def keptF (b : List MoveV) (m : MoveV) (k : Nat) (x y z : Int) : Int := match b[k]? with
  | some n => if sameM m n = true then max (max y z) (x + 1) else max y z
  | none => 0
theorem keptF_same {b : List MoveV} {m n : MoveV} {k : Nat} (h : b[k]? = some n) (hs : sameM m n = true) (x y z : Int) : keptF b m k x y z = max (max y z) (x + 1) := by simp [keptF, h, hs]
theorem keptF_not {b : List MoveV} {m n : MoveV} {k : Nat} (h : b[k]? = some n) (hs : sameM m n = false) (x y z : Int) : keptF b m k x y z = max y z := by simp [keptF, h, hs]
theorem keptF_ok (b : List MoveV) (m : MoveV) (R : Int) (hR : 0 ≤ R) : okF R (keptF b m) := by
  intro k x y z hx hy hz
  unfold keptF
  split
  · split <;> omega
  · omega
def keptR (a b : List MoveV) (i : Nat) : List Int := dpR (keptF b) (fun _ => 0) (List.replicate (b.length + 1) 0) a b.length i
theorem keptR_zero (a b : List MoveV) : keptR a b 0 = List.replicate (b.length + 1) 0 := rfl
theorem keptR_succ {a : List MoveV} (b : List MoveV) {i : Nat} {m : MoveV} (h : a[i]? = some m) : keptR a b (i + 1) = dpN (keptF b m) 0 (keptR a b i) b.length := dpR_succ _ _ _ _ h
theorem keptR_len (a b : List MoveV) (i : Nat) : (keptR a b i).length = b.length + 1 := dpR_len _ _ _ _ _ (by simp) i
theorem keptR_bd (a b : List MoveV) (i : Nat) : bnd (2 * (i : Int)) (keptR a b i) := by
  have := dpR_bd (keptF b) (fun _ => 0) (List.replicate (b.length + 1) 0) a b.length 0 (by omega) (fun m T hT => keptF_ok b m T hT) (fun i => by omega) (by intro x hx; rw [List.eq_of_mem_replicate hx]; omega) i
  simpa [keptR] using this
def keptV (a b : List MoveV) : Int := (keptR a b a.length).getD b.length 0
theorem keptV_bd (a b : List MoveV) : 0 ≤ keptV a b ∧ keptV a b ≤ 2 * (a.length : Int) := bnd_getD (keptR_bd a b a.length) (by omega) _
theorem cell_set_ne {w : World} {b o b' o' : Nat} {v : Value} (h : b ≠ b') : (w.setCell ⟨b, o, none⟩ v).cell? ⟨b', o', none⟩ = w.cell? ⟨b', o', none⟩ := World.cell?_setCell_far w ⟨b, o, none⟩ ⟨b', o', none⟩ v h
attribute [irreducible] dpN dpR keptF keptR keptV pad bnd
end Go.Proofs.Ytkcbldaondflmaa
