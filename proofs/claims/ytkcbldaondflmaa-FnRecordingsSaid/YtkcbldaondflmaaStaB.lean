/-
  A row that is drawn, with its cursor.
-/
import Derived.Test.YtkcbldaondflmaaCurC
import Derived.Test.YtkcbldaondflmaaApart
import Derived.Test.YtkcbldaondflmaaBlk
import Derived.Test.YtkcbldaondflmaaStep
namespace Go.Proofs.Ytkcbldaondflmaa
open Go.RowKit Go.Lib Go.Lib.Hx

theorem own_cur {α : Type} {T : Ty α} {w w' : World} {base g : Nat} {v : Value} {l : List α} (h : OwnT T w base v l) (hg : w.grownBy w' (some g)) (hlt : g < base) : OwnT T w' base v l :=
  h.kept hg (by
    cases hv : v.ownBlock with
    | none => exact .inl rfl
    | some k => exact .inr (fun he => by injection he with he; have := (h.lt k hv).1; omega))
theorem Blk.ne_v {α : Type} {T : Ty α} {w : World} {b base : Nat} {t : TypeId} {cs : Array Value} {v : Value} {l : List α} (h : Blk w b t cs) (ho : OwnT T w base v l) (ht : t ≠ T.e) : some b ≠ v.ownBlock := by
  rcases ho.2 with ⟨rfl, _⟩ | ⟨g, cap, cur, rfl, hg, hh, r⟩
  · intro e; cases e
  · intro e; exact Blk.ne_own h ho ht (Option.some.inj (show some b = some g from e))
theorem own_cut {α : Type} {T : Ty α} {w : World} {base n c : Nat} {A : Option Addr} {l : List α} (h : OwnT T w base (.slice A n c) l) : OwnT T w base (.slice A 0 c) ([] : List α) := by
  refine ⟨by simp [Ty.flat], ?_⟩
  rcases h.2 with ⟨hv, hn⟩ | ⟨g, cap, cur, hv, hg, hh, h1, h2, h3, h4⟩
  · injection hv with e1 e2 e3
    subst e1 e3
    exact .inl ⟨rfl, rfl⟩
  · injection hv with e1 e2 e3
    subst e1 e3
    exact .inr ⟨g, _, cur, rfl, hg, hh, by simp, h2, h3, by simp [Ty.flat]⟩
theorem cell_far1 {w : World} {a : Addr} {v : Value} {tb : Nat} (h : w.cell? a = some v) (hn : ¬ a.block = tb) (i : Nat) (u : Value) : (w.setCell ⟨tb, i, none⟩ u).cell? a = some v := ((gr_setCell w ⟨tb, i, none⟩ u).cell_far _ (World.block_lt_of_cell? _ _ h) (fun e => hn (Option.some.inj e))).trans h
theorem cell_far3 {w : World} {a : Addr} {v : Value} {tb : Nat} (h : w.cell? a = some v) (hn : ¬ a.block = tb) (u0 u1 u2 : Value) : (((w.setCell ⟨tb, 0, none⟩ u0).setCell ⟨tb, 1, none⟩ u1).setCell ⟨tb, 2, none⟩ u2).cell? a = some v := cell_far1 (cell_far1 (cell_far1 h hn 0 u0) hn 1 u1) hn 2 u2
theorem gr_of_drewD {w w' : World} {row : Option Nat} (h : w.drew.grownBy w' row) : w.grownBy w' row := ⟨h.os, h.tape, h.output, h.size, h.block⟩
theorem cell_drew {w : World} {a : Addr} {v : Value} (h : w.cell? a = some v) : w.drew.cell? a = some v := h
theorem gr_drew {w w' : World} {row : Option Nat} (h : w.grownBy w' row) : w.grownBy w'.drew row := ⟨h.os, h.tape, h.output, h.size, h.block⟩
theorem gr_set_new {w w1 : World} {row : Option Nat} {tb : Nat} (h : w.grownBy w1 row) (hb : w.heap.size ≤ tb) (i : Nat) (u : Value) : w.grownBy (w1.setCell ⟨tb, i, none⟩ u) row :=
  ⟨h.os, h.tape, h.output, by simpa using h.size, fun k hk hne => (Below.heap_setCell w1 ⟨tb, i, none⟩ u k (by simp; omega)).trans (h.block k hk hne)⟩
theorem Cur.set_new {w : World} {g c P tb : Nat} {A : Option Addr} {l : List (Fin 256)} (h : Cur w g A c l P) (hb : g < tb) (i : Nat) (u : Value) : Cur (w.setCell ⟨tb, i, none⟩ u) g A c l P :=
  h.kept (gr_setCell w ⟨tb, i, none⟩ u) (fun r hr => by cases hr; exact hb)
theorem gr_far {W w w' : World} {r row : Option Nat} (h : W.grownBy w r) (hg : w.grownBy w' row) (hr : ∀ k, row = some k → W.heap.size ≤ k) : W.grownBy w' r :=
  ⟨hg.os.trans h.os, hg.tape.trans h.tape, hg.output.trans h.output, Nat.le_trans h.size hg.size, fun k hk hne => (hg.block k (Nat.lt_of_lt_of_le hk h.size) (fun e => by have := hr k e.symm; omega)).trans (h.block k hk hne)⟩
/-- A row that is drawn: it is owned above the cursor; nothing older than base is written but the cursor. -/
structure Sta {α : Type} (T : Ty α) (base : Nat) (W w : World) (g : Nat) (A : Option Addr) (c : Nat) (l : List (Fin 256)) (P : Nat) (v : Value) (out : List α) : Prop where
  own : OwnT T w base v out
  cur : Cur w g A c l P
  old : W.grownBy w (some g)
  size : base ≤ w.heap.size
  lo : g < W.heap.size
  le : W.heap.size ≤ base
variable {α : Type} {T : Ty α} {base : Nat} {W w w' : World} {g c P Q : Nat} {A : Option Addr} {l : List (Fin 256)} {v : Value} {out : List α}
theorem Sta.below (h : Sta T base W w g A c l P v out) : Below g W w := (Below.refl _ _).grown h.old (Nat.le_of_lt h.lo) (fun i hi => by cases hi; exact Nat.le_refl _)
theorem Sta.hgb (h : Sta T base W w g A c l P v out) : g < base := Nat.lt_of_lt_of_le h.lo h.le
theorem Sta.gr (h : Sta T base W w g A c l P v out) (hg : w.grownBy w' (some g)) (hc : Cur w' g A c l Q) : Sta T base W w' g A c l Q v out :=
  ⟨own_cur h.own hg h.hgb, hc, h.old.trans hg, Nat.le_trans h.size hg.size, h.lo, h.le⟩
theorem Sta.more (h : Sta T base W w g A c l P v out) (hPQ : P ≤ Q) : Sta T base W w g A c l Q v out := ⟨h.own, h.cur.more hPQ, h.old, h.size, h.lo, h.le⟩
/-- A row other than the drawn one is written or laid. -/
theorem Sta.far (h : Sta T base W w g A c l P v out) {row : Option Nat} (hg : w.grownBy w' row) (hr : ∀ r, row = some r → W.heap.size ≤ r ∧ v.ownBlock ≠ some r) : Sta T base W w' g A c l P v out :=
  ⟨h.own.kept hg (by
    cases row with
    | none =>
      cases hv : v.ownBlock with
      | none => exact .inl rfl
      | some k => exact .inr (by simp)
    | some r => exact .inr (hr r rfl).2), h.cur.kept hg (fun r hr' => by have := (hr r hr').1; have := h.lo; omega), gr_far h.old hg (fun k hk => (hr k hk).1), Nat.le_trans h.size hg.size, h.lo, h.le⟩
theorem Sta.alloc (h : Sta T base W w g A c l P v out) (o : Obj) : Sta T base W (w.alloc o) g A c l P v out := h.far (World.grownBy_alloc w o none) (by simp)
theorem Sta.app {w9 : World} {o : Obj} {v' : Value} {out' : List α} (h : Sta T base W w g A c l P v out) (ho : OwnT T w9 base v' out') (hg : (w.alloc o).grownBy w9 v.ownBlock) : Sta T base W w9 g A c l P v' out' :=
  ⟨ho, (h.cur.kept (World.grownBy_alloc w o none) (by simp)).kept hg (fun r hr => by have := (h.own.lt r hr).1; have := h.hgb; omega), gr_far (h.old.trans (World.grownBy_alloc w o (some g))) hg (fun r hr => by have := (h.own.lt r hr).1; have := h.le; omega), Nat.le_trans (Nat.le_trans h.size (by simp)) hg.size, h.lo, h.le⟩
theorem Sta.of_set {n c' gb k : Nat} (h : Sta T base W w g A c l P (.slice (some ⟨gb, 0, none⟩) n c') out) (hk : k < out.length) (y : α) : Sta T base W (setCells w gb (k * T.sz) (T.enc y)) g A c l P (.slice (some ⟨gb, 0, none⟩) n c') (out.set k y) := by
  have hs := h.own.set hk y
  have hlt := (h.own.lt gb rfl).1
  have h1 := h.hgb
  have h2 := h.le
  exact ⟨hs.1, h.cur.kept hs.2 (fun r hr => by cases hr; omega), gr_far h.old hs.2 (fun i hi => by cases hi; omega), Nat.le_trans h.size hs.2.size, h.lo, h.le⟩
def boxV (tb : Nat) : Value := .slice (some ⟨tb, 0, none⟩) 0 0
theorem box_ne {tb : Nat} {v : Value} (h : ApartV (boxV tb) v) : v.ownBlock ≠ some tb := by
  rcases h with h | h
  · cases h
  · exact fun e => h e.symm
theorem box_own {α : Type} {T : Ty α} {w : World} {b base : Nat} {t : TypeId} {cs : Array Value} {v : Value} {l : List α} (h : Blk w b t cs) (ho : OwnT T w base v l) (ht : t ≠ T.e) : ApartV (boxV b) v := .inr (h.ne_v ho ht)
theorem Sta.box {tb : Nat} (h : Sta T base W w g A c l P v out) (hb : w.heap.size ≤ tb) : ApartV (boxV tb) v := .inr (fun e => by have := (h.own.lt tb e.symm).2; omega)
theorem Sta.put {tb : Nat} (h : Sta T base W w g A c l P v out) (hb : ApartV (boxV tb) v) (hg : W.heap.size ≤ tb) (i : Nat) (u : Value) : Sta T base W (w.setCell ⟨tb, i, none⟩ u) g A c l P v out :=
  h.far (gr_setCell w ⟨tb, i, none⟩ u) (fun r hr => by cases hr; exact ⟨hg, box_ne hb⟩)
end Go.Proofs.Ytkcbldaondflmaa
