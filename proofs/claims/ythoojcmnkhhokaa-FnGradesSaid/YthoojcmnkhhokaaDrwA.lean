/-
  The draw of a scheme.
-/
import Derived.Test.YthoojcmnkhhokaaCurR
import Derived.Test.YthoojcmnkhhokaaPart
import Derived.Test.YthoojcmnkhhokaaAppW
import Derived.Test.YthoojcmnkhhokaaBlk
import Derived.Test.YthoojcmnkhhokaaStrS
import Derived.Test.YthoojcmnkhhokaaStep
namespace Go.Proofs.Ythoojcmnkhhokaa
set_option maxRecDepth 100000
open Go.RowKit Go.Lib Go.Lib.Hx

def smP (x : PartV) : Prop := x.name.size ≤ 11 ∧ 0 ≤ x.full ∧ x.full ≤ 101
def smL (l : List PartV) : Prop := ∀ x ∈ l, smP x
theorem smL_nil : smL [] := by intro x h; cases h
theorem smL_snoc {l : List PartV} {x : PartV} (h : smL l) (hx : smP x) : smL (l ++ [x]) := by
  intro y hy
  rcases List.mem_append.1 hy with hy | hy
  · exact h y hy
  · rw [List.mem_singleton.1 hy]; exact hx
theorem smL_set {l : List PartV} {x : PartV} (h : smL l) (hx : smP x) (k : Nat) : smL (l.set k x) := by
  intro y hy
  rcases List.mem_or_eq_of_mem_set hy with hy | rfl
  · exact h y hy
  · exact hx
def nmS : Array Value := #[.string ⟨#[97, 100, 100, 105, 110, 103]⟩, .string ⟨#[116, 97, 107, 105, 110, 103]⟩, .string ⟨#[116, 105, 109, 101, 115]⟩, .string ⟨#[100, 105, 118, 105, 100, 105, 110, 103]⟩]
theorem nmS_at (k : Nat) (hk : k < 4) : ∃ s : ByteArray, nmS[k]? = some (.string s) ∧ s.size ≤ 11 := by
  match k, hk with
  | 0, _ => exact ⟨_, rfl, by decide⟩
  | 1, _ => exact ⟨_, rfl, by decide⟩
  | 2, _ => exact ⟨_, rfl, by decide⟩
  | 3, _ => exact ⟨_, rfl, by decide⟩
theorem own_cur {α : Type} {T : Ty α} {w w' : World} {base g : Nat} {v : Value} {l : List α} (h : OwnT T w base v l) (hg : w.grownBy w' (some g)) (hlt : g < base) : OwnT T w' base v l :=
  h.kept hg (by
    cases hv : v.ownBlock with
    | none => exact .inl rfl
    | some k => exact .inr (fun he => by injection he with he; have := (h.lt k hv).1; omega))
theorem Blk.ne_v {α : Type} {T : Ty α} {w : World} {b base : Nat} {t : TypeId} {cs : Array Value} {v : Value} {l : List α} (h : Blk w b t cs) (ho : OwnT T w base v l) (ht : t ≠ T.e) : some b ≠ v.ownBlock := by
  rcases ho.2 with ⟨rfl, _⟩ | ⟨g, cap, cur, rfl, hg, hh, r⟩
  · intro e; cases e
  · intro e; exact Blk.ne_own h ho ht (Option.some.inj (show some b = some g from e))
theorem own_cut {α : Type} {T : Ty α} {w : World} {base n c : Nat} {A : Option Addr} {l : List α} (h : OwnT T w base (.slice A n c) l) : OwnT T w base (.slice A 0 c) ([] : List α) := by
  refine ⟨by simp [Ty.flat], ?_⟩
  rcases h.2 with ⟨hv, hn⟩ | ⟨g, cap, cur, hv, hg, hh, h1, h2, h3, h4⟩
  · injection hv with e1 e2 e3
    subst e1 e3
    exact .inl ⟨rfl, rfl⟩
  · injection hv with e1 e2 e3
    subst e1 e3
    exact .inr ⟨g, _, cur, rfl, hg, hh, by simp, h2, h3, by simp [Ty.flat]⟩
set_option maxHeartbeats 1000000 in
theorem of_any (g c P : Nat) (A : Option Addr) (l : List (Fin 256)) (A2 : Option Addr) (c2 n : Nat) (L : List ByteArray) (w : World) (hl : l.length ≤ 65536) (hP : P ≤ 900000000) (hn : n = L.length) (h0 : 0 < n) (h1 : n ≤ 1000) (h : Cur w g A c l P) (hL : RdT strT w A2 L)
    (hne : ∀ b off, A2 = some ⟨b, off, none⟩ → b ≠ g) :
    Calls Try.prog 101 #[.pointer (some ⟨g, 0, none⟩), .slice A2 n c2] w fun e w' => ∃ x, x ∈ L ∧ e = .returned (.string x) ∧ Cur w' g A c l (P + 2) ∧ w.grownBy w' (some g) := by
  subst hn
  go_enter Try.func101, Try.ntmps101
  go_wp2_with fail
  refine (pick_any g c P L.length A l _ hl hP h0 (by omega) h).mono ?_
  rintro e w1 ⟨b, hb, rfl, hc1, hg1⟩
  have hL1 := hL.grown strT hg1 (fun _ b' off' hA he => by cases he; exact hne _ _ hA rfl)
  obtain ⟨b', off, x, rfl, hx, hlt, hcx⟩ := str_at hL1 hb
  have b1 : (b : Int) < (L.length : Int) := by omega
  go_wp2
  go_ret
  exact ⟨x, List.mem_of_getElem? hx, rfl, hc1, hg1⟩
theorem of_lit (g c P : Nat) (A : Option Addr) (l : List (Fin 256)) (L : List ByteArray) (n : Nat) (W : World) (B : Nat) (hB : B = W.heap.size) (hn : n = L.length) (hl : l.length ≤ 65536) (hP : P ≤ 900000000) (h0 : 0 < n) (h1 : n ≤ 1000) (h : Cur W g A c l P) :
    Calls Try.prog 101 #[.pointer (some ⟨g, 0, none⟩), .slice (some ⟨B, 0, none⟩) n n] (W.alloc (.cells (L.map Value.string).toArray 9)) fun e w' => ∃ x, x ∈ L ∧ e = .returned (.string x) ∧ Cur w' g A c l (P + 2) ∧ W.grownBy w' (some g) := by
  subst hn hB
  have hr : RdT strT (W.alloc (.cells (L.map Value.string).toArray 9)) (some ⟨W.heap.size, 0, none⟩) L := by
    have hfl : ∀ l : List ByteArray, strT.flat l = l.map Value.string := fun l => by
      unfold Ty.flat; induction l with
      | nil => rfl
      | cons a l ih => simp only [List.flatMap_cons, List.map_cons, ih]; rfl
    refine ⟨by rw [hfl, List.length_map]; show _ = L.length * 1; omega, fun _ => ⟨W.heap.size, 0, rfl, by simp, fun j u hu => ?_⟩⟩
    rw [hfl] at hu
    rw [Nat.zero_add, cell_of_row _ _ j _ _ (0, 0) (heap_alloc_new W _)]
    simpa using hu
  have hlt := h.lt
  exact (of_any g c P A l _ _ _ L _ hl hP rfl h0 h1 (h.kept (World.grownBy_alloc W _ none) (by simp)) hr (fun b off hA => by cases hA; omega)).mono fun e w' ⟨x, h1, h2, h3, h4⟩ => ⟨x, h1, h2, h3, (World.grownBy_alloc W _ (some g)).trans h4⟩
theorem cell_far1 {w : World} {a : Addr} {v : Value} {tb : Nat} (h : w.cell? a = some v) (hn : ¬ a.block = tb) (i : Nat) (u : Value) : (w.setCell ⟨tb, i, none⟩ u).cell? a = some v := ((gr_setCell w ⟨tb, i, none⟩ u).cell_far _ (World.block_lt_of_cell? _ _ h) (fun e => hn (Option.some.inj e))).trans h
theorem cell_far3 {w : World} {a : Addr} {v : Value} {tb : Nat} (h : w.cell? a = some v) (hn : ¬ a.block = tb) (u0 u1 u2 : Value) : (((w.setCell ⟨tb, 0, none⟩ u0).setCell ⟨tb, 1, none⟩ u1).setCell ⟨tb, 2, none⟩ u2).cell? a = some v := cell_far1 (cell_far1 (cell_far1 h hn 0 u0) hn 1 u1) hn 2 u2
theorem gr_of_drewD {w w' : World} {row : Option Nat} (h : w.drew.grownBy w' row) : w.grownBy w' row := ⟨h.os, h.tape, h.output, h.size, h.block⟩
theorem cell_drew {w : World} {a : Addr} {v : Value} (h : w.cell? a = some v) : w.drew.cell? a = some v := h
theorem gr_drew {w w' : World} {row : Option Nat} (h : w.grownBy w' row) : w.grownBy w'.drew row := ⟨h.os, h.tape, h.output, h.size, h.block⟩
theorem gr_set_new {w w1 : World} {row : Option Nat} {tb : Nat} (h : w.grownBy w1 row) (hb : w.heap.size ≤ tb) (i : Nat) (u : Value) : w.grownBy (w1.setCell ⟨tb, i, none⟩ u) row :=
  ⟨h.os, h.tape, h.output, by simpa using h.size, fun k hk hne => (Below.heap_setCell w1 ⟨tb, i, none⟩ u k (by simp; omega)).trans (h.block k hk hne)⟩
theorem gr_set3 {w w1 : World} {row : Option Nat} {tb : Nat} (h : w.grownBy w1 row) (hb : w.heap.size ≤ tb) (u0 u1 u2 : Value) : w.grownBy (((w1.setCell ⟨tb, 0, none⟩ u0).setCell ⟨tb, 1, none⟩ u1).setCell ⟨tb, 2, none⟩ u2) row :=
  gr_set_new (gr_set_new (gr_set_new h hb 0 u0) hb 1 u1) hb 2 u2
theorem Cur.set_new {w : World} {g c P tb : Nat} {A : Option Addr} {l : List (Fin 256)} (h : Cur w g A c l P) (hb : g < tb) (i : Nat) (u : Value) : Cur (w.setCell ⟨tb, i, none⟩ u) g A c l P :=
  h.kept (gr_setCell w ⟨tb, i, none⟩ u) (fun r hr => by cases hr; exact hb)
theorem Cur.set3 {w : World} {g c P tb : Nat} {A : Option Addr} {l : List (Fin 256)} (h : Cur w g A c l P) (hb : g < tb) (u0 u1 u2 : Value) : Cur (((w.setCell ⟨tb, 0, none⟩ u0).setCell ⟨tb, 1, none⟩ u1).setCell ⟨tb, 2, none⟩ u2) g A c l P :=
  ((h.set_new hb 0 u0).set_new hb 1 u1).set_new hb 2 u2
theorem gr_far {W w w' : World} {r row : Option Nat} (h : W.grownBy w r) (hg : w.grownBy w' row) (hr : ∀ k, row = some k → W.heap.size ≤ k) : W.grownBy w' r :=
  ⟨hg.os.trans h.os, hg.tape.trans h.tape, hg.output.trans h.output, Nat.le_trans h.size hg.size, fun k hk hne => (hg.block k (Nat.lt_of_lt_of_le hk h.size) (fun e => by have := hr k e.symm; omega)).trans (h.block k hk hne)⟩
/-- A row that is drawn: it is owned above the cursor; nothing older than base is written but the cursor. -/
structure Sta {α : Type} (T : Ty α) (base : Nat) (W w : World) (g : Nat) (A : Option Addr) (c : Nat) (l : List (Fin 256)) (P : Nat) (v : Value) (out : List α) : Prop where
  own : OwnT T w base v out
  cur : Cur w g A c l P
  old : W.grownBy w (some g)
  size : base ≤ w.heap.size
  lo : g < W.heap.size
  le : W.heap.size ≤ base
variable {α : Type} {T : Ty α} {base : Nat} {W w w' : World} {g c P Q : Nat} {A : Option Addr} {l : List (Fin 256)} {v : Value} {out : List α}
theorem Sta.below (h : Sta T base W w g A c l P v out) : Below g W w := (Below.refl _ _).grown h.old (Nat.le_of_lt h.lo) (fun i hi => by cases hi; exact Nat.le_refl _)
theorem Sta.hgb (h : Sta T base W w g A c l P v out) : g < base := Nat.lt_of_lt_of_le h.lo h.le
theorem Sta.gr (h : Sta T base W w g A c l P v out) (hg : w.grownBy w' (some g)) (hc : Cur w' g A c l Q) : Sta T base W w' g A c l Q v out :=
  ⟨own_cur h.own hg h.hgb, hc, h.old.trans hg, Nat.le_trans h.size hg.size, h.lo, h.le⟩
theorem Sta.more (h : Sta T base W w g A c l P v out) (hPQ : P ≤ Q) : Sta T base W w g A c l Q v out := ⟨h.own, h.cur.more hPQ, h.old, h.size, h.lo, h.le⟩
/-- A row other than the drawn one is written or laid. -/
theorem Sta.far (h : Sta T base W w g A c l P v out) {row : Option Nat} (hg : w.grownBy w' row) (hr : ∀ r, row = some r → W.heap.size ≤ r ∧ v.ownBlock ≠ some r) : Sta T base W w' g A c l P v out :=
  ⟨h.own.kept hg (by
    cases row with
    | none =>
      cases hv : v.ownBlock with
      | none => exact .inl rfl
      | some k => exact .inr (by simp)
    | some r => exact .inr (hr r rfl).2), h.cur.kept hg (fun r hr' => by have := (hr r hr').1; have := h.lo; omega), gr_far h.old hg (fun k hk => (hr k hk).1), Nat.le_trans h.size hg.size, h.lo, h.le⟩
theorem Sta.alloc (h : Sta T base W w g A c l P v out) (o : Obj) : Sta T base W (w.alloc o) g A c l P v out := h.far (World.grownBy_alloc w o none) (by simp)
theorem Sta.app {w9 : World} {o : Obj} {v' : Value} {out' : List α} (h : Sta T base W w g A c l P v out) (ho : OwnT T w9 base v' out') (hg : (w.alloc o).grownBy w9 v.ownBlock) : Sta T base W w9 g A c l P v' out' :=
  ⟨ho, (h.cur.kept (World.grownBy_alloc w o none) (by simp)).kept hg (fun r hr => by have := (h.own.lt r hr).1; have := h.hgb; omega), gr_far (h.old.trans (World.grownBy_alloc w o (some g))) hg (fun r hr => by have := (h.own.lt r hr).1; have := h.le; omega), Nat.le_trans (Nat.le_trans h.size (by simp)) hg.size, h.lo, h.le⟩
theorem Sta.of_set {n c' gb k : Nat} (h : Sta T base W w g A c l P (.slice (some ⟨gb, 0, none⟩) n c') out) (hk : k < out.length) (y : α) : Sta T base W (setCells w gb (k * T.sz) (T.enc y)) g A c l P (.slice (some ⟨gb, 0, none⟩) n c') (out.set k y) := by
  have hs := h.own.set hk y
  have hlt := (h.own.lt gb rfl).1
  have h1 := h.hgb
  have h2 := h.le
  exact ⟨hs.1, h.cur.kept hs.2 (fun r hr => by cases hr; omega), gr_far h.old hs.2 (fun i hi => by cases hi; omega), Nat.le_trans h.size hs.2.size, h.lo, h.le⟩
theorem Sta.part_set {w : World} {out : List PartV} {c' gb k : Nat} (h : Sta partT base W w g A c l P (.slice (some ⟨gb, 0, none⟩) out.length c') out) (hk : k < out.length) (nm : ByteArray) (fu ne : Int) (hPQ : P ≤ Q) :
    Sta partT base W (((w.setCell ⟨gb, k * 3, none⟩ (.string nm)).setCell ⟨gb, k * 3 + 1, none⟩ (.int .i64 fu)).setCell ⟨gb, k * 3 + 2, none⟩ (.int .i64 ne)) g A c l Q (.slice (some ⟨gb, 0, none⟩) (out.set k ⟨nm, fu, ne⟩).length c') (out.set k ⟨nm, fu, ne⟩) := by
  rw [List.length_set]
  exact (h.of_set hk ⟨nm, fu, ne⟩).more hPQ
def boxV (tb : Nat) : Value := .slice (some ⟨tb, 0, none⟩) 0 0
theorem box_ne {tb : Nat} {v : Value} (h : ApartV (boxV tb) v) : v.ownBlock ≠ some tb := by
  rcases h with h | h
  · cases h
  · exact fun e => h e.symm
theorem box_own {α : Type} {T : Ty α} {w : World} {b base : Nat} {t : TypeId} {cs : Array Value} {v : Value} {l : List α} (h : Blk w b t cs) (ho : OwnT T w base v l) (ht : t ≠ T.e) : ApartV (boxV b) v := .inr (h.ne_v ho ht)
theorem Sta.box {tb : Nat} (h : Sta T base W w g A c l P v out) (hb : w.heap.size ≤ tb) : ApartV (boxV tb) v := .inr (fun e => by have := (h.own.lt tb e.symm).2; omega)
theorem Sta.put {tb : Nat} (h : Sta T base W w g A c l P v out) (hb : ApartV (boxV tb) v) (hg : W.heap.size ≤ tb) (i : Nat) (u : Value) : Sta T base W (w.setCell ⟨tb, i, none⟩ u) g A c l P v out :=
  h.far (gr_setCell w ⟨tb, i, none⟩ u) (fun r hr => by cases hr; exact ⟨hg, box_ne hb⟩)
def SchRes (g c P : Nat) (A : Option Addr) (l : List (Fin 256)) (w : World) (e : Ending) (w' : World) : Prop :=
  ∃ (out : List PartV) (A' : Option Addr) (c' : Nat), out.length ≤ 7 ∧ smL out ∧ e = .returned (.slice A' out.length c') ∧ Sta partT w.heap.size w w' g A c l (P + 200) (.slice A' out.length c') out
end Go.Proofs.Ythoojcmnkhhokaa
