/-
  A row of ints put into a slice of rows, or appended to it: what is owned behind it.
-/
import Derived.Test.YtcbecfkckdalmaaIntSS
namespace Go.Proofs.Ytcbecfkckdalmaa
open Go.RowKit

theorem gr_of_drew {w w' : World} {row : Option Nat} (h : w.drew.grownBy w' row) : w.grownBy w' row := ⟨h.os, h.tape, h.output, h.size, h.block⟩
section
variable {w w2 w3 w4 : World} {base n c g kk : Nat} {v v3 : Value} {ps : List (HdrV × List Int)} {hs : List HdrV} {z : HdrV}
theorem OwnS.rowsKept (h : OwnS w2 base v ps) {o : Obj} (hg3 : (w2.alloc o).grownBy w3 v.ownBlock) : ∀ p ∈ ps, p.1.n = p.2.length ∧ OwnI w3 base p.1.val p.2 :=
  fun p hp => ⟨(h.row p hp).1, OwnI.kept ((h.row p hp).2.alloc o) hg3 (h.apartO hp).symm⟩
/-- A row of two put in at a place: behind an append of an empty one, a gap, a new block and a store. -/
theorem OwnS.ins (h : OwnS w2 base v ps) {o : Obj} (hhs : ps.map Prod.fst = hs) (hg3 : (w2.alloc o).grownBy w3 v.ownBlock) (hbase : base ≤ w2.heap.size)
    (ho3 : OwnT hdrT w3 base (.slice (some ⟨g, 0, none⟩) n c) (hs ++ [z])) (hg4 : w3.grownBy w4 (some g)) (ho4 : OwnT hdrT w4 base (.slice (some ⟨g, 0, none⟩) n c) (gapL (hs ++ [z]) kk)) (hkk : kk ≤ hs.length) (l : List Int) (cs : Array Value) (m : Nat) (hcs : cs.toList = ints l) (hm : m = l.length) (hml : m ≤ maxLen) :
    OwnS ((w4.alloc (.cells cs 3)).setCell ⟨g, kk, none⟩ (.slice (some ⟨w4.heap.size, 0, none⟩) m m)) base (.slice (some ⟨g, 0, none⟩) n c) (insL ps kk (⟨some ⟨w4.heap.size, 0, none⟩, m, m⟩, l)) ∧
    w4.grownBy ((w4.alloc (.cells cs 3)).setCell ⟨g, kk, none⟩ (.slice (some ⟨w4.heap.size, 0, none⟩) m m)) (some g) := by
  have hz3 : w2.heap.size ≤ w3.heap.size := by have := hg3.size; simp at this; omega
  have hz4 : w3.heap.size ≤ w4.heap.size := hg4.size
  have hrows := h.rowsKept hg3
  have hlt4 := ho4.lt g rfl
  have hk4 : kk < (gapL (hs ++ [z]) kk).length := by rw [length_gapL _ _ (by simp; omega)]; simp; omega
  have hset := (ho4.alloc (.cells cs 3)).set hk4 ⟨some ⟨w4.heap.size, 0, none⟩, m, m⟩
  rw [gapL_set hs z _ kk hkk] at hset
  have esz : hdrT.sz = 1 := rfl
  have hset' : OwnT hdrT ((w4.alloc (.cells cs 3)).setCell ⟨g, kk, none⟩ (.slice (some ⟨w4.heap.size, 0, none⟩) m m)) base (.slice (some ⟨g, 0, none⟩) n c) (insL hs kk ⟨some ⟨w4.heap.size, 0, none⟩, m, m⟩) ∧ (w4.alloc (.cells cs 3)).grownBy ((w4.alloc (.cells cs 3)).setCell ⟨g, kk, none⟩ (.slice (some ⟨w4.heap.size, 0, none⟩) m m)) (some g) := by
    have e : kk * hdrT.sz = kk := by rw [esz, Nat.mul_one]
    rw [e] at hset
    exact hset
  have hG := gr_trans (World.grownBy_alloc w4 (.cells cs 3) (some g)) hset'.2
  have hown3 := fun (p : HdrV × List Int) (hp : p ∈ ps) => own_apart ho3 (hrows p hp).2 hdr_int
  have hnew : OwnI (w4.alloc (.cells cs 3)) base (.slice (some ⟨w4.heap.size, 0, none⟩) m m) l := by
    have := World.ownsRow_lit (base := base) (e := 3) (size := 1) w4 cs m (by omega) hml (by rw [← Array.length_toList, hcs, length_ints, hm, Nat.mul_one])
    rw [hcs, hm] at this
    subst hm
    exact this
  refine ⟨⟨?_, ?_, ?_⟩, hG⟩
  · rw [map_insL, hhs]
    exact hset'.1
  · intro p hp
    rcases (mem_insL _ _ _ _).1 hp with rfl | hp
    · refine ⟨hm, OwnI.kept hnew hset'.2 (.inr (fun e => ?_))⟩
      have e2 : some w4.heap.size = some g := e
      injection e2 with e2
      omega
    · refine ⟨(hrows p hp).1, OwnI.kept (OwnI.kept (hrows p hp).2 hg4 ?_) hG ?_⟩
      · exact (hown3 p hp).symm
      · exact (hown3 p hp).symm
  · refine pairwise_insL (fun a b h => ApartV.symm h) h.apart (fun p hp => ?_)
    right
    intro e
    have := (OwnI.lt (hrows p hp).2 w4.heap.size e.symm).2
    omega
/-- A row appended: behind a new block, its header in a block of its own, and an append. -/
theorem OwnS.snoc (h : OwnS w base v ps) (hhs : ps.map Prod.fst = hs) (l : List Int) (cs : Array Value) (m : Nat) (hcs : cs.toList = ints l) (hm : m = l.length) (hml : m ≤ maxLen) (hbase : base ≤ w.heap.size) {o : Obj}
    (hg3 : ((w.alloc (.cells cs 3)).alloc o).grownBy w3 v.ownBlock) (ho3 : OwnT hdrT w3 base v3 (hs ++ [⟨some ⟨w.heap.size, 0, none⟩, m, m⟩])) :
    OwnS w3 base v3 (ps ++ [(⟨some ⟨w.heap.size, 0, none⟩, m, m⟩, l)]) := by
  have hrows := (h.alloc (.cells cs 3)).rowsKept hg3
  have hnew : OwnI (w.alloc (.cells cs 3)) base (.slice (some ⟨w.heap.size, 0, none⟩) m m) l := by
    have := World.ownsRow_lit (base := base) (e := 3) (size := 1) w cs m (by omega) hml (by rw [← Array.length_toList, hcs, length_ints, hm, Nat.mul_one])
    rw [hcs, hm] at this
    subst hm
    exact this
  refine ⟨?_, ?_, ?_⟩
  · rw [List.map_append, hhs]
    exact ho3
  · intro p hp
    rcases List.mem_append.1 hp with hp | hp
    · exact hrows p hp
    · rw [List.mem_singleton.1 hp]
      refine ⟨hm, OwnI.kept (hnew.alloc o) hg3 (.inr (fun e => ?_))⟩
      have := (h.own.lt w.heap.size e.symm).2
      omega
  · refine pairwise_snoc (fun a b h => ApartV.symm h) h.apart (fun p hp => ?_)
    right
    intro e
    have := (OwnI.lt (h.row p hp).2 w.heap.size e.symm).2
    omega
end

/-- An append of one element in a block of its own, its number told otherwise. -/
theorem wpList_appN {α : Type} {w w0 : World} {ops : Array Oper} {rest : List Oper} {o : Oper} {a : Act} {Q : Exit → Act → World → Prop} (T : Ty α) (hgd : o.guard = none) (s x : Operand)
    (ho : o.op = .call { callee := .builtin .append, args := #[s, x], argTypes := #[T.st, T.st] })
    (base : Nat) (v : Value) (l : List α) (hs : a.eval s = v) (hown : OwnT T w base v l) (B : Nat) (hB : Below B w0 w)
    (y : α) (us : Array Value) (hus : us = (T.enc y).toArray) (N : Nat) (hN : N = w.heap.size) (hx : a.eval x = .slice (some ⟨N, 0, none⟩) 1 1)
    (hlen : l.length + 1 ≤ 16777216) (hbase : base ≤ w.heap.size) (hBb : B ≤ base)
    (h : ∀ A' c' w', OwnT T w' base (.slice A' (l.length + 1) c') (l ++ [y]) → Below B w0 w' → (w.alloc (.cells us T.e)).grownBy w' v.ownBlock → wpList Try.prog ops Q rest (a.put o.dst (.slice A' (l.length + 1) c')) w') :
    wpList Try.prog ops Q (o :: rest) a (w.alloc (.cells us T.e)) := by
  subst hN
  exact wpList_appT T hgd s x ho base v l hs hown B hB y us hus 1 1 hx rfl hlen hbase hBb h
/-- The gap behind an append of an empty row. -/
theorem wpList_gapH {w : World} {ops : Array Oper} {rest : List Oper} {o : Oper} {a : Act} {Q : Exit → Act → World → Prop} (hgd : o.guard = none) (d s : Operand)
    (ho : o.op = .call { callee := .builtin .copy, args := #[d, s], argTypes := #[48, 48] })
    (base g n c k : Nat) (L : List HdrV) (z : HdrV) (hown : OwnT hdrT w base (.slice (some ⟨g, 0, none⟩) n c) (L ++ [z])) (hk : k ≤ L.length)
    (dp sp : Option Addr) (dLen dCap sLen sCap : Nat) (hd : a.eval d = .slice dp dLen dCap) (hs : a.eval s = .slice sp sLen sCap)
    (hdl : dLen = L.length - k) (hsl : sLen = L.length + 1 - k)
    (hp : k < L.length → dp = some ⟨g, k + 1, none⟩ ∧ sp = some ⟨g, k, none⟩)
    (h : ∀ w' y, Hid (OwnT hdrT w' base (.slice (some ⟨g, 0, none⟩) n c) (gapL (L ++ [z]) k)) → (∀ o, (w'.alloc o).cell? ⟨g, k, none⟩ = some y) → (∀ o, (w'.alloc o).frozen? ⟨g, k, none⟩ = false) → Hid (w.grownBy w' (some g)) → wpList Try.prog ops Q rest (a.put o.dst (goInt (L.length - k : Nat))) w') :
    wpList Try.prog ops Q (o :: rest) a w := by
  refine wpList_gapT hdrT hgd d s ho base g n c k (L ++ [z]) hown (by simp; omega) dp sp dLen dCap sLen sCap hd hs (by simp; omega) (by simp; omega) (fun hh => by
    obtain ⟨e1, e2⟩ := hp (by simp at hh; omega)
    exact ⟨by rw [e1]; show _ = some (⟨g, (k + 1) * 1, none⟩ : Addr); rw [Nat.mul_one], by rw [e2]; show _ = some (⟨g, k * 1, none⟩ : Addr); rw [Nat.mul_one]⟩) ?_
  intro w' h1 h2
  have hl : k < (gapL (L ++ [z]) k).length := by rw [length_gapL _ _ (by simp; omega)]; simp; omega
  have hc := fun o => (h1.alloc o).cell (List.getElem?_eq_getElem hl) 0 _ rfl
  have := h w' _ (Lib.hid h1) (fun o => by have := hc o; rw [Nat.add_zero, show k * hdrT.sz = k from Nat.mul_one k] at this; exact this) (fun o => (h1.alloc o).frozen k) (Lib.hid h2)
  rw [show (L ++ [z]).length - (k + 1) = L.length - k by simp]
  exact this

/-- A call that returns a slice of rows of its own, and whether there is one. -/
def RetSS (w : World) (rows : List (List Int)) (ok : Bool) (e : Ending) (w' : World) : Prop :=
  ∃ A c ps, e = .returned (.tuple #[.slice A (List.length ps) c, .bool ok]) ∧ ps.map Prod.snd = rows ∧ OwnS w' w.heap.size (.slice A (List.length ps) c) ps ∧ Below w.heap.size w w'
theorem small_rows {ps : List (HdrV × List Int)} {rows : List (List Int)} (h : ps.map Prod.snd = rows) (h2 : rows.length ≤ 1000 ∧ ∀ r ∈ rows, r.length ≤ 2) : ps.length ≤ 1000 ∧ (∀ p ∈ ps, p.2.length ≤ 16777216) ∧ totR ps ≤ 16777216 := by
  have h3 : ∀ p ∈ ps, p.2.length ≤ 2 := fun p hp => h2.2 _ (by rw [← h]; exact List.mem_map.2 ⟨p, hp, rfl⟩)
  have h4 : ∀ qs : List (HdrV × List Int), (∀ p ∈ qs, p.2.length ≤ 2) → totR qs ≤ 2 * qs.length := by
    intro qs
    induction qs with
    | nil => intro _; simp [totR]
    | cons p qs ih =>
      intro hq
      have := ih (fun p hp => hq p (by simp [hp]))
      have := hq p (by simp)
      simp only [totR, List.length_cons]; omega
  have h5 : ps.length ≤ 1000 := by rw [← h, List.length_map] at h2; exact h2.1
  exact ⟨h5, fun p hp => by have := h3 p hp; omega, by have := h4 ps h3; omega⟩
theorem OwnS.empty (w : World) (base : Nat) (hb : base ≤ w.heap.size) : OwnS (w.alloc (.cells #[] 43)) base (.slice (some ⟨w.heap.size, 0, none⟩) 0 0) [] :=
  ⟨World.ownsRow_lit w #[] 0 hb (by unfold maxLen; omega) rfl, by simp, List.Pairwise.nil⟩
end Go.Proofs.Ytcbecfkckdalmaa
