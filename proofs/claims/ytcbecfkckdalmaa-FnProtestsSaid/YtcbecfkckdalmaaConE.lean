/-
  The sums of a pupil as the program has them: a struct.
-/
import Derived.Test.YtcbecfkckdalmaaConD
import Derived.Deep.RegionLaw
namespace Go.Proofs.Ytcbecfkckdalmaa
open Go.RowKit

/-- A block that is just these cells. -/
def Blk (w : World) (g : Nat) (t : TypeId) (cs : Array Value) : Prop := w.heap[g]? = some (.cells cs t (0, 0))
section
variable {w w' : World} {g : Nat} {t : TypeId} {cs : Array Value}
theorem Blk.lt (h : Blk w g t cs) : g < w.heap.size := by
  rcases Nat.lt_or_ge g w.heap.size with hlt | hge
  · exact hlt
  · unfold Blk at h; rw [Array.getElem?_eq_none hge] at h; cases h
theorem Blk.cell (h : Blk w g t cs) (i : Nat) : w.cell? ⟨g, i, none⟩ = cs[i]? := cell_of_row w g i cs t (0, 0) h
theorem Blk.frozen (h : Blk w g t cs) (i : Nat) : w.frozen? ⟨g, i, none⟩ = false := by
  unfold Blk at h
  simp [World.frozen?, h]
theorem Blk.new (w : World) (t : TypeId) (cs : Array Value) : Blk (w.alloc (.cells cs t)) w.heap.size t cs := heap_alloc_new w _
theorem Blk.new1 (w : World) (o : Obj) (t : TypeId) (cs : Array Value) : Blk ((w.alloc o).alloc (.cells cs t)) (w.heap.size + 1) t cs := by
  have h := Blk.new (w.alloc o) t cs
  have e : (w.alloc o).heap.size = w.heap.size + 1 := by simp
  rw [e] at h
  exact h
theorem Blk.alloc (h : Blk w g t cs) (o : Obj) : Blk (w.alloc o) g t cs := (Below.heap_alloc w o g h.lt).trans h
theorem Blk.set_ (h : Blk w g t cs) (i : Nat) (u : Value) : Blk (w.setCell ⟨g, i, none⟩ u) g t (cs.setIfInBounds i u) := by
  unfold Blk at h ⊢
  simp [World.setCell, Array.getElem?_modify, h]
theorem Blk.box {o : Obj} (h : Blk w g t cs) (hb : Below (w.alloc o).heap.size (w.alloc o) w') : Blk w' g t cs := (hb.block g (by simp; exact Nat.lt_succ_of_lt h.lt)).trans (h.alloc o)
theorem Blk.boxd {o : Obj} (h : Blk w g t cs) (hb : Below (w.alloc o).drew.heap.size (w.alloc o).drew w') : Blk w' g t cs := (hb.block g (by simp; exact Nat.lt_succ_of_lt h.lt)).trans (h.alloc o)
theorem Blk.own (hb : Below (w.alloc (.cells cs t)).heap.size (w.alloc (.cells cs t)) w') : Blk w' w.heap.size t cs := (hb.block _ (by simp)).trans (Blk.new w t cs)
theorem Blk.ownd (hb : Below (w.alloc (.cells cs t)).drew.heap.size (w.alloc (.cells cs t)).drew w') : Blk w' w.heap.size t cs := (hb.block _ (by simp)).trans (Blk.new w t cs)
theorem Blk.far (h : Blk w g t cs) {p : Addr} (hp : g ≠ p.block) (u : Value) : Blk (w.setCell p u) g t cs := (Below.heap_setCell w p u g hp).trans h
theorem Blk.below {B : Nat} (h : Blk w g t cs) (hb : Below B w w') (hg : g < B) : Blk w' g t cs := (hb.block g hg).trans h
end

set_option maxHeartbeats 4000000 in
theorem rankedOf_any (A : Option Addr) (c : Nat) (l : List SolvedV) (p : Int) (w : World) (hn : l.length ≤ 16777216) (h : RdT solvedT w A l) :
    Calls Try.prog 73 #[.slice A l.length c, .int .i64 p] w fun e w' => e = .returned (.agg #[.int .i64 p, .int .i64 (sumsV l p).total, .int .i64 (sumsV l p).time, .int .i64 (sumsV l p).wrong, .int .i64 (sumsV l p).rows]) ∧ Below w.heap.size w w' := by
  go_enter Try.func73, Try.ntmps73
  go_wp2
  go_loopw [12] (fun i wr => ∃ k : Nat, k ≤ l.length ∧ i = .int .i64 k ∧ Blk wr (w.heap.size + 1) 69 #[.int .i64 p, .int .i64 (sums l p k).total, .int .i64 (sums l p k).time, .int .i64 (sums l p k).wrong, .int .i64 (sums l p k).rows] ∧ Blk wr w.heap.size 69 #[.int .i64 0, .int .i64 0, .int .i64 0, .int .i64 0, .int .i64 0] ∧ Below w.heap.size w wr) (fun i _ => l.length - (intOf i).toNat)
  case atStart => exact ⟨0, by omega, rfl, by rw [sums_zero]; exact Blk.new1 _ _ _ _, (Blk.new w _ _).alloc _, (((Below.refl _ _).alloc (Nat.le_refl _) _).alloc (by simp) _)⟩
  case round =>
    obtain ⟨k, hk, rfl, hblk, hres, hb⟩ := hrel
    have hz := hb.size
    have hrows := sums_rows l p k
    have hr := h.below hb (Nat.le_refl _)
    have hc := fun i => hblk.cell i
    have hf := fun i => hblk.frozen i
    have hgl := hblk.lt
    by_cases hlt : k < l.length
    · obtain ⟨b, off, p', h', r, q, t, rfl, hx, hlb, hc0, hc1, hc2, hc3, hc4⟩ := solvedT_at hr hlt
      by_cases hp : p' = p
      · have E := Lib.hid (sums_hit hx hp)
        have hpe : (p' == p) = true := by simpa using hp
        clear hx hp
        have hne : ¬ w.heap.size + 1 = wr.heap.size := by omega
        have hne' : ¬ wr.heap.size = w.heap.size + 1 := by omega
        go_wp2_with fail
        go_region_law ((go_simp; go_at_call 68; refine (scoreOf_any _ _ _ _ _ _).mono ?_; rintro e w2 ⟨rfl, hb2⟩; have hblk2 := hblk.boxd hb2; have hbox2 := Blk.ownd hb2; have hc2 := fun i => hblk2.cell i; have hf2 := fun i => hblk2.frozen i; have hcx := fun i => hbox2.cell i))
        all_goals
          have hres2 := hres.boxd hb2
          have hb3 : Below w.heap.size w w2 := (hb.alloc hz _).trans ((Below.refl _ _).drew.trans hb2 |>.mono (by simp; omega))
          go_wp2
          go_roundw
          case rel => exact ⟨k + 1, by omega, by go_num, by rw [E.out]; exact (((hblk2.set_ 1 _).set_ 2 _).set_ 3 _).set_ 4 _, (((hres2.far (by simp) _).far (by simp) _).far (by simp) _).far (by simp) _, (((hb3.setCell (by simp) _).setCell (by simp) _).setCell (by simp) _).setCell (by simp) _⟩
          case measure => simp [intOf]; omega
      · have E := Lib.hid (sums_miss hx hp)
        have hpe : (p' == p) = false := by simpa using hp
        clear hx hp
        go_wp2
        go_roundw
        case rel => exact ⟨k + 1, by omega, by go_num, by rw [E.out]; exact hblk.alloc _, hres.alloc _, hb.alloc hz _⟩
        case measure => simp [intOf]; omega
    · obtain rfl : k = l.length := by omega
      have hcr := fun i => hres.cell i
      have hfr := fun i => hres.frozen i
      go_wp2
      refine bodyPost_ret (v := .agg #[.int .i64 p, .int .i64 (sumsV l p).total, .int .i64 (sumsV l p).time, .int .i64 (sumsV l p).wrong, .int .i64 (sumsV l p).rows]) (by simp [results, Try.results73, go_sem, hcr]; exact ⟨rfl, rfl, rfl, rfl⟩) rfl ⟨rfl, ?_⟩
      exact ((((hb.setCell (Nat.le_refl _) _).setCell (Nat.le_refl _) _).setCell (Nat.le_refl _) _).setCell (Nat.le_refl _) _).setCell (Nat.le_refl _) _
end Go.Proofs.Ytcbecfkckdalmaa
