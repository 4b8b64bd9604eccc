/-
  The order by hardness: the reference's contract.
-/
import Derived.Test.YtlmcnlakgjhalaaExK
import Derived.Test.YtlmcnlakgjhalaaOwn
import Derived.Deep.RegionHeld3
namespace Go.Proofs.Ytlmcnlakgjhalaa
open Go.RowKit
attribute [local go_sem ↓] Go.wp_at_zero Go.wp_at_succ

set_option maxRecDepth 100000 in
set_option maxHeartbeats 4000000 in
theorem l20Hard_any (p q : Int) (w : World) (hp : 0 ≤ p) (hp' : p ≤ 9999) (hq : 0 ≤ q) (hq' : q ≤ 9999) :
    Calls Try.prog 68 #[.agg #[.int .i64 p, .int .i64 q]] w fun e w' => e = .returned (.int .i64 (hardX (p, q))) ∧ Below w.heap.size w w' := by
  rw [hardX_at]
  have HC := Lib.hid (fun W => columns_any p q W hp hp' hq hq')
  have HH := Lib.hid (fun W => l20Chain_any p q W hp hp' hq hq')
  have hch := chainV_bd p q
  have hcl := cols_len p q 4
  generalize cols p q 4 = L at *
  generalize chainV L = V at *
  obtain ⟨wn, hwn⟩ : ∃ wn : World, wn = w.alloc (.cells #[.int .i64 p, .int .i64 q] 45) := ⟨_, rfl⟩
  have hbn : Below w.heap.size w wn := by rw [hwn]; exact (Below.refl _ _).alloc (Nat.le_refl _) _
  have b0 : wn.cell? ⟨w.heap.size, 0, none⟩ = some (.int .i64 p) := by rw [hwn]; exact cell_of_row _ _ 0 _ _ (0, 0) (heap_alloc_new w _)
  have b1 : wn.cell? ⟨w.heap.size, 1, none⟩ = some (.int .i64 q) := by rw [hwn]; exact cell_of_row _ _ 1 _ _ (0, 0) (heap_alloc_new w _)
  have q1 := World.block_lt_of_cell? _ _ b0
  have HWN := Lib.hid hwn
  have i1 : IntKind.i64.wrap (10 * (L.length : Int)) = 10 * (L.length : Int) := IntWalk.i64_in _ (by omega)
  have i2 : IntKind.i64.wrap (10 * (L.length : Int) + V) = 10 * (L.length : Int) + V := IntWalk.i64_in _ (by omega)
  clear hwn
  go_enter Try.func68, Try.ntmps68
  go_wp2_with fail
  rw [← HWN.out]
  clear HWN
  go_region_held3 (fun wx => wx.cell? ⟨w.heap.size, 0, none⟩ = some (.int .i64 p) ∧ wx.cell? ⟨w.heap.size, 1, none⟩ = some (.int .i64 q)) (((try dsimp only); (repeat' apply And.intro)) <;> assumption) (first
    | (go_at_call 53; refine (HC.out _).mono ?_; rintro e w3 ⟨A3, c3, rfl, ho3, hb3⟩; have t0 : w3.cell? ⟨w.heap.size, 0, none⟩ = some (.int .i64 p) := (by first | exact (hb3.cell (p := ⟨w.heap.size, 0, none⟩) (World.block_lt_of_cell? _ _ v0)).trans v0 | exact (hb3.cell (p := ⟨w.heap.size, 0, none⟩) q1).trans b0); have t1 : w3.cell? ⟨w.heap.size, 1, none⟩ = some (.int .i64 q) := (by first | exact (hb3.cell (p := ⟨w.heap.size, 1, none⟩) (World.block_lt_of_cell? _ _ v1)).trans v1 | exact (hb3.cell (p := ⟨w.heap.size, 1, none⟩) q1).trans b1))
    | (go_at_call 62; refine (HH.out _).mono ?_; rintro e w4 ⟨rfl, hb4⟩; have v0 : w4.cell? ⟨w.heap.size, 0, none⟩ = some (.int .i64 p) := (by first | exact (hb4.cell (p := ⟨w.heap.size, 0, none⟩) (World.block_lt_of_cell? _ _ t0)).trans t0 | exact (hb4.cell (p := ⟨w.heap.size, 0, none⟩) q1).trans b0); have v1 : w4.cell? ⟨w.heap.size, 1, none⟩ = some (.int .i64 q) := (by first | exact (hb4.cell (p := ⟨w.heap.size, 1, none⟩) (World.block_lt_of_cell? _ _ t1)).trans t1 | exact (hb4.cell (p := ⟨w.heap.size, 1, none⟩) q1).trans b1)))
  all_goals
    go_wp2
    go_ret
    exact ⟨rfl, below3 hbn hb3 hb4⟩

theorem one_new (W : World) (x : Int) : RdT intT (W.alloc (.cells #[.int .i64 x] 3)) (some ⟨W.heap.size, 0, none⟩) [x] :=
  RdT.one intT (y := x) (fun j u hu => by
    cases j with
    | zero => simp [intT] at hu; subst hu; exact cell_of_row _ _ 0 _ _ (0, 0) (heap_alloc_new _ _)
    | succ j => simp [intT] at hu)
end Go.Proofs.Ytlmcnlakgjhalaa
