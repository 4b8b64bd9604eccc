/-
  Frames: own copy, digit of a number, whether a number can be added, the moves of a rod: contracts of the reference's functions.
-/
import Derived.Test.YtkcbldaondflmaaFrmB
namespace Go.Proofs.Ytkcbldaondflmaa
open Go.RowKit

theorem ownRod_empty (w : World) (base : Nat) (hb : base ≤ w.heap.size) : OwnT rodT (w.alloc (.cells #[] 80)) base (.slice (some ⟨w.heap.size, 0, none⟩) 0 0) [] := World.ownsRow_lit w #[] 0 hb (by unfold maxLen; omega) rfl
theorem ownMove_empty0 (w : World) (base : Nat) (hb : base ≤ w.heap.size) : OwnT moveT (w.alloc (.cells #[] 52)) base (.slice (some ⟨w.heap.size, 0, none⟩) 0 0) [] := World.ownsRow_lit w #[] 0 hb (by unfold maxLen; omega) rfl
set_option maxRecDepth 100000 in
set_option maxHeartbeats 4000000 in
theorem l2Own_any (up lo : Int) (A : Option Addr) (c : Nat) (R : List (Int × Int)) (w : World) (hn : R.length ≤ 1000) (h : RdT rodT w A R) :
    Calls Try.prog 80 #[.agg #[.int .i64 up, .int .i64 lo, .slice A R.length c]] w fun e w' => ∃ A' c', e = .returned (.agg #[.int .i64 up, .int .i64 lo, .slice A' R.length c']) ∧ OwnT rodT w' w.heap.size (.slice A' R.length c') R ∧ Below w.heap.size w w' := by
  obtain ⟨wb, hwb⟩ : ∃ wb : World, wb = (w.alloc (.cells #[.int .i64 up, .int .i64 lo, .slice A R.length c] 71)).alloc (.cells #[.int .i64 0, .int .i64 0, .slice none 0 0] 71) := ⟨_, rfl⟩
  obtain ⟨tb, htb⟩ : ∃ tb : Nat, tb = w.heap.size := ⟨_, rfl⟩
  obtain ⟨rb, hrb⟩ : ∃ rb : Nat, rb = w.heap.size + 1 := ⟨_, rfl⟩
  have BT : Blk wb tb 71 #[.int .i64 up, .int .i64 lo, .slice A R.length c] := by rw [hwb, htb]; exact (Blk.new w _ _).alloc _
  have BR : Blk wb rb 71 #[.int .i64 0, .int .i64 0, .slice none 0 0] := by rw [hwb, hrb]; exact Blk.new1 w _ _ _
  have hb0 : Below w.heap.size w wb := by rw [hwb]; exact ((Below.refl _ _).alloc (Nat.le_refl _) _).alloc (by simp) _
  have h := h.below hb0 (Nat.le_refl _)
  have hwr : w.heap.size ≤ rb := by omega
  have hne : ¬ tb = rb := by omega
  have hrs := BR.lt
  have b0 := BT.cell 0
  have b1 := BT.cell 1
  have b2 := BT.cell 2
  have f0 := BR.frozen 0
  have f1 := BR.frozen 1
  have f2 := BR.frozen 2
  have r0 := BR.cell 0
  have r1 := BR.cell 1
  have r2 := BR.cell 2
  go_enter Try.func80, Try.ntmps80
  go_upto_region 1 with fail
  rw [← hwb, ← hrb, ← htb]
  have HRB := Lib.hid hrb
  have hts := BT.lt
  have p0 : (wb.alloc (.cells #[] 80)).cell? ⟨tb, 0, none⟩ = some (.int .i64 up) := box_old b0 _
  have p1 : (wb.alloc (.cells #[] 80)).cell? ⟨tb, 1, none⟩ = some (.int .i64 lo) := box_old b1 _
  have p2 : (wb.alloc (.cells #[] 80)).cell? ⟨tb, 2, none⟩ = some (.slice A R.length c) := box_old b2 _
  have u0 : (wb.alloc (.cells #[] 80)).drew.cell? ⟨tb, 0, none⟩ = some (.int .i64 up) := p0
  have u1 : (wb.alloc (.cells #[] 80)).drew.cell? ⟨tb, 1, none⟩ = some (.int .i64 lo) := p1
  have u2 : (wb.alloc (.cells #[] 80)).drew.cell? ⟨tb, 2, none⟩ = some (.slice A R.length c) := p2
  clear hwb htb hrb
  have c0 : wb.cell? ⟨tb, 0, none⟩ = some (.int .i64 up) := b0
  have c1 : wb.cell? ⟨tb, 1, none⟩ = some (.int .i64 lo) := b1
  have c2 : wb.cell? ⟨tb, 2, none⟩ = some (.slice A R.length c) := b2
  clear b0 b1 b2
  go_region_held3 (fun wy => wy.cell? ⟨tb, 0, none⟩ = some (.int .i64 up) ∧ wy.cell? ⟨tb, 1, none⟩ = some (.int .i64 lo) ∧ wy.cell? ⟨tb, 2, none⟩ = some (.slice A R.length c))
    ((((try dsimp only); (repeat' apply And.intro)) <;> (first | (with_reducible assumption) | (with_reducible exact cell_drew c0) | (with_reducible exact cell_drew c1) | (with_reducible exact cell_drew c2) | (with_reducible exact cell_far3 t0 hne _ _ _) | (with_reducible exact cell_far3 t1 hne _ _ _) | (with_reducible exact cell_far3 t2 hne _ _ _))))
    (first
    | (refine step_spreadT rodT rfl _ _ (by rfl) w.heap.size _ ([] : List (Int × Int)) (by rfl) (by first | exact ownRod_empty wb.drew _ hb0.size | exact ownRod_empty wb _ hb0.size) w.heap.size (by first | exact hb0.drew.alloc hb0.size _ | exact (hb0.alloc hb0.size _).drew) A R _ _ rfl (by rfl) (by first | exact h.below ((Below.refl _ _).drew.alloc (Nat.le_refl _) _) (Nat.le_refl _)) (by simp; omega) (by have := hb0.size; simp; omega) (Nat.le_refl _) ?_; intro A5 c5 w5 ho5 hb5 hg5; simp only [List.length_nil, Nat.zero_add, List.nil_append] at ho5; have hg6 : (wb.alloc (.cells #[] 80)).grownBy w5 (some wb.heap.size) := gr_of_drewD hg5; have BR5 := (BR.alloc (.cells #[] 80)).gr hg6 (fun e => by have e2 : rb = wb.heap.size := Option.some.inj e; omega); have BT5 := (BT.alloc (.cells #[] 80)).gr hg6 (fun e => by have e2 : tb = wb.heap.size := Option.some.inj e; omega); have t0 : w5.cell? ⟨tb, 0, none⟩ = some (.int .i64 up) := BT5.cell 0; have t1 : w5.cell? ⟨tb, 1, none⟩ = some (.int .i64 lo) := BT5.cell 1; have t2 : w5.cell? ⟨tb, 2, none⟩ = some (.slice A R.length c) := BT5.cell 2; have g0 := BR5.frozen 0; have g1 := BR5.frozen 1; have g2 := BR5.frozen 2; have s0 := BR5.cell 0; have s1 := BR5.cell 1; have s2 := BR5.cell 2))
  go_wp2
  have BF := ((BR5.set_ 0 (.int .i64 up)).set_ 1 (.int .i64 lo)).set_ 2 (.slice A5 R.length c5)
  have z0 := BF.cell 0
  have z1 := BF.cell 1
  have z2 := BF.cell 2
  refine bodyPost_ret (v := .agg #[.int .i64 up, .int .i64 lo, .slice A5 R.length c5]) (by simp [results, Try.results80, go_sem, s0, s1, s2]) rfl ⟨A5, c5, rfl, ?_, ?_⟩
  · have hna : some rb ≠ (Value.slice A5 R.length c5).ownBlock := BR5.ne_v ho5 (by decide)
    exact ((ho5.kept (gr_setCell w5 ⟨rb, 0, none⟩ _) (.inr (fun e => hna e.symm))).kept (gr_setCell _ ⟨rb, 1, none⟩ _) (.inr (fun e => hna e.symm))).kept (gr_setCell _ ⟨rb, 2, none⟩ _) (.inr (fun e => hna e.symm))
  · exact ((hb5.setCell hwr _).setCell hwr _).setCell hwr _
end Go.Proofs.Ytkcbldaondflmaa
