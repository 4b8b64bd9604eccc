/-
  A move made on a frame: contract of the reference's function.
-/
import Derived.Test.YtkcbldaondflmaaFrmG
namespace Go.Proofs.Ytkcbldaondflmaa
open Go.RowKit Go.Sort

set_option maxRecDepth 100000 in
set_option maxHeartbeats 8000000 in
theorem moveBeads_any (up lo : Int) (A : Option Addr) (c : Nat) (R : List (Int × Int)) (mr mp mb : Int) (w : World) (hn : R.length ≤ 1000) (h : RdT rodT w A R) :
    Calls Try.prog 79 #[.agg #[.int .i64 up, .int .i64 lo, .slice A R.length c], .agg #[.int .i64 mr, .int .i64 mp, .int .i64 mb]] w (RetFr R.length w) := by
  obtain ⟨wb, hwb⟩ : ∃ wb : World, wb = ((w.alloc (.cells #[.int .i64 up, .int .i64 lo, .slice A R.length c] 71)).alloc (.cells #[.int .i64 mr, .int .i64 mp, .int .i64 mb] 52)).alloc (.cells #[.int .i64 0, .int .i64 0, .slice none 0 0] 71) := ⟨_, rfl⟩
  obtain ⟨tb, htb⟩ : ∃ tb : Nat, tb = w.heap.size := ⟨_, rfl⟩
  obtain ⟨vb, hvb⟩ : ∃ vb : Nat, vb = w.heap.size + 1 := ⟨_, rfl⟩
  obtain ⟨rb, hrb⟩ : ∃ rb : Nat, rb = w.heap.size + 1 + 1 := ⟨_, rfl⟩
  have BT : Blk wb tb 71 #[.int .i64 up, .int .i64 lo, .slice A R.length c] := by rw [hwb, htb]; exact ((Blk.new w _ _).alloc _).alloc _
  have BV : Blk wb vb 52 #[.int .i64 mr, .int .i64 mp, .int .i64 mb] := by rw [hwb, hvb]; exact (Blk.new1 w _ _ _).alloc _
  have BR : Blk wb rb 71 #[.int .i64 0, .int .i64 0, .slice none 0 0] := by
    rw [hwb, hrb]
    have := Blk.new1 (w.alloc (.cells #[.int .i64 up, .int .i64 lo, .slice A R.length c] 71)) (.cells #[.int .i64 mr, .int .i64 mp, .int .i64 mb] 52) 71 #[.int .i64 0, .int .i64 0, .slice none 0 0]
    rw [show (w.alloc (.cells #[.int .i64 up, .int .i64 lo, .slice A R.length c] 71)).heap.size = w.heap.size + 1 by simp] at this
    exact this
  have hb0 : Below w.heap.size w wb := by rw [hwb]; exact (((Below.refl _ _).alloc (Nat.le_refl _) _).alloc (by simp) _).alloc (by simp; omega) _
  have hwr : w.heap.size ≤ rb := by omega
  have hr1 := h.below hb0 (Nat.le_refl _)
  have a0 := BT.cell 0
  have a1 := BT.cell 1
  have a2 := BT.cell 2
  go_enter Try.func79, Try.ntmps79
  go_upto_region 1 with fail
  rw [← hwb, ← hrb, ← hvb, ← htb]
  clear hwb htb hvb hrb
  go_wp2_with fail
  refine (l2Good_any up lo A c R wb hn hr1).mono ?_
  rintro e w2 ⟨rfl, hb2⟩
  have BT := BT.below hb2 BT.lt
  have BV := BV.below hb2 BV.lt
  have BR := BR.below hb2 BR.lt
  have hb0 := hb0.trans (hb2.mono hb0.size)
  have hr1 := h.below hb0 (Nat.le_refl _)
  clear a0 a1 a2 hb2
  cases goodF up lo R
  · have f0 := BR.frozen 0
    have f1 := BR.frozen 1
    have f2 := BR.frozen 2
    have r0 := BR.cell 0
    have r1 := BR.cell 1
    have r2 := BR.cell 2
    go_wp2
    refine bodyPost_ret (v := .tuple #[.agg #[.int .i64 0, .int .i64 0, .slice none 0 0], .bool false]) (by simp [results, Try.results79, go_sem, r0, r1, r2]) rfl ⟨0, 0, [], none, 0, false, by simp, rfl, OwnT.nil _ _, below_set3 hb0 hwr _ _ _⟩
  · have b0 := BV.cell 0
    have b1 := BV.cell 1
    have b2 := BV.cell 2
    go_wp2_with fail
    refine (l4One_any mr mp mb w2).mono ?_
    rintro e w3 ⟨rfl, hb3⟩
    have BT := BT.below hb3 BT.lt
    have BV := BV.below hb3 BV.lt
    have BR := BR.below hb3 BR.lt
    have hb0 := hb0.trans (hb3.mono hb0.size)
    have hr1 := h.below hb0 (Nat.le_refl _)
    clear b0 b1 b2 hb3
    cases hm : moveB ⟨mr, mp, mb⟩
    · have f0 := BR.frozen 0
      have f1 := BR.frozen 1
      have f2 := BR.frozen 2
      have r0 := BR.cell 0
      have r1 := BR.cell 1
      have r2 := BR.cell 2
      go_wp2
      refine bodyPost_ret (v := .tuple #[.agg #[.int .i64 0, .int .i64 0, .slice none 0 0], .bool false]) (by simp [results, Try.results79, go_sem, r0, r1, r2]) rfl ⟨0, 0, [], none, 0, false, by simp, rfl, OwnT.nil _ _, below_set3 hb0 hwr _ _ _⟩
    · have hmr : 0 ≤ mr := (moveB_iff hm).1.1
      have a0 := BT.cell 0
      have a1 := BT.cell 1
      have a2 := BT.cell 2
      have b0 := BV.cell 0
      have b1 := BV.cell 1
      have b2 := BV.cell 2
      clear hm
      go_wp2_with fail
      refine (l4Make_any up lo A c R mr mp mb w3 hn hr1 hmr).mono ?_
      rintro e w4 ⟨u, l, R2, A2, c2, ok, hR2, rfl, or4, hb4⟩
      have BR := BR.below hb4 BR.lt
      have hb5 := hb0.trans (hb4.mono hb0.size)
      have or5 := or4.mono hb0.size
      clear a0 a1 a2 b0 b1 b2 hb4 or4 BT BV
      obtain ⟨w6, hw6⟩ : ∃ w6 : World, w6 = w4.alloc (.cells #[.int .i64 u, .int .i64 l, .slice A2 R2.length c2] 71) := ⟨_, rfl⟩
      obtain ⟨nb, hnb⟩ : ∃ nb : Nat, nb = w4.heap.size := ⟨_, rfl⟩
      have BN : Blk w6 nb 71 #[.int .i64 u, .int .i64 l, .slice A2 R2.length c2] := by rw [hw6, hnb]; exact Blk.new w4 _ _
      have BR6 : Blk w6 rb 71 #[.int .i64 0, .int .i64 0, .slice none 0 0] := by rw [hw6]; exact BR.alloc _
      have hb6 : Below w.heap.size w w6 := by rw [hw6]; exact hb5.alloc hb5.size _
      have or6 : OwnT rodT w6 w.heap.size (.slice A2 R2.length c2) R2 := by rw [hw6]; exact or5.alloc _
      go_upto_region 4 with fail
      rw [← hw6, ← hnb]
      clear hw6 hnb BR hb5 or5
      have b0 := BN.cell 0
      have b1 := BN.cell 1
      have b2 := BN.cell 2
      have f0 := BR6.frozen 0
      have f1 := BR6.frozen 1
      have f2 := BR6.frozen 2
      have r0 := BR6.cell 0
      have r1 := BR6.cell 1
      have r2 := BR6.cell 2
      go_wp2
      refine bodyPost_ret (v := .tuple #[.agg #[.int .i64 u, .int .i64 l, .slice A2 R2.length c2], .bool ok]) (by simp [results, Try.results79, go_sem, r0, r1, r2]) rfl ⟨u, l, R2, A2, c2, ok, hR2, rfl, own_set3 or6 (BR6.ne_v or6 (by decide)) _ _ _, below_set3 hb6 hwr _ _ _⟩
end Go.Proofs.Ytkcbldaondflmaa
