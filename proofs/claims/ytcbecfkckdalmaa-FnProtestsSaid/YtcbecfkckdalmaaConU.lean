/-
  The draw of one solved row.
-/
import Derived.Test.YtcbecfkckdalmaaSta
import Derived.Test.YtcbecfkckdalmaaSolved
import Derived.Deep.DeepCutAuto
namespace Go.Proofs.Ytcbecfkckdalmaa
open Go.RowKit Go.Lib Go.Lib.Hx

def svV (x : SolvedV) : Value := .agg #[.int .i64 x.pupil, .int .i64 x.heat, .int .i64 x.right, .int .i64 x.wrong, .int .i64 x.time]
abbrev none0 : Value := .slice none 0 0
abbrev NilS (W w : World) (g : Nat) (A : Option Addr) (c : Nat) (l : List (Fin 256)) (P : Nat) : Prop := Sta solvedT W.heap.size W w g A c l P none0 []
theorem nil_apart (tb : Nat) : ApartV (boxV tb) none0 := .inr (fun e => by cases e)
set_option maxRecDepth 100000 in
set_option maxHeartbeats 8000000 in
theorem solved_any (g c P : Nat) (A : Option Addr) (l : List (Fin 256)) (p0 h0 : Int) (w : World) (hl : l.length ≤ 65536) (hP : P ≤ 700000000) (h : Cur w g A c l P) :
    Calls Try.prog 90 #[.pointer (some ⟨g, 0, none⟩), .int .i64 p0, .int .i64 h0] w fun e w' => ∃ x : SolvedV, e = .returned (svV x) ∧ Cur w' g A c l (P + 10) ∧ w.grownBy w' (some g) := by
  have hgl := h.lt
  obtain ⟨w1, hw1⟩ : ∃ w1 : World, w1 = w.alloc (.cells #[.int .i64 0, .int .i64 0, .int .i64 0, .int .i64 0, .int .i64 0] 25) := ⟨_, rfl⟩
  obtain ⟨rb, hrb⟩ : ∃ rb : Nat, rb = w.heap.size := ⟨_, rfl⟩
  have HS1 : NilS w w1 g A c l P := by
    rw [hw1]
    exact ⟨(OwnT.nil w w.heap.size).alloc _, h.kept (World.grownBy_alloc w _ none) (by simp), World.grownBy_alloc w _ (some g), by simp, hgl, Nat.le_refl _⟩
  have BR1 : Blk w1 rb 25 #[.int .i64 0, .int .i64 0, .int .i64 0, .int .i64 0, .int .i64 0] := by rw [hw1, hrb]; exact Blk.new w _ _
  have hgr : g < rb := by omega
  have hrs : w.heap.size ≤ rb := by omega
  have hc1 := HS1.cur
  go_enter Try.func90, Try.ntmps90
  go_upto_region 1 with fail
  rw [← hw1, ← hrb]
  clear hw1 hrb
  go_wp2_with fail
  refine (among_lit g c _ A l [0, 5, 10, 10, 99, 100] 6 w1 _ rfl rfl hl (by omega) (by decide) (by decide) hc1).mono ?_
  rintro e w2 ⟨ri, _, rfl, hc2, hg2⟩
  have HS2 := HS1.gr hg2 hc2
  have BR2 := BR1.gr hg2 (by simp; omega)
  clear HS1 BR1 hc1 hg2
  go_wp2_with fail
  refine (among_lit g c _ A l [0, 0, 1, 2, 20, 100] 6 w2 _ rfl rfl hl (by omega) (by decide) (by decide) hc2).mono ?_
  rintro e w3 ⟨wr, _, rfl, hc3, hg3⟩
  have HS3 := HS2.gr hg3 hc3
  have BR3 := BR2.gr hg3 (by simp; omega)
  clear HS2 BR2 hc2 hg3
  go_wp2_with fail
  refine (among_lit g c _ A l [1, 300, 300, 305, 3600] 5 w3 _ rfl rfl hl (by omega) (by decide) (by decide) hc3).mono ?_
  rintro e w4 ⟨ti, _, rfl, hc4, hg4⟩
  have HS4 := HS3.gr hg4 hc4
  have BR4 := BR3.gr hg4 (by simp; omega)
  clear HS3 BR3 hc3 hg4 hc4
  obtain ⟨w5, hw5⟩ : ∃ w5 : World, w5 = w4.alloc (.cells #[.int .i64 p0, .int .i64 h0, .int .i64 ri, .int .i64 wr, .int .i64 ti] 25) := ⟨_, rfl⟩
  obtain ⟨tb, htb⟩ : ∃ tb : Nat, tb = w4.heap.size := ⟨_, rfl⟩
  have HS5 : NilS w w5 g A c l (P + 2 + 2 + 2) := by rw [hw5]; exact HS4.alloc _
  have BR5 : Blk w5 rb 25 #[.int .i64 0, .int .i64 0, .int .i64 0, .int .i64 0, .int .i64 0] := by rw [hw5]; exact BR4.alloc _
  have BT5 : Blk w5 tb 25 #[.int .i64 p0, .int .i64 h0, .int .i64 ri, .int .i64 wr, .int .i64 ti] := by rw [hw5, htb]; exact Blk.new w4 _ _
  have hrt : rb < tb := by rw [htb]; exact BR4.lt
  clear HS4 BR4
  go_upto_region 2 with fail
  rw [← hw5, ← htb]
  clear hw5 htb
  have hc5 := HS5.cur
  go_wp2_with fail
  refine (pick_any g c _ 80 A l _ hl (by omega) (by decide) (by decide) hc5).mono ?_
  rintro e w6 ⟨b, hb80, rfl, hc6, hg6⟩
  have HS6 := HS5.gr hg6 hc6
  have BR6 := BR5.gr hg6 (by simp; omega)
  have BT6 := BT5.gr hg6 (by simp; omega)
  clear HS5 BR5 BT5 hc5 hg6
  rcases (show b = 0 ∨ b = 1 ∨ b = 2 ∨ b = 3 ∨ b = 4 ∨ (¬ b = 0 ∧ ¬ b = 1 ∧ ¬ b = 2 ∧ ¬ b = 3 ∧ ¬ b = 4) by omega) with rfl | rfl | rfl | rfl | rfl | ⟨hn0, hn1, hn2, hn3, hn4⟩
  · go_wp2_with fail
    refine (among_lit g c _ A l [0, 999, 1000] 3 w6 _ rfl rfl hl (by omega) (by decide) (by decide) hc6).mono ?_
    rintro e w7 ⟨z, _, rfl, hc7, hg7⟩
    have HS7 := HS6.gr hg7 hc7
    have BR7 := BR6.gr hg7 (by simp; omega)
    have BT7 := BT6.gr hg7 (by simp; omega)
    clear HS6 BR6 BT6 hc6 hg7
    obtain ⟨w8, hw8⟩ : ∃ w8 : World, w8 = w7.setCell ⟨tb, 0, none⟩ (.int .i64 z) := ⟨_, rfl⟩
    have HS8 : NilS w w8 g A c l (P + 2 + 2 + 2 + 2 + 2) := by rw [hw8]; exact HS7.put (nil_apart tb) (by omega) _ _
    have BR8 : Blk w8 rb 25 #[.int .i64 0, .int .i64 0, .int .i64 0, .int .i64 0, .int .i64 0] := by rw [hw8]; exact BR7.far (by simp; omega) _
    have BT8 : Blk w8 tb 25 #[.int .i64 z, .int .i64 h0, .int .i64 ri, .int .i64 wr, .int .i64 ti] := by rw [hw8]; exact BT7.set_ 0 _
    have q6 := BT7.frozen 0
    have q7 := BT7.cell 0
    go_upto_region 13 with fail
    rw [← hw8]
    clear hw8 q6 q7 BT7 BR7 HS7
    have k0 := BT8.cell 0
    have k1 := BT8.cell 1
    have k2 := BT8.cell 2
    have k3 := BT8.cell 3
    have k4 := BT8.cell 4
    have r0 := BR8.cell 0
    have r1 := BR8.cell 1
    have r2 := BR8.cell 2
    have r3 := BR8.cell 3
    have r4 := BR8.cell 4
    have q0 := BR8.frozen 0
    have q1 := BR8.frozen 1
    have q2 := BR8.frozen 2
    have q3 := BR8.frozen 3
    have q4 := BR8.frozen 4
    go_wp2
    refine bodyPost_ret (v := .agg #[.int .i64 z, .int .i64 h0, .int .i64 ri, .int .i64 wr, .int .i64 ti]) (by simp [results, Try.results90, go_sem, r0, r1, r2, r3, r4]) rfl ⟨⟨z, h0, ri, wr, ti⟩, rfl, ?_⟩
    have HF := ((((HS8.put (nil_apart rb) hrs 0 (.int .i64 z)).put (nil_apart rb) hrs 1 (.int .i64 h0)).put (nil_apart rb) hrs 2 (.int .i64 ri)).put (nil_apart rb) hrs 3 (.int .i64 wr)).put (nil_apart rb) hrs 4 (.int .i64 ti)
    exact ⟨HF.cur.more (by omega), HF.old⟩
  · go_wp2_with fail
    refine (among_lit g c _ A l [0, 5] 2 w6 _ rfl rfl hl (by omega) (by decide) (by decide) hc6).mono ?_
    rintro e w7 ⟨z, _, rfl, hc7, hg7⟩
    have HS7 := HS6.gr hg7 hc7
    have BR7 := BR6.gr hg7 (by simp; omega)
    have BT7 := BT6.gr hg7 (by simp; omega)
    clear HS6 BR6 BT6 hc6 hg7
    obtain ⟨w8, hw8⟩ : ∃ w8 : World, w8 = w7.setCell ⟨tb, 1, none⟩ (.int .i64 z) := ⟨_, rfl⟩
    have HS8 : NilS w w8 g A c l (P + 2 + 2 + 2 + 2 + 2) := by rw [hw8]; exact HS7.put (nil_apart tb) (by omega) _ _
    have BR8 : Blk w8 rb 25 #[.int .i64 0, .int .i64 0, .int .i64 0, .int .i64 0, .int .i64 0] := by rw [hw8]; exact BR7.far (by simp; omega) _
    have BT8 : Blk w8 tb 25 #[.int .i64 p0, .int .i64 z, .int .i64 ri, .int .i64 wr, .int .i64 ti] := by rw [hw8]; exact BT7.set_ 1 _
    have q6 := BT7.frozen 1
    have q7 := BT7.cell 1
    go_upto_region 13 with fail
    rw [← hw8]
    clear hw8 q6 q7 BT7 BR7 HS7
    have k0 := BT8.cell 0
    have k1 := BT8.cell 1
    have k2 := BT8.cell 2
    have k3 := BT8.cell 3
    have k4 := BT8.cell 4
    have r0 := BR8.cell 0
    have r1 := BR8.cell 1
    have r2 := BR8.cell 2
    have r3 := BR8.cell 3
    have r4 := BR8.cell 4
    have q0 := BR8.frozen 0
    have q1 := BR8.frozen 1
    have q2 := BR8.frozen 2
    have q3 := BR8.frozen 3
    have q4 := BR8.frozen 4
    go_wp2
    refine bodyPost_ret (v := .agg #[.int .i64 p0, .int .i64 z, .int .i64 ri, .int .i64 wr, .int .i64 ti]) (by simp [results, Try.results90, go_sem, r0, r1, r2, r3, r4]) rfl ⟨⟨p0, z, ri, wr, ti⟩, rfl, ?_⟩
    have HF := ((((HS8.put (nil_apart rb) hrs 0 (.int .i64 p0)).put (nil_apart rb) hrs 1 (.int .i64 z)).put (nil_apart rb) hrs 2 (.int .i64 ri)).put (nil_apart rb) hrs 3 (.int .i64 wr)).put (nil_apart rb) hrs 4 (.int .i64 ti)
    exact ⟨HF.cur.more (by omega), HF.old⟩
  · go_wp2_with fail
    refine (among_lit g c _ A l [-1, 101] 2 w6 _ rfl rfl hl (by omega) (by decide) (by decide) hc6).mono ?_
    rintro e w7 ⟨z, _, rfl, hc7, hg7⟩
    have HS7 := HS6.gr hg7 hc7
    have BR7 := BR6.gr hg7 (by simp; omega)
    have BT7 := BT6.gr hg7 (by simp; omega)
    clear HS6 BR6 BT6 hc6 hg7
    obtain ⟨w8, hw8⟩ : ∃ w8 : World, w8 = w7.setCell ⟨tb, 2, none⟩ (.int .i64 z) := ⟨_, rfl⟩
    have HS8 : NilS w w8 g A c l (P + 2 + 2 + 2 + 2 + 2) := by rw [hw8]; exact HS7.put (nil_apart tb) (by omega) _ _
    have BR8 : Blk w8 rb 25 #[.int .i64 0, .int .i64 0, .int .i64 0, .int .i64 0, .int .i64 0] := by rw [hw8]; exact BR7.far (by simp; omega) _
    have BT8 : Blk w8 tb 25 #[.int .i64 p0, .int .i64 h0, .int .i64 z, .int .i64 wr, .int .i64 ti] := by rw [hw8]; exact BT7.set_ 2 _
    have q6 := BT7.frozen 2
    have q7 := BT7.cell 2
    go_upto_region 13 with fail
    rw [← hw8]
    clear hw8 q6 q7 BT7 BR7 HS7
    have k0 := BT8.cell 0
    have k1 := BT8.cell 1
    have k2 := BT8.cell 2
    have k3 := BT8.cell 3
    have k4 := BT8.cell 4
    have r0 := BR8.cell 0
    have r1 := BR8.cell 1
    have r2 := BR8.cell 2
    have r3 := BR8.cell 3
    have r4 := BR8.cell 4
    have q0 := BR8.frozen 0
    have q1 := BR8.frozen 1
    have q2 := BR8.frozen 2
    have q3 := BR8.frozen 3
    have q4 := BR8.frozen 4
    go_wp2
    refine bodyPost_ret (v := .agg #[.int .i64 p0, .int .i64 h0, .int .i64 z, .int .i64 wr, .int .i64 ti]) (by simp [results, Try.results90, go_sem, r0, r1, r2, r3, r4]) rfl ⟨⟨p0, h0, z, wr, ti⟩, rfl, ?_⟩
    have HF := ((((HS8.put (nil_apart rb) hrs 0 (.int .i64 p0)).put (nil_apart rb) hrs 1 (.int .i64 h0)).put (nil_apart rb) hrs 2 (.int .i64 z)).put (nil_apart rb) hrs 3 (.int .i64 wr)).put (nil_apart rb) hrs 4 (.int .i64 ti)
    exact ⟨HF.cur.more (by omega), HF.old⟩
  · go_wp2_with fail
    refine (among_lit g c _ A l [-1, 101] 2 w6 _ rfl rfl hl (by omega) (by decide) (by decide) hc6).mono ?_
    rintro e w7 ⟨z, _, rfl, hc7, hg7⟩
    have HS7 := HS6.gr hg7 hc7
    have BR7 := BR6.gr hg7 (by simp; omega)
    have BT7 := BT6.gr hg7 (by simp; omega)
    clear HS6 BR6 BT6 hc6 hg7
    obtain ⟨w8, hw8⟩ : ∃ w8 : World, w8 = w7.setCell ⟨tb, 3, none⟩ (.int .i64 z) := ⟨_, rfl⟩
    have HS8 : NilS w w8 g A c l (P + 2 + 2 + 2 + 2 + 2) := by rw [hw8]; exact HS7.put (nil_apart tb) (by omega) _ _
    have BR8 : Blk w8 rb 25 #[.int .i64 0, .int .i64 0, .int .i64 0, .int .i64 0, .int .i64 0] := by rw [hw8]; exact BR7.far (by simp; omega) _
    have BT8 : Blk w8 tb 25 #[.int .i64 p0, .int .i64 h0, .int .i64 ri, .int .i64 z, .int .i64 ti] := by rw [hw8]; exact BT7.set_ 3 _
    have q6 := BT7.frozen 3
    have q7 := BT7.cell 3
    go_upto_region 13 with fail
    rw [← hw8]
    clear hw8 q6 q7 BT7 BR7 HS7
    have k0 := BT8.cell 0
    have k1 := BT8.cell 1
    have k2 := BT8.cell 2
    have k3 := BT8.cell 3
    have k4 := BT8.cell 4
    have r0 := BR8.cell 0
    have r1 := BR8.cell 1
    have r2 := BR8.cell 2
    have r3 := BR8.cell 3
    have r4 := BR8.cell 4
    have q0 := BR8.frozen 0
    have q1 := BR8.frozen 1
    have q2 := BR8.frozen 2
    have q3 := BR8.frozen 3
    have q4 := BR8.frozen 4
    go_wp2
    refine bodyPost_ret (v := .agg #[.int .i64 p0, .int .i64 h0, .int .i64 ri, .int .i64 z, .int .i64 ti]) (by simp [results, Try.results90, go_sem, r0, r1, r2, r3, r4]) rfl ⟨⟨p0, h0, ri, z, ti⟩, rfl, ?_⟩
    have HF := ((((HS8.put (nil_apart rb) hrs 0 (.int .i64 p0)).put (nil_apart rb) hrs 1 (.int .i64 h0)).put (nil_apart rb) hrs 2 (.int .i64 ri)).put (nil_apart rb) hrs 3 (.int .i64 z)).put (nil_apart rb) hrs 4 (.int .i64 ti)
    exact ⟨HF.cur.more (by omega), HF.old⟩
  · go_wp2_with fail
    refine (among_lit g c _ A l [0, 3601] 2 w6 _ rfl rfl hl (by omega) (by decide) (by decide) hc6).mono ?_
    rintro e w7 ⟨z, _, rfl, hc7, hg7⟩
    have HS7 := HS6.gr hg7 hc7
    have BR7 := BR6.gr hg7 (by simp; omega)
    have BT7 := BT6.gr hg7 (by simp; omega)
    clear HS6 BR6 BT6 hc6 hg7
    obtain ⟨w8, hw8⟩ : ∃ w8 : World, w8 = w7.setCell ⟨tb, 4, none⟩ (.int .i64 z) := ⟨_, rfl⟩
    have HS8 : NilS w w8 g A c l (P + 2 + 2 + 2 + 2 + 2) := by rw [hw8]; exact HS7.put (nil_apart tb) (by omega) _ _
    have BR8 : Blk w8 rb 25 #[.int .i64 0, .int .i64 0, .int .i64 0, .int .i64 0, .int .i64 0] := by rw [hw8]; exact BR7.far (by simp; omega) _
    have BT8 : Blk w8 tb 25 #[.int .i64 p0, .int .i64 h0, .int .i64 ri, .int .i64 wr, .int .i64 z] := by rw [hw8]; exact BT7.set_ 4 _
    have q6 := BT7.frozen 4
    have q7 := BT7.cell 4
    go_upto_region 13 with fail
    rw [← hw8]
    clear hw8 q6 q7 BT7 BR7 HS7
    have k0 := BT8.cell 0
    have k1 := BT8.cell 1
    have k2 := BT8.cell 2
    have k3 := BT8.cell 3
    have k4 := BT8.cell 4
    have r0 := BR8.cell 0
    have r1 := BR8.cell 1
    have r2 := BR8.cell 2
    have r3 := BR8.cell 3
    have r4 := BR8.cell 4
    have q0 := BR8.frozen 0
    have q1 := BR8.frozen 1
    have q2 := BR8.frozen 2
    have q3 := BR8.frozen 3
    have q4 := BR8.frozen 4
    go_wp2
    refine bodyPost_ret (v := .agg #[.int .i64 p0, .int .i64 h0, .int .i64 ri, .int .i64 wr, .int .i64 z]) (by simp [results, Try.results90, go_sem, r0, r1, r2, r3, r4]) rfl ⟨⟨p0, h0, ri, wr, z⟩, rfl, ?_⟩
    have HF := ((((HS8.put (nil_apart rb) hrs 0 (.int .i64 p0)).put (nil_apart rb) hrs 1 (.int .i64 h0)).put (nil_apart rb) hrs 2 (.int .i64 ri)).put (nil_apart rb) hrs 3 (.int .i64 wr)).put (nil_apart rb) hrs 4 (.int .i64 z)
    exact ⟨HF.cur.more (by omega), HF.old⟩
  · have k0 := BT6.cell 0
    have k1 := BT6.cell 1
    have k2 := BT6.cell 2
    have k3 := BT6.cell 3
    have k4 := BT6.cell 4
    have r0 := BR6.cell 0
    have r1 := BR6.cell 1
    have r2 := BR6.cell 2
    have r3 := BR6.cell 3
    have r4 := BR6.cell 4
    have q0 := BR6.frozen 0
    have q1 := BR6.frozen 1
    have q2 := BR6.frozen 2
    have q3 := BR6.frozen 3
    have q4 := BR6.frozen 4
    go_wp2
    refine bodyPost_ret (v := .agg #[.int .i64 p0, .int .i64 h0, .int .i64 ri, .int .i64 wr, .int .i64 ti]) (by simp [results, Try.results90, go_sem, r0, r1, r2, r3, r4]) rfl ⟨⟨p0, h0, ri, wr, ti⟩, rfl, ?_⟩
    have HF := ((((HS6.put (nil_apart rb) hrs 0 (.int .i64 p0)).put (nil_apart rb) hrs 1 (.int .i64 h0)).put (nil_apart rb) hrs 2 (.int .i64 ri)).put (nil_apart rb) hrs 3 (.int .i64 wr)).put (nil_apart rb) hrs 4 (.int .i64 ti)
    exact ⟨HF.cur.more (by omega), HF.old⟩
end Go.Proofs.Ytcbecfkckdalmaa
