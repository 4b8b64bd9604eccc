/-
  The moves for a number; a move made: contracts of the reference's functions.
-/
import Derived.Test.YtkcbldaondflmaaFrmF
import Derived.Test.YtkcbldaondflmaaRecA
namespace Go.Proofs.Ytkcbldaondflmaa
open Go.RowKit Go.Sort

set_option maxRecDepth 100000 in
set_option maxHeartbeats 4000000 in
theorem addNumberMoves_any (up lo : Int) (A : Option Addr) (c : Nat) (R : List (Int × Int)) (number : Int) (w : World) (hn : R.length ≤ 1000) (h : RdT rodT w A R) :
    Calls Try.prog 64 #[.agg #[.int .i64 up, .int .i64 lo, .slice A R.length c], .int .i64 number] w fun e w' => ∃ (L : List MoveV) (A1 : Option Addr) (c1 : Nat) (ok : Bool), L.length ≤ 60 ∧ e = .returned (.tuple #[.slice A1 L.length c1, .bool ok]) ∧ OwnT moveT w' w.heap.size (.slice A1 L.length c1) L ∧ Below w.heap.size w w' := by
  obtain ⟨wb, hwb⟩ : ∃ wb : World, wb = w.alloc (.cells #[.int .i64 up, .int .i64 lo, .slice A R.length c] 71) := ⟨_, rfl⟩
  obtain ⟨tb, htb⟩ : ∃ tb : Nat, tb = w.heap.size := ⟨_, rfl⟩
  have BT : Blk wb tb 71 #[.int .i64 up, .int .i64 lo, .slice A R.length c] := by rw [hwb, htb]; exact Blk.new w _ _
  have hb0 : Below w.heap.size w wb := by rw [hwb]; exact (Below.refl _ _).alloc (Nat.le_refl _) _
  have b0 := BT.cell 0
  have b1 := BT.cell 1
  have b2 := BT.cell 2
  go_enter Try.func64, Try.ntmps64
  go_upto_region 1 with fail
  rw [← hwb, ← htb]
  clear hwb htb
  go_wp2_with fail
  refine (l6Can_any up lo A c R number wb hn (h.below hb0 (Nat.le_refl _))).mono ?_
  rintro e w2 ⟨ok, rfl, hok, hb2⟩
  have hb02 := hb0.trans (hb2.mono hb0.size)
  have BT2 := BT.below hb2 BT.lt
  clear b0 b1 b2 BT
  cases ok
  · go_wp2
    refine bodyPost_ret (results_tmp2 rfl _ _ _) rfl ⟨[], some ⟨w2.heap.size, 0, none⟩, 0, false, by simp, rfl, ?_, hb02.alloc hb02.size _⟩
    exact ownMove_empty0 w2 _ hb02.size
  · have hl := (hok rfl).2
    have b0 := BT2.cell 0
    have b1 := BT2.cell 1
    have b2 := BT2.cell 2
    clear hok
    go_wp2_with fail
    refine (l6Number_any up lo A c R number w2 hl (h.below hb02 (Nat.le_refl _))).mono ?_
    rintro e w3 ⟨L, A1, c1, F, hL, ⟨n, A2, c2, rfl⟩, rfl, om, hb3⟩
    have hb03 := hb02.trans (hb3.mono hb02.size)
    have om0 := om.mono hb02.size
    clear b0 b1 b2 om
    by_cases h60 : 60 < L.length
    · have d1 : decide (60 < L.length) = true := decide_eq_true h60
      go_wp2
      refine bodyPost_ret (results_tmp2 rfl _ _ _) rfl ⟨[], some ⟨w3.heap.size + 1, 0, none⟩, 0, false, by simp, rfl, ?_, (hb03.alloc hb03.size _).alloc (hb03.alloc hb03.size _).size _⟩
      have := ownMove_empty0 (w3.alloc (.cells #[.int .i64 up, .int .i64 lo, .slice A2 n c2] 71)) _ (hb03.alloc hb03.size _).size
      rw [show (w3.alloc (.cells #[.int .i64 up, .int .i64 lo, .slice A2 n c2] 71)).heap.size = w3.heap.size + 1 by simp] at this
      exact this
    · have d1 : decide (60 < L.length) = false := decide_eq_false h60
      go_wp2
      refine bodyPost_ret (results_tmp2 rfl _ _ _) rfl ⟨L, A1, c1, true, by omega, rfl, om0.alloc _, hb03.alloc hb03.size _⟩
theorem own_rod {w : World} {base n c g : Nat} {l : List (Int × Int)} (h : OwnT rodT w base (.slice (some ⟨g, 0, none⟩) n c) l) {k : Nat} (hk : k < l.length) (x y : Int) :
    OwnT rodT ((w.setCell ⟨g, k * 2, none⟩ (.int .i64 x)).setCell ⟨g, k * 2 + 1, none⟩ (.int .i64 y)) base (.slice (some ⟨g, 0, none⟩) n c) (l.set k (x, y)) ∧ w.grownBy ((w.setCell ⟨g, k * 2, none⟩ (.int .i64 x)).setCell ⟨g, k * 2 + 1, none⟩ (.int .i64 y)) (some g) := h.set hk (x, y)
/-- A frame of its own, and whether there is one. -/
def RetFr (n : Nat) (w : World) (e : Ending) (w' : World) : Prop :=
  ∃ (u l : Int) (R2 : List (Int × Int)) (A2 : Option Addr) (c2 : Nat) (ok : Bool), R2.length ≤ n ∧ e = .returned (.tuple #[.agg #[.int .i64 u, .int .i64 l, .slice A2 R2.length c2], .bool ok]) ∧ OwnT rodT w' w.heap.size (.slice A2 R2.length c2) R2 ∧ Below w.heap.size w w'
set_option maxRecDepth 100000 in
set_option maxHeartbeats 8000000 in
theorem l4Make_any (up lo : Int) (A : Option Addr) (c : Nat) (R : List (Int × Int)) (mr mp mb : Int) (w : World) (hn : R.length ≤ 1000) (h : RdT rodT w A R) (h0 : 0 ≤ mr) :
    Calls Try.prog 85 #[.agg #[.int .i64 up, .int .i64 lo, .slice A R.length c], .agg #[.int .i64 mr, .int .i64 mp, .int .i64 mb]] w (RetFr R.length w) := by
  obtain ⟨wb, hwb⟩ : ∃ wb : World, wb = ((w.alloc (.cells #[.int .i64 up, .int .i64 lo, .slice A R.length c] 71)).alloc (.cells #[.int .i64 mr, .int .i64 mp, .int .i64 mb] 52)).alloc (.cells #[.int .i64 0, .int .i64 0, .slice none 0 0] 71) := ⟨_, rfl⟩
  obtain ⟨tb, htb⟩ : ∃ tb : Nat, tb = w.heap.size := ⟨_, rfl⟩
  obtain ⟨vb, hvb⟩ : ∃ vb : Nat, vb = w.heap.size + 1 := ⟨_, rfl⟩
  obtain ⟨rb, hrb⟩ : ∃ rb : Nat, rb = w.heap.size + 1 + 1 := ⟨_, rfl⟩
  have BT : Blk wb tb 71 #[.int .i64 up, .int .i64 lo, .slice A R.length c] := by rw [hwb, htb]; exact ((Blk.new w _ _).alloc _).alloc _
  have BV : Blk wb vb 52 #[.int .i64 mr, .int .i64 mp, .int .i64 mb] := by rw [hwb, hvb]; exact (Blk.new1 w _ _ _).alloc _
  have BR : Blk wb rb 71 #[.int .i64 0, .int .i64 0, .slice none 0 0] := by
    rw [hwb, hrb]
    have := Blk.new1 (w.alloc (.cells #[.int .i64 up, .int .i64 lo, .slice A R.length c] 71)) (.cells #[.int .i64 mr, .int .i64 mp, .int .i64 mb] 52) 71 #[.int .i64 0, .int .i64 0, .slice none 0 0]
    rw [show (w.alloc (.cells #[.int .i64 up, .int .i64 lo, .slice A R.length c] 71)).heap.size = w.heap.size + 1 by simp] at this
    exact this
  have hb0 : Below w.heap.size w wb := by rw [hwb]; exact (((Below.refl _ _).alloc (Nat.le_refl _) _).alloc (by simp) _).alloc (by simp; omega) _
  have hwr : w.heap.size ≤ rb := by omega
  have hr1 := h.below hb0 (Nat.le_refl _)
  have a0 := BT.cell 0
  have a1 := BT.cell 1
  have a2 := BT.cell 2
  have b0 := BV.cell 0
  have b1 := BV.cell 1
  have b2 := BV.cell 2
  go_enter Try.func85, Try.ntmps85
  go_upto_region 1 with fail
  rw [← hwb, ← hrb, ← hvb, ← htb]
  have h1 : ¬ tb = rb := by omega
  have h2 : ¬ vb = rb := by omega
  clear hwb htb hvb hrb
  by_cases hge : (R.length : Int) ≤ mr
  · have d1 : decide ((R.length : Int) ≤ mr) = true := decide_eq_true hge
    have f0 := BR.frozen 0
    have f1 := BR.frozen 1
    have f2 := BR.frozen 2
    have r0 := BR.cell 0
    have r1 := BR.cell 1
    have r2 := BR.cell 2
    go_wp2
    refine bodyPost_ret (v := .tuple #[.agg #[.int .i64 0, .int .i64 0, .slice none 0 0], .bool false]) (by simp [results, Try.results85, go_sem, r0, r1, r2]) rfl ⟨0, 0, [], none, 0, false, by simp, rfl, OwnT.nil _ _, below_set3 hb0 hwr _ _ _⟩
  · have d1 : decide ((R.length : Int) ≤ mr) = false := decide_eq_false hge
    obtain ⟨k, rfl⟩ : ∃ k : Nat, mr = (k : Int) := ⟨mr.toNat, by omega⟩
    have hkl : k < R.length := by omega
    have j1 : (k : Int) < (R.length : Int) := by omega
    obtain ⟨b, off, p, q, rfl, hx, hlb, e0, e1⟩ := rod_at hr1 hkl
    go_wp2_with fail
    refine (l2Own_any up lo _ c R wb hn hr1).mono ?_
    rintro e w2 ⟨A2, c2, rfl, or2, hb2⟩
    obtain ⟨g, rfl, hg0, hg1⟩ := or2.head (by omega)
    have hb12 := hb0.trans (hb2.mono hb0.size)
    have hbm := (Below.refl w2.heap.size w2).alloc (Nat.le_refl _) (.cells #[.int .i64 up, .int .i64 lo, .slice (some ⟨g, 0, none⟩) R.length c2] 71)
    obtain ⟨wm, hwm⟩ : ∃ wm : World, wm = w2.alloc (.cells #[.int .i64 up, .int .i64 lo, .slice (some ⟨g, 0, none⟩) R.length c2] 71) := ⟨_, rfl⟩
    obtain ⟨nb, hnb⟩ : ∃ nb : Nat, nb = w2.heap.size := ⟨_, rfl⟩
    have BN : Blk wm nb 71 #[.int .i64 up, .int .i64 lo, .slice (some ⟨g, 0, none⟩) R.length c2] := by rw [hwm, hnb]; exact Blk.new w2 _ _
    rw [← hwm] at hbm
    have hb2m := hb2.trans (hbm.mono hb2.size)
    have hb0m := hb0.trans (hb2m.mono hb0.size)
    have BTm := BT.below hb2m BT.lt
    have BVm := BV.below hb2m BV.lt
    have BRm := BR.below hb2m BR.lt
    have orm := (or2.mono hb0.size).below hbm (Nat.le_refl _)
    have e0m := (hb2m.cell (p := ⟨b, off + k * 2, none⟩) hlb).trans e0
    have e1m := (hb2m.cell (p := ⟨b, off + k * 2 + 1, none⟩) hlb).trans e1
    have hne : ¬ rb = nb := by have := BR.lt; have := hb2.size; omega
    clear BT BV BR or2 hb2 hr1 a0 a1 a2 b0 b1 b2 e0 e1 hx hb12 hb2m hb0
    go_upto_region 4 with fail
    rw [← hwm, ← hnb]
    clear hwm hnb hbm
    have a2 := BTm.cell 2
    have b0 := BVm.cell 0
    obtain ⟨w3, hw3⟩ : ∃ w3 : World, w3 = wm.alloc (.cells #[.int .i64 p, .int .i64 q] 80) := ⟨_, rfl⟩
    obtain ⟨qb, hqb⟩ : ∃ qb : Nat, qb = wm.heap.size := ⟨_, rfl⟩
    have hb3 : Below w.heap.size w w3 := by rw [hw3]; exact hb0m.alloc hb0m.size _
    have BN3 : Blk w3 nb 71 #[.int .i64 up, .int .i64 lo, .slice (some ⟨g, 0, none⟩) R.length c2] := by rw [hw3]; exact BN.alloc _
    have BV3 : Blk w3 vb 52 #[.int .i64 k, .int .i64 mp, .int .i64 mb] := by rw [hw3]; exact BVm.alloc _
    have BR3 : Blk w3 rb 71 #[.int .i64 0, .int .i64 0, .slice none 0 0] := by rw [hw3]; exact BRm.alloc _
    have BQ3 : Blk w3 qb 80 #[.int .i64 p, .int .i64 q] := by rw [hw3, hqb]; exact Blk.new wm _ _
    have orr3 : OwnT rodT w3 w.heap.size (.slice (some ⟨g, 0, none⟩) R.length c2) R := by rw [hw3]; exact orm.alloc _
    go_upto_region 5 with fail
    rw [← hw3, ← hqb]
    clear hw3 hqb a2 b0 BTm BVm BRm BN orm e0m e1m hb0m
    have v0 := BV3.cell 0
    have v1 := BV3.cell 1
    have v2 := BV3.cell 2
    have n2 := BN3.cell 2
    have q0 := BQ3.cell 0
    have q1 := BQ3.cell 1
    obtain ⟨_, _, _, s0, s1, f0, f1⟩ := rod_own orr3 hkl
    have HW := fun x y => own_rod orr3 hkl x y
    have hg0' := (orr3.lt g rfl).1
    go_upto_if 25 with fail
    go_cut [] (fun wx => ∃ R2 : List (Int × Int), (R2.length ≤ R.length ∧ R.length ≤ R2.length) ∧ OwnT rodT wx w.heap.size (.slice (some ⟨g, 0, none⟩) R.length c2) R2 ∧ Blk wx nb 71 #[.int .i64 up, .int .i64 lo, .slice (some ⟨g, 0, none⟩) R.length c2] ∧ Blk wx rb 71 #[.int .i64 0, .int .i64 0, .slice none 0 0] ∧ Below w.heap.size w wx)
    case first =>
      by_cases hp : mp = 0
      · have d2 : (mp == 0) = true := by simp [hp]
        clear hp
        go_wp2_with fail
        go_meet
        exact ⟨_, by simp, (HW _ _).1, BN3.gr (HW _ _).2 (BN3.ne_v orr3 (by decide)), BR3.gr (HW _ _).2 (BR3.ne_v orr3 (by decide)), hb3.grown (HW _ _).2 hb3.size (fun i hi => by cases hi; exact hg0')⟩
      · have d2 : (mp == 0) = false := by simp [hp]
        clear hp
        go_wp2_with fail
        go_meet
        exact ⟨_, by simp, (HW _ _).1, BN3.gr (HW _ _).2 (BN3.ne_v orr3 (by decide)), BR3.gr (HW _ _).2 (BR3.ne_v orr3 (by decide)), hb3.grown (HW _ _).2 hb3.size (fun i hi => by cases hi; exact hg0')⟩
    case rest =>
      obtain ⟨R2, hRl, orr, BN4, BR4, hb4⟩ := hcut
      clear v0 v1 v2 n2 q0 q1 s0 s1 f0 f1 HW BN3 BR3 BV3 BQ3 orr3 hb3
      obtain ⟨m, hm⟩ : ∃ m : Nat, m = R.length := ⟨_, rfl⟩
      have hm2 : R2.length = m := by omega
      have HM := Lib.hid hm
      have hno : R2.length ≤ 1000 := by omega
      have hmo : R2.length ≤ R.length := hRl.1
      have b0 := BN4.cell 0
      have b1 := BN4.cell 1
      have b2 := BN4.cell 2
      have K := l2Good_any up lo (some ⟨g, 0, none⟩) c2 R2 wc hno orr.rd
      rw [show R2.length = R.length by omega] at K
      have orr' : OwnT rodT wc w.heap.size (.slice (some ⟨g, 0, none⟩) R2.length c2) R2 := by rw [show R2.length = R.length by omega]; exact orr
      have hRR : R.length = R2.length := by omega
      have HRR := Lib.hid hRR
      clear hRR hRl hm hm2 HM hmo orr
      go_wp2_with fail
      refine K.mono ?_
      rintro e w5 ⟨rfl, hb5⟩
      have BN5 := BN4.below hb5 BN4.lt
      have BR5 := BR4.below hb5 BR4.lt
      have or5 := orr'.below hb5 (Nat.le_refl _)
      have hb05 := hb4.trans (hb5.mono hb4.size)
      clear b0 b1 b2 K BN4 BR4 orr' hb5 hb4
      have f0 := BR5.frozen 0
      have f1 := BR5.frozen 1
      have f2 := BR5.frozen 2
      have r0 := BR5.cell 0
      have r1 := BR5.cell 1
      have r2 := BR5.cell 2
      cases goodF up lo R2
      · go_wp2
        refine bodyPost_ret (v := .tuple #[.agg #[.int .i64 0, .int .i64 0, .slice none 0 0], .bool false]) (by simp [results, Try.results85, go_sem, r0, r1, r2]) rfl ⟨0, 0, [], none, 0, false, by simp, rfl, OwnT.nil _ _, below_set3 hb05 hwr _ _ _⟩
      · have b0 := BN5.cell 0
        have b1 := BN5.cell 1
        have b2 := BN5.cell 2
        go_wp2
        refine bodyPost_ret (v := .tuple #[.agg #[.int .i64 up, .int .i64 lo, .slice (some ⟨g, 0, none⟩) R.length c2], .bool true]) (by simp [results, Try.results85, go_sem, r0, r1, r2]) rfl ⟨up, lo, R2, some ⟨g, 0, none⟩, c2, true, Nat.le_of_eq HRR.out.symm, by rw [HRR.out], own_set3 or5 (BR5.ne_v or5 (by decide)) _ _ _, below_set3 hb05 hwr _ _ _⟩
end Go.Proofs.Ytkcbldaondflmaa
