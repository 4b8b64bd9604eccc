/-
  Adding a number: the moves: contracts of the reference's functions.
-/
import Derived.Test.YtkcbldaondflmaaFrmE
namespace Go.Proofs.Ytkcbldaondflmaa
open Go.RowKit Go.Sort

structure NmS (w wr : World) (tb nb rb : Nat) (A : Option Addr) (n c : Nat) (A1 : Option Addr) (c1 : Nat) (L : List MoveV) (A2 : Option Addr) (c2 : Nat) (R2 : List (Int × Int)) (up lo : Int) : Prop where
  om : OwnT moveT wr w.heap.size (.slice A1 L.length c1) L
  orr : OwnT rodT wr w.heap.size (.slice A2 R2.length c2) R2
  bt : Blk wr tb 71 #[.int .i64 up, .int .i64 lo, .slice A n c]
  bn : Blk wr nb 71 #[.int .i64 up, .int .i64 lo, .slice A2 R2.length c2]
  br : Blk wr rb 71 #[.int .i64 0, .int .i64 0, .slice none 0 0]
  hb : Below w.heap.size w wr
section
variable {w wr w2 : World} {tb nb rb n c : Nat} {A A1 : Option Addr} {c1 : Nat} {L : List MoveV} {A2 : Option Addr} {c2 : Nat} {R2 : List (Int × Int)} {up lo : Int}
theorem NmS.below (h : NmS w wr tb nb rb A n c A1 c1 L A2 c2 R2 up lo) (hb : Below wr.heap.size wr w2) : NmS w w2 tb nb rb A n c A1 c1 L A2 c2 R2 up lo :=
  ⟨h.om.below hb (Nat.le_refl _), h.orr.below hb (Nat.le_refl _), h.bt.below hb h.bt.lt, h.bn.below hb h.bn.lt, h.br.below hb h.br.lt, h.hb.trans (hb.mono h.hb.size)⟩
theorem NmS.app {A3 : Option Addr} {c3 : Nat} {L3 : List MoveV} (h : NmS w wr tb nb rb A n c A1 c1 L A2 c2 R2 up lo) (ho : OwnT moveT w2 w.heap.size (.slice A3 L3.length c3) L3) (hb : Below w.heap.size w w2) (hg : wr.grownBy w2 (Value.slice A1 L.length c1).ownBlock) : NmS w w2 tb nb rb A n c A3 c3 L3 A2 c2 R2 up lo :=
  ⟨ho, h.orr.kept hg (own_apart h.om h.orr (by decide)).symm, h.bt.gr hg (h.bt.ne_v h.om (by decide)), h.bn.gr hg (h.bn.ne_v h.om (by decide)), h.br.gr hg (h.br.ne_v h.om (by decide)), hb⟩
/-- The frame at hand becomes another one. -/
theorem NmS.next {A3 : Option Addr} {c3 : Nat} {R3 : List (Int × Int)} (h : NmS w wr tb nb rb A n c A1 c1 L A2 c2 R2 up lo) (ho : OwnT rodT wr w.heap.size (.slice A3 R3.length c3) R3) (h1 : ¬ tb = nb) (h2 : ¬ rb = nb) (hw : w.heap.size ≤ nb) : NmS w (((wr.setCell ⟨nb, 0, none⟩ (.int .i64 up)).setCell ⟨nb, 1, none⟩ (.int .i64 lo)).setCell ⟨nb, 2, none⟩ (.slice A3 R3.length c3)) tb nb rb A n c A1 c1 L A3 c3 R3 up lo := by
  have n1 := h.bn.ne_v h.om (by decide)
  have n2 := h.bn.ne_v ho (by decide)
  exact ⟨((h.om.kept (gr_setCell wr ⟨nb, 0, none⟩ _) (.inr (fun e => n1 e.symm))).kept (gr_setCell _ ⟨nb, 1, none⟩ _) (.inr (fun e => n1 e.symm))).kept (gr_setCell _ ⟨nb, 2, none⟩ _) (.inr (fun e => n1 e.symm)),
    ((ho.kept (gr_setCell wr ⟨nb, 0, none⟩ _) (.inr (fun e => n2 e.symm))).kept (gr_setCell _ ⟨nb, 1, none⟩ _) (.inr (fun e => n2 e.symm))).kept (gr_setCell _ ⟨nb, 2, none⟩ _) (.inr (fun e => n2 e.symm)),
    ((h.bt.far h1 _).far h1 _).far h1 _, ((h.bn.set_ 0 _).set_ 1 _).set_ 2 _, ((h.br.far h2 _).far h2 _).far h2 _, ((h.hb.setCell hw _).setCell hw _).setCell hw _⟩
theorem NmS.res {u0 u1 u2 : Value} (h : NmS w wr tb nb rb A n c A1 c1 L A2 c2 R2 up lo) (hw : w.heap.size ≤ rb) : OwnT moveT (((wr.setCell ⟨rb, 0, none⟩ u0).setCell ⟨rb, 1, none⟩ u1).setCell ⟨rb, 2, none⟩ u2).drew w.heap.size (.slice A1 L.length c1) L ∧ Below w.heap.size w (((wr.setCell ⟨rb, 0, none⟩ u0).setCell ⟨rb, 1, none⟩ u1).setCell ⟨rb, 2, none⟩ u2).drew := by
  have n1 := h.br.ne_v h.om (by decide)
  exact ⟨((h.om.kept (gr_setCell wr ⟨rb, 0, none⟩ u0) (.inr (fun e => n1 e.symm))).kept (gr_setCell _ ⟨rb, 1, none⟩ u1) (.inr (fun e => n1 e.symm))).kept (gr_drew (gr_setCell _ ⟨rb, 2, none⟩ u2)) (.inr (fun e => n1 e.symm)),
    (((h.hb.setCell hw u0).setCell hw u1).setCell hw u2).drew⟩
end
theorem below_set3 {w w1 : World} {B tb : Nat} (h : Below B w w1) (hb : B ≤ tb) (u0 u1 u2 : Value) : Below B w (((w1.setCell ⟨tb, 0, none⟩ u0).setCell ⟨tb, 1, none⟩ u1).setCell ⟨tb, 2, none⟩ u2) := ((h.setCell hb u0).setCell hb u1).setCell hb u2
theorem own_set3 {α : Type} {T : Ty α} {w : World} {base tb : Nat} {v : Value} {l : List α} (h : OwnT T w base v l) (hn : some tb ≠ v.ownBlock) (u0 u1 u2 : Value) : OwnT T (((w.setCell ⟨tb, 0, none⟩ u0).setCell ⟨tb, 1, none⟩ u1).setCell ⟨tb, 2, none⟩ u2) base v l :=
  ((h.kept (gr_setCell w ⟨tb, 0, none⟩ u0) (.inr (fun e => hn e.symm))).kept (gr_setCell _ ⟨tb, 1, none⟩ u1) (.inr (fun e => hn e.symm))).kept (gr_setCell _ ⟨tb, 2, none⟩ u2) (.inr (fun e => hn e.symm))
set_option maxRecDepth 100000 in
set_option maxHeartbeats 8000000 in
theorem l6Number_any (up lo : Int) (A : Option Addr) (c : Nat) (R : List (Int × Int)) (number : Int) (w : World) (hn : R.length ≤ 8) (h : RdT rodT w A R) :
    Calls Try.prog 74 #[.agg #[.int .i64 up, .int .i64 lo, .slice A R.length c], .int .i64 number] w fun e w' => ∃ (L : List MoveV) (A1 : Option Addr) (c1 : Nat) (F : Value), L.length ≤ 128 ∧ (∃ (n : Nat) (A2 : Option Addr) (c2 : Nat), F = .agg #[.int .i64 up, .int .i64 lo, .slice A2 n c2]) ∧ e = .returned (.tuple #[.slice A1 L.length c1, F]) ∧ OwnT moveT w' w.heap.size (.slice A1 L.length c1) L ∧ Below w.heap.size w w' := by
  obtain ⟨wb, hwb⟩ : ∃ wb : World, wb = (w.alloc (.cells #[.int .i64 up, .int .i64 lo, .slice A R.length c] 71)).alloc (.cells #[.int .i64 0, .int .i64 0, .slice none 0 0] 71) := ⟨_, rfl⟩
  obtain ⟨tb, htb⟩ : ∃ tb : Nat, tb = w.heap.size := ⟨_, rfl⟩
  obtain ⟨rb, hrb⟩ : ∃ rb : Nat, rb = w.heap.size + 1 := ⟨_, rfl⟩
  have BT : Blk wb tb 71 #[.int .i64 up, .int .i64 lo, .slice A R.length c] := by rw [hwb, htb]; exact (Blk.new w _ _).alloc _
  have BR : Blk wb rb 71 #[.int .i64 0, .int .i64 0, .slice none 0 0] := by rw [hwb, hrb]; exact Blk.new1 w _ _ _
  have hb0 : Below w.heap.size w wb := by rw [hwb]; exact ((Below.refl _ _).alloc (Nat.le_refl _) _).alloc (by simp) _
  have hwr : w.heap.size ≤ rb := by omega
  have hrs := BR.lt
  have hts := BT.lt
  obtain ⟨w1, hw1⟩ : ∃ w1 : World, w1 = wb.alloc (.cells #[] 52) := ⟨_, rfl⟩
  obtain ⟨ob, hob⟩ : ∃ ob : Nat, ob = wb.heap.size := ⟨_, rfl⟩
  have hb1 : Below w.heap.size w w1 := by rw [hw1]; exact hb0.alloc hb0.size _
  have om1 : OwnT moveT w1 w.heap.size (.slice (some ⟨ob, 0, none⟩) 0 0) [] := by rw [hw1, hob]; exact ownMove_empty0 wb _ hb0.size
  have BT1 : Blk w1 tb 71 #[.int .i64 up, .int .i64 lo, .slice A R.length c] := by rw [hw1]; exact BT.alloc _
  have BR1 : Blk w1 rb 71 #[.int .i64 0, .int .i64 0, .slice none 0 0] := by rw [hw1]; exact BR.alloc _
  have p0 : (wb.alloc (.cells #[] 52)).cell? ⟨tb, 0, none⟩ = some (.int .i64 up) := by rw [← hw1]; exact BT1.cell 0
  have p1 : (wb.alloc (.cells #[] 52)).cell? ⟨tb, 1, none⟩ = some (.int .i64 lo) := by rw [← hw1]; exact BT1.cell 1
  have p2 : (wb.alloc (.cells #[] 52)).cell? ⟨tb, 2, none⟩ = some (.slice A R.length c) := by rw [← hw1]; exact BT1.cell 2
  have HW1 := Lib.hid hw1
  have HOB := Lib.hid hob
  clear hw1 hob BT BR
  go_enter Try.func74, Try.ntmps74
  go_upto_region 1 with fail
  rw [← hwb, ← hrb, ← htb]
  clear hwb htb hrb
  go_wp2_with fail
  rw [← HW1.out, ← HOB.out]
  clear HW1 HOB p0 p1 p2
  refine (l2Own_any up lo A c R w1 (by omega) (h.below hb1 (Nat.le_refl _))).mono ?_
  rintro e w2 ⟨A2, c2, rfl, or2, hb2⟩
  obtain ⟨w3, hw3⟩ : ∃ w3 : World, w3 = w2.alloc (.cells #[.int .i64 up, .int .i64 lo, .slice A2 R.length c2] 71) := ⟨_, rfl⟩
  obtain ⟨nb, hnb⟩ : ∃ nb : Nat, nb = w2.heap.size := ⟨_, rfl⟩
  have HD : NmS w w3 tb nb rb A R.length c (some ⟨ob, 0, none⟩) 0 [] A2 c2 R up lo := by
    have hbb := (Below.refl w2.heap.size w2).alloc (Nat.le_refl _) (.cells #[.int .i64 up, .int .i64 lo, .slice A2 R.length c2] 71)
    have hb12 := hb1.trans (hb2.mono hb1.size)
    rw [hw3, hnb]
    exact ⟨(om1.below hb2 (Nat.le_refl _)).below hbb (Nat.le_refl _), (or2.mono hb1.size).below hbb (Nat.le_refl _), (BT1.below hb2 BT1.lt).below hbb (BT1.below hb2 BT1.lt).lt, Blk.new w2 _ _, (BR1.below hb2 BR1.lt).below hbb (BR1.below hb2 BR1.lt).lt, hb12.trans (hbb.mono hb12.size)⟩
  have hz2 := hb2.size
  have hn1 : ¬ tb = nb := by have := BT1.lt; omega
  have hn2 : ¬ rb = nb := by have := BR1.lt; omega
  have hwn : w.heap.size ≤ nb := by have := BR1.lt; omega
  clear om1 or2 BR1 BT1 hb2 hb0 hb1 hz2 hrs hts
  go_upto_region 2 with fail
  rw [← hw3, ← hnb]
  clear hw3 hnb
  go_wp2_with fail
  go_loopw [6, 8] (fun o r wr => ∃ (k : Nat) (L : List MoveV) (A1 : Option Addr) (c1 : Nat) (R2 : List (Int × Int)) (A2 : Option Addr) (c2 : Nat), k ≤ R.length ∧ r = .int .i64 k ∧ o = .slice A1 L.length c1 ∧ L.length ≤ 16 * k ∧ R2.length = R.length ∧ NmS w wr tb nb rb A R.length c A1 c1 L A2 c2 R2 up lo) (fun _ r _ => R.length - (intOf r).toNat)
  case atStart => exact ⟨0, [], _, 0, R, A2, c2, by omega, rfl, rfl, by simp, rfl, HD⟩
  case round =>
    obtain ⟨k, L, A1, c1, R2, A3, c3, hk, rfl, rfl, hL, hRl, HQ⟩ := hrel
    have HRL := Lib.hid hRl
    have hr8 : R2.length ≤ R.length := Nat.le_of_eq hRl
    have hr9 : R.length ≤ R2.length := Nat.le_of_eq hRl.symm
    clear HD hRl
    have c2' : wr.cell? ⟨tb, 2, none⟩ = some (.slice A R.length c) := HQ.bt.cell 2
    by_cases hlt : k < R.length
    · have d1 : decide (k < R.length) = true := decide_eq_true hlt
      go_upto_region 5 with fail
      clear d1 c2'
      go_cut [9, 10] (fun s9 s10 wx => ∃ (L5 : List MoveV) (A5 : Option Addr) (c5 : Nat) (R3 : List (Int × Int)) (A6 : Option Addr) (c6 xb : Nat), L5.length ≤ 16 ∧ (R3.length ≤ R.length ∧ R.length ≤ R3.length) ∧ s9 = .slice A5 L5.length c5 ∧ s10 = .pointer (some ⟨xb, 0, none⟩) ∧ OwnT moveT wx wr.heap.size (.slice A5 L5.length c5) L5 ∧ OwnT rodT wx wr.heap.size (.slice A6 R3.length c6) R3 ∧ Blk wx xb 71 #[.int .i64 up, .int .i64 lo, .slice A6 R3.length c6] ∧ wr.heap.size ≤ xb ∧ Below wr.heap.size wr wx)
      case first =>
        have a0 : wr.cell? ⟨nb, 0, none⟩ = some (.int .i64 up) := HQ.bn.cell 0
        have a1 : wr.cell? ⟨nb, 1, none⟩ = some (.int .i64 lo) := HQ.bn.cell 1
        have a2 : wr.cell? ⟨nb, 2, none⟩ = some (.slice A3 R2.length c3) := HQ.bn.cell 2
        have e0 : wr.cell? ⟨tb, 0, none⟩ = some (.int .i64 up) := HQ.bt.cell 0
        have e1 : wr.cell? ⟨tb, 1, none⟩ = some (.int .i64 lo) := HQ.bt.cell 1
        have e2 : wr.cell? ⟨tb, 2, none⟩ = some (.slice A R.length c) := HQ.bt.cell 2
        have ltn := HQ.bn.lt
        have ltt := HQ.bt.lt
        have hrd := HQ.orr.rd
        have hk0 : (0 : Int) ≤ (k : Int) := by omega
        have hk1 : (k : Int) < (R.length : Int) := by omega
        have hk2 : (k : Int) < (R2.length : Int) := by omega
        have hn2' : R2.length ≤ 8 := by omega
        have x1 : ¬ nb = wr.heap.size := by omega
        have x2 : ¬ tb = wr.heap.size := by omega
        have KA0 := l6At_any up lo A c R number (k : Int) wr.drew hn hk0 hk1
        have KA1 := l6At_any up lo A c R number (k : Int) (wr.alloc (.cells #[.int .i64 0, .int .i64 0, .slice none 0 0] 71)).drew hn hk0 hk1
        clear HQ h
        go_region_held3 (fun wy => wy.cell? ⟨nb, 0, none⟩ = some (.int .i64 up) ∧ wy.cell? ⟨nb, 1, none⟩ = some (.int .i64 lo) ∧ wy.cell? ⟨nb, 2, none⟩ = some (.slice A3 R2.length c3) ∧ wy.cell? ⟨tb, 0, none⟩ = some (.int .i64 up) ∧ wy.cell? ⟨tb, 1, none⟩ = some (.int .i64 lo) ∧ wy.cell? ⟨tb, 2, none⟩ = some (.slice A R.length c))
          ((((try dsimp only); (repeat' apply And.intro)) <;> (first
            | (with_reducible assumption)
            | (with_reducible exact cell_drew a0) | (with_reducible exact cell_drew a1) | (with_reducible exact cell_drew a2) | (with_reducible exact cell_drew e0) | (with_reducible exact cell_drew e1) | (with_reducible exact cell_drew e2)
            | (with_reducible exact cell_drew (box_old a0 _)) | (with_reducible exact cell_drew (box_old a1 _)) | (with_reducible exact cell_drew (box_old a2 _)) | (with_reducible exact cell_drew (box_old e0 _)) | (with_reducible exact cell_drew (box_old e1 _)) | (with_reducible exact cell_drew (box_old e2 _))
            | (with_reducible exact box_old t0 _) | (with_reducible exact box_old t1 _) | (with_reducible exact box_old t2 _) | (with_reducible exact box_old t3 _) | (with_reducible exact box_old t4 _) | (with_reducible exact box_old t5 _)
            | (with_reducible exact box_old v0 _) | (with_reducible exact box_old v1 _) | (with_reducible exact box_old v2 _) | (with_reducible exact box_old v3 _) | (with_reducible exact box_old v4 _) | (with_reducible exact box_old v5 _)
            | (with_reducible exact cell_far3 v0 (by first | exact x1 | exact x3) _ _ _) | (with_reducible exact cell_far3 v1 (by first | exact x1 | exact x3) _ _ _) | (with_reducible exact cell_far3 v2 (by first | exact x1 | exact x3) _ _ _) | (with_reducible exact cell_far3 v3 (by first | exact x2 | exact x4) _ _ _) | (with_reducible exact cell_far3 v4 (by first | exact x2 | exact x4) _ _ _) | (with_reducible exact cell_far3 v5 (by first | exact x2 | exact x4) _ _ _))))
          (first
            | (go_at_call 82; (with_reducible refine KA0.mono ?_); rintro e w5 ⟨x, rfl, hb5⟩; have HB5 : Below wr.heap.size wr w5 := (Below.refl _ _).drew.trans hb5; have t0 : w5.cell? ⟨nb, 0, none⟩ = some (.int .i64 up) := (HB5.cell (p := ⟨nb, 0, none⟩) ltn).trans a0; have t1 : w5.cell? ⟨nb, 1, none⟩ = some (.int .i64 lo) := (HB5.cell (p := ⟨nb, 1, none⟩) ltn).trans a1; have t2 : w5.cell? ⟨nb, 2, none⟩ = some (.slice A3 R2.length c3) := (HB5.cell (p := ⟨nb, 2, none⟩) ltn).trans a2; have t3 : w5.cell? ⟨tb, 0, none⟩ = some (.int .i64 up) := (HB5.cell (p := ⟨tb, 0, none⟩) ltt).trans e0; have t4 : w5.cell? ⟨tb, 1, none⟩ = some (.int .i64 lo) := (HB5.cell (p := ⟨tb, 1, none⟩) ltt).trans e1; have t5 : w5.cell? ⟨tb, 2, none⟩ = some (.slice A R.length c) := (HB5.cell (p := ⟨tb, 2, none⟩) ltt).trans e2; have KD0 := l6Digit_any up lo A3 c3 R2 (k : Int) x w5 hn2' (hrd.below HB5 (Nat.le_refl _)) hk0 hk2; have KD1 := l6Digit_any up lo A3 c3 R2 (k : Int) x (w5.alloc (.cells #[.int .i64 0, .int .i64 0, .slice none 0 0] 71)) hn2' (hrd.below (HB5.alloc HB5.size _) (Nat.le_refl _)) hk0 hk2)
            | (go_at_call 82; (with_reducible refine KA1.mono ?_); rintro e w5 ⟨x, rfl, hb5⟩; have HB5 : Below wr.heap.size wr w5 := (((Below.refl wr.heap.size wr).alloc (Nat.le_refl _) _).drew).trans (hb5.mono (by simp)); have B5 : Blk w5 wr.heap.size 71 #[.int .i64 0, .int .i64 0, .slice none 0 0] := (show Blk (wr.alloc (.cells #[.int .i64 0, .int .i64 0, .slice none 0 0] 71)).drew wr.heap.size _ _ from Blk.new wr _ _).below hb5 (by simp); have t0 : w5.cell? ⟨nb, 0, none⟩ = some (.int .i64 up) := (HB5.cell (p := ⟨nb, 0, none⟩) ltn).trans a0; have t1 : w5.cell? ⟨nb, 1, none⟩ = some (.int .i64 lo) := (HB5.cell (p := ⟨nb, 1, none⟩) ltn).trans a1; have t2 : w5.cell? ⟨nb, 2, none⟩ = some (.slice A3 R2.length c3) := (HB5.cell (p := ⟨nb, 2, none⟩) ltn).trans a2; have t3 : w5.cell? ⟨tb, 0, none⟩ = some (.int .i64 up) := (HB5.cell (p := ⟨tb, 0, none⟩) ltt).trans e0; have t4 : w5.cell? ⟨tb, 1, none⟩ = some (.int .i64 lo) := (HB5.cell (p := ⟨tb, 1, none⟩) ltt).trans e1; have t5 : w5.cell? ⟨tb, 2, none⟩ = some (.slice A R.length c) := (HB5.cell (p := ⟨tb, 2, none⟩) ltt).trans e2; have KD2 := l6Digit_any up lo A3 c3 R2 (k : Int) x w5 hn2' (hrd.below HB5 (Nat.le_refl _)) hk0 hk2)
            | (go_at_call 81; (with_reducible refine KD0.mono ?_); rintro e w6 ⟨L5, A5, c5, R3, A6, c6, hL5, hR3, rfl, om6, or6, hb6⟩; have HR3 := Lib.hid hR3; clear hR3; have HB6 : Below wr.heap.size wr w6 := HB5.trans (hb6.mono HB5.size); have v0 : w6.cell? ⟨nb, 0, none⟩ = some (.int .i64 up) := (HB6.cell (p := ⟨nb, 0, none⟩) ltn).trans a0; have v1 : w6.cell? ⟨nb, 1, none⟩ = some (.int .i64 lo) := (HB6.cell (p := ⟨nb, 1, none⟩) ltn).trans a1; have v2 : w6.cell? ⟨nb, 2, none⟩ = some (.slice A3 R2.length c3) := (HB6.cell (p := ⟨nb, 2, none⟩) ltn).trans a2; have v3 : w6.cell? ⟨tb, 0, none⟩ = some (.int .i64 up) := (HB6.cell (p := ⟨tb, 0, none⟩) ltt).trans e0; have v4 : w6.cell? ⟨tb, 1, none⟩ = some (.int .i64 lo) := (HB6.cell (p := ⟨tb, 1, none⟩) ltt).trans e1; have v5 : w6.cell? ⟨tb, 2, none⟩ = some (.slice A R.length c) := (HB6.cell (p := ⟨tb, 2, none⟩) ltt).trans e2)
            | (go_at_call 81; (with_reducible refine KD1.mono ?_); rintro e w6 ⟨L5, A5, c5, R3, A6, c6, hL5, hR3, rfl, om6, or6, hb6⟩; have HR3 := Lib.hid hR3; clear hR3; have HB6 : Below wr.heap.size wr w6 := (HB5.alloc HB5.size _).trans (hb6.mono (HB5.alloc HB5.size _).size); have B6 : Blk w6 w5.heap.size 71 #[.int .i64 0, .int .i64 0, .slice none 0 0] := (Blk.new w5 _ _).below hb6 (by simp); have x3 : ¬ nb = w5.heap.size := (by have := HB5.size; omega); have x4 : ¬ tb = w5.heap.size := (by have := HB5.size; omega); have v0 : w6.cell? ⟨nb, 0, none⟩ = some (.int .i64 up) := (HB6.cell (p := ⟨nb, 0, none⟩) ltn).trans a0; have v1 : w6.cell? ⟨nb, 1, none⟩ = some (.int .i64 lo) := (HB6.cell (p := ⟨nb, 1, none⟩) ltn).trans a1; have v2 : w6.cell? ⟨nb, 2, none⟩ = some (.slice A3 R2.length c3) := (HB6.cell (p := ⟨nb, 2, none⟩) ltn).trans a2; have v3 : w6.cell? ⟨tb, 0, none⟩ = some (.int .i64 up) := (HB6.cell (p := ⟨tb, 0, none⟩) ltt).trans e0; have v4 : w6.cell? ⟨tb, 1, none⟩ = some (.int .i64 lo) := (HB6.cell (p := ⟨tb, 1, none⟩) ltt).trans e1; have v5 : w6.cell? ⟨tb, 2, none⟩ = some (.slice A R.length c) := (HB6.cell (p := ⟨tb, 2, none⟩) ltt).trans e2; have y0 := B6.cell 0; have y1 := B6.cell 1; have y2 := B6.cell 2; have z0 := B6.frozen 0; have z1 := B6.frozen 1; have z2 := B6.frozen 2)
            | (go_at_call 81; (with_reducible refine KD2.mono ?_); rintro e w6 ⟨L5, A5, c5, R3, A6, c6, hL5, hR3, rfl, om6, or6, hb6⟩; have HR3 := Lib.hid hR3; clear hR3; have HB6 : Below wr.heap.size wr w6 := HB5.trans (hb6.mono HB5.size); have B6 : Blk w6 wr.heap.size 71 #[.int .i64 0, .int .i64 0, .slice none 0 0] := B5.below hb6 B5.lt; have v0 : w6.cell? ⟨nb, 0, none⟩ = some (.int .i64 up) := (HB6.cell (p := ⟨nb, 0, none⟩) ltn).trans a0; have v1 : w6.cell? ⟨nb, 1, none⟩ = some (.int .i64 lo) := (HB6.cell (p := ⟨nb, 1, none⟩) ltn).trans a1; have v2 : w6.cell? ⟨nb, 2, none⟩ = some (.slice A3 R2.length c3) := (HB6.cell (p := ⟨nb, 2, none⟩) ltn).trans a2; have v3 : w6.cell? ⟨tb, 0, none⟩ = some (.int .i64 up) := (HB6.cell (p := ⟨tb, 0, none⟩) ltt).trans e0; have v4 : w6.cell? ⟨tb, 1, none⟩ = some (.int .i64 lo) := (HB6.cell (p := ⟨tb, 1, none⟩) ltt).trans e1; have v5 : w6.cell? ⟨tb, 2, none⟩ = some (.slice A R.length c) := (HB6.cell (p := ⟨tb, 2, none⟩) ltt).trans e2; have y0 := B6.cell 0; have y1 := B6.cell 1; have y2 := B6.cell 2; have z0 := B6.frozen 0; have z1 := B6.frozen 1; have z2 := B6.frozen 2))
        all_goals (have hR3' : R3.length ≤ R.length ∧ R.length ≤ R3.length := by have := HR3.out; omega)
        all_goals (go_wp2_with fail; go_meet)
        · exact ⟨L5, A5, c5, R3, A6, c6, _, hL5, hR3', rfl, rfl, (om6.mono HB5.size).alloc _, (or6.mono HB5.size).alloc _, Blk.new w6 _ _, by have := HB6.size; omega, HB6.alloc HB6.size _⟩
        · exact ⟨L5, A5, c5, R3, A6, c6, _, hL5, hR3', rfl, rfl, own_set3 (om6.mono (HB5.alloc HB5.size _).size) (B6.ne_v om6 (by decide)) _ _ _, own_set3 (or6.mono (HB5.alloc HB5.size _).size) (B6.ne_v or6 (by decide)) _ _ _, ((B6.set_ 0 _).set_ 1 _).set_ 2 _, HB5.size, below_set3 HB6 HB5.size _ _ _⟩
        · exact ⟨L5, A5, c5, R3, A6, c6, _, hL5, hR3', rfl, rfl, own_set3 (om6.mono HB5.size) (B6.ne_v om6 (by decide)) _ _ _, own_set3 (or6.mono HB5.size) (B6.ne_v or6 (by decide)) _ _ _, ((B6.set_ 0 _).set_ 1 _).set_ 2 _, Nat.le_refl _, below_set3 HB6 (Nat.le_refl _) _ _ _⟩
      case rest =>
        obtain ⟨L5, A5, c5, R3, A6, c6, xb, hL5, hR3, rfl, rfl, om6, or6, BX, hxb, hbx⟩ := hcut
        have HQ6 := HQ.below hbx
        have hzz := HQ.hb.size
        clear HQ HRL hr8 hr9
        have hr5 := om6.rd
        go_upto_region 7 with (at_builtin; refine wpList_spreadT moveT rfl _ _ rfl w.heap.size _ L rfl HQ6.om w.heap.size HQ6.hb A5 L5 _ _ rfl rfl hr5 (by omega) HQ6.hb.size (Nat.le_refl _) ?_; intro A7 c7 w7 ho7 hb7 hg7; rw [← List.length_append] at ho7)
        have HQ7 := HQ6.app ho7 hb7 hg7
        have or7 : OwnT rodT w7 w.heap.size (.slice A6 R3.length c6) R3 := (or6.mono hzz).kept hg7 (own_apart HQ6.om or6 (by decide)).symm
        have BX7 := BX.gr hg7 (BX.ne_v HQ6.om (by decide))
        clear HQ6 or6 BX om6 hr5 ho7 hb7 hg7
        have e0 := BX7.cell 0
        have e1 := BX7.cell 1
        have e2 := BX7.cell 2
        have f0 := HQ7.bn.frozen 0
        have f1 := HQ7.bn.frozen 1
        have f2 := HQ7.bn.frozen 2
        have g0 := HQ7.bn.cell 0
        have g1 := HQ7.bn.cell 1
        have g2 := HQ7.bn.cell 2
        have HQ8 := HQ7.next or7 hn1 hn2 hwn
        go_wp2_with fail
        go_roundw
        case rel => exact ⟨k + 1, L ++ L5, A7, c7, R3, A6, c6, by omega, by go_num, by rw [List.length_append], by simp; omega, by omega, HQ8⟩
        case measure => first | (simp [intOf]; done) | (simp [intOf]; omega)
    · have d1 : decide (k < R.length) = false := decide_eq_false hlt
      have b0 : wr.cell? ⟨nb, 0, none⟩ = some (.int .i64 up) := HQ.bn.cell 0
      have b1 : wr.cell? ⟨nb, 1, none⟩ = some (.int .i64 lo) := HQ.bn.cell 1
      have b2 : wr.cell? ⟨nb, 2, none⟩ = some (.slice A3 R2.length c3) := HQ.bn.cell 2
      have f0 := HQ.br.frozen 0
      have f1 := HQ.br.frozen 1
      have f2 := HQ.br.frozen 2
      have r0 := HQ.br.cell 0
      have r1 := HQ.br.cell 1
      have r2 := HQ.br.cell 2
      clear hlt hr8 hr9 HRL
      go_wp2_with fail
      go_region
      go_wp2
      refine bodyPost_ret (v := .tuple #[.slice A1 L.length c1, .agg #[.int .i64 up, .int .i64 lo, .slice A3 R2.length c3]]) (by simp [results, Try.results74, go_sem, r0, r1, r2]) rfl ⟨L, A1, c1, _, by omega, ⟨_, _, _, rfl⟩, rfl, (HQ.res hwr).1, (HQ.res hwr).2⟩
end Go.Proofs.Ytkcbldaondflmaa
