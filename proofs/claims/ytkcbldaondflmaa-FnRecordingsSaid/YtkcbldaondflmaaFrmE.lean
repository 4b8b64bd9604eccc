/-
  Adding a digit: the moves, and the frame after them: contract of the reference's function.
-/
import Derived.Test.YtkcbldaondflmaaFrmD
namespace Go.Proofs.Ytkcbldaondflmaa
open Go.RowKit Go.Sort

structure DgS (w wr : World) (nb rb : Nat) (A1 : Option Addr) (c1 : Nat) (L : List MoveV) (A2 : Option Addr) (n2 c2 : Nat) (R2 : List (Int × Int)) (up lo : Int) : Prop where
  om : OwnT moveT wr w.heap.size (.slice A1 L.length c1) L
  orr : OwnT rodT wr w.heap.size (.slice A2 n2 c2) R2
  bn : Blk wr nb 71 #[.int .i64 up, .int .i64 lo, .slice A2 n2 c2]
  br : Blk wr rb 71 #[.int .i64 0, .int .i64 0, .slice none 0 0]
  hb : Below w.heap.size w wr
section
variable {w wr w2 : World} {nb rb : Nat} {A1 : Option Addr} {c1 : Nat} {L : List MoveV} {A2 : Option Addr} {n2 c2 : Nat} {R2 : List (Int × Int)} {up lo : Int}
theorem DgS.below (h : DgS w wr nb rb A1 c1 L A2 n2 c2 R2 up lo) (hb : Below wr.heap.size wr w2) : DgS w w2 nb rb A1 c1 L A2 n2 c2 R2 up lo :=
  ⟨h.om.below hb (Nat.le_refl _), h.orr.below hb (Nat.le_refl _), h.bn.below hb h.bn.lt, h.br.below hb h.br.lt, h.hb.trans (hb.mono h.hb.size)⟩
theorem DgS.app {A3 : Option Addr} {c3 : Nat} {L3 : List MoveV} (h : DgS w wr nb rb A1 c1 L A2 n2 c2 R2 up lo) (ho : OwnT moveT w2 w.heap.size (.slice A3 L3.length c3) L3) (hb : Below w.heap.size w w2) (hg : wr.grownBy w2 (Value.slice A1 L.length c1).ownBlock) : DgS w w2 nb rb A3 c3 L3 A2 n2 c2 R2 up lo :=
  ⟨ho, h.orr.kept hg (own_apart h.om h.orr (by decide)).symm, h.bn.gr hg (h.bn.ne_v h.om (by decide)), h.br.gr hg (h.br.ne_v h.om (by decide)), hb⟩
theorem DgS.rod {g : Nat} (h : DgS w wr nb rb A1 c1 L (some ⟨g, 0, none⟩) n2 c2 R2 up lo) {k : Nat} (hk : k < R2.length) (a b : Int) : DgS w ((wr.setCell ⟨g, k * 2, none⟩ (.int .i64 a)).setCell ⟨g, k * 2 + 1, none⟩ (.int .i64 b)) nb rb A1 c1 L (some ⟨g, 0, none⟩) n2 c2 (R2.set k (a, b)) up lo := by
  have hs := h.orr.set hk (a, b)
  have hg : wr.grownBy ((wr.setCell ⟨g, k * 2, none⟩ (.int .i64 a)).setCell ⟨g, k * 2 + 1, none⟩ (.int .i64 b)) (some g) := hs.2
  have hgl := (h.orr.lt g rfl).1
  exact ⟨h.om.kept hg (own_apart h.om h.orr (by decide)), hs.1, h.bn.gr hg (h.bn.ne_v h.orr (by decide)), h.br.gr hg (h.br.ne_v h.orr (by decide)), h.hb.grown hg h.hb.size (fun i hi => by cases hi; exact hgl)⟩
theorem DgS.res {u0 u1 u2 : Value} (h : DgS w wr nb rb A1 c1 L A2 n2 c2 R2 up lo) (hw : w.heap.size ≤ rb) : OwnT moveT (((wr.setCell ⟨rb, 0, none⟩ u0).setCell ⟨rb, 1, none⟩ u1).setCell ⟨rb, 2, none⟩ u2).drew w.heap.size (.slice A1 L.length c1) L ∧ OwnT rodT (((wr.setCell ⟨rb, 0, none⟩ u0).setCell ⟨rb, 1, none⟩ u1).setCell ⟨rb, 2, none⟩ u2).drew w.heap.size (.slice A2 n2 c2) R2 ∧ Below w.heap.size w (((wr.setCell ⟨rb, 0, none⟩ u0).setCell ⟨rb, 1, none⟩ u1).setCell ⟨rb, 2, none⟩ u2).drew := by
  have n1 := h.br.ne_v h.om (by decide)
  have n2 := h.br.ne_v h.orr (by decide)
  exact ⟨((h.om.kept (gr_setCell wr ⟨rb, 0, none⟩ u0) (.inr (fun e => n1 e.symm))).kept (gr_setCell _ ⟨rb, 1, none⟩ u1) (.inr (fun e => n1 e.symm))).kept (gr_drew (gr_setCell _ ⟨rb, 2, none⟩ u2)) (.inr (fun e => n1 e.symm)),
    ((h.orr.kept (gr_setCell wr ⟨rb, 0, none⟩ u0) (.inr (fun e => n2 e.symm))).kept (gr_setCell _ ⟨rb, 1, none⟩ u1) (.inr (fun e => n2 e.symm))).kept (gr_drew (gr_setCell _ ⟨rb, 2, none⟩ u2)) (.inr (fun e => n2 e.symm)),
    (((h.hb.setCell hw u0).setCell hw u1).setCell hw u2).drew⟩
theorem rd_len {n : Nat} {base : Nat} (hn : R2.length = n) (h : OwnT rodT wr base (.slice A2 n c2) R2) : OwnT rodT wr base (.slice A2 R2.length c2) R2 := by rw [hn]; exact h
end
set_option maxRecDepth 100000 in
set_option maxHeartbeats 8000000 in
/-- The moves by which a digit is added, and the frame after them. -/
theorem l6Digit_any (up lo : Int) (A : Option Addr) (c : Nat) (R : List (Int × Int)) (rod d : Int) (w : World) (hn : R.length ≤ 8) (h : RdT rodT w A R) (h0 : 0 ≤ rod) (h1 : rod < R.length) :
    Calls Try.prog 81 #[.agg #[.int .i64 up, .int .i64 lo, .slice A R.length c], .int .i64 rod, .int .i64 d] w fun e w' => ∃ (L : List MoveV) (A1 : Option Addr) (c1 : Nat) (R2 : List (Int × Int)) (A2 : Option Addr) (c2 : Nat), L.length ≤ 16 ∧ R2.length = R.length ∧ e = .returned (.tuple #[.slice A1 L.length c1, .agg #[.int .i64 up, .int .i64 lo, .slice A2 R2.length c2]]) ∧ OwnT moveT w' w.heap.size (.slice A1 L.length c1) L ∧ OwnT rodT w' w.heap.size (.slice A2 R2.length c2) R2 ∧ Below w.heap.size w w' := by
  obtain ⟨wb, hwb⟩ : ∃ wb : World, wb = (w.alloc (.cells #[.int .i64 up, .int .i64 lo, .slice A R.length c] 71)).alloc (.cells #[.int .i64 0, .int .i64 0, .slice none 0 0] 71) := ⟨_, rfl⟩
  obtain ⟨tb, htb⟩ : ∃ tb : Nat, tb = w.heap.size := ⟨_, rfl⟩
  obtain ⟨rb, hrb⟩ : ∃ rb : Nat, rb = w.heap.size + 1 := ⟨_, rfl⟩
  have BT : Blk wb tb 71 #[.int .i64 up, .int .i64 lo, .slice A R.length c] := by rw [hwb, htb]; exact (Blk.new w _ _).alloc _
  have BR : Blk wb rb 71 #[.int .i64 0, .int .i64 0, .slice none 0 0] := by rw [hwb, hrb]; exact Blk.new1 w _ _ _
  have hb0 : Below w.heap.size w wb := by rw [hwb]; exact ((Below.refl _ _).alloc (Nat.le_refl _) _).alloc (by simp) _
  have h := h.below hb0 (Nat.le_refl _)
  have hwr : w.heap.size ≤ rb := by omega
  obtain ⟨w1, hw1⟩ : ∃ w1 : World, w1 = wb.alloc (.cells #[] 52) := ⟨_, rfl⟩
  obtain ⟨ob, hob⟩ : ∃ ob : Nat, ob = wb.heap.size := ⟨_, rfl⟩
  have hb1 : Below w.heap.size w w1 := by rw [hw1]; exact hb0.alloc hb0.size _
  have om1 : OwnT moveT w1 w.heap.size (.slice (some ⟨ob, 0, none⟩) 0 0) [] := by rw [hw1, hob]; exact ownMove_empty0 wb _ hb0.size
  have BT1 : Blk w1 tb 71 #[.int .i64 up, .int .i64 lo, .slice A R.length c] := by rw [hw1]; exact BT.alloc _
  have BR1 : Blk w1 rb 71 #[.int .i64 0, .int .i64 0, .slice none 0 0] := by rw [hw1]; exact BR.alloc _
  have hr1 : RdT rodT w1 A R := by rw [hw1]; exact h.below ((Below.refl _ _).alloc (Nat.le_refl _) _) (Nat.le_refl _)
  have p0 : (wb.alloc (.cells #[] 52)).cell? ⟨tb, 0, none⟩ = some (.int .i64 up) := by rw [← hw1]; exact BT1.cell 0
  have p1 : (wb.alloc (.cells #[] 52)).cell? ⟨tb, 1, none⟩ = some (.int .i64 lo) := by rw [← hw1]; exact BT1.cell 1
  have p2 : (wb.alloc (.cells #[] 52)).cell? ⟨tb, 2, none⟩ = some (.slice A R.length c) := by rw [← hw1]; exact BT1.cell 2
  have HW1 := Lib.hid hw1
  have HOB := Lib.hid hob
  clear hw1 hob BT BR
  go_enter Try.func81, Try.ntmps81
  go_upto_region 1 with fail
  rw [← hwb, ← hrb, ← htb]
  clear hwb htb hrb
  go_wp2_with fail
  rw [← HW1.out, ← HOB.out]
  clear HW1 HOB p0 p1 p2
  refine (l2Own_any up lo A c R w1 (by omega) hr1).mono ?_
  rintro e w2 ⟨A2, c2, rfl, or2, hb2⟩
  obtain ⟨w3, hw3⟩ : ∃ w3 : World, w3 = w2.alloc (.cells #[.int .i64 up, .int .i64 lo, .slice A2 R.length c2] 71) := ⟨_, rfl⟩
  obtain ⟨nb, hnb⟩ : ∃ nb : Nat, nb = w2.heap.size := ⟨_, rfl⟩
  have HD : DgS w w3 nb rb (some ⟨ob, 0, none⟩) 0 [] A2 R.length c2 R up lo := by
    have hbb := (Below.refl w2.heap.size w2).alloc (Nat.le_refl _) (.cells #[.int .i64 up, .int .i64 lo, .slice A2 R.length c2] 71)
    have hb12 := hb1.trans (hb2.mono hb1.size)
    rw [hw3, hnb]
    exact ⟨(om1.below hb2 (Nat.le_refl _)).below hbb (Nat.le_refl _), (or2.mono hb1.size).below hbb (Nat.le_refl _), Blk.new w2 _ _, (BR1.below hb2 BR1.lt).below hbb (BR1.below hb2 BR1.lt).lt, hb12.trans (hbb.mono hb12.size)⟩
  clear om1 or2 BR1 BT1 hb2 hr1 h hb0 hb1
  go_upto_region 2 with fail
  rw [← hw3, ← hnb]
  clear hw3 hnb
  go_loopw [1, 2, 8] (fun r dd o wr => ∃ (rv dv : Int) (L : List MoveV) (A1 : Option Addr) (c1 : Nat) (R2 : List (Int × Int)), -1 ≤ rv ∧ rv ≤ rod ∧ r = .int .i64 rv ∧ dd = .int .i64 dv ∧ o = .slice A1 L.length c1 ∧ (L.length : Int) ≤ 2 * (rod - rv) ∧ R2.length = R.length ∧ DgS w wr nb rb A1 c1 L A2 R.length c2 R2 up lo) (fun r _ _ _ => (intOf r + 1).toNat)
  case atStart => exact ⟨rod, d, [], _, 0, R, by omega, Int.le_refl _, rfl, rfl, rfl, by simp, rfl, HD⟩
  case round =>
    obtain ⟨rv, dv, L, A1, c1, R2, hv0, hv1, rfl, rfl, rfl, hL, hRl, HQ⟩ := hrel
    clear HD
    by_cases hd : 0 < dv
    · have d1 : decide (0 < dv) = true := decide_eq_true hd
      by_cases hr : 0 ≤ rv
      · have d2 : decide (0 ≤ rv) = true := decide_eq_true hr
        obtain ⟨k, rfl⟩ : ∃ k : Nat, rv = (k : Int) := ⟨rv.toNat, by omega⟩
        have hkl : k < R2.length := by omega
        have hgs : ∃ g, A2 = some ⟨g, 0, none⟩ := by
          have hh := HQ.orr
          rw [← hRl] at hh
          obtain ⟨g, e, _⟩ := hh.head (by omega)
          exact ⟨g, e⟩
        obtain ⟨g, rfl⟩ := hgs
        obtain ⟨p, q, _, e0, e1, _, _⟩ := rod_own HQ.orr hkl
        have b2 : wr.cell? ⟨nb, 2, none⟩ = some (.slice (some ⟨g, 0, none⟩) R.length c2) := HQ.bn.cell 2
        have j1 : (k : Int) < (R.length : Int) := by omega
        clear hd hr
        go_wp2_with fail
        refine (l2Value_any p q _).mono ?_
        rintro e w4 ⟨rfl, hb4⟩
        have HQ := HQ.below hb4
        clear hb4 e0 e1 b2
        go_wp2_with fail
        refine (l6Turn_any _ _ _ _).mono ?_
        rintro e w5 ⟨L5, A5, c5, hL5, rfl, ho5, hb5⟩
        have HQ := HQ.below hb5
        have hr5 := ho5.rd
        clear hb5 ho5
        go_upto_region 5 with (at_builtin; refine wpList_spreadT moveT rfl _ _ rfl w.heap.size _ L rfl HQ.om w.heap.size HQ.hb A5 L5 _ _ rfl rfl hr5 (by omega) HQ.hb.size (Nat.le_refl _) ?_; intro A6 c6 w6 ho6 hb6 hg6; rw [← List.length_append] at ho6; rw [← List.length_append])
        have HQ6 := HQ.app ho6 hb6 hg6
        clear HQ hr5 ho6 hb6 hg6
        have b2 : w6.cell? ⟨nb, 2, none⟩ = some (.slice (some ⟨g, 0, none⟩) R.length c2) := HQ6.bn.cell 2
        have hne : ¬ nb = g := HQ6.bn.ne_own HQ6.orr (by decide)
        have hk0 : (0 : Int) ≤ (k : Int) := by omega
        have PK := Lib.hid HQ6
        clear HQ6
        go_region_held3 (fun wy => wy.cell? ⟨nb, 2, none⟩ = some (.slice (some ⟨g, 0, none⟩) R.length c2))
          (((try dsimp only) <;> (first | (with_reducible assumption) | (with_reducible exact cell_drew b2) | (exact cell_far1 (cell_far1 b7 hne _ _) hne _ _))))
          (first
            | (go_at_call 72; (with_reducible refine (l2Digit_any _ _).mono ?_); rintro e w7 ⟨a, b, rfl, hb7⟩; have hb8 : Below w6.heap.size w6 w7 := (Below.refl _ _).drew.trans hb7; have HQ7 := PK.out.below hb8; have b7 : w7.cell? ⟨nb, 2, none⟩ = some (.slice (some ⟨g, 0, none⟩) R.length c2) := HQ7.bn.cell 2; obtain ⟨_, _, _, s0, s1, f0, f1⟩ := rod_own HQ7.orr hkl))
        have HQ8 := HQ7.rod hkl a b
        have i1 : IntKind.i64.wrap ((k : Int) - 1) = (k : Int) - 1 := IntWalk.i64_in _ (by omega)
        go_wp2_with fail
        go_roundw
        case rel => exact ⟨(k : Int) - 1, _, L ++ L5, A6, c6, R2.set k (a, b), by omega, by omega, rfl, rfl, by rw [List.length_append], by simp; omega, by rw [List.length_set]; exact hRl, HQ8⟩
        case measure => first | (simp [intOf]; done) | (simp [intOf]; omega)
      · have d2 : decide (0 ≤ rv) = false := decide_eq_false hr
        have b0 := HQ.bn.cell 0
        have b1 := HQ.bn.cell 1
        have b2 := HQ.bn.cell 2
        have f0 := HQ.br.frozen 0
        have f1 := HQ.br.frozen 1
        have f2 := HQ.br.frozen 2
        have r0 := HQ.br.cell 0
        have r1 := HQ.br.cell 1
        have r2 := HQ.br.cell 2
        go_wp2_with fail
        go_region
        go_wp2
        refine bodyPost_ret (v := .tuple #[.slice A1 L.length c1, .agg #[.int .i64 up, .int .i64 lo, .slice A2 R.length c2]]) (by simp [results, Try.results81, go_sem, r0, r1, r2]) rfl ⟨L, A1, c1, R2, A2, c2, by omega, hRl, by rw [hRl], ?_, ?_, ?_⟩
        · exact (DgS.res HQ hwr).1
        · exact (rd_len hRl (DgS.res HQ hwr).2.1)
        · exact (DgS.res HQ hwr).2.2
    · have d1 : decide (0 < dv) = false := decide_eq_false hd
      have b0 := HQ.bn.cell 0
      have b1 := HQ.bn.cell 1
      have b2 := HQ.bn.cell 2
      have f0 := HQ.br.frozen 0
      have f1 := HQ.br.frozen 1
      have f2 := HQ.br.frozen 2
      have r0 := HQ.br.cell 0
      have r1 := HQ.br.cell 1
      have r2 := HQ.br.cell 2
      go_wp2_with fail
      go_region
      go_wp2
      refine bodyPost_ret (v := .tuple #[.slice A1 L.length c1, .agg #[.int .i64 up, .int .i64 lo, .slice A2 R.length c2]]) (by simp [results, Try.results81, go_sem, r0, r1, r2]) rfl ⟨L, A1, c1, R2, A2, c2, by omega, hRl, by rw [hRl], ?_, ?_, ?_⟩
      · exact (DgS.res HQ hwr).1
      · exact (rd_len hRl (DgS.res HQ hwr).2.1)
      · exact (DgS.res HQ hwr).2.2
end Go.Proofs.Ytkcbldaondflmaa
