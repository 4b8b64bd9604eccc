/-
  How far two lists of moves are apart: contracts.
-/
import Derived.Test.YtkcbldaondflmaaRecH
namespace Go.Proofs.Ytkcbldaondflmaa
open Go.RowKit
theorem run_min3 (ts : Array TypeId) (t : TypeId) (x y z : Int) (W : World) : (Builtin.min_ ts t #[.int .i64 x, .int .i64 y, .int .i64 z]).run Try.prog W = .ok (.int .i64 (min x (min y z))) W := by
  rw [run_min_int3]
  congr 2
  (repeat' split) <;> omega
attribute [local go_sem ↓] Go.wp_at_zero Go.wp_at_succ run_min3

set_option maxRecDepth 100000 in
set_option maxHeartbeats 8000000 in
theorem moveDistance_any (A1 : Option Addr) (c1 : Nat) (l1 : List MoveV) (A2 : Option Addr) (c2 : Nat) (l2 : List MoveV) (w : World) (hn1 : l1.length ≤ 12) (h1 : RdT moveT w A1 l1) (hn2 : l2.length ≤ 12) (h2 : RdT moveT w A2 l2) :
    Calls Try.prog 49 #[.slice A1 l1.length c1, .slice A2 l2.length c2] w fun e w' => e = .returned (.int .i64 (distV l1 l2)) ∧ Below w.heap.size w w' := by
  have hk0 := distR_zero l1 l2
  have hkl := distR_len l1 l2
  have hkb := distR_bd l1 l2
  have hkv : distV l1 l2 = (distR l1 l2 l1.length).getD l2.length 0 := by unfold distV; rfl
  have hks := fun (i : Nat) (m : MoveV) (h : l1[i]? = some m) => distR_succ l2 h
  generalize distR l1 l2 = KR at *
  generalize distV l1 l2 = KV at *
  go_enter Try.func49, Try.ntmps49
  go_wp2_with (at_make; refine wpList_makeI (w0 := w) (B := w.heap.size) rfl _ _ rfl w.heap.size _ _ (l2.length + 1) rfl rfl (by simp) (by simp) (by omega) (Nat.le_refl _) (Below.refl _ _) (Nat.le_refl _) ?_; intro g w1 hg0 hg1 hown1 hb1 hb1')
  have hp0 : pad (evs 0) (l2.length + 1) = List.replicate (l2.length + 1) 0 := by rw [evs_zero]; unfold pad; rfl
  rw [← hp0] at hown1
  clear hp0
  go_loopw [6, 18] (fun _ i wr => ∃ (k : Nat), k ≤ l2.length + 1 ∧ i = .int .i64 k ∧ OwnI wr w.heap.size (.slice (some ⟨g, 0, none⟩) (l2.length + 1) (l2.length + 1)) (pad (evs k) (l2.length + 1 - k)) ∧ Below w.heap.size w wr) (fun _ i _ => l2.length + 1 - (intOf i).toNat)
  case atStart => exact ⟨0, by omega, rfl, hown1, hb1⟩
  case round =>
    obtain ⟨k, hk, rfl, hown, hb⟩ := hrel
    clear hown1 hb1 hb1'
    have hz := hb.size
    by_cases hlt : k < l2.length + 1
    · have hl := evs_len k
      have hcell := hown.cell (get_getD (pad (evs k) (l2.length + 1 - k)) k (by rw [pad_len, hl]; omega))
      have hfro := hown.frozen k
      have hset := (hown.set k (2 * (k : Int)))
      have hgr := hset.2
      have hps := pad_set (evs k) (l2.length - k) (2 * (k : Int))
      rw [hl, ← evs_succ] at hps
      rw [show l2.length + 1 - k = l2.length - k + 1 by omega, hps] at hset
      have HS := Lib.hid hset.1
      have HG := Lib.hid hgr
      clear hset hgr hps hl
      generalize (pad (evs k) (l2.length + 1 - k)).getD k 0 = zz at *
      clear hown
      go_wp2
      go_roundw
      case rel => exact ⟨k + 1, by omega, by go_num, by rw [show l2.length + 1 - (k + 1) = l2.length - k by omega]; exact HS.out, hb.grown HG.out hz (fun j hj => by cases hj; exact hg0)⟩
      case measure => simp [intOf]; omega
    · obtain rfl : k = l2.length + 1 := by omega
      rw [Nat.sub_self, pad_zero, ← hk0] at hown
      clear hk0 hlt
      go_wp2
      go_loopw [5, 29] (fun r i wr => ∃ (k g : Nat), k ≤ l1.length ∧ i = .int .i64 k ∧ r = .slice (some ⟨g, 0, none⟩) (l2.length + 1) (l2.length + 1) ∧ OwnI wr w.heap.size (.slice (some ⟨g, 0, none⟩) (l2.length + 1) (l2.length + 1)) (KR k) ∧ Below w.heap.size w wr) (fun _ i _ => l1.length - (intOf i).toNat)
      case atStart => exact ⟨0, g, by omega, rfl, rfl, hown, hb⟩
      case round =>
        obtain ⟨k, g', hk, rfl, rfl, hown, hb⟩ := hrel
        clear hg0 hg1
        have hz := hb.size
        have hlen := hkl k
        by_cases hlt : k < l1.length
        · obtain ⟨b, off, x0, x1, x2, rfl, hx, hlb, hc1, hc2, hc3⟩ := moveT_at (h1.below hb (Nat.le_refl _)) hlt
          have E := hks k _ hx
          have hbk := hkb k
          clear hks hx
          obtain ⟨wq, rfl⟩ : ∃ wq : World, wq = wr := ⟨_, rfl⟩
          clear hkb hkl hkv
          go_wp2_with (
              at_make
              obtain ⟨wo, hwo⟩ : ∃ wo : World, wo = wq.alloc (.cells #[.int .i64 x0, .int .i64 x1, .int .i64 x2] 52) := ⟨_, rfl⟩
              have hown0 : OwnI wo w.heap.size (.slice (some ⟨g', 0, none⟩) (l2.length + 1) (l2.length + 1)) (KR k) := by rw [hwo]; exact hown.alloc _
              have hr0 : RdT moveT wo A2 l2 := by rw [hwo]; exact h2.below (hb.alloc hz _) (Nat.le_refl _)
              have hb0 : Below w.heap.size w wo := by rw [hwo]; exact hb.alloc hz _
              have hz0 : wq.heap.size < wo.heap.size := by rw [hwo]; simp
              have hg' := hown0.lt g' rfl
              have hx0 : wo.cell? ⟨wq.heap.size, 0, none⟩ = some (.int .i64 x0) ∧ wo.cell? ⟨wq.heap.size, 1, none⟩ = some (.int .i64 x1) ∧ wo.cell? ⟨wq.heap.size, 2, none⟩ = some (.int .i64 x2) := by
                rw [hwo]; exact ⟨cell_of_row _ _ 0 _ _ (0, 0) (heap_alloc_new wq _), cell_of_row _ _ 1 _ _ (0, 0) (heap_alloc_new wq _), cell_of_row _ _ 2 _ _ (0, 0) (heap_alloc_new wq _)⟩
              clear hown hb hc1 hc2 hc3
              rw [← hwo]
              clear hwo
              refine wpList_makeI (w0 := wo) (B := wo.heap.size) rfl _ _ rfl wo.heap.size ((l2.length : Int) + 1) ((l2.length : Int) + 1) (l2.length + 1) rfl rfl (by simp) (by simp) (by omega) (Nat.le_refl _) (Below.refl _ _) (Nat.le_refl _) ?_
              intro g2 w1 hg20 hg21 hown1 hb1 hb1'
              have hcell := hown1.cell (k := 0) (x := 0) (by simp)
              have hfro := hown1.frozen 0
              have hset := hown1.set 0 (2 * ((k : Int) + 1))
              rw [start_pad] at hset
              have H1 := Lib.hid hset.1
              have H2 := Lib.hid hset.2
              clear hset hown1)
          obtain ⟨wp, hwp⟩ : ∃ wp : World, wp = w1.setCell ⟨g2, 0, none⟩ (.int .i64 (2 * ((k : Int) + 1))) := ⟨_, rfl⟩
          have hownp := H1.out
          rw [← hwp] at hownp
          have hbp : Below wo.heap.size wo wp := by rw [hwp]; exact hb1.grown H2.out hb1.size (fun j hj => by cases hj; exact hg20)
          rw [← hwp]
          clear hwp H1 H2 hcell hfro hb1 hb1' hg21
          have hbR := fun j => dpN_bd (R := 2 * (l2.length : Int) + 2 + 2 * (k : Int)) (by omega) (distF_ok l2 ⟨x0, x1, x2⟩ _ (by omega)) (s := 2 * ((k : Int) + 1)) (by omega) hbk j
          have hDl := dpN_len (distF l2 ⟨x0, x1, x2⟩) (2 * ((k : Int) + 1)) (KR k)
          have hDs := dpN_succ (distF l2 ⟨x0, x1, x2⟩) (2 * ((k : Int) + 1)) (KR k)
          have hD0 := dpN_zero (distF l2 ⟨x0, x1, x2⟩) (2 * ((k : Int) + 1)) (KR k)
          have hF := fun (j : Nat) (n : MoveV) (h : l2[j]? = some n) => distF_at (m := ⟨x0, x1, x2⟩) h
          generalize dpN (distF l2 ⟨x0, x1, x2⟩) (2 * ((k : Int) + 1)) (KR k) = D at *
          generalize distF l2 ⟨x0, x1, x2⟩ = f at *
          rw [← hD0] at hownp
          clear hD0
          go_loopw [45] (fun i wy => ∃ (j : Nat), j ≤ l2.length ∧ i = .int .i64 j ∧ OwnI wy wo.heap.size (.slice (some ⟨g2, 0, none⟩) (l2.length + 1) (l2.length + 1)) (pad (D j) (l2.length - j)) ∧ Below wo.heap.size wo wy) (fun i _ => l2.length - (intOf i).toNat)
          case atStart => exact ⟨0, by omega, rfl, hownp, hbp⟩
          case round =>
            obtain ⟨j, hj, rfl, hnx, hby⟩ := hrel
            clear hownp hbp
            have hzy := hby.size
            have hDlj := hDl j
            by_cases hlj : j < l2.length
            · obtain ⟨b2, o2, y0, y1, y2, rfl, hy, _, hd1, hd2, hd3⟩ := moveT_at (hr0.below hby (Nat.le_refl _)) hlj
              have hrow := hown0.below hby (Nat.le_refl _)
              have ra := hrow.cell (get_getD (KR k) j (by omega))
              have rb := hrow.cell (get_getD (KR k) (j + 1) (by omega))
              have rz := hnx.cell (pad_get (D j) (l2.length - j) j (by omega))
              have hba := bnd_getD hbk (by omega) j
              have hbb := bnd_getD hbk (by omega) (j + 1)
              have hbz := bnd_getD (hbR j) (by omega) j
              have hDn := hDs j
              rw [hF j _ hy] at hDn
              clear hy
              generalize (KR k).getD j 0 = X at *
              generalize (KR k).getD (j + 1) 0 = Y at *
              generalize (D j).getD j 0 = Z at *
              have hC := fun W => replaceCost_any x0 x1 x2 y0 y1 y2 W
              have hcb := costM_bd ⟨x0, x1, x2⟩ ⟨y0, y1, y2⟩
              generalize costM ⟨x0, x1, x2⟩ ⟨y0, y1, y2⟩ = cc at *
              have bx0 := (hby.cell (p := ⟨wq.heap.size, 0, none⟩) hz0).trans hx0.1
              have bx1 := (hby.cell (p := ⟨wq.heap.size, 1, none⟩) hz0).trans hx0.2.1
              have bx2 := (hby.cell (p := ⟨wq.heap.size, 2, none⟩) hz0).trans hx0.2.2
              have HDN := Lib.hid hDn
              have HC := Lib.hid hC
              clear hDn hC
              go_wp2_with fail
              obtain ⟨wn, hwn⟩ : ∃ wn : World, wn = wr.alloc (.cells #[.int .i64 y0, .int .i64 y1, .int .i64 y2] 52) := ⟨_, rfl⟩
              have hnn : OwnI wn wo.heap.size (.slice (some ⟨g2, 0, none⟩) (l2.length + 1) (l2.length + 1)) (pad (D j) (l2.length - j)) := by rw [hwn]; exact hnx.alloc _
              have hbn : Below wo.heap.size wo wn := by rw [hwn]; exact hby.alloc hzy _
              have sa : wn.cell? ⟨g', j, none⟩ = some (.int .i64 X) := by rw [hwn]; exact (World.cell?_alloc_lt _ _ _ (World.block_lt_of_cell? _ _ ra)).trans ra
              have sb : wn.cell? ⟨g', j + 1, none⟩ = some (.int .i64 Y) := by rw [hwn]; exact (World.cell?_alloc_lt _ _ _ (World.block_lt_of_cell? _ _ rb)).trans rb
              have sz : wn.cell? ⟨g2, j, none⟩ = some (.int .i64 Z) := by rw [hwn]; exact (World.cell?_alloc_lt _ _ _ (World.block_lt_of_cell? _ _ rz)).trans rz
              have sx0 : wn.cell? ⟨wq.heap.size, 0, none⟩ = some (.int .i64 x0) := by rw [hwn]; exact (World.cell?_alloc_lt _ _ _ (World.block_lt_of_cell? _ _ bx0)).trans bx0
              have sx1 : wn.cell? ⟨wq.heap.size, 1, none⟩ = some (.int .i64 x1) := by rw [hwn]; exact (World.cell?_alloc_lt _ _ _ (World.block_lt_of_cell? _ _ bx1)).trans bx1
              have sx2 : wn.cell? ⟨wq.heap.size, 2, none⟩ = some (.int .i64 x2) := by rw [hwn]; exact (World.cell?_alloc_lt _ _ _ (World.block_lt_of_cell? _ _ bx2)).trans bx2
              obtain ⟨sy0, sy1, sy2⟩ : wn.cell? ⟨wr.heap.size, 0, none⟩ = some (.int .i64 y0) ∧ wn.cell? ⟨wr.heap.size, 1, none⟩ = some (.int .i64 y1) ∧ wn.cell? ⟨wr.heap.size, 2, none⟩ = some (.int .i64 y2) := by
                rw [hwn]; exact ⟨cell_of_row _ _ 0 _ _ (0, 0) (heap_alloc_new wr _), cell_of_row _ _ 1 _ _ (0, 0) (heap_alloc_new wr _), cell_of_row _ _ 2 _ _ (0, 0) (heap_alloc_new wr _)⟩
              have hpc := hnn.cell (get_getD (pad (D j) (l2.length - j)) (j + 1) (by rw [pad_len]; omega))
              generalize (pad (D j) (l2.length - j)).getD (j + 1) 0 = PP at *
              have hpf := hnn.frozen (j + 1)
              have hg2lt := hnn.lt g2 rfl
              have hg2y : g2 < wr.heap.size := (hnx.lt g2 rfl).2
              have hbig : wr.heap.size < wn.heap.size := by rw [hwn]; simp
              have HNN := Lib.hid hnn
              rw [← hwn]
              clear hwn ra rb rz bx0 bx1 bx2 hd1 hd2 hd3 hnx hrow hnn
              clear hDl hDs hF hbR hbk
              have hsn := hbn.size
              have q1 : g' < wn.heap.size := by omega
              have q2 : wq.heap.size < wn.heap.size := by omega
              have q3 : g2 < wn.heap.size := by omega
              have n1 : g2 ≠ g' := by omega
              have n2 : g2 ≠ wq.heap.size := by omega
              have n3 : g2 ≠ wr.heap.size := by omega
              have i1 : IntKind.i64.wrap (X + cc) = X + cc := IntWalk.i64_in _ (by omega)
              have i2 : IntKind.i64.wrap (Y + 2) = Y + 2 := IntWalk.i64_in _ (by omega)
              have i3 : IntKind.i64.wrap (Z + 2) = Z + 2 := IntWalk.i64_in _ (by omega)
              have j1 : IntKind.i64.wrap ((j : Int) + 1) = (j : Int) + 1 := IntWalk.i64_in _ (by omega)
              have j2 : (0 : Int) ≤ (j : Int) + 1 := by omega
              have j3 : (j : Int) + 1 < (l2.length : Int) + 1 := by omega
              have j4 : (j : Int) < (l2.length : Int) + 1 := by omega
              have j5 : (0 : Int) ≤ (j : Int) := by omega
              have j7 : ((j : Int) + 1).toNat = j + 1 := by omega
              have j8 : (j : Int).toNat = j := by omega
              go_region_held3 (fun wx => wx.cell? ⟨g', j, none⟩ = some (.int .i64 X) ∧ wx.cell? ⟨g', j + 1, none⟩ = some (.int .i64 Y) ∧ wx.cell? ⟨g2, j, none⟩ = some (.int .i64 Z) ∧ wx.cell? ⟨wq.heap.size, 0, none⟩ = some (.int .i64 x0) ∧ wx.cell? ⟨wq.heap.size, 1, none⟩ = some (.int .i64 x1) ∧ wx.cell? ⟨wq.heap.size, 2, none⟩ = some (.int .i64 x2) ∧ wx.cell? ⟨wr.heap.size, 0, none⟩ = some (.int .i64 y0) ∧ wx.cell? ⟨wr.heap.size, 1, none⟩ = some (.int .i64 y1) ∧ wx.cell? ⟨wr.heap.size, 2, none⟩ = some (.int .i64 y2)) (((try dsimp only); (repeat' apply And.intro)) <;> (first | assumption | (rw [cell_set_ne (by assumption)]; assumption) | (rw [World.cell?_setCell_other _ _ _ _ (by simp)]; assumption))) (first | (go_at_call 61; refine (HC.out _).mono ?_; rintro e w3 ⟨rfl, hb3⟩; have t0 := (hb3.cell (p := ⟨g', j, none⟩) q1).trans sa; have t1 := (hb3.cell (p := ⟨g', j + 1, none⟩) q1).trans sb; have t2 := (hb3.cell (p := ⟨g2, j, none⟩) q3).trans sz; have t3 := (hb3.cell (p := ⟨wq.heap.size, 0, none⟩) q2).trans sx0; have t4 := (hb3.cell (p := ⟨wq.heap.size, 1, none⟩) q2).trans sx1; have t5 := (hb3.cell (p := ⟨wq.heap.size, 2, none⟩) q2).trans sx2; have t6 := (hb3.cell (p := ⟨wr.heap.size, 0, none⟩) hbig).trans sy0; have t7 := (hb3.cell (p := ⟨wr.heap.size, 1, none⟩) hbig).trans sy1; have t8 := (hb3.cell (p := ⟨wr.heap.size, 2, none⟩) hbig).trans sy2; have t9 := (hb3.cell (p := ⟨g2, j + 1, none⟩) q3).trans hpc; have tf := (hb3.frozen (p := ⟨g2, j + 1, none⟩) q3).trans hpf))
              have hb3' : Below wn.heap.size wn w3 := (Below.refl _ _).drew.trans hb3
              have hn3 := (HNN.out.below hb3' (Nat.le_refl _)).set (j + 1) (min (X + cc) (min Y Z + 2))
              have hps := pad_set (D j) (l2.length - (j + 1)) (min (X + cc) (min Y Z + 2))
              have hDn := HDN.out
              rw [show min (X + cc) (min (Y + 2) (Z + 2)) = min (X + cc) (min Y Z + 2) by omega] at hDn
              rw [hDlj, ← hDn] at hps
              rw [show l2.length - j = l2.length - (j + 1) + 1 by omega, hps] at hn3
              have R1 := Lib.hid hn3.1
              have R2 := Lib.hid hn3.2
              have hb3w := (hbn.trans (hb3'.mono hsn))
              have hw3 := hb3w.size
              clear hn3 hps hDn hb3 t0 t1 t2 t3 t4 t5 t6 t7 t8 t9 tf j1 j2 j3 j4 j5 j7 j8 i1 i2 i3 sa sb sz sx0 sx1 sx2 sy0 sy1 sy2 hpc hpf
              generalize min (X + cc) (min Y Z + 2) = V at *
              go_wp2
              go_roundw
              case rel => exact ⟨j + 1, by omega, by go_num, R1.out, hb3w.grown R2.out hw3 (fun i hi => by cases hi; exact hg2lt.1)⟩
              case measure => simp [intOf]; omega
            · obtain rfl : j = l2.length := by omega
              rw [Nat.sub_self, pad_zero, ← E] at hnx
              clear hDl hDs hF hbR hbk
              go_wp2
              go_roundw
              case rel =>
                (repeat apply Exists.intro)
                exact ⟨⟨k + 1, g2, by omega, by go_num, rfl, hnx.mono hb0.size, hb0.trans (hby.mono hb0.size)⟩, rfl⟩
              case measure => simp [intOf]; omega
        · obtain rfl : k = l1.length := by omega
          have hcell := hown.cell (k := l2.length) (x := (KR l1.length).getD l2.length 0) (get_getD _ _ (by omega))
          rw [← hkv] at hcell
          clear hks hkb hkv
          go_wp2
          go_ret
          exact ⟨rfl, hb⟩
end Go.Proofs.Ytkcbldaondflmaa
