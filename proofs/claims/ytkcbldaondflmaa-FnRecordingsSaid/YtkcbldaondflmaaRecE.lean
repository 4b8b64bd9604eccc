/-
  The moves that can be kept: contracts.
-/
import Derived.Test.YtkcbldaondflmaaRecD
namespace Go.Proofs.Ytkcbldaondflmaa
open Go.RowKit

set_option maxHeartbeats 4000000 in
theorem keptMoves_any (A1 : Option Addr) (c1 : Nat) (l1 : List MoveV) (A2 : Option Addr) (c2 : Nat) (l2 : List MoveV) (w : World) (hn1 : l1.length ≤ 12) (h1 : RdT moveT w A1 l1) (hn2 : l2.length ≤ 12) (h2 : RdT moveT w A2 l2) :
    Calls Try.prog 46 #[.slice A1 l1.length c1, .slice A2 l2.length c2] w fun e w' => e = .returned (.int .i64 (keptV l1 l2)) ∧ Below w.heap.size w w' := by
  have hk0 := keptR_zero l1 l2
  have hkl := keptR_len l1 l2
  have hkb := keptR_bd l1 l2
  have hkv : keptV l1 l2 = (keptR l1 l2 l1.length).getD l2.length 0 := by unfold keptV; rfl
  have hks := fun (i : Nat) (m : MoveV) (h : l1[i]? = some m) => keptR_succ l2 h
  generalize keptR l1 l2 = KR at *
  generalize keptV l1 l2 = KV at *
  go_enter Try.func46, Try.ntmps46
  go_wp2_with (at_make; refine wpList_makeI (w0 := w) (B := w.heap.size) rfl _ _ rfl w.heap.size _ _ (l2.length + 1) rfl rfl (by simp) (by simp) (by omega) (Nat.le_refl _) (Below.refl _ _) (Nat.le_refl _) ?_; intro g w1 hg0 hg1 hown1 hb1 hb1')
  rw [← hk0] at hown1
  go_loopw [5, 17] (fun r i wr => ∃ (k g : Nat), k ≤ l1.length ∧ i = .int .i64 k ∧ r = .slice (some ⟨g, 0, none⟩) (l2.length + 1) (l2.length + 1) ∧ OwnI wr w.heap.size (.slice (some ⟨g, 0, none⟩) (l2.length + 1) (l2.length + 1)) (KR k) ∧ Below w.heap.size w wr) (fun _ i _ => l1.length - (intOf i).toNat)
  case atStart => exact ⟨0, g, by omega, rfl, rfl, hown1, hb1⟩
  case round =>
    obtain ⟨k, g', hk, rfl, rfl, hown, hb⟩ := hrel
    clear hown1 hb1 hb1' hk0 hg0 hg1
    have hz := hb.size
    have hlen := hkl k
    by_cases hlt : k < l1.length
    · obtain ⟨b, off, x0, x1, x2, rfl, hx, hlb, hc1, hc2, hc3⟩ := moveT_at (h1.below hb (Nat.le_refl _)) hlt
      have E := hks k _ hx
      have hbk := hkb k
      clear hks hx
      obtain ⟨wq, rfl⟩ : ∃ wq : World, wq = wr := ⟨_, rfl⟩
      clear hkb hkl hkv
      go_wp2_with (
          at_make
          obtain ⟨wo, hwo⟩ : ∃ wo : World, wo = wq.alloc (.cells #[.int .i64 x0, .int .i64 x1, .int .i64 x2] 52) := ⟨_, rfl⟩
          have hown0 : OwnI wo w.heap.size (.slice (some ⟨g', 0, none⟩) (l2.length + 1) (l2.length + 1)) (KR k) := by rw [hwo]; exact hown.alloc _
          have hr0 : RdT moveT wo A2 l2 := by rw [hwo]; exact h2.below (hb.alloc hz _) (Nat.le_refl _)
          have hb0 : Below w.heap.size w wo := by rw [hwo]; exact hb.alloc hz _
          have hz0 : wq.heap.size < wo.heap.size := by rw [hwo]; simp
          have hg' := hown0.lt g' rfl
          have hx0 : wo.cell? ⟨wq.heap.size, 0, none⟩ = some (.int .i64 x0) ∧ wo.cell? ⟨wq.heap.size, 1, none⟩ = some (.int .i64 x1) ∧ wo.cell? ⟨wq.heap.size, 2, none⟩ = some (.int .i64 x2) := by
            rw [hwo]; exact ⟨cell_of_row _ _ 0 _ _ (0, 0) (heap_alloc_new wq _), cell_of_row _ _ 1 _ _ (0, 0) (heap_alloc_new wq _), cell_of_row _ _ 2 _ _ (0, 0) (heap_alloc_new wq _)⟩
          clear hown hb hc1 hc2 hc3
          rw [← hwo]
          clear hwo
          refine wpList_makeI (w0 := wo) (B := wo.heap.size) rfl _ _ rfl wo.heap.size ((l2.length : Int) + 1) ((l2.length : Int) + 1) (l2.length + 1) rfl rfl (by simp) (by simp) (by omega) (Nat.le_refl _) (Below.refl _ _) (Nat.le_refl _) ?_
          intro g2 w1 hg20 hg21 hown1 hb1 hb1')
      have hbR : bnd (2 * (k : Int) + 2) (dpN (keptF l2 ⟨x0, x1, x2⟩) 0 (KR k) 0) ∧ ∀ j, bnd (2 * (k : Int) + 2) (dpN (keptF l2 ⟨x0, x1, x2⟩) 0 (KR k) j) := by
        have := fun j => dpN_bd (R := 2 * (k : Int)) (by omega) (keptF_ok l2 ⟨x0, x1, x2⟩ _ (by omega)) (s := 0) (by omega) hbk j
        exact ⟨this 0, this⟩
      have hbR := hbR.2
      have hDl := dpN_len (keptF l2 ⟨x0, x1, x2⟩) 0 (KR k)
      have hDs := dpN_succ (keptF l2 ⟨x0, x1, x2⟩) 0 (KR k)
      have hD0 : pad (dpN (keptF l2 ⟨x0, x1, x2⟩) 0 (KR k) 0) l2.length = List.replicate (l2.length + 1) 0 := by rw [dpN_zero, pad_nil]
      rw [← hD0] at hown1
      clear hD0
      have hF1 := fun (j : Nat) (n : MoveV) (h : l2[j]? = some n) (hs : sameM ⟨x0, x1, x2⟩ n = true) => keptF_same h hs
      have hF2 := fun (j : Nat) (n : MoveV) (h : l2[j]? = some n) (hs : sameM ⟨x0, x1, x2⟩ n = false) => keptF_not h hs
      generalize dpN (keptF l2 ⟨x0, x1, x2⟩) 0 (KR k) = D at *
      generalize keptF l2 ⟨x0, x1, x2⟩ = f at *
      go_loopw [27] (fun i wy => ∃ (j : Nat), j ≤ l2.length ∧ i = .int .i64 j ∧ OwnI wy wo.heap.size (.slice (some ⟨g2, 0, none⟩) (l2.length + 1) (l2.length + 1)) (pad (D j) (l2.length - j)) ∧ Below wo.heap.size wo wy) (fun i _ => l2.length - (intOf i).toNat)
      case atStart => exact ⟨0, by omega, rfl, hown1, hb1⟩
      case round =>
        obtain ⟨j, hj, rfl, hnx, hby⟩ := hrel
        clear hown1 hb1 hb1'
        have hzy := hby.size
        have hDlj := hDl j
        by_cases hlj : j < l2.length
        · obtain ⟨b2, o2, y0, y1, y2, rfl, hy, _, hd1, hd2, hd3⟩ := moveT_at (hr0.below hby (Nat.le_refl _)) hlj
          have hrow := hown0.below hby (Nat.le_refl _)
          have ra := hrow.cell (get_getD (KR k) j (by omega))
          have rb := hrow.cell (get_getD (KR k) (j + 1) (by omega))
          have rz := hnx.cell (pad_get (D j) (l2.length - j) j (by omega))
          have hba := bnd_getD hbk (by omega) j
          have hbb := bnd_getD hbk (by omega) (j + 1)
          have hbz := bnd_getD (hbR j) (by omega) j
          have hDn := hDs j
          generalize (KR k).getD j 0 = X at *
          generalize (KR k).getD (j + 1) 0 = Y at *
          generalize (D j).getD j 0 = Z at *
          have bx0 := (hby.cell (p := ⟨wq.heap.size, 0, none⟩) hz0).trans hx0.1
          have bx1 := (hby.cell (p := ⟨wq.heap.size, 1, none⟩) hz0).trans hx0.2.1
          have bx2 := (hby.cell (p := ⟨wq.heap.size, 2, none⟩) hz0).trans hx0.2.2
          go_wp2_with fail
          obtain ⟨wn, hwn⟩ : ∃ wn : World, wn = wr.alloc (.cells #[.int .i64 y0, .int .i64 y1, .int .i64 y2] 52) := ⟨_, rfl⟩
          have hnn : OwnI wn wo.heap.size (.slice (some ⟨g2, 0, none⟩) (l2.length + 1) (l2.length + 1)) (pad (D j) (l2.length - j)) := by rw [hwn]; exact hnx.alloc _
          have hbn : Below wo.heap.size wo wn := by rw [hwn]; exact hby.alloc hzy _
          have sa : wn.cell? ⟨g', j, none⟩ = some (.int .i64 X) := by rw [hwn]; exact (World.cell?_alloc_lt _ _ _ (World.block_lt_of_cell? _ _ ra)).trans ra
          have sb : wn.cell? ⟨g', j + 1, none⟩ = some (.int .i64 Y) := by rw [hwn]; exact (World.cell?_alloc_lt _ _ _ (World.block_lt_of_cell? _ _ rb)).trans rb
          have sz : wn.cell? ⟨g2, j, none⟩ = some (.int .i64 Z) := by rw [hwn]; exact (World.cell?_alloc_lt _ _ _ (World.block_lt_of_cell? _ _ rz)).trans rz
          have sx0 : wn.cell? ⟨wq.heap.size, 0, none⟩ = some (.int .i64 x0) := by rw [hwn]; exact (World.cell?_alloc_lt _ _ _ (World.block_lt_of_cell? _ _ bx0)).trans bx0
          have sx1 : wn.cell? ⟨wq.heap.size, 1, none⟩ = some (.int .i64 x1) := by rw [hwn]; exact (World.cell?_alloc_lt _ _ _ (World.block_lt_of_cell? _ _ bx1)).trans bx1
          have sx2 : wn.cell? ⟨wq.heap.size, 2, none⟩ = some (.int .i64 x2) := by rw [hwn]; exact (World.cell?_alloc_lt _ _ _ (World.block_lt_of_cell? _ _ bx2)).trans bx2
          have sy : wn.cell? ⟨wr.heap.size, 0, none⟩ = some (.int .i64 y0) ∧ wn.cell? ⟨wr.heap.size, 1, none⟩ = some (.int .i64 y1) ∧ wn.cell? ⟨wr.heap.size, 2, none⟩ = some (.int .i64 y2) := by
            rw [hwn]; exact ⟨cell_of_row _ _ 0 _ _ (0, 0) (heap_alloc_new wr _), cell_of_row _ _ 1 _ _ (0, 0) (heap_alloc_new wr _), cell_of_row _ _ 2 _ _ (0, 0) (heap_alloc_new wr _)⟩
          have hpc := hnn.cell (get_getD (pad (D j) (l2.length - j)) (j + 1) (by rw [pad_len]; omega))
          have hpf := hnn.frozen (j + 1)
          have hg2lt := hnn.lt g2 rfl
          have hg2y : g2 < wr.heap.size := (hnx.lt g2 rfl).2
          rw [← hwn]
          clear hwn ra rb rz bx0 bx1 bx2 hd1 hd2 hd3 hnx hrow
          go_region
          obtain ⟨v, hv⟩ : ∃ v : Int, v = (if Y < Z then Z else Y) := ⟨_, rfl⟩
          rw [← hv]
          have hvm : v = max Y Z := by rw [hv]; split <;> omega
          clear hv
          have hset := hnn.set (j + 1) v
          obtain ⟨w3, hw3⟩ : ∃ w3 : World, w3 = (wn.setCell ⟨g2, j + 1, none⟩ (.int .i64 v)).drew := ⟨_, rfl⟩
          have hn3 : OwnI w3 wo.heap.size (.slice (some ⟨g2, 0, none⟩) (l2.length + 1) (l2.length + 1)) ((pad (D j) (l2.length - j)).set (j + 1) v) := by rw [hw3]; exact hset.1
          have hb3 : Below wo.heap.size wo w3 := by rw [hw3]; exact (hbn.grown hset.2 hbn.size (fun k hk => by cases hk; exact hg2lt.1)).drew
          have hc3 : ∀ b' o', g2 ≠ b' → w3.cell? ⟨b', o', none⟩ = wn.cell? ⟨b', o', none⟩ := by intro b' o' hne; rw [hw3]; exact cell_set_ne hne
          have hne1 : g2 ≠ wq.heap.size := by omega
          have hne2 : g2 ≠ wr.heap.size := by omega
          have hne3 : g2 ≠ g' := by omega
          have tx0 := (hc3 _ 0 hne1).trans sx0
          have tx1 := (hc3 _ 1 hne1).trans sx1
          have tx2 := (hc3 _ 2 hne1).trans sx2
          have ty0 := (hc3 _ 0 hne2).trans sy.1
          have ty1 := (hc3 _ 1 hne2).trans sy.2.1
          have ty2 := (hc3 _ 2 hne2).trans sy.2.2
          have ta := (hc3 _ j hne3).trans sa
          have tc := hn3.cell (k := j + 1) (x := v) (by rw [List.getElem?_set_self (by rw [pad_len]; omega)])
          have tf := hn3.frozen (j + 1)
          rw [← hw3]
          clear hw3 hset hpc hpf sa sb sz sx0 sx1 sx2 sy hnn hbn hc3 hne1 hne2 hne3
          have hsz3 := hb3.size
          have heq := eq_move x0 x1 x2 y0 y1 y2
          have hpe : l2.length - j = (l2.length - (j + 1)) + 1 := by omega
          rw [hpe] at hn3
          cases hs : sameM ⟨x0, x1, x2⟩ ⟨y0, y1, y2⟩
          · have hD := hF2 j _ hy hs X Y Z
            rw [hD, ← hvm] at hDn
            have hps := pad_set (D j) (l2.length - (j + 1)) v
            rw [hDlj, ← hDn] at hps
            rw [hps] at hn3
            clear hF1 hF2 hDs hDl hbR hD hvm hps hpe hy hDn tc tf ta
            go_wp2
            go_roundw
            case rel => exact ⟨j + 1, by omega, by go_num, hn3, hb3⟩
            case measure => simp [intOf]; omega
          · have hD := hF1 j _ hy hs X Y Z
            rw [hD, ← hvm] at hDn
            have hub : 0 ≤ v ∧ v ≤ 100 := by omega
            clear hF1 hF2 hDs hDl hbR hD hy hvm
            have HDN := Lib.hid hDn
            clear hDn
            go_wp2_with fail
            go_region
            obtain ⟨u, hu⟩ : ∃ u : Int, u = (if v < X + 1 then X + 1 else v) := ⟨_, rfl⟩
            rw [← hu]
            have hum : u = max v (X + 1) := by rw [hu]; split <;> omega
            clear hu
            have hset := hn3.set (j + 1) u
            obtain ⟨w4, hw4⟩ : ∃ w4 : World, w4 = (w3.setCell ⟨g2, j + 1, none⟩ (.int .i64 u)).drew := ⟨_, rfl⟩
            have hn4 : OwnI w4 wo.heap.size (.slice (some ⟨g2, 0, none⟩) (l2.length + 1) (l2.length + 1)) (((pad (D j) (l2.length - (j + 1) + 1)).set (j + 1) v).set (j + 1) u) := by rw [hw4]; exact hset.1
            have hb4 : Below wo.heap.size wo w4 := by rw [hw4]; exact (hb3.grown hset.2 hsz3 (fun k hk => by cases hk; exact hg2lt.1)).drew
            rw [← hw4]
            rw [List.set_set] at hn4
            have hps := pad_set (D j) (l2.length - (j + 1)) u
            have hDn := HDN.out
            rw [← hum] at hDn
            rw [hDlj, ← hDn] at hps
            rw [hps] at hn4
            clear hw4 hset tc tf ta hn3 hb3 hum hps hpe hDn
            go_wp2
            go_roundw
            case rel => exact ⟨j + 1, by omega, by go_num, hn4, hb4⟩
            case measure => simp [intOf]; omega
        · obtain rfl : j = l2.length := by omega
          rw [Nat.sub_self, pad_zero, ← E] at hnx
          go_wp2
          go_roundw
          case rel => exact ⟨k + 1, g2, by omega, by go_num, rfl, hnx.mono hb0.size, hb0.trans (hby.mono hb0.size)⟩
          case measure => simp [intOf]; omega
    · obtain rfl : k = l1.length := by omega
      have hcell := hown.cell (k := l2.length) (x := (KR l1.length).getD l2.length 0) (get_getD _ _ (by omega))
      rw [← hkv] at hcell
      clear hks hkb hkv
      go_wp2
      go_ret
      exact ⟨rfl, hb⟩

set_option maxHeartbeats 4000000 in
theorem l19Kept_any (A1 : Option Addr) (c1 : Nat) (l1 : List MoveV) (A2 : Option Addr) (c2 : Nat) (l2 : List MoveV) (w : World) (hn1 : l1.length ≤ 12) (h1 : RdT moveT w A1 l1) (hn2 : l2.length ≤ 12) (h2 : RdT moveT w A2 l2) :
    Calls Try.prog 45 #[.slice A1 l1.length c1, .slice A2 l2.length c2] w fun e w' => e = .returned (.int .i64 (keptV l1 l2)) ∧ Below w.heap.size w w' := by
  have hk0 := keptR_zero l1 l2
  have hkl := keptR_len l1 l2
  have hkb := keptR_bd l1 l2
  have hkv : keptV l1 l2 = (keptR l1 l2 l1.length).getD l2.length 0 := by unfold keptV; rfl
  have hks := fun (i : Nat) (m : MoveV) (h : l1[i]? = some m) => keptR_succ l2 h
  generalize keptR l1 l2 = KR at *
  generalize keptV l1 l2 = KV at *
  go_enter Try.func45, Try.ntmps45
  go_wp2_with (at_make; refine wpList_makeI (w0 := w) (B := w.heap.size) rfl _ _ rfl w.heap.size _ _ (l2.length + 1) rfl rfl (by simp) (by simp) (by omega) (Nat.le_refl _) (Below.refl _ _) (Nat.le_refl _) ?_; intro g w1 hg0 hg1 hown1 hb1 hb1')
  rw [← hk0] at hown1
  go_loopw [5, 6] (fun r i wr => ∃ (k : Nat) (A : Option Addr) (cp : Nat), k ≤ l1.length ∧ i = .int .i64 k ∧ r = .slice A (l2.length + 1) cp ∧ OwnI wr w.heap.size (.slice A (l2.length + 1) cp) (KR k) ∧ Below w.heap.size w wr) (fun _ i _ => l1.length - (intOf i).toNat)
  case atStart => exact ⟨0, _, _, by omega, rfl, rfl, hown1, hb1⟩
  case round =>
    obtain ⟨k, A, cp, hk, rfl, rfl, hown, hb⟩ := hrel
    clear hown1 hb1 hb1' hk0 hg0 hg1
    have hz := hb.size
    have hlen := hkl k
    by_cases hlt : k < l1.length
    · obtain ⟨b, off, x0, x1, x2, rfl, hx, hlb, hc1, hc2, hc3⟩ := moveT_at (h1.below hb (Nat.le_refl _)) hlt
      have E := Lib.hid (hks k _ hx)
      have hbk := hkb k
      clear hks hx hkb hkl hkv
      obtain ⟨wq, rfl⟩ : ∃ wq : World, wq = wr := ⟨_, rfl⟩
      have hbR := fun j => dpN_bd (R := 2 * (k : Int)) (by omega) (keptF_ok l2 ⟨x0, x1, x2⟩ _ (by omega)) (s := 0) (by omega) hbk j
      have hDl := dpN_len (keptF l2 ⟨x0, x1, x2⟩) 0 (KR k)
      have hDs := dpN_succ (keptF l2 ⟨x0, x1, x2⟩) 0 (KR k)
      have hD0 := dpN_zero (keptF l2 ⟨x0, x1, x2⟩) 0 (KR k)
      have hF1 := fun (j : Nat) (n : MoveV) (h : l2[j]? = some n) (hs : sameM ⟨x0, x1, x2⟩ n = true) => keptF_same h hs
      have hF2 := fun (j : Nat) (n : MoveV) (h : l2[j]? = some n) (hs : sameM ⟨x0, x1, x2⟩ n = false) => keptF_not h hs
      generalize dpN (keptF l2 ⟨x0, x1, x2⟩) 0 (KR k) = D at *
      generalize keptF l2 ⟨x0, x1, x2⟩ = f at *
      go_wp2
      go_loopw [7, 8] (fun o i wy => ∃ (j : Nat) (A' : Option Addr) (cp' : Nat), j ≤ l2.length ∧ i = .int .i64 j ∧ o = .slice A' (D j).length cp' ∧ OwnI wy wq.heap.size (.slice A' (D j).length cp') (D j) ∧ Below wq.heap.size wq wy) (fun _ i _ => l2.length - (intOf i).toNat)
      case atStart => exact ⟨0, _, 1, by omega, rfl, by rw [hD0]; rfl, by rw [hD0]; exact World.ownsRow_lit wq #[.int .i64 0] 1 (Nat.le_refl _) (by unfold maxLen; omega) rfl, (Below.refl _ _).alloc (Nat.le_refl _) _⟩
      case round =>
        obtain ⟨j, A', cp', hj, rfl, rfl, hnx, hby⟩ := hrel
        clear hD0
        have hzy := hby.size
        have hDlj := Nat.le_of_eq (hDl j)
        have hDlk := Nat.le_of_eq (hDl j).symm
        by_cases hlj : j < l2.length
        · obtain ⟨b2, o2, y0, y1, y2, rfl, hy, _, hd1, hd2, hd3⟩ := moveT_at (h2.below (hb.trans (hby.mono hz)) (Nat.le_refl _)) hlj
          have hhx := fun o => hby.cell (p := ⟨b, o, none⟩) hlb
          have e1 := (hhx _).trans hc1
          have e2 := (hhx _).trans hc2
          have e3 := (hhx _).trans hc3
          clear hhx
          have hrow := (hown.below hby (Nat.le_refl _)).rd
          obtain ⟨rb, ro, rfl, _, hrc⟩ := hrow.open_ (by omega)
          have ra := hrc j _ (get_getD (KR k) j (by omega))
          have rb' := hrc (j + 1) _ (get_getD (KR k) (j + 1) (by omega))
          obtain ⟨nb, no, rfl, _, hnc⟩ := hnx.rd.open_ (by have := hDl j; omega)
          have rz := hnc j _ (get_getD (D j) j (by have := hDl j; omega))
          clear hrc hnc hrow
          have hba := bnd_getD hbk (by omega) j
          have hbb := bnd_getD hbk (by omega) (j + 1)
          have hbz := bnd_getD (hbR j) (by omega) j
          have hDn := hDs j
          generalize (KR k).getD j 0 = X at *
          generalize (KR k).getD (j + 1) 0 = Y at *
          generalize (D j).getD j 0 = Z at *
          have heq := eq_move x0 x1 x2 y0 y1 y2
          cases hs : sameM ⟨x0, x1, x2⟩ ⟨y0, y1, y2⟩
          · rw [hF2 j _ hy hs] at hDn
            have HDN := Lib.hid hDn
            clear hF1 hF2 hDs hDl hbR hy hDn
            go_wp2_with fail
            go_quiet ((go_at_call 47; exact Calls.quiet_of_same (same_symm (l1Most_any _ _ _))))
            go_wp2_with fail
            go_quiet (fail)
            generalize max Y Z = v at *
            go_wp2_with (at_builtin; refine wpList_app_int rfl _ _ rfl wq.heap.size _ _ rfl hnx wq.heap.size wq (by repeat (first | exact hby | refine below_drewN ?_ _)) v 1 1 rfl rfl (by omega) hzy (Nat.le_refl _) ?_; intro A3 c3 w3 hown3 hb3 hgr3)
            go_roundw
            case rel => exact ⟨j + 1, A3, c3, by omega, by go_num, by rw [HDN.out, List.length_append]; rfl, by rw [HDN.out]; rw [List.length_append]; exact hown3, hb3⟩
            case measure => simp [intOf]; omega
          · rw [hF1 j _ hy hs] at hDn
            have HDN := Lib.hid hDn
            clear hF1 hF2 hDs hDl hbR hy hDn
            go_wp2_with fail
            go_quiet ((go_at_call 47; exact Calls.quiet_of_same (same_symm (l1Most_any _ _ _))))
            go_wp2_with fail
            go_quiet (fail)
            generalize max Y Z = v at *
            go_wp2_with (first | (go_at_call 47; refine (l1Most_any _ _ _).mono ?_; rintro e w' ⟨rfl, rfl⟩) | (at_builtin; refine wpList_app_int rfl _ _ rfl wq.heap.size _ _ rfl hnx wq.heap.size wq (by repeat (first | exact hby | refine below_drewN ?_ _)) (max v (X + 1)) 1 1 rfl rfl (by omega) hzy (Nat.le_refl _) ?_; intro A3 c3 w3 hown3 hb3 hgr3))
            go_roundw
            case rel => exact ⟨j + 1, A3, c3, by omega, by go_num, by rw [HDN.out, List.length_append]; rfl, by rw [HDN.out]; rw [List.length_append]; exact hown3, hb3⟩
            case measure => simp [intOf]; omega
        · obtain rfl : j = l2.length := by omega
          have hfin := hDl l2.length
          clear hDlj hDlk hDl hDs
          go_wp2
          go_roundw
          case rel => exact ⟨k + 1, A', cp', by omega, by go_num, by rw [hfin], by rw [E.out, ← hfin]; exact hnx.mono hz, hb.trans (hby.mono hz)⟩
          case measure => simp [intOf]; omega
    · obtain rfl : k = l1.length := by omega
      obtain ⟨rb, ro, rfl, _, hrc⟩ := hown.rd.open_ (by omega)
      have hcell := hrc l2.length _ (get_getD (KR l1.length) l2.length (by omega))
      rw [← hkv] at hcell
      clear hks hkb hkv hrc
      go_wp2
      go_ret
      exact ⟨rfl, hb⟩
end Go.Proofs.Ytkcbldaondflmaa
