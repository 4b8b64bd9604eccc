/-
  How far two lists of moves are apart, by the reference: contract.
-/
import Derived.Test.YtkcbldaondflmaaRecH
import Derived.Test.YtkcbldaondflmaaStep
namespace Go.Proofs.Ytkcbldaondflmaa
open Go.RowKit
attribute [local go_sem ↓] Go.wp_at_zero Go.wp_at_succ

set_option maxRecDepth 100000 in
set_option maxHeartbeats 8000000 in
theorem l19Distance_any (A1 : Option Addr) (c1 : Nat) (l1 : List MoveV) (A2 : Option Addr) (c2 : Nat) (l2 : List MoveV) (w : World) (hn1 : l1.length ≤ 12) (h1 : RdT moveT w A1 l1) (hn2 : l2.length ≤ 12) (h2 : RdT moveT w A2 l2) :
    Calls Try.prog 48 #[.slice A1 l1.length c1, .slice A2 l2.length c2] w fun e w' => e = .returned (.int .i64 (distV l1 l2)) ∧ Below w.heap.size w w' := by
  have hk0 := distR_zero l1 l2
  have hkl := distR_len l1 l2
  have hkb := distR_bd l1 l2
  have hkv : distV l1 l2 = (distR l1 l2 l1.length).getD l2.length 0 := by unfold distV; rfl
  have hks := fun (i : Nat) (m : MoveV) (h : l1[i]? = some m) => distR_succ l2 h
  generalize distR l1 l2 = KR at *
  generalize distV l1 l2 = KV at *
  go_enter Try.func48, Try.ntmps48
  go_wp2
  go_loopw [5, 6] (fun r i wr => ∃ (k : Nat) (A : Option Addr) (cp : Nat), k ≤ l2.length + 1 ∧ i = .int .i64 k ∧ r = .slice A (evs k).length cp ∧ OwnI wr w.heap.size (.slice A (evs k).length cp) (evs k) ∧ Below w.heap.size w wr) (fun _ i _ => l2.length + 1 - (intOf i).toNat)
  case atStart => exact ⟨0, _, 0, by omega, rfl, by rw [evs_zero]; rfl, by rw [evs_zero]; exact World.ownsRow_lit w #[] 0 (Nat.le_refl _) (by unfold maxLen; omega) rfl, (Below.refl _ _).alloc (Nat.le_refl _) _⟩
  case round =>
    obtain ⟨k, A, cp, hk, rfl, rfl, hown, hb⟩ := hrel
    have hz := hb.size
    have hel := Nat.le_of_eq (evs_len k)
    by_cases hlt : k < l2.length + 1
    · have E := Lib.hid (evs_succ k)
      go_wp2_with (at_builtin; refine wpList_app_int rfl _ _ rfl w.heap.size _ _ rfl hown w.heap.size w hb (2 * (k : Int)) 1 1 rfl rfl (by omega) hz (Nat.le_refl _) ?_; intro A3 c3 w3 hown3 hb3 hgr3)
      go_roundw
      case rel => exact ⟨k + 1, A3, c3, by omega, by go_num, by rw [E.out, List.length_append]; rfl, by rw [E.out]; rw [List.length_append]; exact hown3, hb3⟩
      case measure => simp [intOf]; omega
    · obtain rfl : k = l2.length + 1 := by omega
      rw [← hk0] at hown
      rw [← hk0]
      have hKl := hkl 0
      rw [hKl] at hown ⊢
      clear hk0 hlt hel hKl
      have hdd : decide ((l2.length : Int) + 1 ≤ (l2.length : Int)) = false := decide_eq_false (by omega)
      go_wp2
      go_loopw [5, 7] (fun r i wr => ∃ (k : Nat) (A : Option Addr) (cp : Nat), k ≤ l1.length ∧ i = .int .i64 k ∧ r = .slice A (l2.length + 1) cp ∧ OwnI wr w.heap.size (.slice A (l2.length + 1) cp) (KR k) ∧ Below w.heap.size w wr) (fun _ i _ => l1.length - (intOf i).toNat)
      case atStart => exact ⟨0, A, cp, by omega, rfl, rfl, hown, hb⟩
      case round =>
        obtain ⟨k, A, cp, hk, rfl, rfl, hown, hb⟩ := hrel
        have hz := hb.size
        have hlen := hkl k
        by_cases hlt : k < l1.length
        · obtain ⟨b, off, x0, x1, x2, rfl, hx, hlb, hc1, hc2, hc3⟩ := moveT_at (h1.below hb (Nat.le_refl _)) hlt
          have E := Lib.hid (hks k _ hx)
          have hbk := hkb k
          clear hks hx hkb hkl hkv
          obtain ⟨wq, rfl⟩ : ∃ wq : World, wq = wr := ⟨_, rfl⟩
          have hbR := fun j => dpN_bd (R := 2 * (l2.length : Int) + 2 + 2 * (k : Int)) (by omega) (distF_ok l2 ⟨x0, x1, x2⟩ _ (by omega)) (s := 2 * ((k : Int) + 1)) (by omega) hbk j
          have hDl := dpN_len (distF l2 ⟨x0, x1, x2⟩) (2 * ((k : Int) + 1)) (KR k)
          have hDs := dpN_succ (distF l2 ⟨x0, x1, x2⟩) (2 * ((k : Int) + 1)) (KR k)
          have hD0 := dpN_zero (distF l2 ⟨x0, x1, x2⟩) (2 * ((k : Int) + 1)) (KR k)
          have hF := fun (j : Nat) (n : MoveV) (h : l2[j]? = some n) => distF_at (m := ⟨x0, x1, x2⟩) h
          generalize dpN (distF l2 ⟨x0, x1, x2⟩) (2 * ((k : Int) + 1)) (KR k) = D at *
          generalize distF l2 ⟨x0, x1, x2⟩ = f at *
          obtain ⟨rb, ro, rfl, hrlt, hrc⟩ := hown.rd.open_ (by omega)
          go_wp2
          go_loopw [8, 9] (fun o i wy => ∃ (j : Nat) (A' : Option Addr) (cp' : Nat), j ≤ l2.length ∧ i = .int .i64 j ∧ o = .slice A' (D j).length cp' ∧ OwnI wy wq.heap.size (.slice A' (D j).length cp') (D j) ∧ Below wq.heap.size wq wy) (fun _ i _ => l2.length - (intOf i).toNat)
          case atStart => exact ⟨0, _, 1, by omega, rfl, by rw [hD0]; rfl, by rw [hD0]; exact World.ownsRow_lit wq #[.int .i64 (2 * ((k : Int) + 1))] 1 (Nat.le_refl _) (by unfold maxLen; omega) rfl, (Below.refl _ _).alloc (Nat.le_refl _) _⟩
          case round =>
            obtain ⟨j, A', cp', hj, rfl, rfl, hnx, hby⟩ := hrel
            clear hD0
            have hzy := hby.size
            have hDlj := Nat.le_of_eq (hDl j)
            have hDlk := Nat.le_of_eq (hDl j).symm
            by_cases hlj : j < l2.length
            · obtain ⟨b2, o2, y0, y1, y2, rfl, hy, hlb2, hd1, hd2, hd3⟩ := moveT_at (h2.below hb (Nat.le_refl _)) hlj
              have ra := hrc j _ (get_getD (KR k) j (by omega))
              have rb' := hrc (j + 1) _ (get_getD (KR k) (j + 1) (by omega))
              obtain ⟨nb, no, rfl, _, hnc⟩ := hnx.rd.open_ (by have := hDl j; omega)
              have rz := hnc j _ (get_getD (D j) j (by have := hDl j; omega))
              clear hnc
              have hba := bnd_getD hbk (by omega) j
              have hbb := bnd_getD hbk (by omega) (j + 1)
              have hbz := bnd_getD (hbR j) (by omega) j
              have hDn := hDs j
              rw [hF j _ hy] at hDn
              clear hy hrc
              generalize (KR k).getD j 0 = X at *
              generalize (KR k).getD (j + 1) 0 = Y at *
              generalize (D j).getD j 0 = Z at *
              have hC := fun W => l19Cost_any x0 x1 x2 y0 y1 y2 W
              have hcb := costM_bd ⟨x0, x1, x2⟩ ⟨y0, y1, y2⟩
              generalize costM ⟨x0, x1, x2⟩ ⟨y0, y1, y2⟩ = cc at *
              have HDN := Lib.hid hDn
              have HC := Lib.hid hC
              have HRow := Lib.hid hown
              clear hDn hC hown hF hbR hbk hDs hDl
              -- the cells, in the world of this round
              have sa := (hby.cell (p := ⟨rb, ro + j, none⟩) hrlt).trans ra
              have sb := (hby.cell (p := ⟨rb, ro + (j + 1), none⟩) hrlt).trans rb'
              have sx0 := (hby.cell (p := ⟨b, off + k * 3, none⟩) hlb).trans hc1
              have sx1 := (hby.cell (p := ⟨b, off + k * 3 + 1, none⟩) hlb).trans hc2
              have sx2 := (hby.cell (p := ⟨b, off + k * 3 + 2, none⟩) hlb).trans hc3
              have sy0 := (hby.cell (p := ⟨b2, o2 + j * 3, none⟩) hlb2).trans hd1
              have sy1 := (hby.cell (p := ⟨b2, o2 + j * 3 + 1, none⟩) hlb2).trans hd2
              have sy2 := (hby.cell (p := ⟨b2, o2 + j * 3 + 2, none⟩) hlb2).trans hd3
              go_wp2_with fail
              go_quiet ((go_at_call 59; exact Calls.quiet_of_same (same_symm (l1Least_any _ _ _))))
              obtain ⟨T, hT⟩ : ∃ T : Int, T = min (Y + 2) (Z + 2) := ⟨_, rfl⟩
              have hTb : 0 ≤ T ∧ T ≤ 200 := by omega
              rw [← hT]
              obtain ⟨wn, hwn⟩ : ∃ wn : World, wn = wr.drewN nq := ⟨_, rfl⟩
              have hnn : OwnI wn wq.heap.size (.slice (some ⟨nb, no, none⟩) (D j).length cp') (D j) := by rw [hwn]; exact hnx.drewN nq
              have hbn : Below wq.heap.size wq wn := by rw [hwn]; exact below_drewN hby nq
              replace sa : wn.cell? ⟨rb, ro + j, none⟩ = some (.int .i64 X) := by rw [hwn]; exact sa
              replace sx0 : wn.cell? ⟨b, off + k * 3, none⟩ = some (.int .i64 x0) := by rw [hwn]; exact sx0
              replace sx1 : wn.cell? ⟨b, off + k * 3 + 1, none⟩ = some (.int .i64 x1) := by rw [hwn]; exact sx1
              replace sx2 : wn.cell? ⟨b, off + k * 3 + 2, none⟩ = some (.int .i64 x2) := by rw [hwn]; exact sx2
              replace sy0 : wn.cell? ⟨b2, o2 + j * 3, none⟩ = some (.int .i64 y0) := by rw [hwn]; exact sy0
              replace sy1 : wn.cell? ⟨b2, o2 + j * 3 + 1, none⟩ = some (.int .i64 y1) := by rw [hwn]; exact sy1
              replace sy2 : wn.cell? ⟨b2, o2 + j * 3 + 2, none⟩ = some (.int .i64 y2) := by rw [hwn]; exact sy2
              have hsn := hbn.size
              rw [← hwn]
              clear hwn hby hnx sb rz rb'
              have Ha := Lib.hid ra
              have Hc := Lib.hid (And.intro hc1 (And.intro hc2 hc3))
              have Hd := Lib.hid (And.intro hd1 (And.intro hd2 hd3))
              clear ra hc1 hc2 hc3 hd1 hd2 hd3
              have q1 : rb < wn.heap.size := by omega
              have q2 : b < wn.heap.size := by omega
              have q3 : b2 < wn.heap.size := by omega
              have i1 : IntKind.i64.wrap (X + cc) = X + cc := IntWalk.i64_in _ (by omega)
              have j3 : (j : Int) < (l2.length : Int) := by omega
              have j4 : (j : Int) < (l2.length : Int) + 1 := by omega
              have j5 : (0 : Int) ≤ (j : Int) := by omega
              have j8 : (j : Int).toNat = j := by omega
              have k3 : (k : Int) < (l1.length : Int) := by omega
              have k5 : (0 : Int) ≤ (k : Int) := by omega
              have k8 : (k : Int).toNat = k := by omega
              have HNN := Lib.hid hnn
              clear hnn
              have hXc : Hid (min T (X + cc) = min (X + cc) (min (Y + 2) (Z + 2))) := Lib.hid (by omega)
              clear hT
              go_wp2_with fail
              go_region_held3 (fun wx => wx.cell? ⟨rb, ro + j, none⟩ = some (.int .i64 X) ∧ wx.cell? ⟨b, off + k * 3, none⟩ = some (.int .i64 x0) ∧ wx.cell? ⟨b, off + k * 3 + 1, none⟩ = some (.int .i64 x1) ∧ wx.cell? ⟨b, off + k * 3 + 2, none⟩ = some (.int .i64 x2) ∧ wx.cell? ⟨b2, o2 + j * 3, none⟩ = some (.int .i64 y0) ∧ wx.cell? ⟨b2, o2 + j * 3 + 1, none⟩ = some (.int .i64 y1) ∧ wx.cell? ⟨b2, o2 + j * 3 + 2, none⟩ = some (.int .i64 y2)) (((try dsimp only); (repeat' apply And.intro)) <;> (first | assumption | exact box_old (by assumption) _)) (first
                | (go_at_call 60; refine (HC.out _).mono ?_; rintro e w3 ⟨rfl, hb3⟩; have t0 := (hb3.cell (p := ⟨rb, ro + j, none⟩) q1).trans sa; have t1 := (hb3.cell (p := ⟨b, off + k * 3, none⟩) q2).trans sx0; have t2 := (hb3.cell (p := ⟨b, off + k * 3 + 1, none⟩) q2).trans sx1; have t3 := (hb3.cell (p := ⟨b, off + k * 3 + 2, none⟩) q2).trans sx2; have t4 := (hb3.cell (p := ⟨b2, o2 + j * 3, none⟩) q3).trans sy0; have t5 := (hb3.cell (p := ⟨b2, o2 + j * 3 + 1, none⟩) q3).trans sy1; have t6 := (hb3.cell (p := ⟨b2, o2 + j * 3 + 2, none⟩) q3).trans sy2; have hb3' : Below wn.heap.size wn w3 := (Below.refl _ _).drew.trans hb3; have hn3 := Lib.hid (HNN.out.below hb3' (Nat.le_refl _)); have hb3w := hbn.trans (hb3'.mono hsn); have hz3 := hb3w.size)
                | (go_at_call 59; refine (l1Least_any _ _ _).mono ?_; rintro e w' ⟨rfl, rfl⟩)
                | (refine step_app_int rfl _ _ (by rfl) wq.heap.size _ _ (by rfl) hn3.out wq.heap.size hb3w (min T (X + cc)) 1 1 (by rfl) (by rfl) (by omega) hz3 (Nat.le_refl _) ?_; intro A4 c4 w4 hown4 hb4 hgr4; have v0 := (hb4.cell (p := ⟨rb, ro + j, none⟩) hrlt).trans Ha.out; have v1 := (hb4.cell (p := ⟨b, off + k * 3, none⟩) hlb).trans Hc.out.1; have v2 := (hb4.cell (p := ⟨b, off + k * 3 + 1, none⟩) hlb).trans Hc.out.2.1; have v3 := (hb4.cell (p := ⟨b, off + k * 3 + 2, none⟩) hlb).trans Hc.out.2.2; have v4 := (hb4.cell (p := ⟨b2, o2 + j * 3, none⟩) hlb2).trans Hd.out.1; have v5 := (hb4.cell (p := ⟨b2, o2 + j * 3 + 1, none⟩) hlb2).trans Hd.out.2.1; have v6 := (hb4.cell (p := ⟨b2, o2 + j * 3 + 2, none⟩) hlb2).trans Hd.out.2.2))
              have HF := Lib.hid (show D (j + 1) = D j ++ [min T (X + cc)] by rw [HDN.out, hXc.out])
              clear v0 v1 v2 v3 v4 v5 v6 t0 t1 t2 t3 t4 t5 t6 hb3 hgr4 hb3' sa sx0 sx1 sx2 sy0 sy1 sy2 i1 j3 j4 j5 j8 k3 k5 k8
              generalize min T (X + cc) = V at *
              go_wp2
              go_roundw
              case rel =>
                (repeat apply Exists.intro)
                exact ⟨⟨j + 1, A4, c4, by omega, by go_num, by rw [HF.out, List.length_append]; rfl, by rw [HF.out]; rw [List.length_append]; exact hown4, hb4⟩, rfl⟩
              case measure => simp [intOf]; omega
            · obtain rfl : j = l2.length := by omega
              have hfin := hDl l2.length
              clear hDlj hDlk hDl hDs hF
              go_wp2
              go_roundw
              case rel => exact ⟨k + 1, A', cp', by omega, by go_num, by rw [hfin], by rw [E.out, ← hfin]; exact hnx.mono hz, hb.trans (hby.mono hz)⟩
              case measure => simp [intOf]; omega
        · obtain rfl : k = l1.length := by omega
          obtain ⟨rb, ro, rfl, _, hrc⟩ := hown.rd.open_ (by omega)
          have hcell := hrc l2.length _ (get_getD (KR l1.length) l2.length (by omega))
          rw [← hkv] at hcell
          clear hks hkb hkv hrc
          go_wp2
          go_ret
          exact ⟨rfl, hb⟩
end Go.Proofs.Ytkcbldaondflmaa
