/-
  Is it a scheme: the reference's contracts.
-/
import Derived.Test.YthoojcmnkhhokaaGraA
namespace Go.Proofs.Ythoojcmnkhhokaa
set_option maxRecDepth 100000
open Go.RowKit

theorem OwnT.capn {α : Type} {T : Ty α} {w : World} {base n c : Nat} {A : Option Addr} {l : List α} (h : OwnT T w base (.slice A n c) l) : l.length ≤ c := by
  obtain ⟨A', c', hv⟩ := h.form
  injection hv with h1 h2 h3
  subst h1 h2 h3
  rcases h.2 with ⟨hv, h0⟩ | ⟨g, cap, cur, hv, _, _, h1, _⟩
  · omega
  · injection hv with _ _ h3
    subst h3
    exact h1
set_option maxHeartbeats 8000000 in
theorem l17Scheme_any (A : Option Addr) (c : Nat) (l : List PartV) (w : World) (hn : l.length ≤ 16777216) (h : RdT partT w A l) (hok : ∀ x ∈ l, x.ok) :
    Calls Try.prog 67 #[.slice A l.length c] w fun e w' => e = .returned (.bool (schB l)) ∧ Below w.heap.size w w' := by
  go_enter Try.func67, Try.ntmps67
  go_wp2
  go_loopw [3] (fun i wr => ∃ k : Nat, k ≤ l.length ∧ k ≤ 7 ∧ i = .int .i64 k ∧ Hid (okTo l k = true) ∧ Below w.heap.size w wr) (fun i _ => l.length - (intOf i).toNat)
  case atStart => exact ⟨0, by omega, by omega, rfl, Lib.hid (okTo_zero l), Below.refl _ _⟩
  case round =>
    obtain ⟨k, hk, hk7, rfl, hall, hb⟩ := hrel
    have hz := hb.size
    by_cases hlt : k < l.length
    · have t1 : decide (k < l.length) = true := decide_eq_true hlt
      by_cases hk6 : k ≤ 6
      · have t2 : decide ((k : Int) ≤ 6) = true := decide_eq_true (by omega)
        have t3 : decide (k ≤ 6) = true := decide_eq_true hk6
        obtain ⟨b, off, rfl, hlb, hcells⟩ := partT_cells (h.below hb (Nat.le_refl _)) (by omega)
        obtain ⟨⟨name, full, needed⟩, hx⟩ := get_of_lt l hlt
        obtain ⟨hc0, hc1, hc2⟩ := hcells k name full needed hx
        have hnm : name.size ≤ maxLen := by have : name.size ≤ 1048576 := hok _ (List.mem_of_getElem? hx); unfold maxLen; omega
        have HWD := Lib.hid (fun W => l2Word_any name W hnm)
        have HP := Lib.hid (partB_eq ⟨name, full, needed⟩)
        have HX := Lib.hid hx
        clear hx hcells hnm
        cases g0 : wordB name
        · have E := Lib.hid (schB_bad (okP_part HX.out (by rw [HP.out, g0]; rfl)) hlt)
          clear hall
          go_wp2_with (go_at_call 94; refine (HWD.out _).mono ?_; rintro e w' ⟨rfl, rfl⟩; rw [g0])
          go_ret
          exact ⟨by rw [E.out]; rfl, hb.alloc hz _⟩
        cases g1 : inB full 1 100
        · have E := Lib.hid (schB_bad (okP_part HX.out (by rw [HP.out, g0, g1]; rfl)) hlt)
          clear hall
          go_wp2_with (first | (go_at_call 94; refine (HWD.out _).mono ?_; rintro e w' ⟨rfl, rfl⟩; rw [g0]) | (go_at_call 95; refine (l1In_any _ _ _ _).mono ?_; rintro e w' ⟨rfl, rfl⟩; rw [g1]))
          go_ret
          exact ⟨by rw [E.out]; rfl, hb.alloc hz _⟩
        cases g2 : inB needed 0 full
        · have E := Lib.hid (schB_bad (okP_part HX.out (by rw [HP.out, g0, g1, g2]; rfl)) hlt)
          clear hall
          go_wp2_with (first | (go_at_call 94; refine (HWD.out _).mono ?_; rintro e w' ⟨rfl, rfl⟩; rw [g0]) | (go_at_call 95; refine (l1In_any _ _ _ _).mono ?_; rintro e w' ⟨rfl, rfl⟩; first | rw [g1] | rw [g2]))
          go_ret
          exact ⟨by rw [E.out]; rfl, hb.alloc hz _⟩
        have HPY := Lib.hid (show partB ⟨name, full, needed⟩ = true by rw [HP.out, g0, g1, g2]; rfl)
        obtain ⟨wb, hwb⟩ : ∃ wb : World, wb = wr.alloc (.cells #[.string name, .int .i64 full, .int .i64 needed] 71) := ⟨_, rfl⟩
        have hbb : Below w.heap.size w wb := by rw [hwb]; exact hb.alloc hz _
        have hw0 : wb.cell? ⟨wr.heap.size, 0, none⟩ = some (.string name) := by rw [hwb]; exact cell_of_row _ _ 0 _ _ (0, 0) (heap_alloc_new wr _)
        have hwl : wr.heap.size < wb.heap.size := by rw [hwb]; simp
        have hrr := h.below hbb (Nat.le_refl _)
        go_wp2_with (first | (go_at_call 94; refine (HWD.out _).mono ?_; rintro e w' ⟨rfl, rfl⟩; rw [g0]) | (go_at_call 95; refine (l1In_any _ _ _ _).mono ?_; rintro e w' ⟨rfl, rfl⟩; first | rw [g1] | rw [g2]))
        rw [← hwb]
        clear hwb hc0 hc1 hc2 HWD HP g0 g1 g2
        obtain ⟨wq, rfl⟩ : ∃ wq : World, wq = wr := ⟨_, rfl⟩
        go_loopw [5] (fun i wy => ∃ j : Nat, j ≤ k ∧ i = .int .i64 j ∧ Hid (dupTo l name j = false) ∧ Below wb.heap.size wb wy) (fun i _ => k - (intOf i).toNat)
        case atStart => exact ⟨0, by omega, rfl, Lib.hid (dupTo_zero l name), Below.refl _ _⟩
        case round =>
          obtain ⟨j, hj, rfl, hd, hby⟩ := hrel
          have hzy := hby.size
          by_cases hjk : j < k
          · obtain ⟨b', off', n2, f2, d2, hA', hy, hlb', hd0, hd1, hd2⟩ := partT_at (hrr.below hby (Nat.le_refl _)) (k := j) (by omega)
            injection hA' with hA'
            injection hA' with e1 e2 _
            subst e1 e2
            have hw1 := (hby.cell (p := ⟨wq.heap.size, 0, none⟩) hwl).trans hw0
            have jl : (j : Int) < (l.length : Int) := by omega
            cases he : (n2.toList == name.toList)
            · have HD2 := Lib.hid (dupTo_no hd.out hy he)
              clear hy hd
              go_wp2_with fail
              go_quiet (fail)
              go_wp2
              go_roundw
              case rel => exact ⟨j + 1, by omega, by go_num, HD2, below_drewN hby _⟩
              case measure => simp [intOf]; omega
            · have E := Lib.hid (schB_bad (okP_dup HX.out (dupTo_yes hjk hy he)) hlt)
              clear hy hd
              go_wp2_with fail
              go_quiet (fail)
              go_wp2
              go_ret
              exact ⟨by rw [E.out]; rfl, hbb.trans ((below_drewN hby _).mono hbb.size)⟩
          · have HA2 := Lib.hid (okTo_succ hall.out (okP_yes HX.out HPY.out (by have := hd.out; rwa [show j = k by omega] at this)))
            clear hd hall
            go_wp2
            go_roundw
            case rel => exact ⟨k + 1, by omega, by omega, by go_num, HA2, hbb.trans (hby.mono hbb.size)⟩
            case measure => simp [intOf]; omega
      · have t2 : decide ((k : Int) ≤ 6) = false := decide_eq_false (by omega)
        have t3 : decide (k ≤ 6) = false := decide_eq_false hk6
        have hb6 : inB (l.length : Int) 1 6 = false := inB_f2 (by omega)
        have E := Lib.hid (schB_len hb6)
        clear hall
        go_wp2_with (go_at_call 95; refine (l1In_any _ _ _ _).mono ?_; rintro e w' ⟨rfl, rfl⟩)
        go_ret
        exact ⟨by rw [E.out]; rfl, hb⟩
    · obtain rfl : k = l.length := by omega
      have E := Lib.hid (schB_yes hall.out)
      have t1 : decide (l.length < l.length) = false := decide_eq_false (by omega)
      clear hall
      go_wp2_with (go_at_call 95; refine (l1In_any _ _ _ _).mono ?_; rintro e w' ⟨rfl, rfl⟩)
      go_ret
      exact ⟨by rw [E.out]; rfl, hb⟩
set_option maxHeartbeats 800000 in
theorem isSchemeS_any (A : Option Addr) (c : Nat) (l : List PartV) (w : World) (hn : l.length ≤ 16777216) (_hcap : l.length ≤ c) (h : RdT partT w A l) (hok : ∀ x ∈ l, x.ok) :
    Calls Try.prog 16 #[.slice A l.length c] w fun e w' => e = .returned (.bool (schB l)) ∧ Below w.heap.size w w' := by
  go_enter Try.func16, Try.ntmps16
  go_wp2_with (go_at_call 67; refine (l17Scheme_any A c l _ hn h hok).mono ?_; rintro e w1 ⟨rfl, hb1⟩)
  go_ret
  exact ⟨rfl, hb1⟩
end Go.Proofs.Ythoojcmnkhhokaa
