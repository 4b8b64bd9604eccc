/-
  The draw of right moves.
-/
import Derived.Test.YtkcbldaondflmaaFrmL
namespace Go.Proofs.Ytkcbldaondflmaa
open Go.RowKit Go.Lib Go.Lib.Hx

set_option maxRecDepth 100000 in
set_option maxHeartbeats 8000000 in
theorem rightMoves_any (g c P : Nat) (A : Option Addr) (l : List (Fin 256)) (w : World) (hl : l.length ≤ 65536) (hP : P ≤ 500000000) (h : Cur w g A c l P) :
    Calls Try.prog 54 #[.pointer (some ⟨g, 0, none⟩)] w (MvRes 61 g c (P + 1000) A l w) := by
  have hgl := h.lt
  go_enter Try.func54, Try.ntmps54
  go_wp2_with fail
  refine (standard_any g c P A l w hl (by omega) h).mono ?_
  rintro e w2 ⟨up, lo, R, A', c', hR1, hR9, rfl, HS⟩
  obtain ⟨w3, hw3⟩ : ∃ w3 : World, w3 = w2.alloc (.cells #[.int .i64 up, .int .i64 lo, .slice A' R.length c'] 71) := ⟨_, rfl⟩
  obtain ⟨fb, hfb⟩ : ∃ fb : Nat, fb = w2.heap.size := ⟨_, rfl⟩
  have HS3 : Sta rodT w.heap.size w w3 g A c l (P + 200) (.slice A' R.length c') R := by rw [hw3]; exact HS.alloc _
  have BF3 : Blk w3 fb 71 #[.int .i64 up, .int .i64 lo, .slice A' R.length c'] := by rw [hw3, hfb]; exact Blk.new w2 _ _
  have hfg : ¬ fb = g := by have := HS.cur.lt; omega
  clear HS
  go_upto_region 2 with fail
  rw [← hw3, ← hfb]
  clear hw3 hfb
  have k0 : w3.cell? ⟨fb, 0, none⟩ = some (.int .i64 up) := BF3.cell 0
  have k1 : w3.cell? ⟨fb, 1, none⟩ = some (.int .i64 lo) := BF3.cell 1
  have k2 : w3.cell? ⟨fb, 2, none⟩ = some (.slice A' R.length c') := BF3.cell 2
  have hlt := BF3.lt
  have hgf : g < w3.heap.size := HS3.cur.lt
  have hne := own_off HS3.own g HS3.hgb
  have hrd := HS3.own.rd
  have hbd : Below w3.heap.size w3 w3.drew := (Below.refl _ _).drew
  have K1 := addend_any g c (P + 200) A l up lo A' c' R w3.drew hl (by omega) (HS3.cur.bel hbd) (by omega) (hrd.below hbd (Nat.le_refl _)) hne
  have PK := Lib.hid HS3
  have BK := Lib.hid BF3
  clear HS3 BF3
  go_cut [4, 5] (fun s4 s5 wx => ∃ (L : List MoveV) (A1 : Option Addr) (c1 : Nat) (ok : Bool), L.length ≤ 60 ∧ s4 = .slice A1 L.length c1 ∧ s5 = .bool ok ∧ Sta moveT w.heap.size w wx g A c l (P + 210) (.slice A1 L.length c1) L)
  case first =>
    go_region_held3 (fun wy => wy.cell? ⟨fb, 0, none⟩ = some (.int .i64 up) ∧ wy.cell? ⟨fb, 1, none⟩ = some (.int .i64 lo) ∧ wy.cell? ⟨fb, 2, none⟩ = some (.slice A' R.length c'))
      ((((try dsimp only); (repeat' apply And.intro)) <;> (first
        | (with_reducible assumption) | (with_reducible exact cell_drew k0) | (with_reducible exact cell_drew k1) | (with_reducible exact cell_drew k2))))
      (first
        | (go_at_call 65; (with_reducible refine K1.mono ?_); rintro e w5 ⟨x, rfl, hc5, hg5⟩; have G5 := gr_of_drewD hg5; have HS5 := PK.out.gr G5 hc5; have BF5 := BK.out.gr G5 (fun e => hfg (Option.some.inj e)); have t0 : w5.cell? ⟨fb, 0, none⟩ = some (.int .i64 up) := BF5.cell 0; have t1 : w5.cell? ⟨fb, 1, none⟩ = some (.int .i64 lo) := BF5.cell 1; have t2 : w5.cell? ⟨fb, 2, none⟩ = some (.slice A' R.length c') := BF5.cell 2; have K2 := addNumberMoves_any up lo A' c' R x w5 (by omega) HS5.own.rd)
        | (go_at_call 64; (with_reducible refine K2.mono ?_); rintro e w6 ⟨L, A1, c1, ok, hL, rfl, om6, hb6⟩; have HS6 := HS5.bel hb6; have BF6 := BF5.below hb6 BF5.lt; have v0 : w6.cell? ⟨fb, 0, none⟩ = some (.int .i64 up) := BF6.cell 0; have v1 : w6.cell? ⟨fb, 1, none⟩ = some (.int .i64 lo) := BF6.cell 1; have v2 : w6.cell? ⟨fb, 2, none⟩ = some (.slice A' R.length c') := BF6.cell 2))
    all_goals
      go_wp2_with fail
      go_meet
      exact ⟨L, A1, c1, ok, hL, rfl, rfl, om6.mono HS5.size, HS6.cur, HS6.old, HS6.size, HS6.lo, HS6.le⟩
  case rest =>
    obtain ⟨L, A1, c1, ok, hL, rfl, rfl, HS⟩ := hcut
    clear K1 PK BK k0 k1 k2 hne hrd hbd hlt hgf hfg
    go_upto_region 3 with fail
    go_cut [26] (fun s26 wx => ∃ b : Bool, s26 = .bool b ∧ Sta moveT w.heap.size w wx g A c l (P + 212) (.slice A1 L.length c1) L)
    case first =>
      cases ok
      · go_wp2_with fail
        go_meet
        exact ⟨false, rfl, HS.more (by omega)⟩
      · by_cases h12 : L.length ≤ 12
        · have d1 : decide (L.length ≤ 12) = true := decide_eq_true h12
          have d2 : decide ((L.length : Int) ≤ 12) = true := decide_eq_true (by omega)
          have hc5 := HS.cur
          go_wp2_with fail
          refine (one_any g c _ 4 A l _ hl (by omega) (by decide) (by decide) hc5).mono ?_
          rintro e w7 ⟨bo, rfl, hc7, hg7⟩
          go_wp2_with fail
          go_meet
          exact ⟨!bo, rfl, HS.gr hg7 hc7⟩
        · have d1 : decide (L.length ≤ 12) = false := decide_eq_false h12
          have d2 : decide ((L.length : Int) ≤ 12) = false := decide_eq_false (by omega)
          go_wp2_with fail
          go_meet
          exact ⟨false, rfl, HS.more (by omega)⟩
    case rest =>
      obtain ⟨b, rfl, HS⟩ := hcut
      cases b
      · have hc5 := HS.cur
        go_wp2_with fail
        refine (frame_any g c _ A l _ hl (by omega) hc5).mono ?_
        rintro e w7 ⟨u, v, R2, A2, c2, hR21, hR29, rfl, HS7⟩
        have hc7 := HS7.cur
        have hne7 := own_off HS7.own g HS7.hgb
        have hrd7 := HS7.own.rd
        have hg7 := HS.old.trans HS7.old
        go_wp2_with fail
        refine (beads_any g c _ A l u v A2 c2 R2 w7 hl (by omega) hc7 (by omega) hrd7 hne7).mono ?_
        rintro e w8 ⟨L8, A8, c8, hL8, rfl, HS8⟩
        go_wp2
        go_ret
        exact ⟨L8, A8, c8, hL8, rfl, (HS8.outer hg7 hgl).more (by omega)⟩
      · go_wp2
        go_ret
        exact ⟨L, A1, c1, by omega, rfl, HS.more (by omega)⟩
end Go.Proofs.Ytkcbldaondflmaa
