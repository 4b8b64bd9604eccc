/-
  The draw of a list of recordings, as a function of the bytes.
-/
import Derived.Test.YtkcbldaondflmaaFrmO
import Derived.Test.YtkcbldaondflmaaMSS
namespace Go.Proofs.Ytkcbldaondflmaa
open Go.RowKit Go.Lib Go.Lib.Hx

/-- A list of recordings and one more, drawn. -/
def RetLM (w : World) (e : Ending) (w' : World) : Prop :=
  ∃ (ps : List (HdrV × List MoveV)) (A1 : Option Addr) (c1 : Nat) (b : List MoveV) (A2 : Option Addr) (c2 : Nat), e = .returned (.tuple #[.slice A1 ps.length c1, .slice A2 b.length c2]) ∧ ps.length ≤ 7 ∧ (∀ p ∈ ps, p.2.length ≤ 64) ∧ b.length ≤ 61 ∧ RdM hdrM moveT w' A1 ps ∧ RdT moveT w' A2 b ∧ Below w.heap.size w w'
structure LS (base : Nat) (W w : World) (g : Nat) (A : Option Addr) (c : Nat) (l : List (Fin 256)) (P : Nat) (v : Value) (ps : List (HdrV × List MoveV)) (AB : Option Addr) (cB : Nat) (B : List MoveV) : Prop where
  sta : Sta hdrM base W w g A c l P v (ps.map Prod.fst)
  row : ∀ p ∈ ps, p.1.n = p.2.length ∧ p.2.length ≤ 64 ∧ OwnT moveT w base p.1.val p.2
  one : OwnT moveT w base (.slice AB B.length cB) B
section
variable {base : Nat} {W w w' : World} {g c P Q cB : Nat} {A AB : Option Addr} {l : List (Fin 256)} {v : Value} {ps : List (HdrV × List MoveV)} {B : List MoveV}
theorem LS.gr (h : LS base W w g A c l P v ps AB cB B) (hg : w.grownBy w' (some g)) (hc : Cur w' g A c l Q) : LS base W w' g A c l Q v ps AB cB B :=
  ⟨h.sta.gr hg hc, fun p hp => ⟨(h.row p hp).1, (h.row p hp).2.1, own_cur (h.row p hp).2.2 hg h.sta.hgb⟩, own_cur h.one hg h.sta.hgb⟩
theorem LS.more (h : LS base W w g A c l P v ps AB cB B) (hPQ : P ≤ Q) : LS base W w g A c l Q v ps AB cB B := ⟨h.sta.more hPQ, h.row, h.one⟩
theorem LS.app {w9 : World} {o : Obj} {v' : Value} {x : HdrV} {a : List MoveV} (h : LS base W w g A c l P v ps AB cB B) (ho : OwnT hdrM w9 base v' (ps.map Prod.fst ++ [x])) (hg : (w.alloc o).grownBy w9 v.ownBlock) (hn : x.n = a.length) (ha : a.length ≤ 64) (hx : OwnT moveT w base x.val a) :
    LS base W w9 g A c l P v' (ps ++ [(x, a)]) AB cB B := by
  have hk : ∀ {u : Value} {m : List MoveV}, OwnT moveT w base u m → OwnT moveT w9 base u m := fun {u m} hu => by
    have ha := own_apart hu h.sta.own hdrM_move.symm
    exact (hu.alloc o).kept hg ha
  refine ⟨by rw [List.map_append]; exact h.sta.app ho hg, fun p hp => ?_, hk h.one⟩
  rcases List.mem_append.1 hp with hp | hp
  · exact ⟨(h.row p hp).1, (h.row p hp).2.1, hk (h.row p hp).2.2⟩
  · rw [List.mem_singleton] at hp
    subst hp
    exact ⟨hn, ha, hk hx⟩
theorem LS.rd {n1 c1 : Nat} {A1 : Option Addr} (h : LS base W w g A c l P (.slice A1 n1 c1) ps AB cB B) : RdM hdrM moveT w A1 ps := ⟨h.sta.own.rd, fun p hp => ⟨(h.row p hp).1, OwnT.rd (h.row p hp).2.2⟩⟩
end
set_option maxRecDepth 100000 in
set_option maxHeartbeats 8000000 in
theorem drawBest_any (A : Option Addr) (c : Nat) (l : List (Fin 256)) (w : World) (hl : l.length ≤ 65536) (h : RdT byteT w A l) :
    Calls Try.prog 38 #[.slice A l.length c] w (RetLM w) := by
  obtain ⟨w0, hw0⟩ : ∃ w0 : World, w0 = w.alloc (.cells #[.slice A l.length c, .int .i64 0, .int .u64 0] 64) := ⟨_, rfl⟩
  obtain ⟨g, hg⟩ : ∃ g : Nat, g = w.heap.size := ⟨_, rfl⟩
  have hC : Cur w0 g A c l 0 := by rw [hw0, hg]; exact Cur.new (c := c) h
  have hb0 : Below w.heap.size w w0 := by rw [hw0]; exact (Below.refl _ _).alloc (Nat.le_refl _) _
  have hgw : w.heap.size ≤ g := by omega
  have hg0 := hC.lt
  go_enter Try.func38, Try.ntmps38
  go_upto_region 2 with fail
  rw [← hw0, ← hg]
  clear hw0 hg
  go_upto_region 4 with fail
  refine (rightMoves_any g c 0 A l _ hl (by omega) hC).mono ?_
  rintro e w1 ⟨B, AB, cB, hn1, rfl, HS⟩
  obtain ⟨w2, hw2⟩ : ∃ w2 : World, w2 = w1.alloc (.cells #[] 26) := ⟨_, rfl⟩
  obtain ⟨ob, hob⟩ : ∃ ob : Nat, ob = w1.heap.size := ⟨_, rfl⟩
  have HL : LS w0.heap.size w0 w2 g A c l 1000 (.slice (some ⟨ob, 0, none⟩) 0 0) [] AB cB B := by
    have H2 := HS.alloc (.cells #[] 26)
    rw [hw2, hob]
    exact ⟨⟨World.ownsRow_lit w1 #[] 0 HS.size (by unfold maxLen; omega) rfl, H2.cur.more (by omega), H2.old, H2.size, H2.lo, H2.le⟩, (fun p hp => by cases hp), H2.own⟩
  clear HS hC
  go_upto_region 4 with fail
  rw [← hw2, ← hob]
  clear hw2 hob
  have hc2 := HL.sta.cur
  go_wp2_with fail
  refine (pick_any g c _ 5 A l _ hl (by omega) (by decide) (by decide) hc2).mono ?_
  rintro e w3 ⟨n0, hn0, rfl, hc3, hg3⟩
  have HL3 := HL.gr hg3 hc3
  clear HL hc2 hc3 hg3
  go_wp2_with fail
  go_loopw [6, 7] (fun o n wr => ∃ (k : Nat) (ps : List (HdrV × List MoveV)) (A1 : Option Addr) (c1 : Nat), n = .int .i64 k ∧ k ≤ 4 ∧ ps.length + k ≤ 4 ∧ o = .slice A1 ps.length c1 ∧ LS w0.heap.size w0 wr g A c l (1002 + 200 * (4 - k)) (.slice A1 ps.length c1) ps AB cB B) (fun _ n _ => (intOf n).toNat)
  case atStart => exact ⟨n0, [], some ⟨ob, 0, none⟩, 0, rfl, by omega, by simp; omega, rfl, HL3.more (by omega)⟩
  case round =>
    obtain ⟨k, ps, A1, c1, rfl, hk4, hps, rfl, HL4⟩ := hrel
    clear HL3
    have hc4 := HL4.sta.cur
    by_cases hk : 0 < k
    · have d1 : decide (0 < k) = true := decide_eq_true hk
      have i5 : IntKind.i64.wrap ((k : Int) - 1) = ((k - 1 : Nat) : Int) := by rw [IntWalk.i64_in _ (by omega)]; omega
      have hrB := HL4.one.rd
      go_wp2_with fail
      refine (recorded_any g c _ A l AB cB B _ hl (by omega) hc4 hn1 hrB).mono ?_
      rintro e w5 ⟨a, A5, c5, hna, rfl, HS5⟩
      have HL5 := HL4.gr HS5.old HS5.cur
      have hx5 := HS5.own.mono HL4.sta.size
      have hgb := HL5.sta.hgb
      clear HL4 hc4 hrB HS5
      go_wp2_with (at_builtin; refine wpList_appT hdrM rfl _ _ rfl w0.heap.size _ _ rfl HL5.sta.own g HL5.sta.below ⟨A5, a.length, c5⟩ _ rfl 1 1 rfl rfl (by simp; omega) HL5.sta.size (by omega) ?_; intro A6 c6 w6 ho6 hb6 hg6; rw [List.length_map] at ho6 ⊢)
      have HL6 := HL5.app ho6 hg6 rfl hna hx5
      go_roundw
      case rel => exact ⟨k - 1, ps ++ [(⟨A5, a.length, c5⟩, a)], A6, c6, rfl, by omega, by simp; omega, by rw [List.length_append]; simp, by rw [List.length_append]; exact HL6.more (by omega)⟩
      case measure => first | (simp [intOf]; done) | (simp [intOf]; omega)
    · have d1 : decide (0 < k) = false := decide_eq_false hk
      clear hk
      go_wp2_with fail
      refine (one_any g c _ 24 A l _ hl (by omega) (by decide) (by decide) hc4).mono ?_
      rintro e w5 ⟨bo, rfl, hc5, hg5⟩
      have HL5 := HL4.gr hg5 hc5
      clear HL4 hc4 hc5 hg5
      have hfin : ∀ (wz : World) (Q : Nat) (qs : List (HdrV × List MoveV)) (A9 : Option Addr) (c9 : Nat), LS w0.heap.size w0 wz g A c l Q (.slice A9 qs.length c9) qs AB cB B → RdM hdrM moveT wz A9 qs ∧ RdT moveT wz AB B ∧ Below w.heap.size w wz := fun wz Q qs A9 c9 HZ => ⟨HZ.rd, HZ.one.rd, below_cur hb0 HZ.sta.old hgw⟩
      have HF := Lib.hid hfin
      clear hfin
      cases bo
      · go_wp2
        go_ret2
        exact ⟨ps, A1, c1, B, AB, cB, rfl, by omega, fun p hp => (HL5.row p hp).2.1, hn1, HF.out _ _ _ _ _ HL5⟩
      · go_wp2_with fail
        go_loopw [6] (fun o wr => ∃ (qs : List (HdrV × List MoveV)) (A3 : Option Addr) (c3 : Nat), qs.length ≤ 7 ∧ o = .slice A3 qs.length c3 ∧ LS w0.heap.size w0 wr g A c l (2000 + 2 * qs.length) (.slice A3 qs.length c3) qs AB cB B) (fun o _ => 8 - (match o with | .slice _ n _ => n | _ => 0))
        case atStart => exact ⟨ps, A1, c1, by omega, rfl, HL5.more (by omega)⟩
        case round =>
          obtain ⟨qs, A3, c3, hq, rfl, HL6⟩ := hrel
          clear HL5
          have hc6 := HL6.sta.cur
          go_wp2_with fail
          refine (pick_any g c _ 2 A l _ hl (by omega) (by decide) (by decide) hc6).mono ?_
          rintro e w7 ⟨b2, hb2, rfl, hc7, hg7⟩
          have HL7 := HL6.gr hg7 hc7
          have hgb := HL7.sta.hgb
          have i1 : IntKind.i64.wrap (6 + (b2 : Int)) = 6 + (b2 : Int) := IntWalk.i64_in _ (by omega)
          clear HL6 hc6 hg7 hc7
          by_cases hlt : qs.length < 6 + b2
          · have d1 : decide ((qs.length : Int) < 6 + (b2 : Int)) = true := decide_eq_true (by omega)
            go_wp2_with (at_builtin; refine wpList_appT hdrM rfl _ _ rfl w0.heap.size _ _ rfl HL7.sta.own g HL7.sta.below ⟨AB, B.length, cB⟩ _ rfl 1 1 rfl rfl (by simp; omega) HL7.sta.size (by omega) ?_; intro A4 c4 w9 ho9 hb9 hg9; rw [List.length_map] at ho9 ⊢)
            have HL9 := HL7.app ho9 hg9 rfl (by omega) HL7.one
            go_roundw
            case rel => exact ⟨qs ++ [(⟨AB, B.length, cB⟩, B)], A4, c4, by simp; omega, by rw [List.length_append]; simp, by rw [List.length_append]; exact HL9.more (by simp; omega)⟩
            case measure => first | (simp; done) | (simp; omega)
          · have d1 : decide ((qs.length : Int) < 6 + (b2 : Int)) = false := decide_eq_false (by omega)
            go_wp2
            go_ret2
            exact ⟨qs, A3, c3, B, AB, cB, rfl, hq, fun p hp => (HL7.row p hp).2.1, hn1, HF.out _ _ _ _ _ HL7⟩
end Go.Proofs.Ytkcbldaondflmaa
