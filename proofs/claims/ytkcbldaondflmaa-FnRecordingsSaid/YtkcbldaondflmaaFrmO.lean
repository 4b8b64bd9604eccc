/-
  The draws of two recordings, as functions of the bytes.
-/
import Derived.Test.YtkcbldaondflmaaFrmN
namespace Go.Proofs.Ytkcbldaondflmaa
open Go.RowKit Go.Lib Go.Lib.Hx

/-- Two recordings, drawn. -/
def RetMM (w : World) (e : Ending) (w' : World) : Prop :=
  ∃ (a : List MoveV) (A1 : Option Addr) (c1 : Nat) (b : List MoveV) (A2 : Option Addr) (c2 : Nat), e = .returned (.tuple #[.slice A1 a.length c1, .slice A2 b.length c2]) ∧ a.length ≤ 64 ∧ b.length ≤ 61 ∧ RdT moveT w' A1 a ∧ RdT moveT w' A2 b ∧ Below w.heap.size w w'
set_option maxRecDepth 100000 in
set_option maxHeartbeats 4000000 in
theorem drawMoveDistance_any (A : Option Addr) (c : Nat) (l : List (Fin 256)) (w : World) (hl : l.length ≤ 65536) (h : RdT byteT w A l) :
    Calls Try.prog 36 #[.slice A l.length c] w (RetMM w) := by
  have hC := Cur.new (c := c) h
  have hb0 : Below w.heap.size w (w.alloc (.cells #[.slice A l.length c, .int .i64 0, .int .u64 0] 64)) := (Below.refl _ _).alloc (Nat.le_refl _) _
  go_enter Try.func36, Try.ntmps36
  go_wp2_with fail
  refine (rightMoves_any w.heap.size c 0 A l _ hl (by omega) hC).mono ?_
  rintro e w1 ⟨B, A1, c1, hn1, rfl, HS⟩
  have hne := own_off HS.own w.heap.size HS.hgb
  have hrs := HS.own.rd
  have hc1 := HS.cur
  have hb1 := below_cur hb0 HS.old (Nat.le_refl _)
  clear hb0 hC HS
  go_wp2_with fail
  refine (one_any w.heap.size c _ 5 A l _ hl (by omega) (by decide) (by decide) hc1).mono ?_
  rintro e w2 ⟨bo, rfl, hc2, hg2⟩
  have hrs2 := hrs.grown moveT hg2 (fun _ b off hA he => by cases he; exact hne _ _ hA rfl)
  have hb2 := below_cur hb1 hg2 (Nat.le_refl _)
  clear hrs hb1 hc1 hg2
  cases bo
  · go_wp2_with fail
    refine (recorded_any w.heap.size c _ A l A1 c1 B w2 hl (by omega) hc2 hn1 hrs2).mono ?_
    rintro e w3 ⟨a, A2, c2, hn2, rfl, HS⟩
    go_wp2
    go_ret2
    exact ⟨a, A2, c2, B, A1, c1, rfl, hn2, hn1, HS.own.rd, hrs2.grown moveT HS.old (fun _ b off hA he => by cases he; exact hne _ _ hA rfl), below_cur hb2 HS.old (Nat.le_refl _)⟩
  · go_wp2_with fail
    refine (rightMoves_any w.heap.size c _ A l w2 hl (by omega) hc2).mono ?_
    rintro e w3 ⟨a, A2, c2, hn2, rfl, HS⟩
    go_wp2
    go_ret2
    exact ⟨a, A2, c2, B, A1, c1, rfl, by omega, hn1, HS.own.rd, hrs2.grown moveT HS.old (fun _ b off hA he => by cases he; exact hne _ _ hA rfl), below_cur hb2 HS.old (Nat.le_refl _)⟩
set_option maxHeartbeats 2000000 in
theorem drawSwappedAt_any (A : Option Addr) (c : Nat) (l : List (Fin 256)) (w : World) (hl : l.length ≤ 65536) (h : RdT byteT w A l) :
    Calls Try.prog 39 #[.slice A l.length c] w (RetMM w) := by
  go_enter Try.func39, Try.ntmps39
  go_wp2_with fail
  refine (drawMoveDistance_any A c l w hl h).mono ?_
  rintro e w1 ⟨a, A1, c1, b, A2, c2, rfl, r⟩
  go_wp2
  go_ret2
  exact ⟨a, A1, c1, b, A2, c2, rfl, r⟩
end Go.Proofs.Ytkcbldaondflmaa
