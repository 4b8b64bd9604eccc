/-
  Adding: digit of a number, whether a number can be added, the moves of a rod: contracts of the reference's functions.
-/
import Derived.Test.YtkcbldaondflmaaFrmC
namespace Go.Proofs.Ytkcbldaondflmaa
open Go.RowKit Go.Sort

theorem below_same {P : Program} {f : FuncId} {args : Array Value} {w : World} {v : Value} (h : Calls P f args w fun e w' => e = .returned v ∧ w' = w) : Calls P f args w fun e w' => e = .returned v ∧ Below w.heap.size w w' :=
  h.mono fun _ _ ⟨a, b⟩ => ⟨a, by rw [b]; exact Below.refl _ _⟩
set_option maxRecDepth 100000 in
set_option maxHeartbeats 4000000 in
theorem l6At_any (up lo : Int) (A : Option Addr) (c : Nat) (R : List (Int × Int)) (number rod : Int) (w : World) (hn : R.length ≤ 8) (h0 : 0 ≤ rod) (h1 : rod < R.length) :
    Calls Try.prog 82 #[.agg #[.int .i64 up, .int .i64 lo, .slice A R.length c], .int .i64 number, .int .i64 rod] w fun e w' => ∃ x : Int, e = .returned (.int .i64 x) ∧ Below w.heap.size w w' := by
  obtain ⟨wb, hwb⟩ : ∃ wb : World, wb = w.alloc (.cells #[.int .i64 up, .int .i64 lo, .slice A R.length c] 71) := ⟨_, rfl⟩
  obtain ⟨tb, htb⟩ : ∃ tb : Nat, tb = w.heap.size := ⟨_, rfl⟩
  have BT : Blk wb tb 71 #[.int .i64 up, .int .i64 lo, .slice A R.length c] := by rw [hwb, htb]; exact Blk.new w _ _
  have hb0 : Below w.heap.size w wb := by rw [hwb]; exact (Below.refl _ _).alloc (Nat.le_refl _) _
  have b2 := BT.cell 2
  have i1 : IntKind.i64.wrap ((R.length : Int) - 1) = (R.length : Int) - 1 := IntWalk.i64_in _ (by omega)
  have i2 : IntKind.i64.wrap ((R.length : Int) - 1 - rod) = (R.length : Int) - 1 - rod := IntWalk.i64_in _ (by omega)
  have K := l2Power_any ((R.length : Int) - 1 - rod) wb (by omega) (by omega)
  have hp := pw_pos ((R.length : Int) - 1 - rod).toNat
  generalize pw ((R.length : Int) - 1 - rod).toNat = P at *
  have hpz : ¬ P = 0 := by omega
  have hpz2 : (P == 0) = false := by rw [beq_eq_false_iff_ne]; exact hpz
  go_enter Try.func82, Try.ntmps82
  go_upto_region 1 with fail
  rw [← hwb, ← htb]
  clear hwb htb
  go_wp2_with fail
  refine K.mono ?_
  rintro e w2 ⟨rfl, rfl⟩
  go_wp2
  go_ret
  exact ⟨_, rfl, hb0⟩
set_option maxRecDepth 100000 in
set_option maxHeartbeats 8000000 in
theorem l6Can_any (up lo : Int) (A : Option Addr) (c : Nat) (R : List (Int × Int)) (number : Int) (w : World) (hn : R.length ≤ 1000) (h : RdT rodT w A R) :
    Calls Try.prog 73 #[.agg #[.int .i64 up, .int .i64 lo, .slice A R.length c], .int .i64 number] w fun e w' => ∃ b : Bool, e = .returned (.bool b) ∧ (b = true → 1 ≤ R.length ∧ R.length ≤ 8) ∧ Below w.heap.size w w' := by
  obtain ⟨wb, hwb⟩ : ∃ wb : World, wb = w.alloc (.cells #[.int .i64 up, .int .i64 lo, .slice A R.length c] 71) := ⟨_, rfl⟩
  obtain ⟨tb, htb⟩ : ∃ tb : Nat, tb = w.heap.size := ⟨_, rfl⟩
  have BT : Blk wb tb 71 #[.int .i64 up, .int .i64 lo, .slice A R.length c] := by rw [hwb, htb]; exact Blk.new w _ _
  have hb0 : Below w.heap.size w wb := by rw [hwb]; exact (Below.refl _ _).alloc (Nat.le_refl _) _
  have h := h.below hb0 (Nat.le_refl _)
  have c0 : wb.cell? ⟨tb, 0, none⟩ = some (.int .i64 up) := BT.cell 0
  have c1 : wb.cell? ⟨tb, 1, none⟩ = some (.int .i64 lo) := BT.cell 1
  have c2 : wb.cell? ⟨tb, 2, none⟩ = some (.slice A R.length c) := BT.cell 2
  have q0 := cell_regrown c0
  have q1 := cell_regrown c1
  have q2 := cell_regrown c2
  have HS := fun p : Regrown => l2Standard_any up lo A c R (grow (redrawn wb p.d) p.os) hn (h.below (below_regrown wb p.d p.os) (Nat.le_refl _))
  cases hs : stdF up lo R
  · simp only [hs] at HS
    go_enter Try.func73, Try.ntmps73
    go_upto_region 1 with fail
    rw [← hwb, ← htb]
    clear hwb htb
    refine wp_region_quiet_below (by kernel_rfl) (by kernel_rfl) ?_
    repeat (go_big_quiet_step (((go_at_call 76; exact Calls.regrown_of (HS _)))))
    refine wpQuiet_nil ?_
    intro w2 hw'
    have hb2 := below_of_class hw'
    clear hw'
    go_wp2
    go_ret
    exact ⟨false, rfl, (fun h => by cases h), hb0.trans (hb2.mono hb0.size)⟩
  · simp only [hs] at HS
    obtain ⟨l1, l8⟩ := stdF_len hs
    have HP := fun p : Regrown => below_same (l2Power_any (R.length : Int) (grow (redrawn wb p.d) p.os) (by omega) (by omega))
    have HI := fun p : Regrown => below_same (same_symm (l1In_any number 0 (pw (R.length : Int).toNat - 1) (grow (redrawn wb p.d) p.os)))
    have HN := fun p : Regrown => l2Number_any up lo A c R (grow (redrawn wb p.d) p.os) hn (h.below (below_regrown wb p.d p.os) (Nat.le_refl _))
    have hp1 := pw_pos (R.length : Int).toNat
    have hp2 := pw_le (k := (R.length : Int).toNat) (by omega)
    generalize pw (R.length : Int).toNat = P at *
    generalize numW R R.length = NW at *
    have i1 : IntKind.i64.wrap (P - 1) = P - 1 := IntWalk.i64_in _ (by omega)
    cases hi : inB number 0 (P - 1)
    · simp only [hi] at HI
      go_enter Try.func73, Try.ntmps73
      go_upto_region 1 with fail
      rw [← hwb, ← htb]
      clear hwb htb
      refine wp_region_quiet_below (by kernel_rfl) (by kernel_rfl) ?_
      repeat (go_big_quiet_step (((first | (go_at_call 76; exact Calls.regrown_of (HS _)) | (go_at_call 75; exact Calls.regrown_of (HP _)) | (go_at_call 50; exact Calls.regrown_of (HI _)) | (go_at_call 77; exact Calls.regrown_of (HN _))))))
      refine wpQuiet_nil ?_
      intro w2 hw'
      have hb2 := below_of_class hw'
      clear hw'
      go_wp2
      go_ret
      exact ⟨false, rfl, (fun h => by cases h), hb0.trans (hb2.mono hb0.size)⟩
    · simp only [hi] at HI
      go_enter Try.func73, Try.ntmps73
      go_upto_region 1 with fail
      rw [← hwb, ← htb]
      clear hwb htb
      refine wp_region_quiet_below (by kernel_rfl) (by kernel_rfl) ?_
      repeat (go_big_quiet_step (((first | (go_at_call 76; exact Calls.regrown_of (HS _)) | (go_at_call 75; exact Calls.regrown_of (HP _)) | (go_at_call 50; exact Calls.regrown_of (HI _)) | (go_at_call 77; exact Calls.regrown_of (HN _))))))
      refine wpQuiet_nil ?_
      intro w2 hw'
      have hb2 := below_of_class hw'
      clear hw'
      go_wp2
      go_ret
      exact ⟨_, rfl, fun _ => ⟨l1, l8⟩, hb0.trans (hb2.mono hb0.size)⟩
/-- A row of moves of its own. -/
def RetMv (n : Nat) (w : World) (e : Ending) (w' : World) : Prop :=
  ∃ (L : List MoveV) (A : Option Addr) (c : Nat), L.length ≤ n ∧ e = .returned (.slice A L.length c) ∧ OwnT moveT w' w.heap.size (.slice A L.length c) L ∧ Below w.heap.size w w'
set_option maxRecDepth 100000 in
set_option maxHeartbeats 4000000 in
theorem l6Turn_any (rod x y : Int) (w : World) :
    Calls Try.prog 86 #[.int .i64 rod, .int .i64 x, .int .i64 y] w (RetMv 2 w) := by
  obtain ⟨wb, hwb⟩ : ∃ wb : World, wb = w.alloc (.cells #[] 52) := ⟨_, rfl⟩
  obtain ⟨nb, hnb⟩ : ∃ nb : Nat, nb = w.heap.size := ⟨_, rfl⟩
  have hb0 : Below w.heap.size w wb := by rw [hwb]; exact (Below.refl _ _).alloc (Nat.le_refl _) _
  have ho0 : OwnT moveT wb w.heap.size (.slice (some ⟨nb, 0, none⟩) 0 0) [] := by rw [hwb, hnb]; exact ownMove_empty0 w _ (Nat.le_refl _)
  have hz := hb0.size
  go_enter Try.func86, Try.ntmps86
  go_upto_region 2 with fail
  rw [← hwb, ← hnb]
  clear hwb hnb
  go_upto_region 3 with fail
  generalize wrap64 (wrap64 (y.tdiv 5) - wrap64 (x.tdiv 5)) = e1
  go_upto_if 17 with fail
  go_cut [7] (fun s7 wx => ∃ (L : List MoveV) (A : Option Addr) (c : Nat), L.length ≤ 1 ∧ s7 = .slice A L.length c ∧ OwnT moveT wx w.heap.size (.slice A L.length c) L ∧ Below w.heap.size w wx)
  case first =>
    by_cases he : e1 = 0
    · have d1 : (e1 != 0) = false := by simp [he]
      have d2 : (e1 == 0) = true := by simp [he]
      clear he
      go_wp2_with fail
      go_meet
      exact ⟨[], _, 0, by simp, rfl, ho0, hb0⟩
    · have d1 : (e1 != 0) = true := by simp [he]
      have d2 : (e1 == 0) = false := by simp [he]
      clear he
      go_wp2_with (at_builtin; refine wpList_appT moveT rfl _ _ rfl w.heap.size _ _ rfl ho0 w.heap.size hb0 ⟨rod, 0, e1⟩ _ rfl 1 1 rfl rfl (by simp) hz (Nat.le_refl _) ?_; intro A3 c3 w9 ho9 hb9 hg9)
      go_meet
      exact ⟨[⟨rod, 0, e1⟩], A3, c3, by simp, rfl, ho9, hb9⟩
  case rest =>
    obtain ⟨L, A3, c3, hL, rfl, ho, hb⟩ := hcut
    clear ho0 hb0 hz
    have hz := hb.size
    go_upto_region 6 with fail
    generalize wrap64 (y.tmod 5 - x.tmod 5) = e2
    by_cases he : e2 = 0
    · have d1 : (e2 != 0) = false := by simp [he]
      have d2 : (e2 == 0) = true := by simp [he]
      clear he
      go_wp2
      go_ret
      exact ⟨L, A3, c3, by omega, rfl, ho, hb⟩
    · have d1 : (e2 != 0) = true := by simp [he]
      have d2 : (e2 == 0) = false := by simp [he]
      clear he
      go_wp2_with (at_builtin; refine wpList_appT moveT rfl _ _ rfl w.heap.size _ _ rfl ho w.heap.size hb ⟨rod, 1, e2⟩ _ rfl 1 1 rfl rfl (by omega) hz (Nat.le_refl _) ?_; intro A4 c4 w9 ho9 hb9 hg9)
      go_ret
      exact ⟨L ++ [⟨rod, 1, e2⟩], A4, c4, by simp; omega, by rw [List.length_append]; rfl, by rw [List.length_append]; exact ho9, hb9⟩
end Go.Proofs.Ytkcbldaondflmaa
