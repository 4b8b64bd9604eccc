/-
  The loads of all cases, valid lists of exhibits, by the program: contracts; AreExhibits.
-/
import Derived.Test.YthoejiepaackhaaMusB
namespace Go.Proofs.Ythoejiepaackhaa
open Go.RowKit

set_option maxRecDepth 100000 in
set_option maxHeartbeats 4000000 in
theorem caseLoad_any (A : Option Addr) (c : Nat) (l : List ExhibitV) (w : World) (hn : l.length ≤ 1000) (h : RdT exhibitT w A l) (hrw : rowsTo l l.length = true) :
    Calls Try.prog 49 #[.slice A l.length c] w fun e w' => ∃ A' c', e = .returned (.slice A' (loadsL l l.length).length c') ∧ OwnI w' w.heap.size (.slice A' (loadsL l l.length).length c') (loadsL l l.length) ∧ Below w.heap.size w w' := by
  have hRW := Lib.hid hrw
  clear hrw
  rw [loadsL_len]
  have h0 := loadsL_zero l
  go_enter Try.func49, Try.ntmps49
  go_wp2_with (at_make; refine wpList_makeT (w0 := w) (B := w.heap.size) intT rfl _ _ rfl w.heap.size 9 9 9 rfl rfl rfl rfl (by omega) (Nat.le_refl _) (Below.refl _ _) (Nat.le_refl _) ?_; intro w1 hown1 hb1 hgr1)
  have hown1' := own_int.1 hown1
  rw [show List.replicate 9 intT.zero = loadsL l 0 from h0.symm] at hown1'
  clear h0 hown1 hgr1
  have hg1 := hown1'.lt w.heap.size rfl
  go_loopw [9] (fun i wr => ∃ k : Nat, k ≤ l.length ∧ i = .int .i64 k ∧ OwnI wr w.heap.size (.slice (some ⟨w.heap.size, 0, none⟩) 9 9) (loadsL l k) ∧ Below w.heap.size w wr) (fun i _ => l.length - (intOf i).toNat)
  case atStart => exact ⟨0, by omega, rfl, hown1', hb1⟩
  case round =>
    obtain ⟨k, hk, rfl, hown, hb⟩ := hrel
    clear hown1' hb1 hg1
    have hz := hb.size
    have hr := h.below hb (Nat.le_refl _)
    have hgl := hown.lt w.heap.size rfl
    by_cases hlt : k < l.length
    · obtain ⟨bb, off, id_, land, made, upper, lower, rods, case_, rfl, hx, hlb, hc0, hc1, hc2, hc3, hc4, hc5, hc6⟩ := exhibitT_at hr hlt
      have hei := exhB_iff (rows_exh hRW.out hlt hx)
      dsimp only at hei
      by_cases hc : case_ ≤ 0
      · have E := Lib.hid (loadsL_store hx hc)
        have d1 : decide (0 < case_) = false := decide_eq_false (by omega)
        clear hx
        go_wp2
        go_roundw
        case rel => exact ⟨k + 1, by omega, by go_num, by rw [E.out]; exact hown.alloc _, hb.alloc hz _⟩
        case measure => simp [intOf]; omega
      · obtain ⟨q, hq⟩ : ∃ q : Nat, case_ = (q : Int) + 1 := ⟨(case_ - 1).toNat, by omega⟩
        have hq9 : q < 9 := by omega
        have E := Lib.hid (loadsL_hit hRW.out hn hlt hx q hq9 hq)
        have hlb2 := ldA_bd ((q : Int) + 1) hRW.out hn k (by omega)
        have d1 : decide (0 < case_) = true := decide_eq_true (by omega)
        obtain ⟨bx, hbx⟩ : ∃ bx : Obj, bx = .cells #[.int .i64 id_, .string land, .int .i64 made, .int .i64 upper, .int .i64 lower, .int .i64 rods, .int .i64 case_] 26 := ⟨_, rfl⟩
        have hgat := loadsL_at l k q hq9
        generalize ldA l ((q : Int) + 1) k = LQ at *
        have hcell := (hown.alloc bx).cell hgat
        have hfro := (hown.alloc bx).frozen q
        have hset := (hown.alloc bx).set q (LQ + rods)
        rw [← E.out] at hset
        have HS1 := Lib.hid hset.1
        have HS2 := Lib.hid hset.2
        have b5 : (wr.alloc bx).cell? ⟨wr.heap.size, 5, none⟩ = some (.int .i64 rods) := by rw [hbx]; exact cell_of_row _ _ 5 _ _ (0, 0) (heap_alloc_new wr _)
        have b6 : (wr.alloc bx).cell? ⟨wr.heap.size, 6, none⟩ = some (.int .i64 case_) := by rw [hbx]; exact cell_of_row _ _ 6 _ _ (0, 0) (heap_alloc_new wr _)
        have hbA := hb.alloc hz bx
        subst hq
        clear hx hset hgat hr
        go_wp2_with fail
        rw [← hbx]
        obtain ⟨wn, hwn⟩ : ∃ wn : World, wn = wr.alloc bx := ⟨_, rfl⟩
        have hwlt : wr.heap.size < wn.heap.size := by rw [hwn]; simp
        rw [← hwn] at hcell hfro HS1 HS2 b5 b6 hbA ⊢
        clear hwn hbx
        go_region
        have hwn := hbA.size
        go_wp2
        go_roundw
        case rel => exact ⟨k + 1, by omega, by go_num, OwnI.drewN HS1.out 1, (hbA.grown HS2.out hwn (fun i hi => by cases hi; omega)).drew⟩
        case measure => simp [intOf]; omega
    · obtain rfl : k = l.length := by omega
      go_wp2
      go_ret
      exact ⟨_, _, rfl, hown, hb⟩

set_option maxRecDepth 100000 in
set_option maxHeartbeats 4000000 in
theorem areExhibits_any (A : Option Addr) (c : Nat) (l : List ExhibitV) (w : World) (hn : l.length ≤ 16777216) (h : RdT exhibitT w A l) (hok : ∀ x ∈ l, x.ok) :
    Calls Try.prog 23 #[.slice A l.length c] w fun e w' => e = .returned (.bool (goodB l)) ∧ Below w.heap.size w w' := by
  by_cases h10 : l.length ≤ 10
  · have hd : decide ((10 : Int) < l.length) = false := decide_eq_false (by omega)
    go_enter Try.func23, Try.ntmps23
    go_wp2
    go_loopw [10] (fun i wr => ∃ k : Nat, k ≤ l.length ∧ i = .int .i64 k ∧ Hid (rowsTo l k = true) ∧ Below w.heap.size w wr) (fun i _ => l.length - (intOf i).toNat)
    case atStart => exact ⟨0, by omega, rfl, Lib.hid (rowsTo_zero l), Below.refl _ _⟩
    case round =>
      obtain ⟨k, hk, rfl, hall, hb⟩ := hrel
      have hz := hb.size
      have hr := h.below hb (Nat.le_refl _)
      by_cases hlt : k < l.length
      · obtain ⟨b, off, rfl, hl1, hcells⟩ := exhibitT_cells hr (by omega)
        obtain ⟨⟨id_, land, made, upper, lower, rods, case_⟩, hy⟩ := get_of_lt l hlt
        obtain ⟨hc0, hc1, hc2, hc3, hc4, hc5, hc6⟩ := hcells k id_ land made upper lower rods case_ hy
        have HO := fun W => isExhibit_any ⟨id_, land, made, upper, lower, rods, case_⟩ W (hok _ (List.mem_of_getElem? hy))
        obtain ⟨bx, hbx⟩ : ∃ bx : Obj, bx = .cells #[.int .i64 id_, .string land, .int .i64 made, .int .i64 upper, .int .i64 lower, .int .i64 rods, .int .i64 case_] 26 := ⟨_, rfl⟩
        have hbA := hb.alloc hz bx
        have b0 : (wr.alloc bx).cell? ⟨wr.heap.size, 0, none⟩ = some (.int .i64 id_) := by rw [hbx]; exact cell_of_row _ _ 0 _ _ (0, 0) (heap_alloc_new wr _)
        have b1 : (wr.alloc bx).cell? ⟨wr.heap.size, 1, none⟩ = some (.string land) := by rw [hbx]; exact cell_of_row _ _ 1 _ _ (0, 0) (heap_alloc_new wr _)
        have b2 : (wr.alloc bx).cell? ⟨wr.heap.size, 2, none⟩ = some (.int .i64 made) := by rw [hbx]; exact cell_of_row _ _ 2 _ _ (0, 0) (heap_alloc_new wr _)
        have b3 : (wr.alloc bx).cell? ⟨wr.heap.size, 3, none⟩ = some (.int .i64 upper) := by rw [hbx]; exact cell_of_row _ _ 3 _ _ (0, 0) (heap_alloc_new wr _)
        have b4 : (wr.alloc bx).cell? ⟨wr.heap.size, 4, none⟩ = some (.int .i64 lower) := by rw [hbx]; exact cell_of_row _ _ 4 _ _ (0, 0) (heap_alloc_new wr _)
        have b5 : (wr.alloc bx).cell? ⟨wr.heap.size, 5, none⟩ = some (.int .i64 rods) := by rw [hbx]; exact cell_of_row _ _ 5 _ _ (0, 0) (heap_alloc_new wr _)
        have b6 : (wr.alloc bx).cell? ⟨wr.heap.size, 6, none⟩ = some (.int .i64 case_) := by rw [hbx]; exact cell_of_row _ _ 6 _ _ (0, 0) (heap_alloc_new wr _)
        have hBX := Lib.hid hbx
        cases hg : exhB ⟨id_, land, made, upper, lower, rods, case_⟩
        · rw [hg] at HO
          have E := Lib.hid (goodB_bad (okRow_bad hy hg) hlt)
          clear hy hcells hbx
          go_wp2_with fail
          rw [← hBX.out]
          obtain ⟨wn, hwn⟩ : ∃ wn : World, wn = wr.alloc bx := ⟨_, rfl⟩
          rw [← hwn] at hbA b0 b1 b2 b3 b4 b5 b6 ⊢
          clear hwn
          have hzn := hbA.size
          have q0 := cell_regrown b0
          have q1 := cell_regrown b1
          have q2 := cell_regrown b2
          have q3 := cell_regrown b3
          have q4 := cell_regrown b4
          have q5 := cell_regrown b5
          have q6 := cell_regrown b6
          refine wp_region_quiet_below (by kernel_rfl) (by kernel_rfl) ?_
          repeat (go_big_quiet_step (((go_at_call 15; exact Calls.regrown_of (HO _)))))
          refine wpQuiet_nil ?_
          intro w2 hw'
          have hb2 := below_of_class hw'
          clear hw'
          go_wp2
          go_ret
          exact ⟨by rw [E.out]; rfl, hbA.trans (hb2.mono hzn)⟩
        rw [hg] at HO
        cases k with
        | zero =>
          have hd0 : decide ((0 : Int) < 0) = false := rfl
          have hd00 : decide ((0 : Int) < ((0 : Nat) : Int)) = false := rfl
          have hall' := Lib.hid (rowsTo_succ hall.out ((okRow_zero hy).trans hg))
          have z0 : wr.cell? ⟨b, off, none⟩ = some (.int .i64 id_) := by simpa using hc0
          have z1 : wr.cell? ⟨b, off + 1, none⟩ = some (.string land) := by simpa using hc1
          have z2 : wr.cell? ⟨b, off + 2, none⟩ = some (.int .i64 made) := by simpa using hc2
          have z3 : wr.cell? ⟨b, off + 3, none⟩ = some (.int .i64 upper) := by simpa using hc3
          have z4 : wr.cell? ⟨b, off + 4, none⟩ = some (.int .i64 lower) := by simpa using hc4
          have z5 : wr.cell? ⟨b, off + 5, none⟩ = some (.int .i64 rods) := by simpa using hc5
          have z6 : wr.cell? ⟨b, off + 6, none⟩ = some (.int .i64 case_) := by simpa using hc6
          clear hc0 hc1 hc2 hc3 hc4 hc5 hc6 hy hcells hbx hall
          go_wp2_with fail
          rw [← hBX.out]
          obtain ⟨wn, hwn⟩ : ∃ wn : World, wn = wr.alloc bx := ⟨_, rfl⟩
          rw [← hwn] at hbA b0 b1 b2 b3 b4 b5 b6 ⊢
          clear hwn
          have hzn := hbA.size
          have q0 := cell_regrown b0
          have q1 := cell_regrown b1
          have q2 := cell_regrown b2
          have q3 := cell_regrown b3
          have q4 := cell_regrown b4
          have q5 := cell_regrown b5
          have q6 := cell_regrown b6
          refine wp_region_quiet_below (by kernel_rfl) (by kernel_rfl) ?_
          repeat (go_big_quiet_step (((go_at_call 15; exact Calls.regrown_of (HO _)))))
          refine wpQuiet_nil ?_
          intro w2 hw'
          have hb2 := below_of_class hw'
          clear hw'
          go_wp2
          go_roundw
          case rel => exact ⟨1, by omega, by go_num, hall', hbA.trans (hb2.mono hzn)⟩
          case measure => simp [intOf]; omega
        | succ j =>
          obtain ⟨⟨i0, n0, m0, u0, v0, r0, c0⟩, hx⟩ := get_of_lt l (k := j) (by omega)
          obtain ⟨hd0, _⟩ := hcells j i0 n0 m0 u0 v0 r0 c0 hx
          have hds : decide ((0 : Int) < (j : Int) + 1) = true := decide_eq_true (by omega)
          have gw : IntKind.i64.wrap ((j : Int) + 1 - 1) = (j : Int) := by rw [show (j : Int) + 1 - 1 = j by omega]; exact IntWalk.i64_in _ (by omega)
          have gw2 : IntKind.i64.wrap (j : Int) = (j : Int) := IntWalk.i64_in _ (by omega)
          have gj : (0 : Int) ≤ (j : Int) := by omega
          have gl : (j : Int) < (l.length : Int) := by omega
          have gt : (j : Int).toNat = j := by omega
          have hdA := Lib.hid hd0
          by_cases hid : i0 < id_
          · have dge : decide (id_ ≤ i0) = false := decide_eq_false (by omega)
            have hall' := Lib.hid (rowsTo_succ hall.out ((okRow_succ hx hy).trans (by rw [hg, Bool.true_and]; exact decide_eq_true hid)))
            clear hx hy hcells hbx hall
            go_wp2_with fail
            rw [← hBX.out]
            have hr0 := (World.cell?_alloc_lt wr bx _ (World.block_lt_of_cell? wr _ hd0)).trans hd0
            obtain ⟨wn, hwn⟩ : ∃ wn : World, wn = wr.alloc bx := ⟨_, rfl⟩
            rw [← hwn] at hbA hr0 b0 b1 b2 b3 b4 b5 b6 ⊢
            clear hwn
            have hzn := hbA.size
            have hrq := cell_regrown hr0
            have q0 := cell_regrown b0
            have q1 := cell_regrown b1
            have q2 := cell_regrown b2
            have q3 := cell_regrown b3
            have q4 := cell_regrown b4
            have q5 := cell_regrown b5
            have q6 := cell_regrown b6
            refine wp_region_quiet_below (by kernel_rfl) (by kernel_rfl) ?_
            repeat (go_big_quiet_step (((go_at_call 15; exact Calls.regrown_of (HO _)))))
            refine wpQuiet_nil ?_
            intro w2 hw'
            have hb2 := below_of_class hw'
            clear hw'
            go_wp2
            go_roundw
            case rel => exact ⟨j + 1 + 1, by omega, by go_num, hall', hbA.trans (hb2.mono hzn)⟩
            case measure => simp [intOf]; omega
          · have dge : decide (id_ ≤ i0) = true := decide_eq_true (by omega)
            have E := Lib.hid (goodB_bad ((okRow_succ hx hy).trans (by rw [hg, Bool.true_and]; exact decide_eq_false hid)) hlt)
            clear hx hy hcells hbx hall
            go_wp2_with fail
            rw [← hBX.out]
            have hr0 := (World.cell?_alloc_lt wr bx _ (World.block_lt_of_cell? wr _ hd0)).trans hd0
            obtain ⟨wn, hwn⟩ : ∃ wn : World, wn = wr.alloc bx := ⟨_, rfl⟩
            rw [← hwn] at hbA hr0 b0 b1 b2 b3 b4 b5 b6 ⊢
            clear hwn
            have hzn := hbA.size
            have hrq := cell_regrown hr0
            have q0 := cell_regrown b0
            have q1 := cell_regrown b1
            have q2 := cell_regrown b2
            have q3 := cell_regrown b3
            have q4 := cell_regrown b4
            have q5 := cell_regrown b5
            have q6 := cell_regrown b6
            refine wp_region_quiet_below (by kernel_rfl) (by kernel_rfl) ?_
            repeat (go_big_quiet_step (((go_at_call 15; exact Calls.regrown_of (HO _)))))
            refine wpQuiet_nil ?_
            intro w2 hw'
            have hb2 := below_of_class hw'
            clear hw'
            go_wp2
            go_ret
            exact ⟨by rw [E.out]; rfl, hbA.trans (hb2.mono hzn)⟩
      · obtain rfl : k = l.length := by omega
        have E1 := Lib.hid (goodB_rows h10 hall.out)
        have E2 := Lib.hid (loads_within hall.out (by omega))
        have HC := Lib.hid (fun W g => caseLoad_any A c l W (by omega) g hall.out)
        have hll := loadsL_len l l.length
        have HLL := Lib.hid hll
        clear hall hll
        generalize loadsL l l.length = L at *
        go_wp2_with fail
        refine (HC.out _ hr).mono ?_
        rintro e w2 ⟨A2, c2, rfl, ho2, hb2⟩
        go_wp2_with fail
        refine (allWithin_any A2 c2 L 0 60 _ (by rw [HLL.out]; omega) ho2.rd).mono ?_
        rintro e w3 ⟨rfl, rfl⟩
        go_wp2
        go_ret
        exact ⟨by rw [E1.out, ← E2.out]; rfl, hb.trans (hb2.mono hz)⟩
  · rw [goodB_long h10]
    have hd : decide ((10 : Int) < l.length) = true := decide_eq_true (by omega)
    go_enter Try.func23, Try.ntmps23
    go_wp2
    go_ret
    exact ⟨rfl, Below.refl _ _⟩
set_option maxHeartbeats 800000 in
theorem areExhibitsS_any (A : Option Addr) (c : Nat) (l : List ExhibitV) (w : World) (hn : l.length ≤ 16777216) (h : RdT exhibitT w A l) (hok : ∀ x ∈ l, x.ok) :
    Calls Try.prog 21 #[.slice A l.length c] w fun e w' => e = .returned (.bool (goodB l)) ∧ Below w.heap.size w w' := by
  go_enter Try.func21, Try.ntmps21
  go_wp2_with (go_at_call 47; refine (l22Good_any A c l _ hn h hok).mono ?_; rintro e w1 ⟨rfl, hb1⟩)
  go_ret
  exact ⟨rfl, hb1⟩
end Go.Proofs.Ythoejiepaackhaa

