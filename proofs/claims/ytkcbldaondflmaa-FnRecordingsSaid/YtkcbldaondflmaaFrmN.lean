/-
  The draw of a recording.
-/
import Derived.Test.YtkcbldaondflmaaFrmM
namespace Go.Proofs.Ytkcbldaondflmaa
open Go.RowKit Go.Lib Go.Lib.Hx

theorem Sta.drew {α : Type} {T : Ty α} {base : Nat} {W w : World} {g c P : Nat} {A : Option Addr} {l : List (Fin 256)} {v : Value} {out : List α} (h : Sta T base W w g A c l P v out) : Sta T base W w.drew g A c l P v out := h.far (row := none) ⟨rfl, rfl, rfl, Nat.le_refl _, fun _ _ _ => rfl⟩ (by simp)
theorem Sta.move {base : Nat} {W w : World} {g c P : Nat} {A : Option Addr} {l : List (Fin 256)} {n c' gb : Nat} {out : List MoveV} (h : Sta moveT base W w g A c l P (.slice (some ⟨gb, 0, none⟩) n c') out) {k : Nat} (hk : k < out.length) (x0 x1 x2 : Int) :
    Sta moveT base W (((w.setCell ⟨gb, k * 3, none⟩ (.int .i64 x0)).setCell ⟨gb, k * 3 + 1, none⟩ (.int .i64 x1)).setCell ⟨gb, k * 3 + 2, none⟩ (.int .i64 x2)) g A c l P (.slice (some ⟨gb, 0, none⟩) n c') (out.set k ⟨x0, x1, x2⟩) := h.of_set hk ⟨x0, x1, x2⟩
theorem new3 (w : World) (o : Obj) (x0 x1 x2 : Value) (t : TypeId) (j : Nat) (u : Value) (hu : #[x0, x1, x2][j]? = some u) :
    ((w.alloc (.cells #[x0, x1, x2] t)).alloc o).drew.cell? ⟨w.heap.size, j, none⟩ = some u ∧ ((w.alloc o).alloc (.cells #[x0, x1, x2] t)).drew.cell? ⟨w.heap.size + 1, j, none⟩ = some u := by
  constructor
  · refine cell_drew (box_old ?_ _)
    rw [cell_of_row _ _ j _ _ (0, 0) (heap_alloc_new w _)]
    simpa using hu
  · refine cell_drew ?_
    have e : w.heap.size + 1 = (w.alloc o).heap.size := by simp
    rw [e, cell_of_row _ _ j _ _ (0, 0) (heap_alloc_new (w.alloc o) _)]
    simpa using hu
theorem own_cap {α : Type} {T : Ty α} {w : World} {base n c : Nat} {A : Option Addr} {l : List α} (h : OwnT T w base (.slice A n c) l) : n ≤ c := by
  rcases h.2 with ⟨hv, hn⟩ | ⟨g, cap, cur, hv, hg, hh, h1, h2, h3, h4⟩
  · injection hv with e1 e2 e3
    omega
  · injection hv with e1 e2 e3
    omega
set_option maxRecDepth 100000 in
set_option maxHeartbeats 8000000 in
theorem recorded_any (g c P : Nat) (A : Option Addr) (l : List (Fin 256)) (AB : Option Addr) (cb : Nat) (B : List MoveV) (w : World) (hl : l.length ≤ 65536) (hP : P ≤ 600000000) (h : Cur w g A c l P) (hB : B.length ≤ 61) (hr : RdT moveT w AB B) :
    Calls Try.prog 56 #[.pointer (some ⟨g, 0, none⟩), .slice AB B.length cb] w (MvRes 64 g c (P + 200) A l w) := by
  have hgl := h.lt
  obtain ⟨w1, hw1⟩ : ∃ w1 : World, w1 = w.alloc (.cells #[] 52) := ⟨_, rfl⟩
  obtain ⟨ob, hob⟩ : ∃ ob : Nat, ob = w.heap.size := ⟨_, rfl⟩
  have hb1 : Below w.heap.size w w1 := by rw [hw1]; exact (Below.refl _ _).alloc (Nat.le_refl _) _
  have om1 : OwnT moveT w1 w.heap.size (.slice (some ⟨ob, 0, none⟩) 0 0) [] := by rw [hw1, hob]; exact ownMove_empty0 w _ (Nat.le_refl _)
  have hr1 := hr.below hb1 (Nat.le_refl _)
  have HW1 := Lib.hid hw1
  have HOB := Lib.hid hob
  rw [hw1, hob] at om1
  rw [hw1] at hb1 hr1
  clear hw1 hob
  go_enter Try.func56, Try.ntmps56
  go_upto_region 2 with (at_builtin; refine wpList_spreadT moveT rfl _ _ rfl w.heap.size _ [] rfl om1 w.heap.size hb1 AB B _ _ rfl rfl hr1 (by simp; omega) hb1.size (Nat.le_refl _) ?_; intro A9 c9 w9 ho9 hb9 hg9; simp only [List.length_nil, Nat.zero_add, List.nil_append] at ho9 ⊢)
  have HS9 : Sta moveT w.heap.size w w9 g A c l P (.slice A9 B.length c9) B := ⟨ho9, h.bel hb9, gr_of_below hb9 _, hb9.size, hgl, Nat.le_refl _⟩
  clear om1 hb1 hr1 HW1 HOB ho9 hb9 hg9
  have hc9 := HS9.cur
  go_wp2_with fail
  refine (pick_any g c _ 3 A l _ hl (by omega) (by decide) (by decide) hc9).mono ?_
  rintro e w3 ⟨n0, hn0, rfl, hc3, hg3⟩
  have HS3 := HS9.gr hg3 hc3
  clear HS9 hc9 hg3 hc3
  go_wp2_with fail
  go_loopw [5, 6] (fun o n wr => ∃ (k : Nat) (L : List MoveV) (A1 : Option Addr) (c1 : Nat), n = .int .i64 k ∧ k ≤ 2 ∧ L.length + k ≤ 63 ∧ o = .slice A1 L.length c1 ∧ Sta moveT w.heap.size w wr g A c l (P + 2 + 20 * (2 - k)) (.slice A1 L.length c1) L) (fun _ n _ => (intOf n).toNat)
  case atStart => exact ⟨n0, B, A9, c9, rfl, by omega, by omega, rfl, HS3.more (by omega)⟩
  case round =>
    obtain ⟨k, L, A1, c1, rfl, hk2, hLk, rfl, HS⟩ := hrel
    clear HS3
    have hc4 := HS.cur
    by_cases hgo : 0 < k ∧ 0 < L.length
    · obtain ⟨hk, hL0⟩ := hgo
      have d1 : decide (0 < k) = true := decide_eq_true hk
      have d2 : decide (0 < L.length) = true := decide_eq_true hL0
      have i5 : IntKind.i64.wrap ((k : Int) - 1) = ((k - 1 : Nat) : Int) := by rw [IntWalk.i64_in _ (by omega)]; omega
      obtain ⟨gp, rfl, hgp, hgp2⟩ := HS.own.head hL0
      go_wp2_with fail
      refine (pick_any g c _ L.length A l _ hl (by omega) hL0 (by omega) hc4).mono ?_
      rintro e w5 ⟨i, hi, rfl, hc5, hg5⟩
      have HS5 := HS.gr hg5 hc5
      go_wp2_with fail
      refine (pick_any g c _ 4 A l _ hl (by omega) (by decide) (by decide) hc5).mono ?_
      rintro e w6 ⟨b, hb, rfl, hc6, hg6⟩
      have HS6 := HS5.gr hg6 hc6
      have j1 : (i : Int) < (L.length : Int) := by omega
      have j0 : (0 : Int) ≤ (i : Int) := by omega
      have i6 : IntKind.i64.wrap ((i : Int) + 1) = ((i + 1 : Nat) : Int) := by rw [IntWalk.i64_in _ (by omega)]; omega
      clear HS HS5 hc4 hc5 hg5 hg6 d1 d2
      rcases (show b = 0 ∨ b = 1 ∨ b = 2 ∨ (¬ b = 0 ∧ ¬ b = 1 ∧ ¬ b = 2) by omega) with rfl | rfl | rfl | ⟨hn0, hn1, hn2⟩
      · go_upto_region 12 with fail
        have hzb := HS6.size
        obtain ⟨m, hm⟩ : ∃ m : Nat, m = i + 1 := ⟨_, rfl⟩
        have i7 : IntKind.i64.wrap ((i : Int) + 1) = (m : Int) := by rw [i6]; omega
        have him : i ≤ m := by omega
        have hmL : m ≤ L.length := by omega
        have HM := Lib.hid hm
        clear i6
        have hgw := HS6.cur.lt
        have hLi : (L.take i).length = i := by rw [List.length_take]; omega
        have hLd : (L.drop m).length = L.length - m := List.length_drop
        have HLi := Lib.hid hLi
        have HLd := Lib.hid hLd
        have e1 : OwnT moveT (w6.alloc (.cells #[] 52)).drew w.heap.size (.slice (some ⟨w6.heap.size, 0, none⟩) 0 0) [] := ownMove_empty0 w6 _ hzb
        have hbE : Below g w (w6.alloc (.cells #[] 52)).drew := (HS6.below.alloc (by omega) _).drew
        have hT0 := RdT.take moveT HS6.own.rd i
        have hD6 := fun X hX => RdT.drop moveT HS6.own.rd m X hX
        have hT1 : RdT moveT (w6.alloc (.cells #[] 52)).drew (some ⟨gp, 0, none⟩) (L.take i) := hT0.below (((Below.refl _ _).alloc (Nat.le_refl _) _).drew) (Nat.le_refl _)
        have j9 : (m : Int) ≤ (L.length : Int) := by omega
        have hcap := own_cap HS6.own
        have hi1 : i ≤ c1 := by omega
        have hi2 : m ≤ c1 := by omega
        have hi3 : m ≤ L.length := by omega
        have PK := Lib.hid HS6
        clear hLi hLd HS6 hc6 hm
        by_cases hce : c1 = m
        · subst hce
          have hdn : L.drop c1 = [] := List.drop_eq_nil_of_le hcap
          rw [hdn] at hD6
          clear HLd
          go_region_law (first
            | (refine step_spreadT moveT rfl _ _ (by rfl) w.heap.size _ ([] : List MoveV) (by rfl) e1 g hbE _ (L.take i) _ _ (by exact HLi.out.symm) (by rfl) hT1 (by simp; omega) (by simp; omega) (by omega) ?_; intro A5 c5 w7 ho7 hb7 hg7; have hg7' : (w6.alloc (.cells #[] 52)).grownBy w7 (some w6.heap.size) := gr_of_drewD hg7; have hb67 : Below w6.heap.size w6 w7 := ((Below.refl w6.heap.size w6).alloc (Nat.le_refl _) (.cells #[] 52)).grown hg7' (by simp) (fun k hk => by cases hk; exact Nat.le_refl _); have hz7 : w.heap.size ≤ w7.heap.size := Nat.le_trans hzb hb67.size; have hD7 := fun X hX => (hD6 X hX).below hb67 (Nat.le_refl _); simp only [List.length_nil, Nat.zero_add, List.nil_append, HLi.out] at ho7 ⊢)
            | (refine step_spreadT moveT rfl _ _ (by rfl) w.heap.size _ (L.take i) (by rfl) ho7 g hb7 _ ([] : List MoveV) _ _ (by rfl) (by rfl) (by exact hD7 _ (fun hh => absurd hh (by omega))) (by simp; omega) hz7 (by omega) ?_; intro A6 c6' w8 ho8 hb8 hg8; simp only [HLi.out, List.length_nil, Nat.add_zero, List.append_nil] at ho8 ⊢))
          all_goals
            have hg8' : w7.grownBy w8 (Value.slice A5 i c5).ownBlock := hg8
            have own7 := (OwnT.lt (T := moveT) ho7)
            have HS8 : Sta moveT w.heap.size w w8 g A c l (P + 2 + 20 * (2 - k) + 2 + 2) (.slice A6 i c6') (L.take i) :=
              ⟨ho8, (PK.out.cur.bel hb67).kept hg8' (fun r hr => by have := (own7 r hr).1; omega), gr_far (PK.out.old.trans (gr_of_below hb67 _)) hg8' (fun r hr => (own7 r hr).1), Nat.le_trans hz7 hg8'.size, hgl, Nat.le_refl _⟩
            go_wp2_with fail
            go_roundw
            case rel => exact ⟨k - 1, L.take i, A6, c6', rfl, by omega, by rw [HLi.out]; have := HM.out; omega, by rw [HLi.out], by rw [HLi.out]; exact HS8.more (by omega)⟩
            case measure => first | (simp [intOf]; done) | (simp [intOf]; omega)
        · have hce2 : (c1 == m) = false := by simp [hce]
          go_region_law (first
            | (refine step_spreadT moveT rfl _ _ (by rfl) w.heap.size _ ([] : List MoveV) (by rfl) e1 g hbE _ (L.take i) _ _ (by exact HLi.out.symm) (by rfl) hT1 (by simp; omega) (by simp; omega) (by omega) ?_; intro A5 c5 w7 ho7 hb7 hg7; have hg7' : (w6.alloc (.cells #[] 52)).grownBy w7 (some w6.heap.size) := gr_of_drewD hg7; have hb67 : Below w6.heap.size w6 w7 := ((Below.refl w6.heap.size w6).alloc (Nat.le_refl _) (.cells #[] 52)).grown hg7' (by simp) (fun k hk => by cases hk; exact Nat.le_refl _); have hz7 : w.heap.size ≤ w7.heap.size := Nat.le_trans hzb hb67.size; have hD7 := fun X hX => (hD6 X hX).below hb67 (Nat.le_refl _); simp only [List.length_nil, Nat.zero_add, List.nil_append, HLi.out] at ho7 ⊢)
            | (refine step_spreadT moveT rfl _ _ (by rfl) w.heap.size _ (L.take i) (by rfl) ho7 g hb7 _ (L.drop m) _ _ (by exact HLd.out.symm) (by rfl) (by exact hD7 _ (fun hh => by first | rfl | omega | (rw [Nat.zero_add]; rfl))) (by simp; omega) hz7 (by omega) ?_; intro A6 c6' w8 ho8 hb8 hg8; simp only [HLi.out, HLd.out] at ho8 ⊢))
          all_goals
            have hg8' : w7.grownBy w8 (Value.slice A5 i c5).ownBlock := hg8
            have own7 := (OwnT.lt (T := moveT) ho7)
            have HS8 : Sta moveT w.heap.size w w8 g A c l (P + 2 + 20 * (2 - k) + 2 + 2) (.slice A6 (i + (L.length - m)) c6') (L.take i ++ L.drop m) :=
              ⟨ho8, (PK.out.cur.bel hb67).kept hg8' (fun r hr => by have := (own7 r hr).1; omega), gr_far (PK.out.old.trans (gr_of_below hb67 _)) hg8' (fun r hr => (own7 r hr).1), Nat.le_trans hz7 hg8'.size, hgl, Nat.le_refl _⟩
            go_wp2_with fail
            go_roundw
            case rel => exact ⟨k - 1, L.take i ++ L.drop m, A6, c6', rfl, by omega, by rw [List.length_append, HLi.out, HLd.out]; have := HM.out; omega, by rw [List.length_append, HLi.out, HLd.out], by rw [List.length_append, HLi.out, HLd.out]; exact HS8.more (by omega)⟩
            case measure => first | (simp [intOf]; done) | (simp [intOf]; omega)
      · go_upto_region 14 with fail
        have hgb := HS6.hgb
        have hzb := HS6.size
        obtain ⟨x0, x1, x2, hx, a0, a1, _, _, _, _⟩ := move_own HS6.own hi
        have a0d : w6.drew.cell? ⟨gp, i * 3, none⟩ = some (.int .i64 x0) := a0
        have a1d : w6.drew.cell? ⟨gp, i * 3 + 1, none⟩ = some (.int .i64 x1) := a1
        have a0l : (w6.alloc (.cells #[.int .i64 1, .int .i64 (-1), .int .i64 2] 3)).drew.cell? ⟨gp, i * 3, none⟩ = some (.int .i64 x0) := cell_drew (box_old a0 _)
        have a1l : (w6.alloc (.cells #[.int .i64 1, .int .i64 (-1), .int .i64 2] 3)).drew.cell? ⟨gp, i * 3 + 1, none⟩ = some (.int .i64 x1) := cell_drew (box_old a1 _)
        have U1 : w6.grownBy (w6.alloc (.cells #[.int .i64 1, .int .i64 (-1), .int .i64 2] 3)).drew (some g) := gr_drew (World.grownBy_alloc w6 _ _)
        have C1 : Cur (w6.alloc (.cells #[.int .i64 1, .int .i64 (-1), .int .i64 2] 3)).drew g A c l (P + 2 + 20 * (2 - k) + 2 + 2) := HS6.cur.kept (gr_drew (World.grownBy_alloc w6 _ none)) (by simp)
        have L1 : RdI (w6.alloc (.cells #[.int .i64 1, .int .i64 (-1), .int .i64 2] 3)).drew (some ⟨w6.heap.size, 0, none⟩) [1, -1, 2] := (lit_rd w6 [1, -1, 2] _ rfl).below (Below.refl _ _).drew (Nat.le_refl _)
        have K1 := among_any g c _ A l _ 3 3 [1, -1, 2] _ hl (by omega) rfl (by decide) (by decide) C1 L1 (fun b off hA => by cases hA; omega)
        have PK := Lib.hid HS6
        clear HS6 C1 L1 hc6 i6
        go_region_law (first
          | (go_at_call 68; (with_reducible refine K1.mono ?_); rintro e w8 ⟨z1, _, rfl, hc8, hg8⟩; have HS8 := PK.out.gr (U1.trans hg8) hc8; have p0 : w8.cell? ⟨gp, i * 3, none⟩ = some (.int .i64 x0) := HS8.own.cell hx 0 _ rfl; have p1 : w8.cell? ⟨gp, i * 3 + 1, none⟩ = some (.int .i64 x1) := HS8.own.cell hx 1 _ rfl; have p2 : w8.cell? ⟨gp, i * 3 + 2, none⟩ = some (.int .i64 x2) := HS8.own.cell hx 2 _ rfl; have f0 : w8.frozen? ⟨gp, i * 3, none⟩ = false := HS8.own.frozen _; have f1 : w8.frozen? ⟨gp, i * 3 + 1, none⟩ = false := HS8.own.frozen _; have f2 : w8.frozen? ⟨gp, i * 3 + 2, none⟩ = false := HS8.own.frozen _)
          | (go_simp; go_at_call 68; (with_reducible refine K1.mono ?_); rintro e w8 ⟨z1, _, rfl, hc8, hg8⟩; have HS8 := PK.out.gr (U1.trans hg8) hc8; have p0 : w8.cell? ⟨gp, i * 3, none⟩ = some (.int .i64 x0) := HS8.own.cell hx 0 _ rfl; have p1 : w8.cell? ⟨gp, i * 3 + 1, none⟩ = some (.int .i64 x1) := HS8.own.cell hx 1 _ rfl; have p2 : w8.cell? ⟨gp, i * 3 + 2, none⟩ = some (.int .i64 x2) := HS8.own.cell hx 2 _ rfl; have f0 : w8.frozen? ⟨gp, i * 3, none⟩ = false := HS8.own.frozen _; have f1 : w8.frozen? ⟨gp, i * 3 + 1, none⟩ = false := HS8.own.frozen _; have f2 : w8.frozen? ⟨gp, i * 3 + 2, none⟩ = false := HS8.own.frozen _))
        all_goals
          have HS9 := HS8.move hi x0 x1 z1
          go_wp2_with fail
          go_roundw
          case rel => exact ⟨k - 1, L.set i ⟨x0, x1, z1⟩, some ⟨gp, 0, none⟩, c1, rfl, by omega, by rw [List.length_set]; omega, by rw [List.length_set], by rw [List.length_set]; exact HS9.more (by omega)⟩
          case measure => first | (simp [intOf]; done) | (simp [intOf]; omega)
      · go_wp2_with fail
        refine (pick_any g c _ 4 A l _ hl (by omega) (by decide) (by decide) hc6).mono ?_
        rintro e w7 ⟨r, _, rfl, hc7, hg7⟩
        have HS7 := HS6.gr hg7 hc7
        have hgb := HS7.hgb
        go_wp2_with (at_builtin; refine wpList_appT moveT rfl _ _ rfl w.heap.size _ _ rfl HS7.own g HS7.below ⟨(r : Int), 1, 1⟩ _ rfl 1 1 rfl rfl (by omega) HS7.size (by omega) ?_; intro A4 c4 w10 ho10 hb10 hg10)
        have HS10 := HS7.app ho10 hg10
        go_roundw
        case rel => exact ⟨k - 1, L ++ [⟨(r : Int), 1, 1⟩], A4, c4, rfl, by omega, by simp; omega, by rw [List.length_append]; rfl, by rw [List.length_append]; exact HS10.more (by omega)⟩
        case measure => first | (simp [intOf]; done) | (simp [intOf]; omega)
      · by_cases hi0 : 0 < i
        · have d1 : decide (0 < i) = true := decide_eq_true hi0
          obtain ⟨m, hm⟩ : ∃ m : Nat, i = m + 1 := ⟨i - 1, by omega⟩
          have i7 : IntKind.i64.wrap ((i : Int) - 1) = (m : Int) := by rw [IntWalk.i64_in _ (by omega)]; omega
          have hml : m < L.length := by omega
          have m0 : (0 : Int) ≤ (m : Int) := by omega
          have m1 : (m : Int) < (L.length : Int) := by omega
          obtain ⟨x0, x1, x2, hx, a0, a1, a2, _, _, _⟩ := move_own HS6.own hml
          obtain ⟨y0, y1, y2, hy, b0, b1, b2, _, _, _⟩ := move_own HS6.own hi
          have hgs := World.block_lt_of_cell? _ _ a0
          have HM := Lib.hid hm
          have PK := Lib.hid HS6
          clear hm hi0 HS6 hc6 i6
          go_upto_region 8 with fail
          go_region_held3 (fun wy => wy.cell? ⟨gp, m * 3, none⟩ = some (.int .i64 x0) ∧ wy.cell? ⟨gp, m * 3 + 1, none⟩ = some (.int .i64 x1) ∧ wy.cell? ⟨gp, m * 3 + 2, none⟩ = some (.int .i64 x2) ∧ wy.cell? ⟨gp, i * 3, none⟩ = some (.int .i64 y0) ∧ wy.cell? ⟨gp, i * 3 + 1, none⟩ = some (.int .i64 y1) ∧ wy.cell? ⟨gp, i * 3 + 2, none⟩ = some (.int .i64 y2))
            (((try dsimp only); (repeat' apply And.intro)) <;> (first | (with_reducible assumption) | (with_reducible exact cell_drew (by assumption)) | (with_reducible exact cell_drew (box_old (by assumption) _)) | (with_reducible exact cell_drew (box_old (box_old (by assumption) _) _)) | (with_reducible exact box_old (by assumption) _) | (with_reducible exact box_old (box_old (by assumption) _) _)))
            (fail)
          · clear a0 a1 a2 b0 b1 b2
            obtain ⟨wz, hwz⟩ : ∃ wz : World, wz = ((w6.alloc (.cells #[.int .i64 x0, .int .i64 x1, .int .i64 x2] 52)).alloc (.cells #[.int .i64 y0, .int .i64 y1, .int .i64 y2] 52)).drew := ⟨_, rfl⟩
            obtain ⟨ub, hub⟩ : ∃ ub : Nat, ub = w6.heap.size := ⟨_, rfl⟩
            obtain ⟨vb, hvb⟩ : ∃ vb : Nat, vb = w6.heap.size + 1 := ⟨_, rfl⟩
            have HZ : Sta moveT w.heap.size w wz g A c l (P + 2 + 20 * (2 - k) + 2 + 2) (.slice (some ⟨gp, 0, none⟩) L.length c1) L := by rw [hwz]; exact ((PK.out.alloc _).alloc _).drew
            have p0 : wz.cell? ⟨ub, 0, none⟩ = some (.int .i64 x0) := by rw [hwz, hub]; exact (new3 w6 _ (.int .i64 x0) (.int .i64 x1) (.int .i64 x2) 52 0 _ rfl).1
            have p1 : wz.cell? ⟨ub, 1, none⟩ = some (.int .i64 x1) := by rw [hwz, hub]; exact (new3 w6 _ (.int .i64 x0) (.int .i64 x1) (.int .i64 x2) 52 1 _ rfl).1
            have p2 : wz.cell? ⟨ub, 2, none⟩ = some (.int .i64 x2) := by rw [hwz, hub]; exact (new3 w6 _ (.int .i64 x0) (.int .i64 x1) (.int .i64 x2) 52 2 _ rfl).1
            have q0 : wz.cell? ⟨vb, 0, none⟩ = some (.int .i64 y0) := by rw [hwz, hvb]; exact (new3 w6 _ (.int .i64 y0) (.int .i64 y1) (.int .i64 y2) 52 0 _ rfl).2
            have q1 : wz.cell? ⟨vb, 1, none⟩ = some (.int .i64 y1) := by rw [hwz, hvb]; exact (new3 w6 _ (.int .i64 y0) (.int .i64 y1) (.int .i64 y2) 52 1 _ rfl).2
            have q2 : wz.cell? ⟨vb, 2, none⟩ = some (.int .i64 y2) := by rw [hwz, hvb]; exact (new3 w6 _ (.int .i64 y0) (.int .i64 y1) (.int .i64 y2) 52 2 _ rfl).2
            have hne : ¬ ub = gp := by omega
            obtain ⟨_, _, _, _, _, _, _, f0, f1, f2⟩ := move_own HZ.own hml
            go_upto_region 9 with fail
            rw [← hwz, ← hvb, ← hub]
            clear hwz hub hvb
            go_upto_region 10 with fail
            obtain ⟨wy, hwy⟩ : ∃ wy : World, wy = ((wz.setCell ⟨gp, m * 3, none⟩ (.int .i64 y0)).setCell ⟨gp, m * 3 + 1, none⟩ (.int .i64 y1)).setCell ⟨gp, m * 3 + 2, none⟩ (.int .i64 y2) := ⟨_, rfl⟩
            have HY : Sta moveT w.heap.size w wy g A c l (P + 2 + 20 * (2 - k) + 2 + 2) (.slice (some ⟨gp, 0, none⟩) L.length c1) (L.set m ⟨y0, y1, y2⟩) := by rw [hwy]; exact HZ.move hml y0 y1 y2
            have p0' : wy.cell? ⟨ub, 0, none⟩ = some (.int .i64 x0) := by rw [hwy]; exact cell_far1 (cell_far1 (cell_far1 p0 hne _ _) hne _ _) hne _ _
            have p1' : wy.cell? ⟨ub, 1, none⟩ = some (.int .i64 x1) := by rw [hwy]; exact cell_far1 (cell_far1 (cell_far1 p1 hne _ _) hne _ _) hne _ _
            have p2' : wy.cell? ⟨ub, 2, none⟩ = some (.int .i64 x2) := by rw [hwy]; exact cell_far1 (cell_far1 (cell_far1 p2 hne _ _) hne _ _) hne _ _
            clear p0 p1 p2 q0 q1 q2 f0 f1 f2 HZ
            have hil : i < (L.set m (⟨y0, y1, y2⟩ : MoveV)).length := by rw [List.length_set]; exact hi
            obtain ⟨_, _, _, _, _, _, _, f0, f1, f2⟩ := move_own HY.own hil
            rw [← hwy]
            clear hwy
            go_wp2_with fail
            have HX := HY.move hil x0 x1 x2
            go_roundw
            case rel => exact ⟨k - 1, (L.set m ⟨y0, y1, y2⟩).set i ⟨x0, x1, x2⟩, some ⟨gp, 0, none⟩, c1, rfl, by omega, by rw [List.length_set, List.length_set]; omega, by rw [List.length_set, List.length_set], by rw [List.length_set, List.length_set]; exact HX.more (by omega)⟩
            case measure => first | (simp [intOf]; done) | (simp [intOf]; omega)
          · clear a0 a1 a2 b0 b1 b2
            obtain ⟨wz, hwz⟩ : ∃ wz : World, wz = ((w6.alloc (.cells #[.int .i64 y0, .int .i64 y1, .int .i64 y2] 52)).alloc (.cells #[.int .i64 x0, .int .i64 x1, .int .i64 x2] 52)).drew := ⟨_, rfl⟩
            obtain ⟨ub, hub⟩ : ∃ ub : Nat, ub = w6.heap.size + 1 := ⟨_, rfl⟩
            obtain ⟨vb, hvb⟩ : ∃ vb : Nat, vb = w6.heap.size := ⟨_, rfl⟩
            have HZ : Sta moveT w.heap.size w wz g A c l (P + 2 + 20 * (2 - k) + 2 + 2) (.slice (some ⟨gp, 0, none⟩) L.length c1) L := by rw [hwz]; exact ((PK.out.alloc _).alloc _).drew
            have p0 : wz.cell? ⟨ub, 0, none⟩ = some (.int .i64 x0) := by rw [hwz, hub]; exact (new3 w6 _ (.int .i64 x0) (.int .i64 x1) (.int .i64 x2) 52 0 _ rfl).2
            have p1 : wz.cell? ⟨ub, 1, none⟩ = some (.int .i64 x1) := by rw [hwz, hub]; exact (new3 w6 _ (.int .i64 x0) (.int .i64 x1) (.int .i64 x2) 52 1 _ rfl).2
            have p2 : wz.cell? ⟨ub, 2, none⟩ = some (.int .i64 x2) := by rw [hwz, hub]; exact (new3 w6 _ (.int .i64 x0) (.int .i64 x1) (.int .i64 x2) 52 2 _ rfl).2
            have q0 : wz.cell? ⟨vb, 0, none⟩ = some (.int .i64 y0) := by rw [hwz, hvb]; exact (new3 w6 _ (.int .i64 y0) (.int .i64 y1) (.int .i64 y2) 52 0 _ rfl).1
            have q1 : wz.cell? ⟨vb, 1, none⟩ = some (.int .i64 y1) := by rw [hwz, hvb]; exact (new3 w6 _ (.int .i64 y0) (.int .i64 y1) (.int .i64 y2) 52 1 _ rfl).1
            have q2 : wz.cell? ⟨vb, 2, none⟩ = some (.int .i64 y2) := by rw [hwz, hvb]; exact (new3 w6 _ (.int .i64 y0) (.int .i64 y1) (.int .i64 y2) 52 2 _ rfl).1
            have hne : ¬ ub = gp := by omega
            obtain ⟨_, _, _, _, _, _, _, f0, f1, f2⟩ := move_own HZ.own hml
            go_upto_region 9 with fail
            rw [← hwz, ← hub, ← hvb]
            clear hwz hub hvb
            go_upto_region 10 with fail
            obtain ⟨wy, hwy⟩ : ∃ wy : World, wy = ((wz.setCell ⟨gp, m * 3, none⟩ (.int .i64 y0)).setCell ⟨gp, m * 3 + 1, none⟩ (.int .i64 y1)).setCell ⟨gp, m * 3 + 2, none⟩ (.int .i64 y2) := ⟨_, rfl⟩
            have HY : Sta moveT w.heap.size w wy g A c l (P + 2 + 20 * (2 - k) + 2 + 2) (.slice (some ⟨gp, 0, none⟩) L.length c1) (L.set m ⟨y0, y1, y2⟩) := by rw [hwy]; exact HZ.move hml y0 y1 y2
            have p0' : wy.cell? ⟨ub, 0, none⟩ = some (.int .i64 x0) := by rw [hwy]; exact cell_far1 (cell_far1 (cell_far1 p0 hne _ _) hne _ _) hne _ _
            have p1' : wy.cell? ⟨ub, 1, none⟩ = some (.int .i64 x1) := by rw [hwy]; exact cell_far1 (cell_far1 (cell_far1 p1 hne _ _) hne _ _) hne _ _
            have p2' : wy.cell? ⟨ub, 2, none⟩ = some (.int .i64 x2) := by rw [hwy]; exact cell_far1 (cell_far1 (cell_far1 p2 hne _ _) hne _ _) hne _ _
            clear p0 p1 p2 q0 q1 q2 f0 f1 f2 HZ
            have hil : i < (L.set m (⟨y0, y1, y2⟩ : MoveV)).length := by rw [List.length_set]; exact hi
            obtain ⟨_, _, _, _, _, _, _, f0, f1, f2⟩ := move_own HY.own hil
            rw [← hwy]
            clear hwy
            go_wp2_with fail
            have HX := HY.move hil x0 x1 x2
            go_roundw
            case rel => exact ⟨k - 1, (L.set m ⟨y0, y1, y2⟩).set i ⟨x0, x1, x2⟩, some ⟨gp, 0, none⟩, c1, rfl, by omega, by rw [List.length_set, List.length_set]; omega, by rw [List.length_set, List.length_set], by rw [List.length_set, List.length_set]; exact HX.more (by omega)⟩
            case measure => first | (simp [intOf]; done) | (simp [intOf]; omega)
        · have d1 : decide (0 < i) = false := decide_eq_false hi0
          go_wp2_with fail
          go_roundw
          case rel => exact ⟨k - 1, L, _, c1, rfl, by omega, by omega, rfl, HS6.more (by omega)⟩
          case measure => first | (simp [intOf]; done) | (simp [intOf]; omega)
    · go_upto_region 3 with fail
      go_cut [21] (fun s21 wx => s21 = .bool false ∧ wx = wr)
      case first =>
        by_cases hk : 0 < k
        · have hL0 : ¬ 0 < L.length := fun h => hgo ⟨hk, h⟩
          have d1 : decide (0 < k) = true := decide_eq_true hk
          have d2 : decide (0 < L.length) = false := decide_eq_false hL0
          clear hgo hL0
          go_wp2_with fail
          go_meet
          exact ⟨rfl, rfl⟩
        · have d1 : decide (0 < k) = false := decide_eq_false hk
          clear hgo
          go_wp2_with fail
          go_meet
          exact ⟨rfl, rfl⟩
      case rest =>
        obtain ⟨rfl, rfl⟩ := hcut
        clear hgo
        go_wp2_with fail
        refine (one_any g c _ 32 A l _ hl (by omega) (by decide) (by decide) hc4).mono ?_
        rintro e w5 ⟨bo, rfl, hc5, hg5⟩
        have HS5 := HS.gr hg5 hc5
        clear HS hc4 hg5
        cases bo
        · go_wp2
          go_ret
          exact ⟨L, A1, c1, by omega, rfl, HS5.more (by omega)⟩
        · go_wp2_with fail
          go_loopw [5] (fun o wr => ∃ (L2 : List MoveV) (A3 : Option Addr) (c3 : Nat), L2.length ≤ 63 ∧ o = .slice A3 L2.length c3 ∧ Sta moveT w.heap.size w wr g A c l (P + 50 + 2 * L2.length) (.slice A3 L2.length c3) L2) (fun o _ => 64 - (match o with | .slice _ n _ => n | _ => 0))
          case atStart => exact ⟨L, A1, c1, by omega, rfl, HS5.more (by omega)⟩
          case round =>
            obtain ⟨L2, A3, c3, hL2, rfl, HS6⟩ := hrel
            clear HS5 hc5
            have hc6 := HS6.cur
            go_wp2_with fail
            refine (pick_any g c _ 2 A l _ hl (by omega) (by decide) (by decide) hc6).mono ?_
            rintro e w7 ⟨b2, hb2, rfl, hc7, hg7⟩
            have HS7 := HS6.gr hg7 hc7
            have hgb := HS7.hgb
            have i1 : IntKind.i64.wrap (12 + (b2 : Int)) = 12 + (b2 : Int) := IntWalk.i64_in _ (by omega)
            clear HS6 hc6 hg7
            by_cases hlt : L2.length < 12 + b2
            · have d1 : decide ((L2.length : Int) < 12 + (b2 : Int)) = true := decide_eq_true (by omega)
              go_wp2_with (at_builtin; refine wpList_appT moveT rfl _ _ rfl w.heap.size _ _ rfl HS7.own g HS7.below ⟨0, 1, _⟩ _ rfl 1 1 rfl rfl (by omega) HS7.size (by omega) ?_; intro A4 c4 w9 ho9 hb9 hg9)
              have HS9 := HS7.app ho9 hg9
              obtain ⟨y9, HSX⟩ : ∃ y9 : MoveV, Sta moveT w.heap.size w w9 g A c l (P + 50 + 2 * (L2.length + 1)) (.slice A4 (L2.length + 1) c4) (L2 ++ [y9]) := ⟨_, HS9.more (by omega)⟩
              go_roundw
              case rel => exact ⟨L2 ++ [y9], A4, c4, by simp; omega, by rw [List.length_append]; rfl, by rw [List.length_append]; exact HSX⟩
              case measure => first | (simp; done) | (simp; omega)
            · have d1 : decide ((L2.length : Int) < 12 + (b2 : Int)) = false := decide_eq_false (by omega)
              go_wp2
              go_ret
              exact ⟨L2, A3, c3, by omega, rfl, HS7.more (by omega)⟩
end Go.Proofs.Ytkcbldaondflmaa
