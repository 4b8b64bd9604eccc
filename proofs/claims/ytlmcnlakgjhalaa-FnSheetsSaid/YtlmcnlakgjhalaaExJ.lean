/-
  NoRepeats, of the program and of the reference: contracts.
-/
import Derived.Test.YtlmcnlakgjhalaaExI
namespace Go.Proofs.Ytlmcnlakgjhalaa
open Go.RowKit

theorem pair_cells {w : World} {A : Option Addr} {l : List (Int × Int)} (h : RdT pairT w A l) (hn : 0 < l.length) :
    ∃ b off, A = some ⟨b, off, none⟩ ∧ b < w.heap.size ∧ ∀ (k : Nat) (p q : Int), l[k]? = some (p, q) → w.cell? ⟨b, off + k * 2, none⟩ = some (.int .i64 p) ∧ w.cell? ⟨b, off + k * 2 + 1, none⟩ = some (.int .i64 q) := by
  obtain ⟨b, off, hA, hlt, hc⟩ := h.2 hn
  refine ⟨b, off, hA, hlt, fun k p q hx => ?_⟩
  have hat := fun j u hu => hc (k * 2 + j) u (flat_at pairT l k j _ u hx hu)
  exact ⟨by have := hat 0 _ rfl; exact this, by have := hat 1 _ rfl; rw [← Nat.add_assoc] at this; exact this⟩

/-- Two exercises of the same two numbers. -/
def sim (x y : Int × Int) : Bool := (x.1 == y.1 && x.2 == y.2) || (x.1 == y.2 && x.2 == y.1)
theorem sim_iff (x y : Int × Int) : sim x y = true ↔ (x.1 = y.1 ∧ x.2 = y.2) ∨ (x.1 = y.2 ∧ x.2 = y.1) := by simp [sim]
theorem sim_swap (p q p' q' : Int) : sim (p, q) (p', q') = (((p' == p) && (q' == q)) || ((p' == q) && (q' == p))) := by
  rw [Bool.eq_iff_iff, sim_iff]; simp; omega
theorem sim_refl (x : Int × Int) : sim x x = true := by rw [sim_iff]; exact .inl ⟨rfl, rfl⟩
theorem sim_trans {x y z : Int × Int} (h : sim x y = true) (k : sim z y = true) : sim x z = true := by
  rw [sim_iff] at *; omega
/-- Those of the first k exercises that are kept. -/
def nr (l : List (Int × Int)) : Nat → List (Int × Int)
  | 0 => []
  | k + 1 => match l[k]? with
    | some x => if (nr l k).any (sim x) = true then nr l k else nr l k ++ [x]
    | none => nr l k
theorem nr_hit {l : List (Int × Int)} {k : Nat} {x : Int × Int} (hx : l[k]? = some x) (h : (nr l k).any (sim x) = true) : nr l (k + 1) = nr l k := by simp [nr, hx, h]
theorem nr_miss {l : List (Int × Int)} {k : Nat} {x : Int × Int} (hx : l[k]? = some x) (h : (nr l k).any (sim x) = false) : nr l (k + 1) = nr l k ++ [x] := by simp [nr, hx, h]
theorem nr_len (l : List (Int × Int)) (k : Nat) : (nr l k).length ≤ k := by
  induction k with
  | zero => simp [nr]
  | succ k ih =>
    simp only [nr]
    split
    · split
      · omega
      · simp; omega
    · omega
theorem nr_sub (l : List (Int × Int)) (k : Nat) : ∀ y ∈ nr l k, y ∈ l.take k := by
  induction k with
  | zero => intro y hy; simp [nr] at hy
  | succ k ih =>
    intro y hy
    simp only [nr] at hy
    have hsub : ∀ z ∈ l.take k, z ∈ l.take (k + 1) := fun z hz => by rw [List.take_add_one]; exact List.mem_append_left _ hz
    split at hy
    · rename_i x hx
      split at hy
      · exact hsub y (ih y hy)
      · rw [List.mem_append, List.mem_singleton] at hy
        rcases hy with hy | rfl
        · exact hsub y (ih y hy)
        · rw [take_snoc' hx]; simp
    · exact hsub y (ih y hy)
theorem nr_cover (l : List (Int × Int)) (k : Nat) : ∀ y ∈ l.take k, ∃ z ∈ nr l k, sim y z = true := by
  induction k with
  | zero => intro y hy; simp at hy
  | succ k ih =>
    intro y hy
    by_cases hk : k < l.length
    · obtain ⟨x, hx⟩ := get_of_lt l hk
      rw [take_snoc' hx, List.mem_append, List.mem_singleton] at hy
      cases ha : (nr l k).any (sim x)
      · rw [nr_miss hx ha]
        rcases hy with hy | rfl
        · obtain ⟨z, hz, hs⟩ := ih y hy
          exact ⟨z, List.mem_append_left _ hz, hs⟩
        · exact ⟨y, by simp, sim_refl y⟩
      · rw [nr_hit hx ha]
        rcases hy with hy | rfl
        · exact ih y hy
        · rw [List.any_eq_true] at ha
          exact ha
    · rw [List.take_of_length_le (by omega)] at hy
      have e : nr l (k + 1) = nr l k := by simp [nr, List.getElem?_eq_none (show l.length ≤ k by omega)]
      rw [e]
      exact ih y (by rw [List.take_of_length_le (by omega)]; exact hy)
/-- What the program asks of the kept ones the reference asks of all before. -/
theorem nr_any (l : List (Int × Int)) (k : Nat) (x : Int × Int) : (nr l k).any (sim x) = (l.take k).any (sim x) := by
  rw [Bool.eq_iff_iff, List.any_eq_true, List.any_eq_true]
  constructor
  · rintro ⟨y, hy, hs⟩
    exact ⟨y, nr_sub l k y hy, hs⟩
  · rintro ⟨y, hy, hs⟩
    obtain ⟨z, hz, hyz⟩ := nr_cover l k y hy
    refine ⟨z, hz, ?_⟩
    rw [sim_iff] at *; omega
theorem any_succ {α : Type} {l : List α} {k : Nat} {x : α} (p : α → Bool) (hx : l[k]? = some x) : (l.take (k + 1)).any p = ((l.take k).any p || p x) := by
  rw [take_snoc' hx, List.any_append]; simp
theorem any_all {α : Type} (l : List α) (p : α → Bool) : (l.take l.length).any p = l.any p := by rw [List.take_of_length_le (Nat.le_refl _)]
def nrV (l : List (Int × Int)) : List (Int × Int) := if sheetB l = true then nr l l.length else []
theorem nrV_yes {l : List (Int × Int)} (h : sheetB l = true) : nrV l = nr l l.length := if_pos h
theorem nrV_no {l : List (Int × Int)} (h : sheetB l = false) : nrV l = [] := if_neg (by simp [h])
theorem nrV_len (l : List (Int × Int)) : (nrV l).length ≤ 12 := by
  cases h : sheetB l
  · rw [nrV_no h]; simp
  · rw [nrV_yes h]
    have := nr_len l l.length
    have := (sheetB_iff h).1
    omega
attribute [irreducible] nr nrV

theorem run_eq_pair (d : Nat) (p q p' q' : Int) (w : World) :
    (Op.equalIn (d + 2) 45 (.agg #[.int .i64 p, .int .i64 q]) (.agg #[.int .i64 p', .int .i64 q'])).run Try.prog w = .ok (p == p' && q == q') w := by
  obtain ⟨i0, hi, hz0, hz1, hz2⟩ := info_parts int_info
  have hs : ∀ W : World, (sizeOf 3).run Try.prog W = .ok 1 W := fun W => by simp [sizeOf, typeInfo, hi, hz1]
  have hp0 : ∀ (a b : Int) (W : World), (part 3 #[.int .i64 a, .int .i64 b] 0).run Try.prog W = .ok (.int .i64 a) W := fun a b W => by kernel_rfl
  have hp1 : ∀ (a b : Int) (W : World), (part 3 #[.int .i64 a, .int .i64 b] 1).run Try.prog W = .ok (.int .i64 b) W := fun a b W => by kernel_rfl
  have he : ∀ (a b : Int) (W : World), (Op.equalIn (d + 1) 3 (.int .i64 a) (.int .i64 b)).run Try.prog W = .ok (a == b) W := fun a b W => run_equalIn_int W d 3 .i64 .i64 a b Try.underlying3
  rw [Op.equalIn]
  simp only [Sem.run_bind, run_underlying Try.underlying45, Result.andThen_ok, hs]
  cases h1 : (p == p') <;> cases h2 : (q == q') <;> simp [h1, h2, hp0, hp1, he, Std.Legacy.Range.forIn_eq_forIn_range', Std.Legacy.Range.size, List.range']
theorem eq_pair (p q p' q' : Int) (w : World) :
    (Op.equalIn 10000 45 (.agg #[.int .i64 p, .int .i64 q]) (.agg #[.int .i64 p', .int .i64 q'])).run Try.prog w = .ok (p == p' && q == q') w := run_eq_pair 9998 p q p' q' w

set_option maxHeartbeats 4000000 in
theorem noRepeatsI_any (A : Option Addr) (c : Nat) (l : List (Int × Int)) (w : World) (hn : l.length ≤ 16777216) (h : RdT pairT w A l) :
    Calls Try.prog 35 #[.slice A l.length c] w (RetP w (nrV l) (sheetB l)) := by
  cases hs : sheetB l
  · rw [nrV_no hs]
    go_enter Try.func35, Try.ntmps35
    go_wp2_with (go_at_call 66; refine (isSheet_any A _ l _ hn h).mono ?_; rintro e w1 ⟨rfl, hb1⟩)
    go_ret2
    exact ⟨none, 0, rfl, OwnT.nil _ _, hb1⟩
  · rw [nrV_yes hs]
    have h12 := (sheetB_iff hs).1
    have hnr0 : nr l 0 = [] := by unfold nr; rfl
    go_enter Try.func35, Try.ntmps35
    go_wp2_with (go_at_call 66; refine (isSheet_any A _ l _ hn h).mono ?_; rintro e w1 ⟨rfl, hb1⟩)
    go_loopw [4, 15] (fun o i wr => ∃ (k : Nat) (A' : Option Addr) (cc : Nat), k ≤ l.length ∧ i = .int .i64 k ∧ o = .slice A' (nr l k).length cc ∧ OwnT pairT wr w.heap.size (.slice A' (nr l k).length cc) (nr l k) ∧ RdT pairT wr A l ∧ Below w.heap.size w wr) (fun _ i _ => l.length - (intOf i).toNat)
    case atStart => exact ⟨0, none, 0, by omega, rfl, by rw [hnr0]; rfl, by rw [hnr0]; exact OwnT.nil _ _, h.below hb1 (Nat.le_refl _), hb1⟩
    case round =>
      obtain ⟨k, A', cc, hk, rfl, rfl, hown, hr, hb⟩ := hrel
      clear hnr0
      have hz := hb.size
      have hnl := nr_len l k
      by_cases hlt : k < l.length
      · obtain ⟨b, off, p, q, rfl, hx, hlb, hc1, hc2⟩ := pair_at hr hlt
        obtain ⟨wq, rfl⟩ : ∃ wq : World, wq = wr := ⟨_, rfl⟩
        go_wp2
        obtain ⟨wo, hwo⟩ : ∃ wo : World, wo = wq.alloc (.cells #[.int .i64 p, .int .i64 q] 45) := ⟨_, rfl⟩
        have hown0 : OwnT pairT wo w.heap.size (.slice A' (nr l k).length cc) (nr l k) := by rw [hwo]; exact hown.alloc _
        have hr0 : RdT pairT wo (some ⟨b, off, none⟩) l := by rw [hwo]; exact hr.below ((Below.refl _ _).alloc (Nat.le_refl _) _) (Nat.le_refl _)
        have hb0 : Below w.heap.size w wo := by rw [hwo]; exact hb.alloc hz _
        have hz0 : wq.heap.size < wo.heap.size := by rw [hwo]; simp
        have hx0 : wo.cell? ⟨wq.heap.size, 0, none⟩ = some (.int .i64 p) ∧ wo.cell? ⟨wq.heap.size, 1, none⟩ = some (.int .i64 q) := by
          rw [hwo]; exact ⟨cell_of_row _ _ 0 _ _ (0, 0) (heap_alloc_new wq _), cell_of_row _ _ 1 _ _ (0, 0) (heap_alloc_new wq _)⟩
        clear hown hr hb hc1 hc2
        rw [← hwo]
        clear hwo
        go_loopw [7, 21] (fun r j wy => ∃ (m : Nat), m ≤ (nr l k).length ∧ j = .int .i64 m ∧ r = .bool (((nr l k).take m).any (sim (p, q))) ∧ Below wo.heap.size wo wy) (fun _ j _ => (nr l k).length - (intOf j).toNat)
        case atStart => exact ⟨0, by omega, rfl, by simp, Below.refl _ _⟩
        case round =>
          obtain ⟨m, hm, rfl, rfl, hby⟩ := hrel
          by_cases hlm : m < (nr l k).length
          · obtain ⟨b2, o2, p', q', rfl, hy, _, hd1, hd2⟩ := pair_at ((hown0.below hby (Nat.le_refl _)).rd) hlm
            have hx1 := (hby.cell (p := ⟨wq.heap.size, 0, none⟩) hz0).trans hx0.1
            have hx2 := (hby.cell (p := ⟨wq.heap.size, 1, none⟩) hz0).trans hx0.2
            have hzy := hby.size
            have hx1a : ∀ o : Obj, (wr.alloc o).cell? ⟨wq.heap.size, 0, none⟩ = some (.int .i64 p) := fun o => (World.cell?_alloc_lt wr o ⟨wq.heap.size, 0, none⟩ (Nat.lt_of_lt_of_le hz0 hzy)).trans hx1
            have hx2a : ∀ o : Obj, (wr.alloc o).cell? ⟨wq.heap.size, 1, none⟩ = some (.int .i64 q) := fun o => (World.cell?_alloc_lt wr o ⟨wq.heap.size, 1, none⟩ (Nat.lt_of_lt_of_le hz0 hzy)).trans hx2
            have heq := eq_pair p q p' q'
            have E := Lib.hid (any_succ (sim (p, q)) hy)
            clear hy
            cases h7 : ((nr l k).take m).any (sim (p, q))
            · cases e1 : (p == p') <;> cases e2 : (q == q') <;> cases e3 : (p == q') <;> cases e4 : (q == p')
              all_goals
                have e5 : sim (p, q) (p', q') = (((p == p') && (q == q')) || ((p == q') && (q == p'))) := rfl
                rw [e1, e2, e3, e4] at e5
                have E5 := Lib.hid e5
                have E7 := Lib.hid h7
                clear e5 h7
                go_wp2
                go_roundw
                case rel => exact ⟨m + 1, by omega, by go_num, by rw [E.out, E5.out, E7.out]; rfl, hby.alloc hzy _⟩
                case measure => simp [intOf]; omega
            · have E7 := Lib.hid h7
              clear h7
              go_wp2
              go_roundw
              case rel => exact ⟨m + 1, by omega, by go_num, by rw [E.out, E7.out]; rfl, hby.alloc hzy _⟩
              case measure => simp [intOf]; omega
          · obtain rfl : m = (nr l k).length := by omega
            have hown1 := hown0.below hby (Nat.le_refl _)
            have hb1 := hb0.trans (hby.mono hb0.size)
            have hz1 := hb1.size
            have hr1 := hr0.below hby (Nat.le_refl _)
            have hx1 := (hby.cell (p := ⟨wq.heap.size, 0, none⟩) hz0).trans hx0.1
            have hx2 := (hby.cell (p := ⟨wq.heap.size, 1, none⟩) hz0).trans hx0.2
            have EA := Lib.hid (any_all (nr l k) (sim (p, q)))
            rw [any_all]
            cases h7 : (nr l k).any (sim (p, q))
            · have E := Lib.hid (nr_miss hx h7)
              clear h7 hx
              go_wp2_with (at_builtin; refine wpList_appT pairT rfl _ _ rfl w.heap.size _ _ rfl hown1 w.heap.size hb1 (p, q) _ rfl 1 1 rfl rfl (by omega) hz1 (Nat.le_refl _) ?_; intro A3 c3 w3 hown3 hb3 hgr3)
              go_roundw
              case rel => exact ⟨k + 1, A3, c3, by omega, by go_num, by rw [E.out, List.length_append]; rfl, by rw [E.out]; rw [List.length_append]; exact hown3, h.below hb3 (Nat.le_refl _), hb3⟩
              case measure => simp [intOf]; omega
            · have E := Lib.hid (nr_hit hx h7)
              clear h7 hx
              go_wp2
              go_roundw
              case rel => exact ⟨k + 1, A', cc, by omega, by go_num, by rw [E.out], by rw [E.out]; exact hown1, hr1, hb1⟩
              case measure => simp [intOf]; omega
      · obtain rfl : k = l.length := by omega
        go_wp2
        go_ret2
        exact ⟨A', cc, rfl, hown, hb⟩

set_option maxHeartbeats 4000000 in
theorem noRepeatsS_any (A : Option Addr) (c : Nat) (l : List (Int × Int)) (w : World) (hn : l.length ≤ 16777216) (h : RdT pairT w A l) :
    Calls Try.prog 34 #[.slice A l.length c] w (RetP w (nrV l) (sheetB l)) := by
  cases hs : sheetB l
  · rw [nrV_no hs]
    go_enter Try.func34, Try.ntmps34
    go_wp2_with (go_at_call 64; refine (l20Sheet_any A _ l _ (by omega) (h.below ((Below.refl _ _).alloc (Nat.le_refl _) _) (Nat.le_refl _))).mono ?_; rintro e w1 ⟨rfl, hb1⟩)
    go_ret2
    exact ⟨_, 0, rfl, (OwnP.empty _ _ (Nat.le_refl _)).below hb1 (Nat.le_refl _), ((Below.refl _ _).alloc (Nat.le_refl _) _).trans (hb1.mono (by simp))⟩
  · rw [nrV_yes hs]
    have h12 := (sheetB_iff hs).1
    have hnr0 : nr l 0 = [] := by unfold nr; rfl
    go_enter Try.func34, Try.ntmps34
    go_wp2_with (go_at_call 64; refine (l20Sheet_any A _ l _ (by omega) (h.below ((Below.refl _ _).alloc (Nat.le_refl _) _) (Nat.le_refl _))).mono ?_; rintro e w1 ⟨rfl, hb1⟩)
    have hb1' := ((Below.refl w.heap.size w).alloc (Nat.le_refl _) _).trans (hb1.mono (by simp))
    go_loopw [4, 5] (fun o i wr => ∃ (k : Nat) (A' : Option Addr) (cc : Nat), k ≤ l.length ∧ i = .int .i64 k ∧ o = .slice A' (nr l k).length cc ∧ OwnT pairT wr w.heap.size (.slice A' (nr l k).length cc) (nr l k) ∧ Below w.heap.size w wr) (fun _ i _ => l.length - (intOf i).toNat)
    case atStart => exact ⟨0, _, 0, by omega, rfl, by rw [hnr0]; rfl, by rw [hnr0]; exact (OwnP.empty _ _ (Nat.le_refl _)).below hb1 (Nat.le_refl _), hb1'⟩
    case round =>
      obtain ⟨k, A', cc, hk, rfl, rfl, hown, hb⟩ := hrel
      clear hnr0
      have hz := hb.size
      have hnl := nr_len l k
      have hr := h.below hb (Nat.le_refl _)
      by_cases hlt : k < l.length
      · have hlen0 : 0 < l.length := by omega
        obtain ⟨b, off, rfl, hlb, hcells⟩ := pair_cells hr hlen0
        obtain ⟨⟨p, q⟩, hx⟩ := get_of_lt l hlt
        obtain ⟨hc1, hc2⟩ := hcells k p q hx
        obtain ⟨wq, rfl⟩ : ∃ wq : World, wq = wr := ⟨_, rfl⟩
        go_wp2
        go_loopw [6, 7] (fun r j wy => ∃ (m : Nat), m ≤ k ∧ j = .int .i64 m ∧ r = .bool ((l.take m).any (sim (p, q))) ∧ Below wq.heap.size wq wy) (fun _ j _ => k - (intOf j).toNat)
        case atStart => exact ⟨0, by omega, rfl, by simp, Below.refl _ _⟩
        case round =>
          obtain ⟨m, hm, rfl, rfl, hby⟩ := hrel
          have hd1 := (hby.cell (p := ⟨b, off + k * 2, none⟩) hlb).trans hc1
          have hd2 := (hby.cell (p := ⟨b, off + k * 2 + 1, none⟩) hlb).trans hc2
          by_cases hlm : m < k
          · obtain ⟨⟨p', q'⟩, hy⟩ := get_of_lt l (k := m) (by omega)
            obtain ⟨ha1, ha2⟩ := hcells m p' q' hy
            have hd3 := (hby.cell (p := ⟨b, off + m * 2, none⟩) hlb).trans ha1
            have hd4 := (hby.cell (p := ⟨b, off + m * 2 + 1, none⟩) hlb).trans ha2
            have heq1 := eq_pair p' q' p q
            have heq2 := eq_pair p' q' q p
            have E := Lib.hid (any_succ (sim (p, q)) hy)
            clear hy hcells hc1 hc2 ha1 ha2
            cases h7 : (l.take m).any (sim (p, q))
            · cases e1 : (p' == p) <;> cases e2 : (q' == q) <;> cases e3 : (p' == q) <;> cases e4 : (q' == p)
              all_goals
                have e5 : sim (p, q) (p', q') = (((p' == p) && (q' == q)) || ((p' == q) && (q' == p))) := sim_swap p q p' q'
                rw [e1, e2, e3, e4] at e5
                have E5 := Lib.hid e5
                have E7 := Lib.hid h7
                clear e5 h7
                go_wp2_with fail
                go_quiet (fail)
                go_wp2
                go_roundw
                case rel => exact ⟨m + 1, by omega, by go_num, by rw [E.out, E5.out, E7.out]; rfl, below_drewN hby _⟩
                case measure => simp [intOf]; omega
            · have E7 := Lib.hid h7
              clear h7
              go_wp2_with fail
              go_quiet (fail)
              go_wp2
              go_roundw
              case rel => exact ⟨m + 1, by omega, by go_num, by rw [E.out, E7.out]; rfl, below_drewN hby _⟩
              case measure => simp [intOf]; omega
          · obtain rfl : m = k := by omega
            have hown1 := hown.below hby (Nat.le_refl _)
            have hb2 := hb.trans (hby.mono hz)
            have hz2 := hb2.size
            clear hcells hc1 hc2
            cases h7 : (l.take m).any (sim (p, q))
            · have E := Lib.hid (nr_miss hx (by rw [nr_any]; exact h7))
              have E7 := Lib.hid h7
              clear h7 hx
              go_wp2_with (at_builtin; refine wpList_appT pairT rfl _ _ rfl w.heap.size _ _ rfl hown1 w.heap.size hb2 (p, q) _ rfl 1 1 rfl rfl (by omega) hz2 (Nat.le_refl _) ?_; intro A3 c3 w3 hown3 hb3 hgr3)
              go_roundw
              case rel => exact ⟨m + 1, A3, c3, by omega, by go_num, by rw [E.out, List.length_append]; rfl, by rw [E.out]; rw [List.length_append]; exact hown3, hb3⟩
              case measure => simp [intOf]; omega
            · have E := Lib.hid (nr_hit hx (by rw [nr_any]; exact h7))
              have E7 := Lib.hid h7
              clear h7 hx
              go_wp2
              go_roundw
              case rel => exact ⟨m + 1, A', cc, by omega, by go_num, by rw [E.out], by rw [E.out]; exact hown1, hb2⟩
              case measure => simp [intOf]; omega
      · obtain rfl : k = l.length := by omega
        go_wp2
        go_ret2
        exact ⟨A', cc, rfl, hown, hb⟩
end Go.Proofs.Ytlmcnlakgjhalaa
