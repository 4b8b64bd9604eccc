/-
  The pupils of a contest, their sums, and who is better: plain; contracts.
-/
import Derived.Test.YtcbecfkckdalmaaConF
import Derived.Test.YtcbecfkckdalmaaStep
import Derived.Deep.DrawnRows
namespace Go.Proofs.Ytcbecfkckdalmaa
open Go.RowKit
attribute [local go_sem ↓] Go.wp_at_zero Go.wp_at_succ

structure RankV where
  pupil : Int
  total : Int
  time : Int
  wrong : Int
  rows : Int
def rankT : Ty RankV where
  enc x := [.int .i64 x.pupil, .int .i64 x.total, .int .i64 x.time, .int .i64 x.wrong, .int .i64 x.rows]
  sz := 5
  e := 69
  st := 73
  bytes := 40
  zero := ⟨0, 0, 0, 0, 0⟩
  zv := .agg #[.int .i64 0, .int .i64 0, .int .i64 0, .int .i64 0, .int .i64 0]
  henc _ := rfl
  one _ u hu := by simp at hu; rcases hu with rfl | rfl | rfl | rfl | rfl <;> rfl
  hsz := by decide
  hz := rfl
  hst := Try.underlying73
  info := by kernel_rfl
  hbytes := by decide
theorem rank_at {w : World} {A : Option Addr} {l : List RankV} (h : RdT rankT w A l) {k : Nat} (hk : k < l.length) :
    ∃ b off pupil total time wrong rows, A = some ⟨b, off, none⟩ ∧ l[k]? = some ⟨pupil, total, time, wrong, rows⟩ ∧ b < w.heap.size ∧ w.cell? ⟨b, off + k * 5, none⟩ = some (.int .i64 pupil) ∧ w.cell? ⟨b, off + k * 5 + 1, none⟩ = some (.int .i64 total) ∧ w.cell? ⟨b, off + k * 5 + 2, none⟩ = some (.int .i64 time) ∧ w.cell? ⟨b, off + k * 5 + 3, none⟩ = some (.int .i64 wrong) ∧ w.cell? ⟨b, off + k * 5 + 4, none⟩ = some (.int .i64 rows) := by
  obtain ⟨b, off, ⟨p, t, u, v, n⟩, hA, hx, hlt, hc⟩ := h.at_ hk
  exact ⟨b, off, p, t, u, v, n, hA, hx, hlt, hc 0 _ rfl, hc 1 _ rfl, hc 2 _ rfl, hc 3 _ rfl, hc 4 _ rfl⟩
def rankV (l : List SolvedV) (p : Int) : RankV := ⟨p, (sumsV l p).total, (sumsV l p).time, (sumsV l p).wrong, (sumsV l p).rows⟩
theorem rankV_eq (l : List SolvedV) (p : Int) : rankV l p = ⟨p, (sumsV l p).total, (sumsV l p).time, (sumsV l p).wrong, (sumsV l p).rows⟩ := rfl
/-- Who is better. -/
def betB (a b : RankV) : Bool := if a.total = b.total then (if a.time = b.time then decide (a.wrong < b.wrong) else decide (a.time < b.time)) else decide (b.total < a.total)
theorem betB_total {a b : RankV} (h : ¬ a.total = b.total) : betB a b = decide (b.total < a.total) := if_neg h
theorem betB_time {a b : RankV} (h : a.total = b.total) (h2 : ¬ a.time = b.time) : betB a b = decide (a.time < b.time) := by simp [betB, h, h2]
theorem betB_wrong {a b : RankV} (h : a.total = b.total) (h2 : a.time = b.time) : betB a b = decide (a.wrong < b.wrong) := by simp [betB, h, h2]
/-- Is this row the first one of its pupil. -/
def newB (l : List SolvedV) : Nat → Bool
  | 0 => true
  | j + 1 => match l[j]?, l[j + 1]? with
    | some x, some y => (x.pupil != y.pupil)
    | _, _ => false
theorem newB_zero (l : List SolvedV) : newB l 0 = true := rfl
theorem newB_succ {l : List SolvedV} {j : Nat} {x y : SolvedV} (hx : l[j]? = some x) (hy : l[j + 1]? = some y) : newB l (j + 1) = (x.pupil != y.pupil) := by simp [newB, hx, hy]
def pupA (l : List SolvedV) : Nat → List Int
  | 0 => []
  | k + 1 => match l[k]? with
    | some x => if newB l k = true then pupA l k ++ [x.pupil] else pupA l k
    | none => pupA l k
theorem pupA_zero (l : List SolvedV) : pupA l 0 = [] := rfl
theorem pupA_yes {l : List SolvedV} {k : Nat} {x : SolvedV} (hx : l[k]? = some x) (h : newB l k = true) : pupA l (k + 1) = pupA l k ++ [x.pupil] := by simp [pupA, hx, h]
theorem pupA_no {l : List SolvedV} {k : Nat} {x : SolvedV} (hx : l[k]? = some x) (h : newB l k = false) : pupA l (k + 1) = pupA l k := by simp [pupA, hx, h]
theorem pupA_len (l : List SolvedV) (k : Nat) : (pupA l k).length ≤ k := by
  induction k with
  | zero => simp [pupA]
  | succ k ih =>
    simp only [pupA]
    split
    · split
      · simp; omega
      · omega
    · omega
def pupV (l : List SolvedV) : List Int := pupA l l.length
theorem pupV_eq (l : List SolvedV) : pupV l = pupA l l.length := rfl
def cntB {α : Type} (f : α → Bool) (l : List α) (k : Nat) : Int := (((l.take k).filter f).length : Nat)
theorem cntB_zero {α : Type} (f : α → Bool) (l : List α) : cntB f l 0 = 0 := by simp [cntB]
theorem cntB_yes {α : Type} {f : α → Bool} {l : List α} {k : Nat} {x : α} (hx : l[k]? = some x) (h : f x = true) : cntB f l (k + 1) = cntB f l k + 1 := by
  unfold cntB; rw [take_snoc' hx, List.filter_append]; simp [h]
theorem cntB_no {α : Type} {f : α → Bool} {l : List α} {k : Nat} {x : α} (hx : l[k]? = some x) (h : f x = false) : cntB f l (k + 1) = cntB f l k := by
  unfold cntB; rw [take_snoc' hx, List.filter_append]; simp [h]
theorem cntB_bd {α : Type} (f : α → Bool) (l : List α) (k : Nat) : 0 ≤ cntB f l k ∧ cntB f l k ≤ k := by
  have h1 := List.length_filter_le f (l.take k)
  have h2 := List.length_take_le k l
  unfold cntB; omega
theorem cntB_map {α β : Type} (f : β → Bool) (g : α → β) (l : List α) (k : Nat) : cntB f (l.map g) k = cntB (fun x => f (g x)) l k := by
  unfold cntB; rw [← List.map_take, List.filter_map, List.length_map]; rfl
def placV (l : List SolvedV) (p : Int) : Int := 1 + cntB (fun q => betB (rankV l q) (rankV l p)) (pupV l) (pupV l).length
theorem placV_eq (l : List SolvedV) (p : Int) : placV l p = 1 + cntB (fun q => betB (rankV l q) (rankV l p)) (pupV l) (pupV l).length := rfl
theorem placV_eq' (l : List SolvedV) (p : Int) : placV l p = 1 + cntB (fun o => betB o (rankV l p)) ((pupV l).map (rankV l)) ((pupV l).map (rankV l)).length := by rw [cntB_map, List.length_map]; rfl
attribute [irreducible] betB pupA cntB placV newB

set_option maxHeartbeats 1600000 in
theorem better_any (p1 t1 u1 v1 n1 p2 t2 u2 v2 n2 : Int) (w : World) :
    Calls Try.prog 89 #[.agg #[.int .i64 p1, .int .i64 t1, .int .i64 u1, .int .i64 v1, .int .i64 n1], .agg #[.int .i64 p2, .int .i64 t2, .int .i64 u2, .int .i64 v2, .int .i64 n2]] w fun e w' => e = .returned (.bool (betB ⟨p1, t1, u1, v1, n1⟩ ⟨p2, t2, u2, v2, n2⟩)) ∧ Below w.heap.size w w' := by
  by_cases ht : t1 = t2
  · by_cases hu : u1 = u2
    · rw [betB_wrong ht hu]
      have g1 : (t1 != t2) = false := by simp [ht]
      have g2 : (u1 != u2) = false := by simp [hu]
      clear ht hu
      go_enter Try.func89, Try.ntmps89
      go_wp2
      go_ret
      refine ⟨rfl, ?_⟩
      repeat (first | exact Below.refl _ _ | (refine Below.setCell ?_ (by first | omega | (simp; done) | (simp; omega)) _) | (refine Below.alloc ?_ (by first | omega | (simp; done) | (simp; omega)) _) | (refine below_drewN ?_ _))
    · rw [betB_time ht hu]
      have g1 : (t1 != t2) = false := by simp [ht]
      have g2 : (u1 != u2) = true := by simp [hu]
      clear ht hu
      go_enter Try.func89, Try.ntmps89
      go_wp2
      go_ret
      refine ⟨rfl, ?_⟩
      repeat (first | exact Below.refl _ _ | (refine Below.setCell ?_ (by first | omega | (simp; done) | (simp; omega)) _) | (refine Below.alloc ?_ (by first | omega | (simp; done) | (simp; omega)) _) | (refine below_drewN ?_ _))
  · rw [betB_total ht]
    have g1 : (t1 != t2) = true := by simp [ht]
    clear ht
    go_enter Try.func89, Try.ntmps89
    go_wp2
    go_ret
    refine ⟨rfl, ?_⟩
    repeat (first | exact Below.refl _ _ | (refine Below.setCell ?_ (by first | omega | (simp; done) | (simp; omega)) _) | (refine Below.alloc ?_ (by first | omega | (simp; done) | (simp; omega)) _) | (refine below_drewN ?_ _))

set_option maxHeartbeats 1600000 in
theorem l18Better_any (A : Option Addr) (c : Nat) (l : List SolvedV) (a b : Int) (w : World) (hn : l.length ≤ 16777216) (h : RdT solvedT w A l) :
    Calls Try.prog 88 #[.slice A l.length c, .int .i64 a, .int .i64 b] w fun e w' => e = .returned (.bool (betB (rankV l a) (rankV l b))) ∧ Below w.heap.size w w' := by
  have hR := fun p W (g : RdT solvedT W A l) => l18Sums_any A c l p W hn g
  rw [rankV_eq, rankV_eq]
  by_cases ht : (sumsV l a).total = (sumsV l b).total
  · by_cases hu : (sumsV l a).time = (sumsV l b).time
    · rw [betB_wrong ht hu]
      have g1 : ((sumsV l a).total != (sumsV l b).total) = false := by simp [ht]
      have g2 : ((sumsV l a).time != (sumsV l b).time) = false := by simp [hu]
      clear ht hu
      have HR := Lib.hid hR
      clear hR
      go_enter Try.func88, Try.ntmps88
      go_wp2_with fail
      refine (HR.out a _ h).mono ?_
      rintro e w1 ⟨rfl, hb1⟩
      go_wp2_with fail
      refine (HR.out b _ (h.below hb1 (Nat.le_refl _))).mono ?_
      rintro e w2 ⟨rfl, hb2⟩
      go_wp2
      go_ret
      exact ⟨rfl, hb1.trans (hb2.mono hb1.size)⟩
    · rw [betB_time ht hu]
      have g1 : ((sumsV l a).total != (sumsV l b).total) = false := by simp [ht]
      have g2 : ((sumsV l a).time != (sumsV l b).time) = true := by simp [hu]
      clear ht hu
      have HR := Lib.hid hR
      clear hR
      go_enter Try.func88, Try.ntmps88
      go_wp2_with fail
      refine (HR.out a _ h).mono ?_
      rintro e w1 ⟨rfl, hb1⟩
      go_wp2_with fail
      refine (HR.out b _ (h.below hb1 (Nat.le_refl _))).mono ?_
      rintro e w2 ⟨rfl, hb2⟩
      go_wp2
      go_ret
      exact ⟨rfl, hb1.trans (hb2.mono hb1.size)⟩
  · rw [betB_total ht]
    have g1 : ((sumsV l a).total != (sumsV l b).total) = true := by simp [ht]
    clear ht
    have HR := Lib.hid hR
    clear hR
    go_enter Try.func88, Try.ntmps88
    go_wp2_with fail
    refine (HR.out a _ h).mono ?_
    rintro e w1 ⟨rfl, hb1⟩
    go_wp2_with fail
    refine (HR.out b _ (h.below hb1 (Nat.le_refl _))).mono ?_
    rintro e w2 ⟨rfl, hb2⟩
    go_wp2
    go_ret
    exact ⟨rfl, hb1.trans (hb2.mono hb1.size)⟩

set_option maxHeartbeats 1600000 in
theorem l18Pupils_any (A : Option Addr) (c : Nat) (l : List SolvedV) (w : World) (hn : l.length ≤ 1000000) (h : RdT solvedT w A l) :
    Calls Try.prog 74 #[.slice A l.length c] w fun e w' => ∃ A' c', e = .returned (.slice A' (pupV l).length c') ∧ OwnI w' w.heap.size (.slice A' (pupV l).length c') (pupV l) ∧ Below w.heap.size w w' := by
  rw [pupV_eq]
  go_enter Try.func74, Try.ntmps74
  go_wp2
  go_loopw [3, 4] (fun o i wr => ∃ (k : Nat) (A' : Option Addr) (c' : Nat), k ≤ l.length ∧ i = .int .i64 k ∧ o = .slice A' (pupA l k).length c' ∧ OwnI wr w.heap.size (.slice A' (pupA l k).length c') (pupA l k) ∧ Below w.heap.size w wr) (fun _ i _ => l.length - (intOf i).toNat)
  case atStart => exact ⟨0, _, 0, by omega, rfl, by rw [pupA_zero]; rfl, by rw [pupA_zero]; exact World.ownsRow_lit w #[] 0 (Nat.le_refl _) (by unfold maxLen; omega) rfl, (Below.refl _ _).alloc (Nat.le_refl _) _⟩
  case round =>
    obtain ⟨k, A', c', hk, rfl, rfl, ho, hb⟩ := hrel
    have hz := hb.size
    have hr := h.below hb (Nat.le_refl _)
    have hpl := pupA_len l k
    by_cases hlt : k < l.length
    · obtain ⟨b, off, p, hh, r, q, t, hA, hx, hlb, hc0, hc1, hc2, hc3, hc4⟩ := solvedT_at hr hlt
      cases hnb : newB l k
      · obtain ⟨j, rfl⟩ : ∃ j, k = j + 1 := by
          cases k with
          | zero => unfold newB at hnb; cases hnb
          | succ j => exact ⟨j, rfl⟩
        obtain ⟨b', off', p', hh', r', q', t', hA', hx', _, hd0, _⟩ := solvedT_at hr (k := j) (by omega)
        rw [hA] at hA'
        injection hA' with hA'
        injection hA' with e1 e2 _
        subst e1 e2 hA
        have E := Lib.hid (pupA_no hx hnb)
        have g1 : (p' != p) = false := by rw [newB_succ hx' hx] at hnb; exact hnb
        have g2 : ((j : Int) + 1 == 0) = false := by simp; omega
        have gw : IntKind.i64.wrap (j : Int) = (j : Int) := IntWalk.i64_in _ (by omega)
        have gj : (0 : Int) ≤ (j : Int) := by omega
        have gl : (j : Int) < (l.length : Int) := by omega
        have gt : (j : Int).toNat = j := by omega
        clear hx hx' hnb
        go_wp2_with fail
        go_quiet (fail)
        go_wp2
        go_roundw
        case rel => exact ⟨j + 1 + 1, A', c', by omega, by go_num, by rw [E.out], by rw [E.out]; exact ho, below_drewN hb _⟩
        case measure => simp [intOf]; omega
      · have E := Lib.hid (pupA_yes hx hnb)
        subst hA
        cases k with
        | zero =>
          clear hx hnb
          simp only [Nat.zero_mul, Nat.add_zero] at hc0 hc1 hc2 hc3 hc4
          have g2 : ((0 : Int) == 0) = true := rfl
          go_wp2_with fail
          go_quiet (fail)
          go_wp2_with (at_builtin; refine wpList_app_int rfl _ _ rfl w.heap.size _ _ rfl (ho.drewN nq) w.heap.size w (below_drewN hb nq) p 1 1 rfl rfl (by omega) hz (Nat.le_refl _) ?_; intro A3 c3 w3 hown3 hb3 hgr3)
          go_roundw
          case rel => exact ⟨1, A3, c3, by omega, by go_num, by rw [E.out, List.length_append]; rfl, by rw [E.out]; rw [List.length_append]; exact hown3, hb3⟩
          case measure => simp [intOf]; omega
        | succ j =>
          obtain ⟨b', off', p', hh', r', q', t', hA', hx', _, hd0, _⟩ := solvedT_at hr (k := j) (by omega)
          injection hA' with hA'
          injection hA' with e1 e2 _
          subst e1 e2
          have g1 : (p' != p) = true := by rw [newB_succ hx' hx] at hnb; exact hnb
          have g2 : ((j : Int) + 1 == 0) = false := by simp; omega
          have gw : IntKind.i64.wrap (j : Int) = (j : Int) := IntWalk.i64_in _ (by omega)
          have gj : (0 : Int) ≤ (j : Int) := by omega
          have gl : (j : Int) < (l.length : Int) := by omega
          have gt : (j : Int).toNat = j := by omega
          clear hx hx' hnb
          go_wp2_with fail
          go_quiet (fail)
          clear gw gt gj gl
          go_wp2_with (at_builtin; refine wpList_app_int rfl _ _ rfl w.heap.size _ _ rfl (ho.drewN nq) w.heap.size w (below_drewN hb nq) p 1 1 rfl rfl (by omega) hz (Nat.le_refl _) ?_; intro A3 c3 w3 hown3 hb3 hgr3)
          go_roundw
          case rel => exact ⟨j + 1 + 1, A3, c3, by omega, by go_num, by rw [E.out, List.length_append]; rfl, by rw [E.out]; rw [List.length_append]; exact hown3, hb3⟩
          case measure => simp [intOf]; omega
    · obtain rfl : k = l.length := by omega
      go_wp2
      go_ret
      exact ⟨A', c', rfl, ho, hb⟩

set_option maxHeartbeats 1600000 in
theorem l18Place_any (A : Option Addr) (c : Nat) (l : List SolvedV) (p : Int) (w : World) (hn : l.length ≤ 1000000) (h : RdT solvedT w A l) :
    Calls Try.prog 77 #[.slice A l.length c, .int .i64 p] w fun e w' => e = .returned (.int .i64 (placV l p)) ∧ Below w.heap.size w w' := by
  have hP := l18Pupils_any A c l w hn h
  have hB := fun q W (g : RdT solvedT W A l) => l18Better_any A c l q p W (by omega) g
  have hV := placV_eq l p
  have hpl := pupA_len l l.length
  rw [← pupV_eq] at hpl
  have hcb := cntB_bd (fun q => betB (rankV l q) (rankV l p)) (pupV l)
  have hc0 := cntB_zero (fun q => betB (rankV l q) (rankV l p)) (pupV l)
  have hcy := fun k x (hx : (pupV l)[k]? = some x) hh => cntB_yes (f := fun q => betB (rankV l q) (rankV l p)) hx hh
  have hcn := fun k x (hx : (pupV l)[k]? = some x) hh => cntB_no (f := fun q => betB (rankV l q) (rankV l p)) hx hh
  generalize placV l p = V at *
  generalize pupV l = ps at *
  generalize cntB (fun q => betB (rankV l q) (rankV l p)) ps = C at *
  have HB := Lib.hid hB
  have HV := Lib.hid hV
  clear hB hV
  go_enter Try.func77, Try.ntmps77
  go_wp2_with fail
  refine hP.mono ?_
  rintro e w1 ⟨A1, c1, rfl, ho, hb1⟩
  have hz1 := hb1.size
  go_wp2
  go_loopw [5, 7] (fun n i wr => ∃ k : Nat, k ≤ ps.length ∧ i = .int .i64 k ∧ n = .int .i64 (1 + C k) ∧ Below w1.heap.size w1 wr) (fun _ i _ => ps.length - (intOf i).toNat)
  case atStart => exact ⟨0, by omega, rfl, by rw [hc0]; rfl, Below.refl _ _⟩
  case round =>
    obtain ⟨k, hk, rfl, rfl, hb⟩ := hrel
    have hz := hb.size
    have hr := ho.rd.below hb (Nat.le_refl _)
    have hrl := (h.below hb1 (Nat.le_refl _)).below hb (Nat.le_refl _)
    have hck := hcb k
    clear hc0 hcb
    by_cases hlt : k < ps.length
    · obtain ⟨b, off, q, rfl, hx, hlb, hcx⟩ := hr.at_ hlt
      cases hq : betB (rankV l q) (rankV l p)
      · have E := Lib.hid (hcn k q hx hq)
        clear hcy hcn hx
        go_wp2_with (go_at_call 88; refine (HB.out q _ hrl).mono ?_; rintro e w2 ⟨rfl, hb2⟩; rw [hq])
        go_roundw
        case rel => exact ⟨k + 1, by omega, by go_num, by rw [E.out], hb.trans (hb2.mono hz)⟩
        case measure => simp [intOf]; omega
      · have E := Lib.hid (hcy k q hx hq)
        clear hcy hcn hx
        go_wp2_with (go_at_call 88; refine (HB.out q _ hrl).mono ?_; rintro e w2 ⟨rfl, hb2⟩; rw [hq])
        go_roundw
        case rel => exact ⟨k + 1, by omega, by go_num, by rw [E.out]; go_num, hb.trans (hb2.mono hz)⟩
        case measure => simp [intOf]; omega
    · obtain rfl : k = ps.length := by omega
      go_wp2
      go_ret
      exact ⟨by rw [HV.out]; rfl, hb1.trans (hb.mono hz1)⟩

set_option maxHeartbeats 1600000 in
theorem placeOf_any (A : Option Addr) (c : Nat) (all : List RankV) (p t u v n : Int) (w : World) (hn : all.length ≤ 1000000) (h : RdT rankT w A all) :
    Calls Try.prog 78 #[.slice A all.length c, .agg #[.int .i64 p, .int .i64 t, .int .i64 u, .int .i64 v, .int .i64 n]] w fun e w' => e = .returned (.int .i64 (1 + cntB (fun o => betB o ⟨p, t, u, v, n⟩) all all.length)) ∧ Below w.heap.size w w' := by
  have hB := fun a b c d e W => better_any a b c d e p t u v n W
  have hcb := cntB_bd (fun o => betB o ⟨p, t, u, v, n⟩) all
  have hc0 := cntB_zero (fun o => betB o ⟨p, t, u, v, n⟩) all
  have hcy := fun k x (hx : all[k]? = some x) hh => cntB_yes (f := fun o => betB o ⟨p, t, u, v, n⟩) hx hh
  have hcn := fun k x (hx : all[k]? = some x) hh => cntB_no (f := fun o => betB o ⟨p, t, u, v, n⟩) hx hh
  generalize cntB (fun o => betB o ⟨p, t, u, v, n⟩) all = C at *
  have HB := Lib.hid hB
  clear hB
  go_enter Try.func78, Try.ntmps78
  go_wp2
  go_loopw [5, 10] (fun m i wr => ∃ k : Nat, k ≤ all.length ∧ i = .int .i64 k ∧ m = .int .i64 (1 + C k) ∧ Below (w.heap.size + 1) (w.alloc (.cells #[.int .i64 p, .int .i64 t, .int .i64 u, .int .i64 v, .int .i64 n] 69)) wr) (fun _ i _ => all.length - (intOf i).toNat)
  case atStart => exact ⟨0, by omega, rfl, by rw [hc0]; rfl, Below.refl _ _⟩
  case round =>
    obtain ⟨k, hk, rfl, rfl, hb⟩ := hrel
    have hz : w.heap.size + 1 ≤ wr.heap.size := by have := hb.size; simpa using this
    have hr := (h.below ((Below.refl _ _).alloc (Nat.le_refl _) _) (Nat.le_refl _)).below hb (by simp)
    have hck := hcb k
    have hown := box_cells (w := w) (w2 := wr) (by simpa using hb)
    have hbx := hown.2
    clear hc0 hcb hown
    by_cases hlt : k < all.length
    · obtain ⟨b, off, p', t', u', v', n', rfl, hx, hlb, hd0, hd1, hd2, hd3, hd4⟩ := rank_at hr hlt
      have hne : ¬ w.heap.size = wr.heap.size := by omega
      have hne' : ¬ wr.heap.size = w.heap.size := by omega
      have hwl : w.heap.size < wr.heap.size := by omega
      have b0 : wr.cell? ⟨w.heap.size, 0, none⟩ = some (.int .i64 p) := hbx 0
      have b1 : wr.cell? ⟨w.heap.size, 1, none⟩ = some (.int .i64 t) := hbx 1
      have b2 : wr.cell? ⟨w.heap.size, 2, none⟩ = some (.int .i64 u) := hbx 2
      have b3 : wr.cell? ⟨w.heap.size, 3, none⟩ = some (.int .i64 v) := hbx 3
      have b4 : wr.cell? ⟨w.heap.size, 4, none⟩ = some (.int .i64 n) := hbx 4
      clear hbx
      cases hq : betB ⟨p', t', u', v', n'⟩ ⟨p, t, u, v, n⟩
      · have E := Lib.hid (hcn k _ hx hq)
        clear hcy hcn hx
        go_wp2_with (go_at_call 89; refine (HB.out p' t' u' v' n' _).mono ?_; rintro e w2 ⟨rfl, hb2⟩; rw [hq])
        go_roundw
        case rel => exact ⟨k + 1, by omega, by go_num, by rw [E.out], (hb.alloc (by simpa using hz) _).trans (hb2.mono (by simp; omega))⟩
        case measure => simp [intOf]; omega
      · have E := Lib.hid (hcy k _ hx hq)
        clear hcy hcn hx
        go_wp2_with (go_at_call 89; refine (HB.out p' t' u' v' n' _).mono ?_; rintro e w2 ⟨rfl, hb2⟩; rw [hq])
        go_roundw
        case rel => exact ⟨k + 1, by omega, by go_num, by rw [E.out]; go_num, (hb.alloc (by simpa using hz) _).trans (hb2.mono (by simp; omega))⟩
        case measure => simp [intOf]; omega
    · obtain rfl : k = all.length := by omega
      go_wp2
      go_ret
      exact ⟨rfl, ((Below.refl _ _).alloc (Nat.le_refl _) _).trans (hb.mono (Nat.le_succ _))⟩

def ranksA (l : List SolvedV) (k : Nat) : List RankV := (pupA l k).map (rankV l)
theorem ranksA_len (l : List SolvedV) (k : Nat) : (ranksA l k).length = (pupA l k).length := List.length_map _
theorem ranksA_zero (l : List SolvedV) : ranksA l 0 = [] := by unfold ranksA; rw [pupA_zero]; rfl
theorem ranksA_yes {l : List SolvedV} {k : Nat} {x : SolvedV} (hx : l[k]? = some x) (h : newB l k = true) : ranksA l (k + 1) = ranksA l k ++ [rankV l x.pupil] := by unfold ranksA; rw [pupA_yes hx h, List.map_append]; rfl
theorem ranksA_no {l : List SolvedV} {k : Nat} {x : SolvedV} (hx : l[k]? = some x) (h : newB l k = false) : ranksA l (k + 1) = ranksA l k := by unfold ranksA; rw [pupA_no hx h]
theorem ranksA_all (l : List SolvedV) : ranksA l l.length = (pupV l).map (rankV l) := rfl
attribute [irreducible] ranksA
set_option maxRecDepth 100000 in
set_option maxHeartbeats 4000000 in
theorem allRanked_any (A : Option Addr) (c : Nat) (l : List SolvedV) (w : World) (hn : l.length ≤ 1000000) (h : RdT solvedT w A l) :
    Calls Try.prog 76 #[.slice A l.length c] w fun e w' => ∃ A' c', e = .returned (.slice A' ((pupV l).map (rankV l)).length c') ∧ OwnT rankT w' w.heap.size (.slice A' ((pupV l).map (rankV l)).length c') ((pupV l).map (rankV l)) ∧ Below w.heap.size w w' := by
  rw [← ranksA_all]
  have hR := fun p W (g : RdT solvedT W A l) => rankedOf_any A c l p W (by omega) g
  go_enter Try.func76, Try.ntmps76
  go_wp2
  go_loopw [3, 8] (fun o i wr => ∃ (k : Nat) (A' : Option Addr) (c' : Nat), k ≤ l.length ∧ i = .int .i64 k ∧ o = .slice A' (ranksA l k).length c' ∧ OwnT rankT wr w.heap.size (.slice A' (ranksA l k).length c') (ranksA l k) ∧ Below w.heap.size w wr) (fun _ i _ => l.length - (intOf i).toNat)
  case atStart => exact ⟨0, none, 0, by omega, rfl, by rw [ranksA_zero]; rfl, by rw [ranksA_zero]; exact OwnT.nil _ _, Below.refl _ _⟩
  case round =>
    obtain ⟨k, A', c', hk, rfl, rfl, ho, hb⟩ := hrel
    have hz := hb.size
    have hr := h.below hb (Nat.le_refl _)
    have hpl := pupA_len l k
    rw [← ranksA_len] at hpl
    by_cases hlt : k < l.length
    · obtain ⟨b, off, p, hh, r, q, t, hA, hx, hlb, hc0, hc1, hc2, hc3, hc4⟩ := solvedT_at hr hlt
      obtain ⟨bx, hbx⟩ : ∃ bx : Obj, bx = .cells #[.int .i64 p, .int .i64 hh, .int .i64 r, .int .i64 q, .int .i64 t] 25 := ⟨_, rfl⟩
      have hbA := hb.alloc hz bx
      have hoA := ho.alloc bx
      have hrA := hr.below ((Below.refl _ _).alloc (Nat.le_refl _) bx) (Nat.le_refl _)
      have hpc : (wr.alloc bx).cell? ⟨wr.heap.size, 0, none⟩ = some (.int .i64 p) := by rw [hbx]; exact cell_of_row _ _ 0 _ _ (0, 0) (heap_alloc_new wr _)
      cases hnb : newB l k
      · obtain ⟨j, rfl⟩ : ∃ j, k = j + 1 := by
          cases k with
          | zero => unfold newB at hnb; cases hnb
          | succ j => exact ⟨j, rfl⟩
        obtain ⟨b', off', p', hh', r', q', t', hA', hx', _, hd0, _⟩ := solvedT_at hr (k := j) (by omega)
        rw [hA] at hA'
        injection hA' with hA'
        injection hA' with e1 e2 _
        subst e1 e2 hA
        have E := Lib.hid (ranksA_no hx hnb)
        have g1 : (p' != p) = false := by rw [newB_succ hx' hx] at hnb; exact hnb
        have g2 : ((j : Int) + 1 == 0) = false := by simp; omega
        have gw : IntKind.i64.wrap (j : Int) = (j : Int) := IntWalk.i64_in _ (by omega)
        have gj : (0 : Int) ≤ (j : Int) := by omega
        have gl : (j : Int) < (l.length : Int) := by omega
        have gt : (j : Int).toNat = j := by omega
        have hd := box_old hd0 bx
        clear hx hx' hnb hR
        go_wp2_with fail
        rw [← hbx]
        obtain ⟨wn, hwn⟩ : ∃ wn : World, wn = wr.alloc bx := ⟨_, rfl⟩
        rw [← hwn] at hpc hd hbA hoA ⊢
        clear hwn hbx
        go_quiet (fail)
        go_wp2
        go_roundw
        case rel => exact ⟨j + 1 + 1, A', c', by omega, by go_num, by rw [E.out], by rw [E.out]; exact hoA.drewN nq, below_drewN hbA _⟩
        case measure => simp [intOf]; omega
      · have E := Lib.hid (ranksA_yes hx hnb)
        rw [rankV_eq] at E
        have HR := Lib.hid (fun W g => hR p W g)
        clear hR
        cases k with
        | zero =>
          clear hx hnb
          simp only [Nat.zero_mul, Nat.add_zero] at hc0 hc1 hc2 hc3 hc4
          subst hA
          have g2 : ((0 : Int) == 0) = true := rfl
          go_wp2_with fail
          rw [← hbx]
          obtain ⟨wn, hwn⟩ : ∃ wn : World, wn = wr.alloc bx := ⟨_, rfl⟩
          rw [← hwn] at hpc hbA hoA hrA ⊢
          clear hwn hbx
          have hzn := hbA.size
          go_quiet (fail)
          go_wp2_with fail
          refine (HR.out _ (show RdT solvedT (wn.drewN nq) _ l from hrA)).mono ?_
          rintro e w2 ⟨rfl, hb2⟩
          have hbB := (below_drewN hbA nq).trans (hb2.mono hbA.size)
          have hoB := (OwnT.drewN hoA nq).below hb2 (Nat.le_refl _)
          have hzB := hbB.size
          generalize sumsV l p = S at *
          go_wp2_with (at_builtin; refine wpList_appT rankT rfl _ _ rfl w.heap.size _ _ rfl hoB w.heap.size hbB ⟨p, S.total, S.time, S.wrong, S.rows⟩ _ rfl 1 1 rfl rfl (by omega) hzB (Nat.le_refl _) ?_; intro A3 c3 w3 hown3 hb3 hgr3)
          go_roundw
          case rel => exact ⟨1, A3, c3, by omega, by go_num, by rw [E.out, List.length_append]; rfl, by rw [E.out]; rw [List.length_append]; exact hown3, hb3⟩
          case measure => simp [intOf]; omega
        | succ j =>
          obtain ⟨b', off', p', hh', r', q', t', hA', hx', _, hd0, _⟩ := solvedT_at hr (k := j) (by omega)
          rw [hA] at hA'
          injection hA' with hA'
          injection hA' with e1 e2 _
          subst e1 e2 hA
          have g1 : (p' != p) = true := by rw [newB_succ hx' hx] at hnb; exact hnb
          have g2 : ((j : Int) + 1 == 0) = false := by simp; omega
          have gw : IntKind.i64.wrap (j : Int) = (j : Int) := IntWalk.i64_in _ (by omega)
          have gj : (0 : Int) ≤ (j : Int) := by omega
          have gl : (j : Int) < (l.length : Int) := by omega
          have gt : (j : Int).toNat = j := by omega
          have hd := box_old hd0 bx
          clear hx hx' hnb
          go_wp2_with fail
          rw [← hbx]
          obtain ⟨wn, hwn⟩ : ∃ wn : World, wn = wr.alloc bx := ⟨_, rfl⟩
          rw [← hwn] at hpc hd hbA hoA hrA ⊢
          clear hwn hbx
          have hzn := hbA.size
          go_quiet (fail)
          clear gw gt gj gl
          go_wp2_with fail
          refine (HR.out _ (show RdT solvedT (wn.drewN nq) _ l from hrA)).mono ?_
          rintro e w2 ⟨rfl, hb2⟩
          have hbB := (below_drewN hbA nq).trans (hb2.mono hbA.size)
          have hoB := (OwnT.drewN hoA nq).below hb2 (Nat.le_refl _)
          have hzB := hbB.size
          generalize sumsV l p = S at *
          go_wp2_with (at_builtin; refine wpList_appT rankT rfl _ _ rfl w.heap.size _ _ rfl hoB w.heap.size hbB ⟨p, S.total, S.time, S.wrong, S.rows⟩ _ rfl 1 1 rfl rfl (by omega) hzB (Nat.le_refl _) ?_; intro A3 c3 w3 hown3 hb3 hgr3)
          go_roundw
          case rel => exact ⟨j + 1 + 1, A3, c3, by omega, by go_num, by rw [E.out, List.length_append]; rfl, by rw [E.out]; rw [List.length_append]; exact hown3, hb3⟩
          case measure => simp [intOf]; omega
    · obtain rfl : k = l.length := by omega
      go_wp2
      go_ret
      exact ⟨A', c', rfl, ho, hb⟩
end Go.Proofs.Ytcbecfkckdalmaa
