/-
  Is a try valid, are tries valid: plain; contracts.
-/
import Derived.Test.YthoojcmnkhhokaaGraB
import Derived.Test.YthoojcmnkhhokaaTry
import Derived.Test.YthoojcmnkhhokaaList0
namespace Go.Proofs.Ythoojcmnkhhokaa
set_option maxRecDepth 100000
open Go.RowKit

def okPt (s : List PartV) (pts : List Int) (k : Nat) : Bool := match s[k]?, pts[k]? with
  | some x, some n => inB n 0 x.full
  | _, _ => true
theorem okPt_at {s : List PartV} {pts : List Int} {k : Nat} {x : PartV} {n : Int} (hx : s[k]? = some x) (hn : pts[k]? = some n) : okPt s pts k = inB n 0 x.full := by simp [okPt, hx, hn]
def ptTo (s : List PartV) (pts : List Int) : Nat → Bool
  | 0 => true
  | k + 1 => ptTo s pts k && okPt s pts k
theorem ptTo_zero (s : List PartV) (pts : List Int) : ptTo s pts 0 = true := rfl
theorem ptTo_succ {s : List PartV} {pts : List Int} {k : Nat} (h : ptTo s pts k = true) (h2 : okPt s pts k = true) : ptTo s pts (k + 1) = true := by simp [ptTo, h, h2]
theorem ptTo_bad {s : List PartV} {pts : List Int} {k m : Nat} (hk : okPt s pts k = false) (hm : k < m) : ptTo s pts m = false := by
  induction m with
  | zero => omega
  | succ m ih =>
    simp only [ptTo]
    by_cases e : k = m
    · rw [← e, hk]; simp
    · rw [ih (by omega)]; rfl
theorem ptTo_all {s : List PartV} {pts : List Int} {m : Nat} (h : ptTo s pts m = true) {k : Nat} (hk : k < m) : okPt s pts k = true := by
  cases e : okPt s pts k
  · rw [ptTo_bad e hk] at h; cases h
  · rfl
def tryB (s : List PartV) (t : TryV) : Bool := inB t.pupil 1 999 && inB t.grade 1 10 && decide (t.points.length = s.length) && ptTo s t.points s.length
theorem tryB_pupil {s : List PartV} {t : TryV} (h : inB t.pupil 1 999 = false) : tryB s t = false := by simp [tryB, h]
theorem tryB_grade {s : List PartV} {t : TryV} (h : inB t.grade 1 10 = false) : tryB s t = false := by simp [tryB, h]
theorem tryB_len {s : List PartV} {t : TryV} (h : ¬ t.points.length = s.length) : tryB s t = false := by simp [tryB, h]
theorem tryB_pt {s : List PartV} {t : TryV} {k : Nat} (h : okPt s t.points k = false) (hk : k < s.length) : tryB s t = false := by simp [tryB, ptTo_bad h hk]
theorem tryB_yes {s : List PartV} {t : TryV} (h0 : inB t.pupil 1 999 = true) (h1 : inB t.grade 1 10 = true) (h2 : t.points.length = s.length) (h3 : ptTo s t.points s.length = true) : tryB s t = true := by simp [tryB, h0, h1, h2, h3]
theorem tryB_iff {s : List PartV} {t : TryV} (h : tryB s t = true) : (1 ≤ t.pupil ∧ t.pupil ≤ 999) ∧ (1 ≤ t.grade ∧ t.grade ≤ 10) ∧ t.points.length = s.length ∧ ∀ (k : Nat) (x : PartV) (n : Int), s[k]? = some x → t.points[k]? = some n → 0 ≤ n ∧ n ≤ x.full := by
  simp only [tryB, Bool.and_eq_true, inB_iff, decide_eq_true_eq] at h
  obtain ⟨⟨⟨h0, h1⟩, h2⟩, h3⟩ := h
  refine ⟨h0, h1, h2, fun k x n hx hn => ?_⟩
  have := ptTo_all h3 (List.getElem?_eq_some_iff.1 hx).1
  rw [okPt_at hx hn, inB_iff] at this
  exact this
def oneB (s : List PartV) (t : TryV) : Bool := schB s && tryB s t
def goodB (s : List PartV) (ts : List TryV) : Bool := schB s && decide (ts.length ≤ 10) && ts.all (tryB s)
theorem goodB_sch {s : List PartV} {ts : List TryV} (h : schB s = false) : goodB s ts = false := by simp [goodB, h]
theorem goodB_long {s : List PartV} {ts : List TryV} (h : ¬ ts.length ≤ 10) : goodB s ts = false := by simp [goodB, h]
theorem goodB_bad {s : List PartV} {ts : List TryV} {k : Nat} {t : TryV} (hx : ts[k]? = some t) (h : tryB s t = false) : goodB s ts = false := by simp [goodB, all_bad (tryB s) hx h]
theorem goodB_yes {s : List PartV} {ts : List TryV} (h0 : schB s = true) (h1 : ts.length ≤ 10) (h2 : ts.all (tryB s) = true) : goodB s ts = true := by simp [goodB, h0, h1, h2]
theorem goodB_iff {s : List PartV} {ts : List TryV} (h : goodB s ts = true) : schB s = true ∧ ts.length ≤ 10 ∧ ∀ t ∈ ts, tryB s t = true := by
  simp only [goodB, Bool.and_eq_true, decide_eq_true_eq, List.all_eq_true] at h
  exact ⟨h.1.1, h.1.2, h.2⟩
attribute [irreducible] okPt ptTo tryB

set_option maxHeartbeats 400000 in
theorem isId_any (n : Int) (w : World) : Calls Try.prog 96 #[.int .i64 n] w fun e w' => e = .returned (.bool (inB n 1 999)) ∧ w = w' := by
  go_enter Try.func96, Try.ntmps96
  go_wp2_with (go_at_call 69; refine (within_any _ _ _ _).mono ?_; rintro e w' ⟨rfl, rfl⟩)
  go_ret
  exact ⟨rfl, rfl⟩

set_option maxHeartbeats 8000000 in
theorem isTry_any (A : Option Addr) (c : Nat) (s : List PartV) (pu gr : Int) (B : Option Addr) (d : Nat) (l : List Int) (w : World) (hn : s.length ≤ 16777216) (_hl : l.length ≤ 16777216) (h : RdT partT w A s) (hr : RdI w B l) :
    Calls Try.prog 76 #[.slice A s.length c, .agg #[.int .i64 pu, .int .i64 gr, .slice B l.length d]] w fun e w' => e = .returned (.bool (tryB s ⟨pu, gr, l⟩)) ∧ Below w.heap.size w w' := by
  have hb : Below w.heap.size w (w.alloc (.cells #[.int .i64 pu, .int .i64 gr, .slice B l.length d] 35)) := (Below.refl _ _).alloc (Nat.le_refl _) _
  have h := h.below hb (Nat.le_refl _)
  have hr := hr.below hb (Nat.le_refl _)
  cases g0 : inB pu 1 999
  · rw [tryB_pupil (by exact g0)]
    go_enter Try.func76, Try.ntmps76
    go_wp2_with (first | (go_at_call 96; refine (isId_any _ _).mono ?_; rintro e w' ⟨rfl, rfl⟩; rw [g0]) | (go_at_call 69; refine (within_any _ _ _ _).mono ?_; rintro e w' ⟨rfl, rfl⟩))
    go_ret
    exact ⟨rfl, hb⟩
  cases g1 : inB gr 1 10
  · rw [tryB_grade (by exact g1)]
    go_enter Try.func76, Try.ntmps76
    go_wp2_with (first | (go_at_call 96; refine (isId_any _ _).mono ?_; rintro e w' ⟨rfl, rfl⟩; rw [g0]) | (go_at_call 69; refine (within_any _ _ _ _).mono ?_; rintro e w' ⟨rfl, rfl⟩; rw [g1]))
    go_ret
    exact ⟨rfl, hb⟩
  by_cases hls : l.length = s.length
  · have g2 : ((l.length : Int) != (s.length : Int)) = false := by simp; omega
    have HY := Lib.hid (fun h3 => tryB_yes (s := s) (t := ⟨pu, gr, l⟩) g0 g1 hls h3)
    have hll : l.length ≤ s.length := Nat.le_of_eq hls
    have hll2 : s.length ≤ l.length := Nat.le_of_eq hls.symm
    have HLS := Lib.hid hls
    clear hls
    go_enter Try.func76, Try.ntmps76
    go_wp2_with (first | (go_at_call 96; refine (isId_any _ _).mono ?_; rintro e w' ⟨rfl, rfl⟩; rw [g0]) | (go_at_call 69; refine (within_any _ _ _ _).mono ?_; rintro e w' ⟨rfl, rfl⟩; rw [g1]))
    clear g0 g1 g2
    go_loop [28] (fun i => ∃ k : Nat, k ≤ l.length ∧ i = .int .i64 k ∧ Hid (ptTo s l k = true)) (fun i => l.length - (intOf i).toNat)
    case atStart => exact ⟨0, by omega, rfl, Lib.hid (ptTo_zero s l)⟩
    case round =>
      obtain ⟨k, hk, rfl, hall⟩ := hrel
      by_cases hlt : k < l.length
      · obtain ⟨b, off, x, rfl, hx, hlb, hc⟩ := hr.at_ hlt
        obtain ⟨b2, off2, nm, fu, ne, rfl, hy, hlb2, hd0, hd1, hd2⟩ := partT_at h (k := k) (by omega)
        cases g3 : inB x 0 fu
        · have E := Lib.hid (tryB_pt (s := s) (t := ⟨pu, gr, l⟩) (k := k) (by rw [okPt_at hy (by exact hx)]; exact g3) (by omega))
          clear hx hy hall
          go_wp2_with (go_at_call 69; refine (within_any _ _ _ _).mono ?_; rintro e w' ⟨rfl, rfl⟩; rw [g3])
          go_ret
          exact ⟨by rw [E.out]; rfl, hb⟩
        · have HA := Lib.hid (ptTo_succ hall.out (by rw [okPt_at hy hx]; exact g3))
          clear hx hy hall
          go_wp2_with (go_at_call 69; refine (within_any _ _ _ _).mono ?_; rintro e w' ⟨rfl, rfl⟩; rw [g3])
          go_round
          case rel => exact ⟨k + 1, by omega, by go_num, HA⟩
          case measure => simp [intOf]; omega
      · have E := Lib.hid (HY.out (by have := hall.out; rwa [show k = s.length by omega] at this))
        clear hall
        go_wp2
        go_ret
        exact ⟨by rw [E.out]; rfl, hb⟩
  · have g2 : ((l.length : Int) != (s.length : Int)) = true := by simp; omega
    rw [tryB_len hls]
    clear hls
    go_enter Try.func76, Try.ntmps76
    go_wp2_with (first | (go_at_call 96; refine (isId_any _ _).mono ?_; rintro e w' ⟨rfl, rfl⟩; rw [g0]) | (go_at_call 69; refine (within_any _ _ _ _).mono ?_; rintro e w' ⟨rfl, rfl⟩; rw [g1]))
    go_ret
    exact ⟨rfl, hb⟩

set_option maxHeartbeats 8000000 in
theorem l17One_any (A : Option Addr) (c : Nat) (s : List PartV) (pu gr : Int) (B : Option Addr) (d : Nat) (l : List Int) (w : World) (hn : s.length ≤ 16777216) (_hl : l.length ≤ 16777216) (h : RdT partT w A s) (hok : ∀ x ∈ s, x.ok) (hr : RdI w B l) :
    Calls Try.prog 73 #[.slice A s.length c, .agg #[.int .i64 pu, .int .i64 gr, .slice B l.length d]] w fun e w' => e = .returned (.bool (oneB s ⟨pu, gr, l⟩)) ∧ Below w.heap.size w w' := by
  obtain ⟨wb, hwb⟩ : ∃ wb : World, wb = w.alloc (.cells #[.int .i64 pu, .int .i64 gr, .slice B l.length d] 35) := ⟨_, rfl⟩
  have hb : Below w.heap.size w wb := by rw [hwb]; exact (Below.refl _ _).alloc (Nat.le_refl _) _
  have hbl : w.heap.size < wb.heap.size := by rw [hwb]; simp
  have u0 : wb.cell? ⟨w.heap.size, 0, none⟩ = some (.int .i64 pu) := by rw [hwb]; exact cell_of_row _ _ 0 _ _ (0, 0) (heap_alloc_new w _)
  have u1 : wb.cell? ⟨w.heap.size, 1, none⟩ = some (.int .i64 gr) := by rw [hwb]; exact cell_of_row _ _ 1 _ _ (0, 0) (heap_alloc_new w _)
  have u2 : wb.cell? ⟨w.heap.size, 2, none⟩ = some (.slice B l.length d) := by rw [hwb]; exact cell_of_row _ _ 2 _ _ (0, 0) (heap_alloc_new w _)
  have hS := Lib.hid (fun W g => l17Scheme_any A c s W hn g hok)
  have h := h.below hb (Nat.le_refl _)
  have hr := hr.below hb (Nat.le_refl _)
  have HE : Hid (oneB s ⟨pu, gr, l⟩ = (schB s && tryB s ⟨pu, gr, l⟩)) := Lib.hid rfl
  generalize oneB s ⟨pu, gr, l⟩ = R at *
  go_enter Try.func73, Try.ntmps73
  go_wp2_with fail
  rw [← hwb]
  clear hwb
  refine (hS.out _ h).mono ?_
  rintro e w1 ⟨rfl, hb1⟩
  have v0 := (hb1.cell (p := ⟨w.heap.size, 0, none⟩) hbl).trans u0
  have v1 := (hb1.cell (p := ⟨w.heap.size, 1, none⟩) hbl).trans u1
  have v2 := (hb1.cell (p := ⟨w.heap.size, 2, none⟩) hbl).trans u2
  have h := h.below hb1 (Nat.le_refl _)
  have hr := hr.below hb1 (Nat.le_refl _)
  have hb := hb.trans (hb1.mono hb.size)
  clear u0 u1 u2 hb1 hS
  cases gs : schB s
  · have E := Lib.hid (show R = false by rw [HE.out, gs]; rfl)
    go_wp2
    go_ret
    exact ⟨by rw [E.out]; rfl, hb⟩
  cases g0 : inB pu 1 999
  · have E := Lib.hid (show R = false by rw [HE.out, tryB_pupil (by exact g0)]; simp)
    go_wp2_with (go_at_call 95; refine (l1In_any _ _ _ _).mono ?_; rintro e w' ⟨rfl, rfl⟩; rw [g0])
    go_ret
    exact ⟨by rw [E.out]; rfl, hb⟩
  cases g1 : inB gr 1 10
  · have E := Lib.hid (show R = false by rw [HE.out, tryB_grade (by exact g1)]; simp)
    go_wp2_with (go_at_call 95; refine (l1In_any _ _ _ _).mono ?_; rintro e w' ⟨rfl, rfl⟩; first | rw [g0] | rw [g1])
    go_ret
    exact ⟨by rw [E.out]; rfl, hb⟩
  by_cases hls : l.length = s.length
  · have g2 : ((l.length : Int) != (s.length : Int)) = false := by simp; omega
    have HY := Lib.hid (fun h3 => show R = true by rw [HE.out, gs, tryB_yes (s := s) (t := ⟨pu, gr, l⟩) g0 g1 hls h3]; rfl)
    have HN := Lib.hid (fun (ht : tryB s ⟨pu, gr, l⟩ = false) => show R = false by rw [HE.out, ht]; simp)
    have hll : l.length ≤ s.length := Nat.le_of_eq hls
    have hll2 : s.length ≤ l.length := Nat.le_of_eq hls.symm
    clear hls
    go_wp2_with (go_at_call 95; refine (l1In_any _ _ _ _).mono ?_; rintro e w' ⟨rfl, rfl⟩; first | rw [g0] | rw [g1])
    clear g0 g1 g2 gs
    go_loopw [5] (fun i wr => ∃ k : Nat, k ≤ s.length ∧ i = .int .i64 k ∧ Hid (ptTo s l k = true) ∧ Below w1.heap.size w1 wr) (fun i _ => s.length - (intOf i).toNat)
    case atStart => exact ⟨0, by omega, rfl, Lib.hid (ptTo_zero s l), Below.refl _ _⟩
    case round =>
      obtain ⟨k, hk, rfl, hall, hbr⟩ := hrel
      have hl1 : w.heap.size < w1.heap.size := by have := World.block_lt_of_cell? w1 _ v2; exact this
      have x2 := (hbr.cell (p := ⟨w.heap.size, 2, none⟩) hl1).trans v2
      by_cases hlt : k < s.length
      · obtain ⟨b, off, x, rfl, hx, hlb, hc⟩ := (hr.below hbr (Nat.le_refl _)).at_ (k := k) (by omega)
        obtain ⟨b2, off2, nm, fu, ne, rfl, hy, hlb2, hd0, hd1, hd2⟩ := partT_at (h.below hbr (Nat.le_refl _)) hlt
        have j1 : (k : Int) < (l.length : Int) := by omega
        cases g3 : inB x 0 fu
        · have E := Lib.hid (HN.out (tryB_pt (s := s) (t := ⟨pu, gr, l⟩) (k := k) (by rw [okPt_at hy (by exact hx)]; exact g3) (by omega)))
          clear hx hy hall
          go_wp2_with fail
          go_quiet ((go_at_call 95; exact Calls.quiet_of_same (same_symm (l1In_any _ _ _ _))))
          go_wp2
          go_ret
          exact ⟨by rw [E.out]; rfl, hb.trans ((below_drewN hbr _).mono hb.size)⟩
        · have HA := Lib.hid (ptTo_succ hall.out (by rw [okPt_at hy hx]; exact g3))
          clear hx hy hall
          go_wp2_with fail
          go_quiet ((go_at_call 95; exact Calls.quiet_of_same (same_symm (l1In_any _ _ _ _))))
          go_wp2
          go_roundw
          case rel => exact ⟨k + 1, by omega, by go_num, HA, below_drewN hbr _⟩
          case measure => simp [intOf]; omega
      · have E := Lib.hid (HY.out (by have := hall.out; rwa [show k = s.length by omega] at this))
        clear hall
        go_wp2
        go_ret
        exact ⟨by rw [E.out]; rfl, hb.trans (hbr.mono hb.size)⟩
  · have g2 : ((l.length : Int) != (s.length : Int)) = true := by simp; omega
    have E := Lib.hid (show R = false by rw [HE.out, tryB_len (by exact hls)]; simp)
    clear hls
    go_wp2_with (go_at_call 95; refine (l1In_any _ _ _ _).mono ?_; rintro e w' ⟨rfl, rfl⟩; first | rw [g0] | rw [g1])
    go_ret
    exact ⟨by rw [E.out]; rfl, hb⟩
end Go.Proofs.Ythoojcmnkhhokaa
