/-
  The sums of a try: plain; contracts.
-/
import Derived.Test.YthoojcmnkhhokaaGraC
import Derived.Test.YthoojcmnkhhokaaBlk
namespace Go.Proofs.Ythoojcmnkhhokaa
set_option maxRecDepth 100000
open Go.RowKit

theorem cell_alloc_old {w : World} {a : Addr} {v : Value} (h : w.cell? a = some v) (o : Obj) : (w.alloc o).cell? a = some v := (World.cell?_alloc_lt w o a (World.block_lt_of_cell? w a h)).trans h
def fulA (s : List PartV) (k : Nat) : Int := sumTo PartV.full s k
def ptsA (l : List Int) (k : Nat) : Int := sumTo id l k
def misA (s : List PartV) (l : List Int) : Nat → Int
  | 0 => 0
  | k + 1 => match s[k]?, l[k]? with
    | some x, some n => misA s l k + max 0 (x.needed - n)
    | _, _ => misA s l k
theorem fulA_zero (s : List PartV) : fulA s 0 = 0 := sumTo_zero _ _
theorem fulA_succ {s : List PartV} {k : Nat} {x : PartV} (hx : s[k]? = some x) : fulA s (k + 1) = fulA s k + x.full := sumTo_succ _ hx
theorem ptsA_zero (l : List Int) : ptsA l 0 = 0 := sumTo_zero _ _
theorem ptsA_succ {l : List Int} {k : Nat} {x : Int} (hx : l[k]? = some x) : ptsA l (k + 1) = ptsA l k + x := sumTo_succ _ hx
theorem misA_zero (s : List PartV) (l : List Int) : misA s l 0 = 0 := rfl
theorem misA_succ {s : List PartV} {l : List Int} {k : Nat} {x : PartV} {n : Int} (hx : s[k]? = some x) (hn : l[k]? = some n) : misA s l (k + 1) = misA s l k + max 0 (x.needed - n) := by simp [misA, hx, hn]
theorem sch_part {s : List PartV} (h : schB s = true) {k : Nat} {x : PartV} (hx : s[k]? = some x) : (1 ≤ x.full ∧ x.full ≤ 100) ∧ (0 ≤ x.needed ∧ x.needed ≤ 100) := by
  have := partB_iff ((schB_iff h).2 k x hx)
  omega
theorem fulA_bd {s : List PartV} (h : schB s = true) (k : Nat) (hk : k ≤ s.length) : (k : Int) ≤ fulA s k ∧ fulA s k ≤ 100 * k := by
  induction k with
  | zero => rw [fulA_zero]; omega
  | succ k ih =>
    obtain ⟨x, hx⟩ := get_of_lt s (k := k) (by omega)
    have := sch_part h hx
    have := ih (by omega)
    rw [fulA_succ hx]; omega
theorem try_point {s : List PartV} {t : TryV} (hs : schB s = true) (h : tryB s t = true) {k : Nat} {n : Int} (hn : t.points[k]? = some n) : 0 ≤ n ∧ n ≤ 100 := by
  obtain ⟨_, _, h2, h3⟩ := tryB_iff h
  obtain ⟨x, hx⟩ := get_of_lt s (k := k) (by have := (List.getElem?_eq_some_iff.1 hn).1; omega)
  have := h3 k x n hx hn
  have := sch_part hs hx
  omega
theorem ptsA_bd {s : List PartV} {t : TryV} (hs : schB s = true) (h : tryB s t = true) (k : Nat) (hk : k ≤ t.points.length) : 0 ≤ ptsA t.points k ∧ ptsA t.points k ≤ 100 * k := by
  induction k with
  | zero => rw [ptsA_zero]; omega
  | succ k ih =>
    obtain ⟨x, hx⟩ := get_of_lt t.points (k := k) (by omega)
    have := try_point hs h hx
    have := ih (by omega)
    rw [ptsA_succ hx]; omega
theorem misA_bd {s : List PartV} {t : TryV} (hs : schB s = true) (h : tryB s t = true) (k : Nat) (hk : k ≤ s.length) : 0 ≤ misA s t.points k ∧ misA s t.points k ≤ 100 * k := by
  have h2 := (tryB_iff h).2.2.1
  induction k with
  | zero => rw [misA_zero]; omega
  | succ k ih =>
    obtain ⟨x, hx⟩ := get_of_lt s (k := k) (by omega)
    obtain ⟨n, hn⟩ := get_of_lt t.points (k := k) (by omega)
    have := try_point hs h hn
    have := sch_part hs hx
    have := ih (by omega)
    rw [misA_succ hx hn]; omega
attribute [irreducible] fulA ptsA misA
/-- What is known of a valid try. -/
theorem try_nums {s : List PartV} {t : TryV} (hs : schB s = true) (h : tryB s t = true) : s.length ≤ 6 ∧ t.points.length = s.length ∧ (1 ≤ fulA s s.length ∧ fulA s s.length ≤ 600) ∧ (0 ≤ ptsA t.points s.length ∧ ptsA t.points s.length ≤ 600) ∧ (0 ≤ misA s t.points s.length ∧ misA s t.points s.length ≤ 600) := by
  have h1 := (schB_iff hs).1
  have h2 := (tryB_iff h).2.2.1
  have h3 := fulA_bd hs s.length (Nat.le_refl _)
  have h4 := ptsA_bd hs h s.length (by omega)
  have h5 := misA_bd hs h s.length (Nat.le_refl _)
  omega

set_option maxHeartbeats 1600000 in
theorem fullOf_any (A : Option Addr) (c : Nat) (s : List PartV) (w : World) (hs : schB s = true) (h : RdT partT w A s) :
    Calls Try.prog 78 #[.slice A s.length c] w fun e w' => e = .returned (.int .i64 (fulA s s.length)) ∧ Below w.heap.size w w' := by
  have hl6 := (schB_iff hs).1
  have HB := Lib.hid (fun k hk => fulA_bd hs k hk)
  have HP := Lib.hid (fun k x hx => sch_part hs (k := k) (x := x) hx)
  have H0 := Lib.hid (fulA_zero s)
  clear hs
  go_enter Try.func78, Try.ntmps78
  go_wp2
  go_loopw [3, 8] (fun q i wr => ∃ k : Nat, k ≤ s.length ∧ i = .int .i64 k ∧ q = .int .i64 (fulA s k) ∧ Below w.heap.size w wr) (fun _ i _ => s.length - (intOf i).toNat)
  case atStart => exact ⟨0, by omega, rfl, by rw [H0.out], Below.refl _ _⟩
  case round =>
    obtain ⟨k, hk, rfl, rfl, hb⟩ := hrel
    have hz := hb.size
    obtain ⟨hb1, hb2⟩ := HB.out k hk
    by_cases hlt : k < s.length
    · obtain ⟨b, off, nm, fu, ne, rfl, hy, hlb2, hd0, hd1, hd2⟩ := partT_at (h.below hb (Nat.le_refl _)) hlt
      obtain ⟨⟨p1, p2⟩, _⟩ := HP.out k _ hy
      dsimp only at p1 p2
      have E := Lib.hid (show fulA s (k + 1) = fulA s k + fu from fulA_succ hy)
      have i1 : IntKind.i64.wrap (fulA s k + fu) = fulA s k + fu := IntWalk.i64_in _ (by omega)
      clear hy
      go_wp2
      go_roundw
      case rel => exact ⟨k + 1, by omega, by go_num, by rw [E.out], hb.alloc hz _⟩
      case measure => simp [intOf]; omega
    · obtain rfl : k = s.length := by omega
      go_wp2
      go_ret
      exact ⟨rfl, hb⟩
set_option maxHeartbeats 800000 in
theorem sum_any (A : Option Addr) (c : Nat) (l : List Int) (w : World) (h6 : l.length ≤ 1000) (hp : ∀ (k : Nat) (n : Int), l[k]? = some n → 0 ≤ n ∧ n ≤ 100) (hq : ∀ k, k ≤ l.length → 0 ≤ ptsA l k ∧ ptsA l k ≤ 100 * k) (h : RdI w A l) :
    Calls Try.prog 77 #[.slice A l.length c] w fun e w' => e = .returned (.int .i64 (ptsA l l.length)) ∧ w = w' := by
  have HP := Lib.hid hp
  have HQ := Lib.hid hq
  have H0 := Lib.hid (ptsA_zero l)
  clear hp hq
  go_enter Try.func77, Try.ntmps77
  go_wp2
  go_loop [3, 8] (fun q i => ∃ k : Nat, k ≤ l.length ∧ i = .int .i64 k ∧ q = .int .i64 (ptsA l k)) (fun _ i => l.length - (intOf i).toNat)
  case atStart => exact ⟨0, by omega, rfl, by rw [H0.out]⟩
  case round =>
    obtain ⟨k, hk, rfl, rfl⟩ := hrel
    obtain ⟨hb1, hb2⟩ := HQ.out k hk
    by_cases hlt : k < l.length
    · obtain ⟨b, off, x, rfl, hx, _, hc⟩ := h.at_ hlt
      obtain ⟨p1, p2⟩ := HP.out k x hx
      have E := Lib.hid (ptsA_succ hx)
      have i1 : IntKind.i64.wrap (ptsA l k + x) = ptsA l k + x := IntWalk.i64_in _ (by omega)
      clear hx
      go_wp2
      go_round
      case rel => exact ⟨k + 1, by omega, by go_num, by rw [E.out]⟩
      case measure => simp [intOf]; omega
    · obtain rfl : k = l.length := by omega
      go_wp2
      go_ret
      exact ⟨rfl, rfl⟩
theorem sumT_any {s : List PartV} {t : TryV} (hs : schB s = true) (ht : tryB s t = true) (A : Option Addr) (c : Nat) (w : World) (h : RdI w A t.points) :
    Calls Try.prog 77 #[.slice A t.points.length c] w fun e w' => e = .returned (.int .i64 (ptsA t.points s.length)) ∧ w = w' := by
  have h2 := try_nums hs ht
  have := sum_any A c t.points w (by omega) (fun k n hn => try_point hs ht hn) (fun k hk => ptsA_bd hs ht k hk) h
  rw [h2.2.1] at this ⊢
  exact this

set_option maxHeartbeats 3200000 in
theorem missing_any (A : Option Addr) (c : Nat) (s : List PartV) (pu gr : Int) (B : Option Addr) (d : Nat) (l : List Int) (w : World) (hs : schB s = true) (ht : tryB s ⟨pu, gr, l⟩ = true) (h : RdT partT w A s) (hr : RdI w B l) :
    Calls Try.prog 80 #[.slice A s.length c, .agg #[.int .i64 pu, .int .i64 gr, .slice B l.length d]] w fun e w' => e = .returned (.int .i64 (misA s l s.length)) ∧ Below w.heap.size w w' := by
  obtain ⟨hl6, hls, _, _, _⟩ := try_nums hs ht
  dsimp only at hls
  have hls1 : l.length ≤ s.length := Nat.le_of_eq hls
  have hls2 : s.length ≤ l.length := Nat.le_of_eq hls.symm
  have HB := Lib.hid (fun k hk => misA_bd hs ht k hk)
  have HP := Lib.hid (fun k x hx => sch_part hs (k := k) (x := x) hx)
  have HT := Lib.hid (fun k n (hn : l[k]? = some n) => try_point hs ht (k := k) (n := n) hn)
  have H0 := Lib.hid (misA_zero s l)
  obtain ⟨wb, hwb⟩ : ∃ wb : World, wb = w.alloc (.cells #[.int .i64 pu, .int .i64 gr, .slice B l.length d] 35) := ⟨_, rfl⟩
  have hbb : Below w.heap.size w wb := by rw [hwb]; exact (Below.refl _ _).alloc (Nat.le_refl _) _
  have BB : Blk wb w.heap.size 35 #[.int .i64 pu, .int .i64 gr, .slice B l.length d] := by rw [hwb]; exact Blk.new _ _ _
  have hbl := BB.lt
  have u2 : wb.cell? ⟨w.heap.size, 2, none⟩ = some (.slice B l.length d) := BB.cell 2
  have h := h.below hbb (Nat.le_refl _)
  have hr := hr.below hbb (Nat.le_refl _)
  clear hs ht hls BB
  go_enter Try.func80, Try.ntmps80
  go_wp2
  rw [← hwb]
  clear hwb
  go_loopw [5, 10] (fun q i wr => ∃ k : Nat, k ≤ s.length ∧ i = .int .i64 k ∧ q = .int .i64 (misA s l k) ∧ Below wb.heap.size wb wr) (fun _ i _ => s.length - (intOf i).toNat)
  case atStart => exact ⟨0, by omega, rfl, by rw [H0.out], Below.refl _ _⟩
  case round =>
    obtain ⟨k, hk, rfl, rfl, hb⟩ := hrel
    have hz := hb.size
    obtain ⟨hb1, hb2⟩ := HB.out k hk
    by_cases hlt : k < s.length
    · obtain ⟨b, off, nm, fu, ne, rfl, hy, hlb2, hd0, hd1, hd2⟩ := partT_at (h.below hb (Nat.le_refl _)) hlt
      obtain ⟨b2, o2, x, rfl, hx, hlb3, hc⟩ := (hr.below hb (Nat.le_refl _)).at_ (k := k) (by omega)
      obtain ⟨_, p1, p2⟩ := HP.out k _ hy
      obtain ⟨p3, p4⟩ := HT.out k x hx
      dsimp only at p1 p2
      have v2 := (hb.cell (p := ⟨w.heap.size, 2, none⟩) hbl).trans u2
      have E := Lib.hid (show misA s l (k + 1) = misA s l k + max 0 (ne - x) from misA_succ hy hx)
      have i0 : IntKind.i64.wrap (ne - x) = ne - x := IntWalk.i64_in _ (by omega)
      have j1 : (k : Int) < (l.length : Int) := by omega
      clear hy hx
      obtain ⟨bx, hbx⟩ : ∃ bx : Obj, bx = .cells #[.string nm, .int .i64 fu, .int .i64 ne] 71 := ⟨_, rfl⟩
      have hbA := hb.alloc hz bx
      obtain ⟨wn, hwn⟩ : ∃ wn : World, wn = wr.alloc bx := ⟨_, rfl⟩
      have BN : Blk wn wr.heap.size 71 #[.string nm, .int .i64 fu, .int .i64 ne] := by rw [hwn, hbx]; exact Blk.new _ _ _
      have n2 : wn.cell? ⟨wr.heap.size, 2, none⟩ = some (.int .i64 ne) := BN.cell 2
      have v2' : wn.cell? ⟨w.heap.size, 2, none⟩ = some (.slice (some ⟨b2, o2, none⟩) l.length d) := by rw [hwn]; exact cell_alloc_old v2 bx
      have hc' : wn.cell? ⟨b2, o2 + k, none⟩ = some (.int .i64 x) := by rw [hwn]; exact cell_alloc_old hc bx
      rw [← hwn] at hbA
      by_cases hm : 0 < ne - x
      · have e1 : max 0 (ne - x) = ne - x := by omega
        rw [e1] at E
        have dm : decide (0 < ne - x) = true := decide_eq_true hm
        have i1 : IntKind.i64.wrap (misA s l k + (ne - x)) = misA s l k + (ne - x) := IntWalk.i64_in _ (by omega)
        clear e1 BN hc v2
        go_wp2_with fail
        rw [← hbx, ← hwn]
        clear hbx hwn
        go_quiet (fail)
        go_wp2
        go_roundw
        case rel => exact ⟨k + 1, by omega, by go_num, by rw [E.out], below_drewN hbA _⟩
        case measure => simp [intOf]; omega
      · have e1 : max 0 (ne - x) = 0 := by omega
        rw [e1] at E
        have dm : decide (0 < ne - x) = false := decide_eq_false hm
        have i1 : IntKind.i64.wrap (misA s l k + 0) = misA s l k + 0 := IntWalk.i64_in _ (by omega)
        clear e1 BN hc v2
        go_wp2_with fail
        rw [← hbx, ← hwn]
        clear hbx hwn
        go_quiet (fail)
        go_wp2
        go_roundw
        case rel => exact ⟨k + 1, by omega, by go_num, by rw [E.out]; first | rfl | simp, below_drewN hbA _⟩
        case measure => simp [intOf]; omega
    · obtain rfl : k = s.length := by omega
      go_wp2
      go_ret
      exact ⟨rfl, hbb.trans (hb.mono hbb.size)⟩
end Go.Proofs.Ythoojcmnkhhokaa
