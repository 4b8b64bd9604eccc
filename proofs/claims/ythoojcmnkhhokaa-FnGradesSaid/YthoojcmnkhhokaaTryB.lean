/-
  Tries copied, counted, marked: contracts.
-/
import Derived.Test.YthoojcmnkhhokaaTry
import Derived.Test.YthoojcmnkhhokaaBlk
namespace Go.Proofs.Ythoojcmnkhhokaa
set_option maxRecDepth 100000
open Go.RowKit

set_option maxHeartbeats 1600000 in
theorem toTry_any (p g : Int) (A : Option Addr) (c : Nat) (l : List Int) (w : World) (hn : l.length ≤ 1048576) (h : RdI w A l) :
    Calls Try.prog 22 #[.agg #[.int .i64 p, .int .i64 g, .slice A l.length c]] w fun e w' => ∃ A' c', e = .returned (.agg #[.int .i64 p, .int .i64 g, .slice A' l.length c']) ∧ OwnI w' w.heap.size (.slice A' l.length c') l ∧ Below w.heap.size w w' := by
  go_enter Try.func22, Try.ntmps22
  go_wp2_with fail
  obtain ⟨w1, hw1⟩ : ∃ w1 : World, w1 = ((w.alloc (.cells #[.int .i64 p, .int .i64 g, .slice A l.length c] 31)).alloc (.cells #[.int .i64 0, .int .i64 0, .slice none 0 0] 35)).alloc (.cells #[.int .i64 p, .int .i64 g, .slice none 0 0] 35) := ⟨_, rfl⟩
  have hb1 : Below w.heap.size w w1 := by rw [hw1]; exact (((Below.refl _ _).alloc (Nat.le_refl _) _).alloc (by simp) _).alloc (by simp; omega) _
  have B2 : Blk w1 (w.heap.size + 1) 35 #[.int .i64 0, .int .i64 0, .slice none 0 0] := by rw [hw1]; exact (Blk.new1 w _ _ _).alloc _
  have B3 : Blk w1 (w.heap.size + 1 + 1) 35 #[.int .i64 p, .int .i64 g, .slice none 0 0] := by
    rw [hw1]
    have h := Blk.new1 (w.alloc (.cells #[.int .i64 p, .int .i64 g, .slice A l.length c] 31)) (.cells #[.int .i64 0, .int .i64 0, .slice none 0 0] 35) 35 #[.int .i64 p, .int .i64 g, .slice none 0 0]
    rw [show (w.alloc (.cells #[.int .i64 p, .int .i64 g, .slice A l.length c] 31)).heap.size = w.heap.size + 1 by simp] at h
    exact h
  rw [← hw1]
  have hl3 := B3.lt
  clear hw1
  refine (toIntS_any A c l w1 hn (h.below hb1 (Nat.le_refl _))).mono ?_
  rintro e w2 ⟨A', c', rfl, ho, hb2⟩
  have C2 := B2.below hb2 B2.lt
  have C3 := B3.below hb2 B3.lt
  have k0 := C2.cell 0
  have k1 := C2.cell 1
  have k2 := C2.cell 2
  have kf := fun i => C2.frozen i
  have m0 := C3.cell 0
  have m1 := C3.cell 1
  have m2 := C3.cell 2
  have mf := fun i => C3.frozen i
  have ho' := fun k hk => OwnI.lt ho k hk
  have hb3 := hb1.trans (hb2.mono hb1.size)
  go_wp2
  refine bodyPost_ret (v := .agg #[.int .i64 p, .int .i64 g, .slice A' l.length c']) (by simp [results, Try.results22, go_sem, k0, k1, k2]) rfl ⟨A', c', rfl, ?_, ?_⟩
  · refine OwnI.mono (own_same ho (fun k hk => ?_)) hb1.size
    have := ho' k hk
    repeat (first | rfl | (rw [Below.heap_setCell _ _ _ _ (by simp; omega)]))
  · repeat (first | exact hb3 | (refine Below.setCell ?_ (by first | omega | (simp; done) | (simp; omega)) _))

set_option maxHeartbeats 1600000 in
theorem eqTryS_same (A1 A2 : Option Addr) (n m c1 c2 : Nat) (ps qs : List (TryH × List Int)) (w : World) (hn : n = ps.length) (hm : m = qs.length) (hl : n ≤ 16777216) (hpq : ps.map toV = qs.map toV) (hsm : ∀ p ∈ ps, p.2.length ≤ 16777216) (h1 : RdY tryT w A1 ps) (h2 : RdY tryT w A2 qs) :
    Calls Try.prog 31 #[.slice A1 n c1, .slice A2 m c2] w fun e w' => e = .returned (.bool true) ∧ Below w.heap.size w w' := by
  have hmn := tries_len hpq
  obtain rfl : n = m := by omega
  have HPQ := Lib.hid (fun k p q => tries_at hpq (k := k) (p := p) (q := q))
  clear hpq hm
  have e1 : (decide ((n : Int) = n)) = true := by simp
  go_enter Try.func31, Try.ntmps31
  go_wp2
  go_loopw [5] (fun i wr => ∃ k : Nat, k ≤ n ∧ i = .int .i64 k ∧ RdY tryT wr A1 ps ∧ RdY tryT wr A2 qs ∧ Below w.heap.size w wr) (fun i _ => n - (intOf i).toNat)
  case atStart => exact ⟨0, by omega, rfl, h1, h2, Below.refl _ _⟩
  case round =>
    obtain ⟨k, hk, rfl, g1, g2, hb⟩ := hrel
    clear h1 h2
    by_cases hlt : k < n
    · obtain ⟨b1, o1, pu, gr, A3, c3, l1, rfl, hx1, hl1, hc0, hc1, hc2, hr1⟩ := g1.atT (k := k) (by omega)
      obtain ⟨b2, o2, pu2, gr2, A4, c4, l2, rfl, hx2, hl2, hd0, hd1, hd2, hr2⟩ := g2.atT (k := k) (by omega)
      obtain ⟨e1', e2', e3'⟩ := HPQ.out k _ _ hx1 hx2
      dsimp only at e1' e2' e3'
      have hs1 := hsm _ (List.mem_of_getElem? hx1)
      dsimp only at hs1
      clear hx1 hx2
      subst e1' e2' e3'
      go_wp2_with fail
      go_still_tail 8, (by kernel_rfl)
      change wpList _ _ _ _ _ wr.drew
      go_wp2_with (go_at_call 24; refine (eqTry_same pu gr A3 A4 c3 c4 l1 wr.drew hs1 (by exact hr1) (by exact hr2)).mono ?_; rintro e w2 ⟨rfl, hb2⟩)
      go_roundw
      case rel => exact ⟨k + 1, by omega, by go_num, g1.below (w := wr) (B := wr.heap.size) ((Below.refl _ _).drew.trans hb2) (Nat.le_refl _), g2.below (w := wr) (B := wr.heap.size) ((Below.refl _ _).drew.trans hb2) (Nat.le_refl _), hb.trans (((Below.refl _ _).drew.trans hb2).mono hb.size)⟩
      case measure => simp [intOf]; omega
    · go_wp2
      go_ret
      exact ⟨rfl, hb⟩

/-! ### counted -/
def totY : List (TryH × List Int) → Nat
  | [] => 0
  | p :: r => p.2.length + totY r
theorem totY_append (a b : List (TryH × List Int)) : totY (a ++ b) = totY a + totY b := by
  induction a with
  | nil => simp [totY]
  | cons p a ih => simp only [List.cons_append, totY, ih]; omega
theorem totY_succ {ps : List (TryH × List Int)} {j : Nat} {p : TryH × List Int} (h : ps[j]? = some p) : totY (ps.take (j + 1)) = totY (ps.take j) + p.2.length := by
  rw [take_snoc' h, totY_append]; simp [totY]
theorem totY_zero (ps : List (TryH × List Int)) : totY (ps.take 0) = 0 := by simp [totY]
theorem totY_mem {ps : List (TryH × List Int)} {p : TryH × List Int} (h : p ∈ ps) : p.2.length ≤ totY ps := by
  induction ps with
  | nil => cases h
  | cons q ps ih =>
    simp only [totY]
    rcases List.mem_cons.1 h with rfl | h
    · omega
    · have := ih h; omega
theorem totY_map {ps qs : List (TryH × List Int)} (h : ps.map toV = qs.map toV) : totY ps = totY qs := by
  induction ps generalizing qs with
  | nil => cases qs with
    | nil => rfl
    | cons q qs => simp at h
  | cons p ps ih =>
    cases qs with
    | nil => simp at h
    | cons q qs =>
      simp only [List.map_cons, List.cons.injEq] at h
      simp only [totY]
      rw [ih h.2]
      have := h.1
      simp only [toV] at this
      injection this with _ _ e3
      rw [e3]
set_option maxHeartbeats 1600000 in
theorem szTryS_any (A : Option Addr) (c : Nat) (ps : List (TryH × List Int)) (left : Int) (w : World) (h0 : 0 ≤ left) (h1 : left ≤ 1048576) (hn : ps.length ≤ maxLen) (hr : RdY tryL w A ps) (hok : ∀ p ∈ ps, p.2.length ≤ maxLen) :
    Calls Try.prog 27 #[.slice A ps.length c, .int .i64 left] w fun e w' => (∃ r : Int, e = .returned (.int .i64 r) ∧ (r < 0 ∨ (0 ≤ r ∧ r ≤ left ∧ (ps.length : Int) + totY ps ≤ left))) ∧ Below w.heap.size w w' := by
  unfold maxLen at hn
  by_cases h : left < ps.length
  · go_enter Try.func27, Try.ntmps27
    go_wp2
    go_ret
    exact ⟨⟨_, rfl, .inl (by omega)⟩, Below.refl _ _⟩
  · go_enter Try.func27, Try.ntmps27
    go_wp2
    go_loopw [1, 5] (fun q i wr => ∃ (k : Nat) (r : Int), k ≤ ps.length ∧ i = .int .i64 k ∧ q = .int .i64 r ∧ 0 ≤ r ∧ Hid (r = left - ps.length - totY (ps.take k)) ∧ RdY tryL wr A ps ∧ Below w.heap.size w wr) (fun _ i _ => ps.length - (intOf i).toNat)
    case atStart => exact ⟨0, _, by omega, rfl, rfl, by omega, Lib.hid (by rw [totY_zero]; omega), hr, Below.refl _ _⟩
    case round =>
      obtain ⟨k, r, hk, rfl, rfl, hr0, HR, hrd, hb⟩ := hrel
      have hr1 : r ≤ 1048576 := by have := HR.out; omega
      have hz := hb.size
      by_cases hlt : k < ps.length
      · obtain ⟨b, off, pu, gr, A2, c2, l, rfl, hx, hlb, hc0, hc1, hc2, _⟩ := hrd.atL hlt
        have hw : l.length ≤ maxLen := hok _ (List.mem_of_getElem? hx)
        unfold maxLen at hw
        have hw2 : l.length ≤ 9223372036854775807 := by omega
        clear hw
        have HT := Lib.hid (totY_succ hx)
        by_cases hs : r < l.length
        · clear hx
          go_wp2_with (go_at_call 20; refine (szTry_any pu gr A2 l.length c2 r _ hr0 (by omega) hw2).mono ?_; rintro e w2 ⟨rfl, hb2⟩; rw [if_pos hs])
          go_ret
          exact ⟨⟨_, rfl, .inl (by omega)⟩, hb.trans (hb2.mono hz)⟩
        · clear hx
          go_wp2_with (go_at_call 20; refine (szTry_any pu gr A2 l.length c2 r _ hr0 (by omega) hw2).mono ?_; rintro e w2 ⟨rfl, hb2⟩; rw [if_neg hs])
          go_roundw
          case rel => exact ⟨k + 1, _, by omega, by go_num, rfl, by omega, Lib.hid (by rw [HT.out, HR.out]; omega), hrd.below hb2 (Nat.le_refl _), hb.trans (hb2.mono hz)⟩
          case measure => simp [intOf]; omega
      · obtain rfl : k = ps.length := by omega
        have H := Lib.hid (show r ≤ left ∧ (ps.length : Int) + totY ps ≤ left by have := HR.out; rw [List.take_length] at this; omega)
        clear HR
        go_wp2
        go_ret
        exact ⟨⟨_, rfl, .inr ⟨hr0, H.out.1, H.out.2⟩⟩, hb⟩
end Go.Proofs.Ythoojcmnkhhokaa
