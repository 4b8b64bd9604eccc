/-
  Try, a struct with a slice of ints: owned, read; the helpers of the laws over slices of it: counted, copied, equal, marked.
-/
import Derived.Test.YthoojcmnkhhokaaAppW
import Derived.Test.YthoojcmnkhhokaaField
namespace Go.Proofs.Ythoojcmnkhhokaa
set_option maxRecDepth 100000
open Go.RowKit

structure TryV where
  pupil : Int
  grade : Int
  points : List Int
/-- A try as it lies in cells. -/
structure TryH where
  pupil : Int
  grade : Int
  A : Option Addr
  n : Nat
  c : Nat
def TryH.val (h : TryH) : Value := .slice h.A h.n h.c
def toV (p : TryH × List Int) : TryV := ⟨p.1.pupil, p.1.grade, p.2⟩
def tryT : Ty TryH where
  enc x := [.int .i64 x.pupil, .int .i64 x.grade, .slice x.A x.n x.c]
  sz := 3
  e := 35
  st := 42
  bytes := 40
  zero := ⟨0, 0, none, 0, 0⟩
  zv := .agg #[.int .i64 0, .int .i64 0, .slice none 0 0]
  henc _ := rfl
  one _ u hu := by simp at hu; rcases hu with rfl | rfl | rfl <;> rfl
  hsz := by decide
  hz := rfl
  hst := Try.underlying42
  info := by kernel_rfl
  hbytes := by decide
def tryL : Ty TryH where
  enc x := [.int .i64 x.pupil, .int .i64 x.grade, .slice x.A x.n x.c]
  sz := 3
  e := 31
  st := 39
  bytes := 40
  zero := ⟨0, 0, none, 0, 0⟩
  zv := .agg #[.int .i64 0, .int .i64 0, .slice none 0 0]
  henc _ := rfl
  one _ u hu := by simp at hu; rcases hu with rfl | rfl | rfl <;> rfl
  hsz := by decide
  hz := rfl
  hst := Try.underlying39
  info := by kernel_rfl
  hbytes := by decide
structure RdY (T : Ty TryH) (w : World) (A : Option Addr) (ps : List (TryH × List Int)) : Prop where
  rd : RdT T w A (ps.map Prod.fst)
  row : ∀ p ∈ ps, p.1.n = p.2.length ∧ RdI w p.1.A p.2
structure OwnY (w : World) (base : Nat) (v : Value) (ps : List (TryH × List Int)) : Prop where
  own : OwnT tryT w base v (ps.map Prod.fst)
  row : ∀ p ∈ ps, p.1.n = p.2.length ∧ OwnI w base p.1.val p.2
  apart : ps.Pairwise fun p q => ApartV p.1.val q.1.val
def BlkY (v : Value) (hs : List TryH) (k : Nat) : Prop := v.ownBlock = some k ∨ ∃ h ∈ hs, h.val.ownBlock = some k
theorem try_int : tryT.e ≠ 3 := by decide
section
variable {T : Ty TryH} {w w' : World} {base n c : Nat} {A : Option Addr} {v : Value} {ps : List (TryH × List Int)}
theorem OwnY.apartO (h : OwnY w base v ps) {p : TryH × List Int} (hp : p ∈ ps) : ApartV v p.1.val := own_apart h.own (h.row p hp).2 try_int
theorem OwnY.rd (h : OwnY w base (.slice A n c) ps) : RdY tryT w A ps := ⟨h.own.rd, fun p hp => ⟨(h.row p hp).1, OwnI.rd (h.row p hp).2⟩⟩
theorem OwnY.lt (h : OwnY w base v ps) : ∀ k, BlkY v (ps.map Prod.fst) k → base ≤ k ∧ k < w.heap.size := by
  rintro k (hk | ⟨q, hq, hk⟩)
  · exact h.own.lt k hk
  · obtain ⟨p, hp, rfl⟩ := List.mem_map.1 hq
    exact OwnI.lt (h.row p hp).2 k hk
theorem OwnY.same (h : OwnY w base v ps) (hs : ∀ k, BlkY v (ps.map Prod.fst) k → w'.heap[k]? = w.heap[k]?) : OwnY w' base v ps :=
  ⟨own_same h.own (fun k hk => hs k (.inl hk)), fun p hp => ⟨(h.row p hp).1, own_same (h.row p hp).2 (fun k hk => hs k (.inr ⟨p.1, List.mem_map.2 ⟨p, hp, rfl⟩, hk⟩))⟩, h.apart⟩
theorem OwnY.below {B : Nat} (h : OwnY w base v ps) (hb : Below B w w') (hB : w.heap.size ≤ B) : OwnY w' base v ps := h.same (fun k hk => hb.block k (by have := (h.lt k hk).2; omega))
theorem OwnY.kept {row : Option Nat} (h : OwnY w base v ps) (hg : w.grownBy w' row) (hne : ∀ k, row = some k → ¬ BlkY v (ps.map Prod.fst) k) : OwnY w' base v ps :=
  h.same (fun k hk => hg.block k (h.lt k hk).2 (fun e => hne k e.symm hk))
theorem RdY.below {B : Nat} (h : RdY T w A ps) (hb : Below B w w') (hB : w.heap.size ≤ B) : RdY T w' A ps := ⟨h.rd.below hb hB, fun p hp => ⟨(h.row p hp).1, (h.row p hp).2.below hb hB⟩⟩
theorem RdY.atT (h : RdY tryT w A ps) {k : Nat} (hk : k < ps.length) : ∃ b off p g A' c' l, A = some ⟨b, off, none⟩ ∧ ps[k]? = some (⟨p, g, A', l.length, c'⟩, l) ∧ b < w.heap.size ∧ w.cell? ⟨b, off + k * 3, none⟩ = some (.int .i64 p) ∧ w.cell? ⟨b, off + k * 3 + 1, none⟩ = some (.int .i64 g) ∧ w.cell? ⟨b, off + k * 3 + 2, none⟩ = some (.slice A' l.length c') ∧ RdI w A' l := by
  obtain ⟨b, off, ⟨p, g, A', n', c'⟩, hA, hx, hlt, hc⟩ := h.rd.at_ (k := k) (by rw [List.length_map]; exact hk)
  have hp : ps[k]? = some (ps[k]'hk) := List.getElem?_eq_getElem hk
  obtain ⟨hn, hr⟩ := h.row _ (List.mem_of_getElem? hp)
  rw [List.getElem?_map, hp] at hx
  generalize ps[k]'hk = q at *
  obtain ⟨⟨p2, g2, A2, n2, c2⟩, l⟩ := q
  simp only [Option.map_some, Option.some.injEq] at hx
  injection hx with e1 e2 e3 e4 e5
  subst e1 e2 e3 e4 e5
  dsimp only at hn hr
  subst hn
  exact ⟨b, off, p2, g2, A2, c2, l, hA, hp, hlt, hc 0 _ rfl, hc 1 _ rfl, hc 2 _ rfl, hr⟩
theorem RdY.atL (h : RdY tryL w A ps) {k : Nat} (hk : k < ps.length) : ∃ b off p g A' c' l, A = some ⟨b, off, none⟩ ∧ ps[k]? = some (⟨p, g, A', l.length, c'⟩, l) ∧ b < w.heap.size ∧ w.cell? ⟨b, off + k * 3, none⟩ = some (.int .i64 p) ∧ w.cell? ⟨b, off + k * 3 + 1, none⟩ = some (.int .i64 g) ∧ w.cell? ⟨b, off + k * 3 + 2, none⟩ = some (.slice A' l.length c') ∧ RdI w A' l := by
  obtain ⟨b, off, ⟨p, g, A', n', c'⟩, hA, hx, hlt, hc⟩ := h.rd.at_ (k := k) (by rw [List.length_map]; exact hk)
  have hp : ps[k]? = some (ps[k]'hk) := List.getElem?_eq_getElem hk
  obtain ⟨hn, hr⟩ := h.row _ (List.mem_of_getElem? hp)
  rw [List.getElem?_map, hp] at hx
  generalize ps[k]'hk = q at *
  obtain ⟨⟨p2, g2, A2, n2, c2⟩, l⟩ := q
  simp only [Option.map_some, Option.some.injEq] at hx
  injection hx with e1 e2 e3 e4 e5
  subst e1 e2 e3 e4 e5
  dsimp only at hn hr
  subst hn
  exact ⟨b, off, p2, g2, A2, c2, l, hA, hp, hlt, hc 0 _ rfl, hc 1 _ rfl, hc 2 _ rfl, hr⟩
end
theorem tries_len {ps qs : List (TryH × List Int)} (h : ps.map toV = qs.map toV) : ps.length = qs.length := by
  have := congrArg List.length h
  simpa using this
theorem tries_at {ps qs : List (TryH × List Int)} (h : ps.map toV = qs.map toV) {k : Nat} {p q : TryH × List Int} (hp : ps[k]? = some p) (hq : qs[k]? = some q) : p.1.pupil = q.1.pupil ∧ p.1.grade = q.1.grade ∧ p.2 = q.2 := by
  have := congrArg (·[k]?) h
  simp only [List.getElem?_map, hp, hq, Option.map_some, Option.some.injEq, toV] at this
  injection this with e1 e2 e3
  exact ⟨e1, e2, e3⟩

/-! ### slices of ints: counted, copied -/
set_option maxHeartbeats 400000 in
theorem szIntS_any (A : Option Addr) (n c : Nat) (left : Int) (w : World) (h0 : 0 ≤ left) (h1 : left ≤ 1048576) (hn : n ≤ 9223372036854775807) :
    Calls Try.prog 72 #[.slice A n c, .int .i64 left] w fun e w' => e = .returned (.int .i64 (if left < n then -1 else left - n)) ∧ w = w' := by
  by_cases h : left < n
  · rw [if_pos h]
    go_enter Try.func72, Try.ntmps72
    go_wp2
    go_ret
    exact ⟨rfl, rfl⟩
  · rw [if_neg h]
    go_enter Try.func72, Try.ntmps72
    go_wp2
    go_ret
    exact ⟨rfl, rfl⟩
set_option maxHeartbeats 1600000 in
theorem toIntS_any (A : Option Addr) (c : Nat) (l : List Int) (w : World) (hn : l.length ≤ 1048576) (h : RdI w A l) :
    Calls Try.prog 75 #[.slice A l.length c] w fun e w' => ∃ A' c', e = .returned (.slice A' l.length c') ∧ OwnI w' w.heap.size (.slice A' l.length c') l ∧ Below w.heap.size w w' := by
  go_enter Try.func75, Try.ntmps75
  go_wp2_with (at_make; refine wpList_makeT (w0 := w) (B := w.heap.size) intT rfl _ _ rfl w.heap.size _ _ l.length rfl rfl rfl rfl (by omega) (Nat.le_refl _) (Below.refl _ _) (Nat.le_refl _) ?_; intro w1 hown1 hb1 hgr1)
  have hown2 := own_int.1 hown1
  rw [show List.replicate l.length intT.zero = copyTo l 0 0 from (copyTo_zero l 0).symm] at hown2
  clear hown1
  go_loopw [4] (fun i wr => ∃ k : Nat, k ≤ l.length ∧ i = .int .i64 k ∧ OwnI wr w.heap.size (.slice (some ⟨w.heap.size, 0, none⟩) l.length l.length) (copyTo l 0 k) ∧ Below w.heap.size w wr) (fun i _ => l.length - (intOf i).toNat)
  case atStart => exact ⟨0, by omega, rfl, hown2, hb1⟩
  case round =>
    obtain ⟨k, hk, rfl, hown, hb⟩ := hrel
    by_cases hlt : k < l.length
    · obtain ⟨b, off, x, rfl, hx, hlb, hc⟩ := (h.below hb (Nat.le_refl _)).at_ hlt
      have hy : (copyTo l 0 k)[k]? = some ((copyTo l 0 k)[k]'(by rw [length_copyTo _ _ _ hk]; exact hlt)) := List.getElem?_eq_getElem _
      have hcy := hown.cell hy
      have hf := hown.frozen k
      have hs := hown.set k x
      rw [copyTo_succ l _ _ k hx] at hs
      clear hx hy
      go_wp2
      go_roundw
      case rel => exact ⟨k + 1, by omega, by go_num, hs.1, hb.grown hs.2 (by have := hb.size; omega) (by simp)⟩
      case measure => simp [intOf]; omega
    · obtain rfl : k = l.length := by omega
      rw [copyTo_all] at hown
      go_wp2
      go_ret
      exact ⟨_, _, rfl, hown, hb⟩

/-! ### one try -/
set_option maxHeartbeats 800000 in
theorem szTry_any (p g : Int) (A : Option Addr) (n c : Nat) (left : Int) (w : World) (h0 : 0 ≤ left) (h1 : left ≤ 1048576) (hn : n ≤ 9223372036854775807) :
    Calls Try.prog 20 #[.agg #[.int .i64 p, .int .i64 g, .slice A n c], .int .i64 left] w fun e w' => e = .returned (.int .i64 (if left < n then -1 else left - n)) ∧ Below w.heap.size w w' := by
  by_cases h : left < n
  · rw [if_pos h]
    go_enter Try.func20, Try.ntmps20
    go_wp2_with (go_at_call 72; refine (szIntS_any _ _ _ _ _ h0 h1 hn).mono ?_; rintro e w' ⟨rfl, rfl⟩; rw [if_pos h])
    go_ret
    exact ⟨rfl, (Below.refl _ _).alloc (Nat.le_refl _) _⟩
  · rw [if_neg h]
    go_enter Try.func20, Try.ntmps20
    go_wp2_with (go_at_call 72; refine (szIntS_any _ _ _ _ _ h0 h1 hn).mono ?_; rintro e w' ⟨rfl, rfl⟩; rw [if_neg h])
    go_ret
    exact ⟨rfl, (Below.refl _ _).alloc (Nat.le_refl _) _⟩
set_option maxHeartbeats 1600000 in
theorem eqTry_same (p g : Int) (A1 A2 : Option Addr) (c1 c2 : Nat) (l : List Int) (w : World) (hm : l.length ≤ 16777216) (h1 : RdI w A1 l) (h2 : RdI w A2 l) :
    Calls Try.prog 24 #[.agg #[.int .i64 p, .int .i64 g, .slice A1 l.length c1], .agg #[.int .i64 p, .int .i64 g, .slice A2 l.length c2]] w fun e w' => e = .returned (.bool true) ∧ Below w.heap.size w w' := by
  have hb : Below w.heap.size w ((w.alloc (.cells #[.int .i64 p, .int .i64 g, .slice A1 l.length c1] 35)).alloc (.cells #[.int .i64 p, .int .i64 g, .slice A2 l.length c2] 35)) := ((Below.refl _ _).alloc (Nat.le_refl _) _).alloc (by simp) _
  have r1 := h1.below hb (Nat.le_refl _)
  have r2 := h2.below hb (Nat.le_refl _)
  go_enter Try.func24, Try.ntmps24
  go_wp2_with (go_at_call 45; refine (eqIntS_same A1 A2 _ c1 c2 l _ rfl hm r1 r2).mono ?_; rintro e w2 ⟨rfl, hb2⟩)
  go_ret
  exact ⟨rfl, hb.trans (hb2.mono hb.size)⟩
end Go.Proofs.Ythoojcmnkhhokaa
