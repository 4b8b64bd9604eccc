/-
  Slices of slices of ints: owned, read, put in; equal, marked, held.
-/
import Derived.Test.YtcbecfkckdalmaaGap
import Derived.Deep.RegionHeld3
import Derived.StillTailTactics
namespace Go.Proofs.Ytcbecfkckdalmaa
open Go.RowKit

/-- A slice as an element. -/
structure HdrV where
  A : Option Addr
  n : Nat
  c : Nat
def HdrV.val (h : HdrV) : Value := .slice h.A h.n h.c
def hdrT : Ty HdrV where
  enc x := [.slice x.A x.n x.c]
  sz := 1
  e := 43
  st := 48
  bytes := 24
  zero := ⟨none, 0, 0⟩
  zv := .slice none 0 0
  henc _ := rfl
  one _ u hu := by simp at hu; subst hu; rfl
  hsz := by decide
  hz := rfl
  hst := Try.underlying48
  info := by kernel_rfl
  hbytes := by decide

def ApartV (v v' : Value) : Prop := v.ownBlock = none ∨ v.ownBlock ≠ v'.ownBlock
theorem ApartV.symm {v v' : Value} (h : ApartV v v') : ApartV v' v := by
  unfold ApartV at *
  cases e : v'.ownBlock with
  | none => exact .inl rfl
  | some k =>
    right
    intro e2
    rcases h with h | h
    · rw [h] at e2; cases e2
    · exact h (by rw [e, ← e2])
structure OwnS (w : World) (base : Nat) (v : Value) (ps : List (HdrV × List Int)) : Prop where
  own : OwnT hdrT w base v (ps.map Prod.fst)
  row : ∀ p ∈ ps, p.1.n = p.2.length ∧ OwnI w base p.1.val p.2
  apart : ps.Pairwise fun p q => ApartV p.1.val q.1.val
structure RdS (w : World) (A : Option Addr) (ps : List (HdrV × List Int)) : Prop where
  rd : RdT hdrT w A (ps.map Prod.fst)
  row : ∀ p ∈ ps, p.1.n = p.2.length ∧ RdI w p.1.A p.2
/-- The blocks of such a thing. -/
def BlkS (v : Value) (hs : List HdrV) (k : Nat) : Prop := v.ownBlock = some k ∨ ∃ h ∈ hs, h.val.ownBlock = some k

theorem own_same {w w' : World} {base : Nat} {e : TypeId} {size : Nat} {v : Value} {n : Nat} {xs : List Value} (h : w.ownsRow base e size v n xs) (hs : ∀ k, v.ownBlock = some k → w'.heap[k]? = w.heap[k]?) : w'.ownsRow base e size v n xs := by
  refine ⟨h.1, ?_⟩
  rcases h.2 with h2 | ⟨g, cap, cur, rfl, hg, hh, r⟩
  · exact .inl h2
  · exact .inr ⟨g, cap, cur, rfl, hg, (hs g rfl).trans hh, r⟩
/-- Rows of different element types lie apart. -/
theorem own_apart {w : World} {base base' : Nat} {e e' : TypeId} {size size' : Nat} {v v' : Value} {n n' : Nat} {xs xs' : List Value} (h : w.ownsRow base e size v n xs) (h' : w.ownsRow base' e' size' v' n' xs') (he : e ≠ e') : ApartV v v' := by
  rcases h.2 with ⟨rfl, _⟩ | ⟨g, cap, cur, rfl, hg, hh, r⟩
  · exact .inl rfl
  · right
    rcases h'.2 with ⟨rfl, _⟩ | ⟨g', cap', cur', rfl, hg', hh', r'⟩
    · intro h; cases h
    · intro h
      injection h with h
      subst h
      rw [hh] at hh'
      injection hh' with hh'
      injection hh' with _ h2 _
      exact he h2
theorem hdr_int : hdrT.e ≠ 3 := by decide
section
variable {w w' : World} {base n c : Nat} {A : Option Addr} {v : Value} {ps : List (HdrV × List Int)}
theorem OwnS.apartO (h : OwnS w base v ps) {p : HdrV × List Int} (hp : p ∈ ps) : ApartV v p.1.val := own_apart h.own (h.row p hp).2 hdr_int
theorem OwnS.rd (h : OwnS w base (.slice A n c) ps) : RdS w A ps :=
  ⟨h.own.rd, fun p hp => ⟨(h.row p hp).1, OwnI.rd (h.row p hp).2⟩⟩
theorem OwnS.lt (h : OwnS w base v ps) : ∀ k, BlkS v (ps.map Prod.fst) k → base ≤ k ∧ k < w.heap.size := by
  rintro k (hk | ⟨q, hq, hk⟩)
  · exact h.own.lt k hk
  · obtain ⟨p, hp, rfl⟩ := List.mem_map.1 hq
    exact OwnI.lt (h.row p hp).2 k hk
theorem OwnS.same (h : OwnS w base v ps) (hs : ∀ k, BlkS v (ps.map Prod.fst) k → w'.heap[k]? = w.heap[k]?) : OwnS w' base v ps :=
  ⟨own_same h.own (fun k hk => hs k (.inl hk)), fun p hp => ⟨(h.row p hp).1, own_same (h.row p hp).2 (fun k hk => hs k (.inr ⟨p.1, List.mem_map.2 ⟨p, hp, rfl⟩, hk⟩))⟩, h.apart⟩
theorem OwnS.below {B : Nat} (h : OwnS w base v ps) (hb : Below B w w') (hB : w.heap.size ≤ B) : OwnS w' base v ps := h.same (fun k hk => hb.block k (by have := (h.lt k hk).2; omega))
theorem OwnS.kept {row : Option Nat} (h : OwnS w base v ps) (hg : w.grownBy w' row) (hne : ∀ k, row = some k → ¬ BlkS v (ps.map Prod.fst) k) : OwnS w' base v ps :=
  h.same (fun k hk => hg.block k (h.lt k hk).2 (fun e => hne k e.symm hk))
theorem OwnS.mono {base' : Nat} (h : OwnS w base v ps) (hb : base' ≤ base) : OwnS w base' v ps := ⟨h.own.mono hb, fun p hp => ⟨(h.row p hp).1, (h.row p hp).2.mono hb⟩, h.apart⟩
theorem OwnS.alloc (h : OwnS w base v ps) (o : Obj) : OwnS (w.alloc o) base v ps := h.below ((Below.refl _ _).alloc (Nat.le_refl _) o) (Nat.le_refl _)
theorem OwnS.drewN (h : OwnS w base v ps) (k : Nat) : OwnS (w.drewN k) base v ps := h.same (fun _ _ => rfl)
theorem OwnS.form (h : OwnS w base v ps) : ∃ A c, v = .slice A ps.length c := by
  obtain ⟨A, c, hv⟩ := h.own.form
  exact ⟨A, c, by rw [hv, List.length_map]⟩
theorem OwnS.nil (w : World) (base : Nat) : OwnS w base (.slice none 0 0) [] := ⟨OwnT.nil _ _, by simp, List.Pairwise.nil⟩
theorem RdS.below {B : Nat} (h : RdS w A ps) (hb : Below B w w') (hB : w.heap.size ≤ B) : RdS w' A ps := ⟨h.rd.below hb hB, fun p hp => ⟨(h.row p hp).1, (h.row p hp).2.below hb hB⟩⟩
theorem RdS.at_ (h : RdS w A ps) {k : Nat} (hk : k < ps.length) : ∃ b off A' c' l, A = some ⟨b, off, none⟩ ∧ ps[k]? = some (⟨A', l.length, c'⟩, l) ∧ b < w.heap.size ∧ w.cell? ⟨b, off + k, none⟩ = some (.slice A' l.length c') ∧ RdI w A' l := by
  obtain ⟨b, off, ⟨A', n', c'⟩, hA, hx, hlt, hc⟩ := h.rd.at_ (k := k) (by rw [List.length_map]; exact hk)
  have hp : ps[k]? = some (ps[k]'hk) := List.getElem?_eq_getElem hk
  obtain ⟨hn, hr⟩ := h.row _ (List.mem_of_getElem? hp)
  rw [List.getElem?_map, hp] at hx
  generalize ps[k]'hk = q at *
  obtain ⟨⟨A2, n2, c2⟩, l⟩ := q
  simp only [Option.map_some, Option.some.injEq] at hx
  injection hx with e1 e2 e3
  subst e1 e2 e3
  dsimp only at hn hr
  subst hn
  refine ⟨b, off, A2, c2, l, hA, hp, hlt, ?_, hr⟩
  have h0 := hc 0 _ rfl
  rw [Nat.add_zero] at h0
  have : hdrT.sz = 1 := rfl
  rw [this, Nat.mul_one] at h0
  exact h0
end
theorem rows_len {ps qs : List (HdrV × List Int)} (h : ps.map Prod.snd = qs.map Prod.snd) : ps.length = qs.length := by
  have := congrArg List.length h
  simpa using this
theorem rows_at {ps qs : List (HdrV × List Int)} (h : ps.map Prod.snd = qs.map Prod.snd) {k : Nat} {p q : HdrV × List Int} (hp : ps[k]? = some p) (hq : qs[k]? = some q) : p.2 = q.2 := by
  have := congrArg (·[k]?) h
  simpa [hp, hq] using this

/-! ### equal -/
set_option maxHeartbeats 1600000 in
theorem eqIntSS_same (A1 A2 : Option Addr) (n m c1 c2 : Nat) (ps qs : List (HdrV × List Int)) (w : World) (hn : n = ps.length) (hm : m = qs.length) (hl : n ≤ 16777216) (hpq : ps.map Prod.snd = qs.map Prod.snd) (hsm : ∀ p ∈ ps, p.2.length ≤ 16777216) (h1 : RdS w A1 ps) (h2 : RdS w A2 qs) :
    Calls Try.prog 45 #[.slice A1 n c1, .slice A2 m c2] w fun e w' => e = .returned (.bool true) ∧ Below w.heap.size w w' := by
  have hmn := rows_len hpq
  obtain rfl : n = m := by omega
  have HPQ := Lib.hid (fun k p q => rows_at hpq (k := k) (p := p) (q := q))
  clear hpq hm
  have e1 : (decide ((n : Int) = n)) = true := by simp
  go_enter Try.func45, Try.ntmps45
  go_wp2
  go_loopw [5] (fun i wr => ∃ k : Nat, k ≤ n ∧ i = .int .i64 k ∧ RdS wr A1 ps ∧ RdS wr A2 qs ∧ Below w.heap.size w wr) (fun i _ => n - (intOf i).toNat)
  case atStart => exact ⟨0, by omega, rfl, h1, h2, Below.refl _ _⟩
  case round =>
    obtain ⟨k, hk, rfl, g1, g2, hb⟩ := hrel
    clear h1 h2
    by_cases hlt : k < n
    · obtain ⟨b1, o1, A3, c3, l1, rfl, hx1, hl1, hc1, hr1⟩ := g1.at_ (k := k) (by omega)
      obtain ⟨b2, o2, A4, c4, l2, rfl, hx2, hl2, hc2, hr2⟩ := g2.at_ (k := k) (by omega)
      obtain rfl : l1 = l2 := HPQ.out k _ _ hx1 hx2
      have hs1 := hsm _ (List.mem_of_getElem? hx1)
      dsimp only at hs1
      clear hx1 hx2
      go_wp2_with fail
      go_still_tail 8, (by kernel_rfl)
      change wpList _ _ _ _ _ wr.drew
      go_wp2_with (go_at_call 40; refine (eqIntS_same A3 A4 _ c3 c4 l1 wr.drew rfl hs1 (by exact hr1) (by exact hr2)).mono ?_; rintro e w2 ⟨rfl, hb2⟩)
      go_roundw
      case rel => exact ⟨k + 1, by omega, by go_num, g1.below (w := wr) (B := wr.heap.size) ((Below.refl _ _).drew.trans hb2) (Nat.le_refl _), g2.below (w := wr) (B := wr.heap.size) ((Below.refl _ _).drew.trans hb2) (Nat.le_refl _), hb.trans (((Below.refl _ _).drew.trans hb2).mono hb.size)⟩
      case measure => simp [intOf]; omega
    · go_wp2
      go_ret
      exact ⟨rfl, hb⟩

/-! ### marked, held -/
def totR : List (HdrV × List Int) → Nat
  | [] => 0
  | p :: r => p.2.length + totR r
theorem totR_append (a b : List (HdrV × List Int)) : totR (a ++ b) = totR a + totR b := by
  induction a with
  | nil => simp [totR]
  | cons p a ih => simp only [List.cons_append, totR, ih]; omega
def marksR (k : Int) : List (HdrV × List Int) → List (HdrV × List Int)
  | [] => []
  | p :: r => (p.1, marks k p.2.length) :: marksR (k + p.2.length) r
theorem marksR_append (k : Int) (a b : List (HdrV × List Int)) : marksR k (a ++ b) = marksR k a ++ marksR (k + totR a) b := by
  induction a generalizing k with
  | nil => simp [marksR, totR]
  | cons p a ih =>
    simp only [List.cons_append, marksR, ih, totR]
    rw [show k + (p.2.length : Int) + (totR a : Nat) = k + ((p.2.length + totR a : Nat) : Int) by omega]
theorem marksR_fst (k : Int) (a : List (HdrV × List Int)) : (marksR k a).map Prod.fst = a.map Prod.fst := by
  induction a generalizing k with
  | nil => rfl
  | cons p a ih => simp [marksR, ih]
theorem marksR_length (k : Int) (a : List (HdrV × List Int)) : (marksR k a).length = a.length := by
  have := congrArg List.length (marksR_fst k a)
  simpa using this
theorem marksR_at (k : Int) (a : List (HdrV × List Int)) (j : Nat) (p : HdrV × List Int) (h : a[j]? = some p) : (marksR k a)[j]? = some (p.1, marks (k + totR (a.take j)) p.2.length) := by
  induction a generalizing k j with
  | nil => simp at h
  | cons q a ih =>
    cases j with
    | zero =>
      simp only [List.getElem?_cons_zero, Option.some.injEq] at h
      subst h
      simp [marksR, totR]
    | succ j =>
      simp only [List.getElem?_cons_succ] at h
      simp only [marksR, List.getElem?_cons_succ, List.take_succ_cons, totR]
      rw [ih _ _ h]
      rw [show k + (q.2.length : Int) + (totR (a.take j) : Nat) = k + ((q.2.length + totR (a.take j) : Nat) : Int) by omega]
def mkTo (k : Int) (ps : List (HdrV × List Int)) (j : Nat) : List (HdrV × List Int) := marksR k (ps.take j) ++ ps.drop j
theorem mkTo_zero (k : Int) (ps : List (HdrV × List Int)) : mkTo k ps 0 = ps := by simp [mkTo, marksR]
theorem mkTo_all (k : Int) (ps : List (HdrV × List Int)) : mkTo k ps ps.length = marksR k ps := by simp [mkTo]
theorem mkTo_fst (k : Int) (ps : List (HdrV × List Int)) (j : Nat) : (mkTo k ps j).map Prod.fst = ps.map Prod.fst := by
  unfold mkTo
  rw [List.map_append, marksR_fst, ← List.map_append, List.take_append_drop]
theorem mkTo_length (k : Int) (ps : List (HdrV × List Int)) (j : Nat) : (mkTo k ps j).length = ps.length := by
  have := congrArg List.length (mkTo_fst k ps j)
  simpa using this
theorem mkTo_at (k : Int) (ps : List (HdrV × List Int)) (j : Nat) (p : HdrV × List Int) (h : ps[j]? = some p) : (mkTo k ps j)[j]? = some p := by
  have hj := (List.getElem?_eq_some_iff.1 h).1
  unfold mkTo
  rw [List.getElem?_append_right (by rw [marksR_length, List.length_take]; omega), marksR_length, List.length_take, Nat.min_eq_left (by omega), Nat.sub_self, List.getElem?_drop, Nat.add_zero]
  exact h
theorem mkTo_succ (k : Int) (ps : List (HdrV × List Int)) (j : Nat) (p : HdrV × List Int) (h : ps[j]? = some p) : mkTo k ps (j + 1) = (mkTo k ps j).set j (p.1, marks (k + totR (ps.take j)) p.2.length) := by
  have hj := (List.getElem?_eq_some_iff.1 h).1
  unfold mkTo
  have hd : ps.drop j = p :: ps.drop (j + 1) := by
    rw [List.drop_eq_getElem_cons hj]
    congr 1
    exact (List.getElem?_eq_some_iff.1 h).2
  rw [take_snoc' h, marksR_append, hd, List.set_append_right (h := by rw [marksR_length, List.length_take]; omega), marksR_length, List.length_take, Nat.min_eq_left (by omega), Nat.sub_self, List.set_cons_zero]
  simp [marksR]
theorem totR_take_succ (ps : List (HdrV × List Int)) (j : Nat) (p : HdrV × List Int) (h : ps[j]? = some p) : totR (ps.take (j + 1)) = totR (ps.take j) + p.2.length := by
  rw [take_snoc' h, totR_append]; simp [totR]
theorem totR_take_le (ps : List (HdrV × List Int)) (j : Nat) : totR (ps.take j) ≤ totR ps := by
  have h := totR_append (ps.take j) (ps.drop j)
  rw [List.take_append_drop] at h
  omega
theorem totR_at_le (ps : List (HdrV × List Int)) (j : Nat) (p : HdrV × List Int) (h : ps[j]? = some p) : totR (ps.take j) + p.2.length ≤ totR ps := by
  rw [← totR_take_succ ps j p h]; exact totR_take_le ps _
/-- A row of its own turned: what is known behind it. -/
theorem OwnS.setRow {w w' : World} {base : Nat} {v : Value} {ps : List (HdrV × List Int)} (h : OwnS w base v ps) {j : Nat} {p : HdrV × List Int} (hp : ps[j]? = some p) (l : List Int) (hl : l.length = p.2.length) (ho : OwnI w' base p.1.val l) (hg : w.grownBy w' p.1.val.ownBlock) : OwnS w' base v (ps.set j (p.1, l)) := by
  have hj := (List.getElem?_eq_some_iff.1 hp).1
  have hpm := List.mem_of_getElem? hp
  have hf : (ps.set j (p.1, l)).map Prod.fst = ps.map Prod.fst := by
    apply List.ext_getElem?
    intro i
    rw [List.getElem?_map, List.getElem?_set, List.getElem?_map]
    by_cases e : j = i
    · subst e; rw [if_pos rfl, if_pos hj, hp]; rfl
    · rw [if_neg e]
  refine ⟨?_, ?_, ?_⟩
  · rw [hf]
    exact h.own.kept hg (h.apartO hpm)
  · intro q hq
    obtain ⟨i, hi⟩ := List.getElem?_of_mem hq
    rw [List.getElem?_set] at hi
    by_cases e : j = i
    · subst e
      rw [if_pos rfl, if_pos hj] at hi
      injection hi with hi
      subst hi
      exact ⟨by rw [hl]; exact (h.row p hpm).1, ho⟩
    · rw [if_neg e] at hi
      have hr := h.row q (List.mem_of_getElem? hi)
      refine ⟨hr.1, OwnI.kept hr.2 hg ?_⟩
      have hil := (List.getElem?_eq_some_iff.1 hi).1
      have hpw := List.pairwise_iff_getElem.1 h.apart
      have ep := (List.getElem?_eq_some_iff.1 hp).2
      have eq := (List.getElem?_eq_some_iff.1 hi).2
      rcases Nat.lt_or_ge i j with hlt | hge
      · have := hpw i j hil hj hlt
        rw [ep, eq] at this
        exact this
      · have := hpw j i hj hil (by omega)
        rw [ep, eq] at this
        exact this.symm
  · have : ∀ (a b : List (HdrV × List Int)), a.map Prod.fst = b.map Prod.fst → b.Pairwise (fun p q => ApartV p.1.val q.1.val) → a.Pairwise (fun p q => ApartV p.1.val q.1.val) := by
      intro a b hab hb
      have h1 : (b.map Prod.fst).Pairwise (fun p q => ApartV p.val q.val) := List.pairwise_map.2 hb
      rw [← hab] at h1
      exact (List.pairwise_map (f := Prod.fst) (R := fun p q => ApartV (HdrV.val p) (HdrV.val q))).1 h1
    exact this _ _ hf h.apart

set_option maxHeartbeats 1600000 in
theorem markIntSS_ok (base : Nat) (A : Option Addr) (c : Nat) (ps : List (HdrV × List Int)) (k : Int) (w : World) (hk0 : 0 ≤ k) (hk1 : k ≤ 1000000000) (hm : ps.length ≤ 16777216) (ht : totR ps ≤ 16777216) (hbase : base ≤ w.heap.size) (h : OwnS w base (.slice A ps.length c) ps) :
    Calls Try.prog 46 #[.slice A ps.length c, .int .i64 k] w fun e w' => e = .returned (.int .i64 (k + totR ps)) ∧ OwnS w' base (.slice A ps.length c) (marksR k ps) ∧ Below base w w' ∧ (∀ i, i < w.heap.size → ¬ BlkS (.slice A ps.length c) (ps.map Prod.fst) i → w'.heap[i]? = w.heap[i]?) := by
  have hLT := Lib.hid h.lt
  have htl := totR_take_le ps
  go_enter Try.func46, Try.ntmps46
  go_wp2
  go_loopw [1, 5] (fun q i wr => ∃ j : Nat, j ≤ ps.length ∧ i = .int .i64 j ∧ q = .int .i64 (k + totR (ps.take j)) ∧ OwnS wr base (.slice A ps.length c) (mkTo k ps j) ∧ Below base w wr ∧ Hid (∀ i, i < w.heap.size → ¬ BlkS (.slice A ps.length c) (ps.map Prod.fst) i → wr.heap[i]? = w.heap[i]?)) (fun _ i _ => ps.length - (intOf i).toNat)
  case atStart => exact ⟨0, by omega, rfl, by simp [totR], by rw [mkTo_zero]; exact h, Below.refl _ _, Lib.hid (fun _ _ _ => rfl)⟩
  case round =>
    obtain ⟨j, hj, rfl, rfl, hown, hb, hfr⟩ := hrel
    clear h
    have hz := hb.size
    have htj := htl j
    by_cases hlt : j < ps.length
    · obtain ⟨b, off, A', c', l, rfl, hx, hlb, hc, hr⟩ := hown.rd.at_ (k := j) (by rw [mkTo_length]; exact hlt)
      have hp : ps[j]? = some (⟨A', l.length, c'⟩, l) := by
        have e : ps[j]? = some (ps[j]'hlt) := List.getElem?_eq_getElem hlt
        have := mkTo_at k ps j _ e
        rw [hx] at this
        rw [e, ← this]
      have hta := totR_at_le ps j _ hp
      have hrow := (hown.row _ (List.mem_of_getElem? hx)).2
      have hts := totR_take_succ ps j _ hp
      dsimp only at hta hrow hts
      have HP := Lib.hid hp
      have HX := Lib.hid hx
      have HTS := Lib.hid hts
      clear hp hx hts
      go_wp2_with (go_at_call 41; refine (markIntS_ok base A' c' l (k + totR (ps.take j)) _ (by omega) (by omega) (by omega) hrow).mono ?_; rintro e w2 ⟨rfl, ho2, hgr⟩)
      go_roundw
      case rel =>
        have hs := hown.setRow HX.out (marks (k + totR (ps.take j)) l.length) (length_marks _ _) (by unfold OwnI at ho2 ⊢; exact ho2) hgr
        rw [← mkTo_succ k ps j _ HP.out] at hs
        refine ⟨j + 1, by omega, by go_num, by rw [HTS.out]; go_num, hs, hb.grown hgr (by omega) ?_, Lib.hid ?_⟩
        · intro i hi
          exact (OwnI.lt hrow i hi).1
        · intro i hi hn
          rw [hgr.block i (by omega) (fun e => hn (.inr ⟨⟨A', l.length, c'⟩, List.mem_map.2 ⟨_, List.mem_of_getElem? HP.out, rfl⟩, e.symm⟩))]
          exact hfr.out i hi hn
      case measure => simp [intOf]; omega
    · obtain rfl : j = ps.length := by omega
      rw [mkTo_all] at hown
      have E := Lib.hid (show ps.take ps.length = ps from List.take_length)
      go_wp2
      go_ret
      exact ⟨by rw [E.out]; rfl, hown, hb, hfr.out⟩
set_option maxHeartbeats 1600000 in
theorem heldIntSS_ok (A : Option Addr) (n c : Nat) (ps : List (HdrV × List Int)) (k : Int) (w : World) (hn : n = ps.length) (hk0 : 0 ≤ k) (hk1 : k ≤ 1000000000) (hm : ps.length ≤ 16777216) (ht : totR ps ≤ 16777216) (h : RdS w A (marksR k ps)) :
    Calls Try.prog 47 #[.slice A n c, .int .i64 k] w fun e w' => e = .returned (.int .i64 (k + totR ps)) ∧ w = w' := by
  subst hn
  have htl := totR_take_le ps
  go_enter Try.func47, Try.ntmps47
  go_wp2
  go_loop [1, 5] (fun q i => ∃ j : Nat, j ≤ ps.length ∧ i = .int .i64 j ∧ q = .int .i64 (k + totR (ps.take j))) (fun _ i => ps.length - (intOf i).toNat)
  case atStart => exact ⟨0, by omega, rfl, by simp [totR]⟩
  case round =>
    obtain ⟨j, hj, rfl, rfl⟩ := hrel
    have htj := htl j
    by_cases hlt : j < ps.length
    · obtain ⟨b, off, A', c', l, rfl, hx, hlb, hc, hr⟩ := h.at_ (k := j) (by rw [marksR_length]; exact hlt)
      obtain ⟨p, hp⟩ := get_of_lt ps hlt
      have hm2 := marksR_at k ps j _ hp
      rw [hx] at hm2
      injection hm2 with hm2
      injection hm2 with e1 e2
      have hta := totR_at_le ps j _ hp
      have HTS := Lib.hid (totR_take_succ ps j _ hp)
      have hll : l.length = p.2.length := by rw [e2, length_marks]
      rw [hll] at hc
      rw [e2] at hr
      clear hx hp e1 e2
      go_wp2_with (go_at_call 42; refine (heldIntS_ok A' p.2.length c' (k + totR (ps.take j)) _ (by omega) (by omega) (by omega) hr).mono ?_; rintro e w2 ⟨rfl, rfl⟩)
      go_round
      case rel => exact ⟨j + 1, by omega, by go_num, by rw [HTS.out]; go_num⟩
      case measure => simp [intOf]; omega
    · obtain rfl : j = ps.length := by omega
      have E := Lib.hid (show ps.take ps.length = ps from List.take_length)
      go_wp2
      go_ret
      exact ⟨by first | rfl | (rw [E.out]; rfl), rfl⟩

/-! ### put in -/
theorem pairwise_insL {α : Type} {R : α → α → Prop} (hs : ∀ a b, R a b → R b a) {l : List α} {k : Nat} {x : α} (h : l.Pairwise R) (hx : ∀ y ∈ l, R x y) : (insL l k x).Pairwise R := by
  unfold insL
  rw [← List.take_append_drop k l] at h
  obtain ⟨q1, q2, q3⟩ := List.pairwise_append.1 h
  refine List.pairwise_append.2 ⟨q1, List.pairwise_cons.2 ⟨fun y hy => hx y (List.mem_of_mem_drop hy), q2⟩, fun a ha b hb => ?_⟩
  rcases List.mem_cons.1 hb with rfl | hb
  · exact hs _ _ (hx a (List.mem_of_mem_take ha))
  · exact q3 a ha b hb
theorem pairwise_snoc {α : Type} {R : α → α → Prop} (hs : ∀ a b, R a b → R b a) {l : List α} {x : α} (h : l.Pairwise R) (hx : ∀ y ∈ l, R x y) : (l ++ [x]).Pairwise R :=
  List.pairwise_append.2 ⟨h, List.pairwise_singleton _ _, fun a ha b hb => by rw [List.mem_singleton.1 hb]; exact hs _ _ (hx a ha)⟩
end Go.Proofs.Ytcbecfkckdalmaa
