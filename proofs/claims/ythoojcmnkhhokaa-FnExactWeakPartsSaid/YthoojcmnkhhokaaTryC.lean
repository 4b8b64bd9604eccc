/-
  Slices of tries copied and marked: contracts.
-/
import Derived.Test.YthoojcmnkhhokaaTryB
namespace Go.Proofs.Ythoojcmnkhhokaa
set_option maxRecDepth 100000
open Go.RowKit

theorem pairwise_set {α : Type} {R : α → α → Prop} (hs : ∀ a b, R a b → R b a) {l : List α} {k : Nat} {x : α} (h : l.Pairwise R) (hx : ∀ (i : Nat) (y : α), l[i]? = some y → ¬ i = k → R x y) : (l.set k x).Pairwise R := by
  rw [List.pairwise_iff_getElem]
  intro i j hi hj hij
  rw [List.length_set] at hi hj
  rw [List.getElem_set, List.getElem_set]
  by_cases e1 : k = i
  · rw [if_pos e1, if_neg (by omega)]
    exact hx j _ (List.getElem?_eq_getElem hj) (by omega)
  · rw [if_neg e1]
    by_cases e2 : k = j
    · rw [if_pos e2]
      exact hs _ _ (hx i _ (List.getElem?_eq_getElem hi) (by omega))
    · rw [if_neg e2]
      exact (List.pairwise_iff_getElem.1 h) i j hi hj hij
theorem map_set_fst {α β : Type} (ps : List (α × β)) (k : Nat) (x : α × β) : (ps.set k x).map Prod.fst = (ps.map Prod.fst).set k x.1 := by
  rw [List.map_set]
theorem pairwise_at {α : Type} {R : α → α → Prop} (hs : ∀ a b, R a b → R b a) {l : List α} (h : l.Pairwise R) {i j : Nat} {x y : α} (hx : l[i]? = some x) (hy : l[j]? = some y) (hij : ¬ i = j) : R x y := by
  obtain ⟨hi, ex⟩ := List.getElem?_eq_some_iff.1 hx
  obtain ⟨hj, ey⟩ := List.getElem?_eq_some_iff.1 hy
  rcases Nat.lt_or_ge i j with h1 | h1
  · have := (List.pairwise_iff_getElem.1 h) i j hi hj h1
    rwa [ex, ey] at this
  · have := (List.pairwise_iff_getElem.1 h) j i hj hi (by omega)
    rw [ex, ey] at this
    exact hs _ _ this
theorem apart_symm (p q : TryH × List Int) (h : ApartV p.1.val q.1.val) : ApartV q.1.val p.1.val := h.symm
/-- An element turned: its cells stored, its row of its own. -/
theorem OwnY.put {w w' : World} {base n c g k : Nat} {ps : List (TryH × List Int)} {x : TryH × List Int} (h : OwnY w base (.slice (some ⟨g, 0, none⟩) n c) ps)
    (hown : OwnT tryT w' base (.slice (some ⟨g, 0, none⟩) n c) ((ps.map Prod.fst).set k x.1)) (hg : w.grownBy w' (some g)) (hx : x.1.n = x.2.length) (ho : OwnI w base x.1.val x.2) (hap : ∀ (i : Nat) (q : TryH × List Int), ps[i]? = some q → ¬ i = k → ApartV x.1.val q.1.val) :
    OwnY w' base (.slice (some ⟨g, 0, none⟩) n c) (ps.set k x) := by
  refine ⟨?_, ?_, ?_⟩
  · rw [map_set_fst]; exact hown
  · intro p hp
    obtain ⟨i, hi⟩ := List.getElem?_of_mem hp
    rw [List.getElem?_set] at hi
    by_cases e : k = i
    · rw [if_pos e] at hi
      split at hi
      · injection hi with hi
        subst hi
        exact ⟨hx, OwnI.kept ho hg (own_apart h.own ho try_int).symm⟩
      · cases hi
    · rw [if_neg e] at hi
      have hr := h.row p (List.mem_of_getElem? hi)
      exact ⟨hr.1, OwnI.kept hr.2 hg (h.apartO (List.mem_of_getElem? hi)).symm⟩
  · exact pairwise_set (fun a b h => apart_symm a b h) h.apart (fun i y hy hne => hap i y hy hne)

set_option maxHeartbeats 3200000 in
theorem toTryS_any (A : Option Addr) (c : Nat) (ps : List (TryH × List Int)) (w : World) (hn : ps.length ≤ 1048576) (hsm : ∀ p ∈ ps, p.2.length ≤ 1048576) (h : RdY tryL w A ps) :
    Calls Try.prog 29 #[.slice A ps.length c] w fun e w' => ∃ A' c' qs, e = .returned (.slice A' (List.length qs) c') ∧ qs.map toV = ps.map toV ∧ OwnY w' w.heap.size (.slice A' (List.length qs) c') qs ∧ Below w.heap.size w w' := by
  go_enter Try.func29, Try.ntmps29
  go_wp2_with (at_make; refine wpList_makeT (w0 := w) (B := w.heap.size) tryT rfl _ _ rfl w.heap.size _ _ ps.length rfl rfl rfl rfl (by omega) (Nat.le_refl _) (Below.refl _ _) (Nat.le_refl _) ?_; intro w1 hown1 hb1 hgr1)
  have hO1 : OwnY w1 w.heap.size (.slice (some ⟨w.heap.size, 0, none⟩) ps.length ps.length) (List.replicate ps.length (tryT.zero, [])) := by
    refine ⟨by rw [List.map_replicate]; exact hown1, ?_, ?_⟩
    · intro p hp
      rw [List.eq_of_mem_replicate hp]
      exact ⟨rfl, OwnI.nil _ _⟩
    · rw [List.pairwise_iff_getElem]
      intro i j hi hj _
      rw [List.getElem_replicate]
      exact .inl rfl
  have hV1 := Lib.hid (show (List.replicate ps.length (tryT.zero, ([] : List Int))).map toV = copyTo (ps.map toV) ⟨0, 0, []⟩ 0 by rw [copyTo_zero, List.map_replicate, List.length_map]; rfl)
  clear hown1 hgr1
  go_loopw [4] (fun i wr => ∃ (k : Nat) (qs : List (TryH × List Int)), k ≤ ps.length ∧ i = .int .i64 k ∧ Hid (qs.map toV = copyTo (ps.map toV) ⟨0, 0, []⟩ k) ∧ OwnY wr w.heap.size (.slice (some ⟨w.heap.size, 0, none⟩) ps.length ps.length) qs ∧ Below w.heap.size w wr) (fun i _ => ps.length - (intOf i).toNat)
  case atStart => exact ⟨0, _, by omega, rfl, hV1, hO1, hb1⟩
  case round =>
    obtain ⟨k, qs, hk, rfl, HV, hown, hb⟩ := hrel
    clear hO1 hb1 hV1
    have hz := hb.size
    have hql : qs.length = ps.length := by
      have := congrArg List.length HV.out
      rw [length_copyTo _ _ _ (by rw [List.length_map]; exact hk)] at this
      simpa using this
    by_cases hlt : k < ps.length
    · obtain ⟨b, off, pu, gr, A2, c2, l, rfl, hx, hlb, hc0, hc1, hc2, hr⟩ := (h.below hb (Nat.le_refl _)).atL hlt
      have hll : l.length ≤ 1048576 := hsm _ (List.mem_of_getElem? hx)
      have HX := Lib.hid hx
      have hq1 : k < (qs.map Prod.fst).length := by rw [List.length_map]; omega
      have hq2 : (qs.map Prod.fst)[k]? = some ((qs.map Prod.fst)[k]'hq1) := List.getElem?_eq_getElem hq1
      have HLT := Lib.hid hown.lt
      have HQL := Lib.hid hql
      clear hx hql
      go_wp2_with (go_at_call 22; refine (toTry_any pu gr A2 c2 l _ hll hr).mono ?_; rintro e w2 ⟨A3, c3, rfl, ho3, hb2⟩; have hown2 := hown.below hb2 (Nat.le_refl _); have s0 := hown2.own.cell hq2 0 _ rfl; have s1 := hown2.own.cell hq2 1 _ rfl; have s2 := hown2.own.cell hq2 2 _ rfl; have f0 : w2.frozen? ⟨w.heap.size, k * 3, none⟩ = false := hown2.own.frozen _; have f1 : w2.frozen? ⟨w.heap.size, k * 3 + 1, none⟩ = false := hown2.own.frozen _; have f2 : w2.frozen? ⟨w.heap.size, k * 3 + 2, none⟩ = false := hown2.own.frozen _; have s0' : w2.cell? ⟨w.heap.size, k * 3, none⟩ = some (.int .i64 ((qs.map Prod.fst)[k]'hq1).pupil) := s0; have s1' : w2.cell? ⟨w.heap.size, k * 3 + 1, none⟩ = some (.int .i64 ((qs.map Prod.fst)[k]'hq1).grade) := s1; have s2' : w2.cell? ⟨w.heap.size, k * 3 + 2, none⟩ = some (.slice ((qs.map Prod.fst)[k]'hq1).A ((qs.map Prod.fst)[k]'hq1).n ((qs.map Prod.fst)[k]'hq1).c) := s2; clear s0 s1 s2)
      go_roundw
      case rel =>
        have hs := hown2.own.set hq1 ⟨pu, gr, A3, l.length, c3⟩
        have hap : ∀ (i : Nat) (q : TryH × List Int), qs[i]? = some q → ¬ i = k → ApartV (TryH.val ⟨pu, gr, A3, l.length, c3⟩) q.1.val := by
          intro i q hq _
          refine ApartV.symm ?_
          cases e : q.1.val.ownBlock with
          | none => exact .inl e
          | some kk =>
            right
            rw [e]
            intro e2
            have h1 := (HLT.out kk (.inr ⟨q.1, List.mem_map.2 ⟨q, List.mem_of_getElem? hq, rfl⟩, e⟩)).2
            have h2 := (OwnI.lt ho3 kk e2.symm).1
            omega
        have hp := hown2.put (k := k) (x := (⟨pu, gr, A3, l.length, c3⟩, l)) hs.1 hs.2 rfl (OwnI.mono ho3 hz) hap
        refine ⟨k + 1, qs.set k (⟨pu, gr, A3, l.length, c3⟩, l), by omega, by go_num, Lib.hid ?_, hp, (hb.trans (hb2.mono hz)).grown hs.2 (by have := hb2.size; omega) (fun k hk => by cases hk; exact Nat.le_refl _)⟩
        rw [List.map_set, HV.out]
        exact copyTo_succ (ps.map toV) _ _ k (by rw [List.getElem?_map, HX.out]; rfl)
      case measure => simp [intOf]; omega
    · obtain rfl : k = ps.length := by omega
      have HF := Lib.hid (show qs.map toV = ps.map toV by have := HV.out; rwa [show ps.length = (ps.map toV).length by rw [List.length_map], copyTo_all] at this)
      have HQL := Lib.hid hql
      clear HV hql
      go_wp2
      go_ret
      exact ⟨_, ps.length, qs, by rw [HQL.out]; rfl, HF.out, by rw [HQL.out]; exact hown, hb⟩

/-! ### marked -/
def sigY (p : TryH × List Int) : Value × Nat := (p.1.val, p.2.length)
theorem sig_at {ps qs : List (TryH × List Int)} (h : qs.map sigY = ps.map sigY) {k : Nat} {p : TryH × List Int} (hp : ps[k]? = some p) : ∃ q, qs[k]? = some q ∧ q.1.val = p.1.val ∧ q.2.length = p.2.length := by
  have h1 := congrArg (·[k]?) h
  simp only [List.getElem?_map, hp, Option.map_some] at h1
  cases e : qs[k]? with
  | none => rw [e] at h1; cases h1
  | some q =>
    rw [e] at h1
    simp only [Option.map_some, Option.some.injEq, sigY] at h1
    injection h1 with e1 e2
    exact ⟨q, rfl, e1, e2⟩
theorem sig_set {ps qs : List (TryH × List Int)} (h : qs.map sigY = ps.map sigY) {k : Nat} {q : TryH × List Int} (hq : qs[k]? = some q) (x : TryH × List Int) (hx : sigY x = sigY q) : (qs.set k x).map sigY = ps.map sigY := by
  rw [List.map_set, hx, ← h]
  apply List.ext_getElem?
  intro i
  rw [List.getElem?_set]
  by_cases e : k = i
  · subst e
    rw [if_pos rfl, List.getElem?_map, hq]
    simp [(List.getElem?_eq_some_iff.1 hq).1]
  · rw [if_neg e]
theorem OwnY.setRow {w w' : World} {base : Nat} {v : Value} {ps : List (TryH × List Int)} (h : OwnY w base v ps) {j : Nat} {p : TryH × List Int} (hp : ps[j]? = some p) (l : List Int) (hl : l.length = p.2.length) (ho : OwnI w' base p.1.val l) (hg : w.grownBy w' p.1.val.ownBlock) : OwnY w' base v (ps.set j (p.1, l)) := by
  have hj := (List.getElem?_eq_some_iff.1 hp).1
  have hpm := List.mem_of_getElem? hp
  refine ⟨?_, ?_, ?_⟩
  · rw [map_set_fst]
    have : (ps.map Prod.fst).set j p.1 = ps.map Prod.fst := by
      apply List.ext_getElem?
      intro i
      rw [List.getElem?_set]
      by_cases e : j = i
      · subst e; rw [if_pos rfl, List.getElem?_map, hp]; simp [hj]
      · rw [if_neg e]
    show OwnT tryT w' base v ((ps.map Prod.fst).set j p.1)
    rw [this]
    exact h.own.kept hg (h.apartO hpm)
  · intro q hq
    obtain ⟨i, hi⟩ := List.getElem?_of_mem hq
    rw [List.getElem?_set] at hi
    by_cases e : j = i
    · rw [if_pos e, if_pos hj] at hi
      injection hi with hi
      subst hi
      exact ⟨by rw [hl]; exact (h.row p hpm).1, ho⟩
    · rw [if_neg e] at hi
      have hr := h.row q (List.mem_of_getElem? hi)
      exact ⟨hr.1, OwnI.kept hr.2 hg (pairwise_at (fun a b h => apart_symm a b h) h.apart hi hp (fun h => e h.symm))⟩
  · exact pairwise_set (fun a b h => apart_symm a b h) h.apart (fun i y hy hne => by have := pairwise_at (fun a b h => apart_symm a b h) h.apart hp hy (fun h => hne h.symm); exact this)

set_option maxHeartbeats 3200000 in
theorem markTryS_ok (base : Nat) (A : Option Addr) (c : Nat) (ps : List (TryH × List Int)) (k : Int) (w : World) (hk0 : 0 ≤ k) (hk1 : k ≤ 1000000000) (hm : ps.length ≤ 1048576) (ht : totY ps ≤ 16777216) (hbase : base ≤ w.heap.size) (h : OwnY w base (.slice A ps.length c) ps) :
    Calls Try.prog 46 #[.slice A ps.length c, .int .i64 k] w fun e w' => e = .returned (.int .i64 (k + 2 * ps.length + totY ps)) ∧ Below base w w' ∧ (∀ i, i < w.heap.size → ¬ BlkY (.slice A ps.length c) (ps.map Prod.fst) i → w'.heap[i]? = w.heap[i]?) := by
  have HTS := Lib.hid (fun j p hp => totY_succ (ps := ps) (j := j) (p := p) hp)
  have HTM := Lib.hid (fun j p (hp : ps[j]? = some p) => show totY (ps.take j) + p.2.length ≤ totY ps by
    rw [← totY_succ hp]
    have := totY_append (ps.take (j + 1)) (ps.drop (j + 1))
    rw [List.take_append_drop] at this
    omega)
  go_enter Try.func46, Try.ntmps46
  go_wp2
  go_loopw [1, 5] (fun q i wr => ∃ (j : Nat) (qs : List (TryH × List Int)), j ≤ ps.length ∧ i = .int .i64 j ∧ q = .int .i64 (k + 2 * j + totY (ps.take j)) ∧ Hid (qs.map sigY = ps.map sigY) ∧ OwnY wr base (.slice A ps.length c) qs ∧ Below base w wr ∧ Hid (∀ i, i < w.heap.size → ¬ BlkY (.slice A ps.length c) (ps.map Prod.fst) i → wr.heap[i]? = w.heap[i]?)) (fun _ i _ => ps.length - (intOf i).toNat)
  case atStart => exact ⟨0, ps, by omega, rfl, by rw [totY_zero]; simp, Lib.hid rfl, h, Below.refl _ _, Lib.hid (fun _ _ _ => rfl)⟩
  case round =>
    obtain ⟨j, qs, hj, rfl, rfl, HS, hown, hb, hfr⟩ := hrel
    clear h
    have hz := hb.size
    by_cases hlt : j < ps.length
    · obtain ⟨p, hp⟩ := get_of_lt ps hlt
      obtain ⟨q, hq, hqv, hql⟩ := sig_at HS.out hp
      have htm := HTM.out j p hp
      have HT2 := Lib.hid (HTS.out j p hp)
      have HP := Lib.hid hp
      obtain ⟨⟨pu, gr, A', n', c'⟩, l⟩ := q
      have hrw := hown.row _ (List.mem_of_getElem? hq)
      dsimp only at hqv hql hrw
      obtain ⟨hn', hro⟩ := hrw
      subst hn'
      have hqf : (qs.map Prod.fst)[j]? = some ⟨pu, gr, A', l.length, c'⟩ := by rw [List.getElem?_map, hq]; rfl
      obtain ⟨g, hA, hgb, hgl⟩ := hown.own.head (by rw [List.length_map]; have := (List.getElem?_eq_some_iff.1 hq).1; omega)
      subst hA
      have s0 : wr.cell? ⟨g, j * 3, none⟩ = some (.int .i64 pu) := hown.own.cell hqf 0 _ rfl
      have s1 : wr.cell? ⟨g, j * 3 + 1, none⟩ = some (.int .i64 gr) := hown.own.cell hqf 1 _ rfl
      have s2 : wr.cell? ⟨g, j * 3 + 2, none⟩ = some (.slice A' l.length c') := hown.own.cell hqf 2 _ rfl
      have f0 : wr.frozen? ⟨g, j * 3, none⟩ = false := hown.own.frozen _
      have f1 : wr.frozen? ⟨g, j * 3 + 1, none⟩ = false := hown.own.frozen _
      obtain ⟨tt, htt⟩ : ∃ tt : Nat, tt = totY (ps.take j) := ⟨_, rfl⟩
      rw [← htt] at htm HT2 ⊢
      have hll : l.length ≤ p.2.length := Nat.le_of_eq hql
      have HQL := Lib.hid hql
      clear htt hql
      have t1 := hown.own.setField (j := 0) (y := ⟨k + 2 * j + tt, gr, A', l.length, c'⟩) (u := .int .i64 (k + 2 * j + tt)) hqf rfl (by decide)
      have hq2 : ((qs.map Prod.fst).set j ⟨k + 2 * j + tt, gr, A', l.length, c'⟩)[j]? = some ⟨k + 2 * j + tt, gr, A', l.length, c'⟩ := by rw [List.getElem?_set, if_pos rfl, if_pos (List.getElem?_eq_some_iff.1 hqf).1]
      have t2 := t1.1.setField (j := 1) (y := ⟨k + 2 * j + tt, k + 2 * j + tt + 1, A', l.length, c'⟩) (u := .int .i64 (k + 2 * j + tt + 1)) hq2 rfl (by decide)
      rw [List.set_set] at t2
      have hg2 := gr_trans t1.2 t2.2
      have hY := hown.put (k := j) (x := (⟨k + 2 * j + tt, k + 2 * j + tt + 1, A', l.length, c'⟩, l)) t2.1 hg2 rfl hro (fun i y hy hne => by have := pairwise_at (fun a b h => apart_symm a b h) hown.apart hq hy (fun h => hne h.symm); exact this)
      have hqs : (qs.set j (⟨k + 2 * j + tt, k + 2 * j + tt + 1, A', l.length, c'⟩, l))[j]? = some (⟨k + 2 * j + tt, k + 2 * j + tt + 1, A', l.length, c'⟩, l) := by rw [List.getElem?_set, if_pos rfl, if_pos (List.getElem?_eq_some_iff.1 hq).1]
      have hsg := sig_set HS.out hq (⟨k + 2 * j + tt, k + 2 * j + tt + 1, A', l.length, c'⟩, l) rfl
      have hrowN := (hY.row _ (List.mem_of_getElem? hqs)).2
      have HN := Lib.hid (And.intro hY (And.intro hqs (And.intro hsg (And.intro hg2 (And.intro hqv hq)))))
      have hrowN' : OwnI ((wr.setCell ⟨g, j * 3, none⟩ (.int .i64 (k + 2 * j + tt))).setCell ⟨g, j * 3 + 1, none⟩ (.int .i64 (k + 2 * j + tt + 1))) base (.slice A' l.length c') l := hrowN
      clear t1 t2 hq2 hY hqs hsg hg2 hrowN hq hqf hqv hp hro HS
      obtain ⟨wn, hwn⟩ : ∃ wn : World, wn = (wr.setCell ⟨g, j * 3, none⟩ (.int .i64 (k + 2 * j + tt))).setCell ⟨g, j * 3 + 1, none⟩ (.int .i64 (k + 2 * j + tt + 1)) := ⟨_, rfl⟩
      have i1 : IntKind.i64.wrap (k + 2 * j + tt + 1) = k + 2 * j + tt + 1 := IntWalk.i64_in _ (by omega)
      have i2 : IntKind.i64.wrap (k + 2 * j + tt + 1 + 1) = k + 2 * j + tt + 1 + 1 := IntWalk.i64_in _ (by omega)
      go_wp2_with fail
      rw [← hwn]
      rw [← hwn] at hrowN'
      obtain ⟨hY, hqs, hsg, hg2, hqv, hq⟩ := HN.out
      have hY : OwnY wn base (.slice (some ⟨g, 0, none⟩) ps.length c) (qs.set j (⟨k + 2 * j + tt, k + 2 * j + tt + 1, A', l.length, c'⟩, l)) := by rw [hwn]; exact hY
      have hg2 : wr.grownBy wn (some g) := by rw [hwn]; exact hg2
      have HY := Lib.hid (And.intro hY (And.intro hqs (And.intro hsg (And.intro hg2 (And.intro hqv hq)))))
      clear hwn hY hqs hsg hg2 hqv hq HN
      refine (markIntS_ok base A' c' l (k + 2 * j + tt + 1 + 1) wn (by omega) (by omega) (by omega) hrowN').mono ?_
      rintro e w2 ⟨rfl, ho2, hgr⟩
      go_wp2
      go_roundw
      case rel =>
        obtain ⟨hY, hqs, hsg, hg2, hqv, hq⟩ := HY.out
        have hR := hY.setRow hqs (marks (k + 2 * j + tt + 1 + 1) l.length) (length_marks _ _) (by unfold OwnI at ho2 ⊢; rw [length_marks] at ho2 ⊢; exact ho2) hgr
        have hb2 := (hb.grown hg2 (by omega) (fun k hk => by cases hk; exact hgb)).grown hgr (by have := hg2.size; omega) (fun i hi => (OwnI.lt hrowN' i hi).1)
        refine ⟨j + 1, _, by omega, by go_num, by rw [HT2.out, HQL.out]; go_num, Lib.hid ?_, hR, hb2, Lib.hid ?_⟩
        · exact sig_set hsg hqs _ (by unfold sigY; rw [length_marks])
        · intro i hi hn
          have h1 : w2.heap[i]? = wn.heap[i]? := hgr.block i (by have := hg2.size; omega) (fun e => hn (.inr ⟨p.1, List.mem_map.2 ⟨p, List.mem_of_getElem? HP.out, rfl⟩, by rw [← hqv]; exact e.symm⟩))
          have h2 : wn.heap[i]? = wr.heap[i]? := hg2.block i (by omega) (fun e => hn (.inl e.symm))
          rw [h1, h2]
          exact hfr.out i hi hn
      case measure => simp [intOf]; omega
    · obtain rfl : j = ps.length := by omega
      have E := Lib.hid (show ps.take ps.length = ps from List.take_length)
      go_wp2
      go_ret
      exact ⟨by first | (rw [E.out]; rfl) | (simp [E.out]), hb, hfr.out⟩
theorem OwnI.same {w w' : World} {base : Nat} {v : Value} {l : List Int} (h : OwnI w base v l) (hs : ∀ k, v.ownBlock = some k → w'.heap[k]? = w.heap[k]?) : OwnI w' base v l := own_same h hs
theorem tries_small {ps qs : List (TryH × List Int)} (h : ps.map toV = qs.map toV) (hq : (qs.length : Int) + totY qs ≤ 1048576) : ps.length ≤ 1048576 ∧ (∀ p ∈ ps, p.2.length ≤ 1048576) ∧ totY ps ≤ 1048576 := by
  have h1 := tries_len h
  have h2 := totY_map h
  exact ⟨by omega, fun p hp => by have := totY_mem hp; omega, by omega⟩
end Go.Proofs.Ythoojcmnkhhokaa
