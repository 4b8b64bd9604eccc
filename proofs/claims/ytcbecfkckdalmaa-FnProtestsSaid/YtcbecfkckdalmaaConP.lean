/-
  A protest: plain; contracts.
-/
import Derived.Test.YtcbecfkckdalmaaConM
import Derived.Test.YtcbecfkckdalmaaSpread
import Derived.Test.YtcbecfkckdalmaaField
import Derived.Test.YtcbecfkckdalmaaConK
namespace Go.Proofs.Ytcbecfkckdalmaa
open Go.RowKit

/-- The place of the first row of a pupil in a heat among the first k. -/
def prAt (l : List SolvedV) (p h : Int) : Nat → Option Nat
  | 0 => none
  | k + 1 => match prAt l p h k with
    | some i => some i
    | none => match l[k]? with
      | some x => if x.pupil = p ∧ x.heat = h then some k else none
      | none => none
theorem prAt_zero (l : List SolvedV) (p h : Int) : prAt l p h 0 = none := rfl
theorem prAt_miss {l : List SolvedV} {p h : Int} {k : Nat} {x : SolvedV} (hn : prAt l p h k = none) (hx : l[k]? = some x) (hh : ¬ (x.pupil = p ∧ x.heat = h)) : prAt l p h (k + 1) = none := by simp only [prAt, hn, hx]; rw [if_neg hh]
theorem prAt_hit {l : List SolvedV} {p h : Int} {k : Nat} {x : SolvedV} (hn : prAt l p h k = none) (hx : l[k]? = some x) (hh : x.pupil = p ∧ x.heat = h) : prAt l p h (k + 1) = some k := by simp only [prAt, hn, hx]; rw [if_pos hh]
theorem prAt_old {l : List SolvedV} {p h : Int} {k i : Nat} (hn : prAt l p h k = some i) : prAt l p h (k + 1) = some i := by simp only [prAt, hn]
theorem prAt_keep {l : List SolvedV} {p h : Int} {k i : Nat} (hn : prAt l p h k = some i) (m : Nat) (hm : k ≤ m) : prAt l p h m = some i := by
  induction m with
  | zero => obtain rfl : k = 0 := by omega
            exact hn
  | succ m ih =>
    by_cases e : k = m + 1
    · subst e; exact hn
    · exact prAt_old (ih (by omega))
theorem prAt_at {l : List SolvedV} {p h : Int} {k i : Nat} (hn : prAt l p h k = some i) : i < k ∧ ∃ x, l[i]? = some x ∧ x.pupil = p ∧ x.heat = h := by
  induction k with
  | zero => cases hn
  | succ k ih =>
    simp only [prAt] at hn
    cases e : prAt l p h k with
    | some j =>
      rw [e] at hn
      injection hn with hn
      subst hn
      obtain ⟨h1, h2⟩ := ih e
      exact ⟨by omega, h2⟩
    | none =>
      rw [e] at hn
      cases hx : l[k]? with
      | none => rw [hx] at hn; cases hn
      | some x =>
        rw [hx] at hn
        simp only [] at hn
        split at hn
        · injection hn with hn
          subst hn
          rename_i hh
          exact ⟨by omega, x, hx, hh.1, hh.2⟩
        · cases hn
/-- The rows with one wrong answer turned into a right one. -/
def modR (x : SolvedV) : SolvedV := ⟨x.pupil, x.heat, x.right + 1, x.wrong - 1, x.time⟩
def modL (l : List SolvedV) (i : Nat) : List SolvedV := match l[i]? with
  | some x => l.set i (modR x)
  | none => l
theorem modL_at {l : List SolvedV} {i : Nat} {x : SolvedV} (hx : l[i]? = some x) : modL l i = l.set i (modR x) := by simp [modL, hx]
theorem modL_len (l : List SolvedV) (i : Nat) : (modL l i).length = l.length := by
  unfold modL; split
  · rw [List.length_set]
  · rfl
def proOk (l : List SolvedV) (p h : Int) : Bool := goodB l && match prAt l p h l.length with
  | some i => goodB (modL l i)
  | none => false
def proV (l : List SolvedV) (p h : Int) : List SolvedV := if proOk l p h = true then (match prAt l p h l.length with
  | some i => modL l i
  | none => []) else []
theorem proV_no {l : List SolvedV} {p h : Int} (hh : proOk l p h = false) : proV l p h = [] := if_neg (by simp [hh])
theorem pro_yes {l : List SolvedV} {p h : Int} {i : Nat} (hg : goodB l = true) (hp : prAt l p h l.length = some i) (hm : goodB (modL l i) = true) : proV l p h = modL l i ∧ proOk l p h = true := by
  have : proOk l p h = true := by unfold proOk; rw [hg, hp]; exact hm
  exact ⟨by unfold proV; rw [if_pos this, hp], this⟩
theorem pro_bad {l : List SolvedV} {p h : Int} {i : Nat} (hp : prAt l p h l.length = some i) (hm : goodB (modL l i) = false) : proV l p h = [] ∧ proOk l p h = false := by
  have : proOk l p h = false := by unfold proOk; rw [hp]; simp [hm]
  exact ⟨proV_no this, this⟩
theorem pro_none {l : List SolvedV} {p h : Int} (hp : prAt l p h l.length = none) : proV l p h = [] ∧ proOk l p h = false := by
  have : proOk l p h = false := by unfold proOk; rw [hp]; simp
  exact ⟨proV_no this, this⟩
theorem pro_notgood {l : List SolvedV} {p h : Int} (hg : goodB l = false) : proV l p h = [] ∧ proOk l p h = false := by
  have : proOk l p h = false := by unfold proOk; rw [hg]; rfl
  exact ⟨proV_no this, this⟩
theorem proV_len (l : List SolvedV) (p h : Int) : (proV l p h).length ≤ 12 := by
  cases hk : proOk l p h
  · rw [proV_no hk]; simp
  · unfold proV
    rw [if_pos hk]
    split
    · rw [modL_len]
      simp only [proOk, Bool.and_eq_true] at hk
      exact goodB_len hk.1
    · simp
/-- In a valid list no two rows are of the same pupil in the same heat. -/
theorem good_once {l : List SolvedV} (hg : goodB l = true) {i j : Nat} {x y : SolvedV} (hij : i < j) (hx : l[i]? = some x) (hy : l[j]? = some y) : ¬ (x.pupil = y.pupil ∧ x.heat = y.heat) := by
  obtain ⟨_, _, hp⟩ := good_pair hg
  obtain ⟨hi, ex⟩ := List.getElem?_eq_some_iff.1 hx
  obtain ⟨hj, ey⟩ := List.getElem?_eq_some_iff.1 hy
  have := (List.pairwise_iff_getElem.1 hp) i j hi hj hij
  rw [ex, ey, ordB_iff] at this
  omega
theorem mod_wrong {l : List SolvedV} {i : Nat} {x : SolvedV} (hx : l[i]? = some x) (hw : x.wrong ≤ 0) : goodB (modL l i) = false := by
  cases e : goodB (modL l i)
  · rfl
  · obtain ⟨_, hs, _⟩ := good_pair e
    have hm : modR x ∈ modL l i := by
      rw [modL_at hx]
      exact List.mem_of_getElem? (i := i) (by rw [List.getElem?_set, if_pos rfl, if_pos (List.getElem?_eq_some_iff.1 hx).1])
    have := solvedB_iff (hs _ hm)
    simp only [modR] at this
    omega
/-- What the reference knows behind k rows: no row till there gives an answer. -/
def proNo (l : List SolvedV) (p h : Int) (k : Nat) : Prop := ∀ i, prAt l p h k = some i → goodB (modL l i) = false
theorem proNo_zero (l : List SolvedV) (p h : Int) : proNo l p h 0 := fun i hi => by rw [prAt_zero] at hi; cases hi
theorem proNo_miss {l : List SolvedV} {p h : Int} {k : Nat} {x : SolvedV} (hn : proNo l p h k) (hx : l[k]? = some x) (hh : ¬ (x.pupil = p ∧ x.heat = h)) : proNo l p h (k + 1) := by
  intro i hi
  cases e : prAt l p h k with
  | some j => rw [prAt_old e] at hi; injection hi with hi; subst hi; exact hn _ e
  | none => rw [prAt_miss e hx hh] at hi; cases hi
theorem pro_first {l : List SolvedV} {p h : Int} {k : Nat} {x : SolvedV} (hg : goodB l = true) (hx : l[k]? = some x) (hh : x.pupil = p ∧ x.heat = h) : prAt l p h (k + 1) = some k := by
  cases e : prAt l p h k with
  | some j =>
    obtain ⟨hj, y, hy, e1, e2⟩ := prAt_at e
    exact absurd ⟨by rw [e1, hh.1], by rw [e2, hh.2]⟩ (good_once hg hj hy hx)
  | none => exact prAt_hit e hx hh
theorem proNo_bad {l : List SolvedV} {p h : Int} {k : Nat} {x : SolvedV} (hg : goodB l = true) (hx : l[k]? = some x) (hh : x.pupil = p ∧ x.heat = h) (hm : goodB (modL l k) = false) : proNo l p h (k + 1) := by
  intro i hi
  rw [pro_first hg hx hh] at hi
  injection hi with hi
  subst hi
  exact hm
theorem proNo_end {l : List SolvedV} {p h : Int} (hn : proNo l p h l.length) : proV l p h = [] ∧ proOk l p h = false := by
  cases e : prAt l p h l.length with
  | some i => exact pro_bad e (hn i e)
  | none => exact pro_none e
attribute [irreducible] prAt proV proOk proNo modL

set_option maxRecDepth 100000 in
set_option maxHeartbeats 8000000 in
theorem protestI_any (A : Option Addr) (c : Nat) (l : List SolvedV) (p h : Int) (w : World) (hn : l.length ≤ 16777216) (hr : RdT solvedT w A l) :
    Calls Try.prog 31 #[.slice A l.length c, .int .i64 p, .int .i64 h] w (RetSolved w (proV l p h) (proOk l p h)) := by
  have hG := Lib.hid (fun W g => areSolvedI_any A c l W hn g)
  cases hg : goodB l
  · obtain ⟨e1, e2⟩ := pro_notgood (p := p) (h := h) hg
    rw [e1, e2]
    rw [hg] at hG
    clear e1 e2
    go_enter Try.func31, Try.ntmps31
    go_wp2_with (go_at_call 24; refine (hG.out _ hr).mono ?_; rintro e w1 ⟨rfl, hb1⟩)
    go_ret2
    exact ⟨none, 0, rfl, OwnT.nil _ _, hb1⟩
  rw [hg] at hG
  have hl12 := goodB_len hg
  have HSB := Lib.hid (good_pair hg).2.1
  go_enter Try.func31, Try.ntmps31
  go_wp2_with (first
    | (go_at_call 24; refine (hG.out _ hr).mono ?_; rintro e w1 ⟨rfl, hb1⟩; have he := ownSolved_empty w1 w.heap.size hb1.size; have hb2 := hb1.alloc hb1.size (.cells #[] 25); have hr2 := hr.below hb2 (Nat.le_refl _); have hz2 := hb2.size)
    | (at_builtin; refine wpList_spreadT solvedT rfl _ _ rfl w.heap.size _ [] rfl he w.heap.size hb2 A l l.length _ rfl rfl hr2 (by simp; omega) hz2 (Nat.le_refl _) ?_; intro A1 c1 w3 ho3 hb3 hgr3))
  simp only [List.length_nil, Nat.zero_add, List.nil_append] at ho3 ⊢
  clear hb1 hb2 he hr2 hgr3 hz2
  go_wp2
  go_loopw [19] (fun i wr => ∃ k : Nat, k ≤ l.length ∧ i = .int .i64 k ∧ Hid (prAt l p h k = none) ∧ OwnT solvedT wr w.heap.size (.slice A1 l.length c1) l ∧ Below w.heap.size w wr) (fun i _ => l.length - (intOf i).toNat)
  case atStart => exact ⟨0, by omega, rfl, Lib.hid (prAt_zero l p h), ho3, hb3⟩
  case round =>
    obtain ⟨k, hk, rfl, HN, ho, hb⟩ := hrel
    clear ho3 hb3
    have hz := hb.size
    by_cases hlt : k < l.length
    · obtain ⟨g, rfl, hgb, hgl⟩ := ho.head (by omega)
      obtain ⟨p', h', r, q, t, hx, hc0, hc1, hc2, hc3, hc4, hf0, hf1, hf2, hf3, hf4⟩ := solved_own ho hlt
      have hsb := solvedB_iff (HSB.out _ (List.mem_of_getElem? hx))
      dsimp only at hsb
      by_cases hp : p' = p
      · by_cases hh : h' = h
        · subst hp hh
          have HA := Lib.hid (prAt_keep (prAt_hit HN.out hx ⟨rfl, rfl⟩) l.length (by omega))
          have HML := Lib.hid (modL_at hx)
          have i1 : IntKind.i64.wrap (r + 1) = r + 1 := IntWalk.i64_in _ (by omega)
          have i2 : IntKind.i64.wrap (q - 1) = q - 1 := IntWalk.i64_in _ (by omega)
          obtain ⟨bx, hbx⟩ : ∃ bx : Obj, bx = .cells #[.int .i64 p', .int .i64 h', .int .i64 r, .int .i64 q, .int .i64 t] 25 := ⟨_, rfl⟩
          have hoA := ho.alloc bx
          have hs1 := ho.setField (j := 2) (y := ⟨p', h', r + 1, q, t⟩) (u := .int .i64 (r + 1)) hx rfl (by decide)
          have hx2 : (l.set k ⟨p', h', r + 1, q, t⟩)[k]? = some ⟨p', h', r + 1, q, t⟩ := by rw [List.getElem?_set, if_pos rfl, if_pos hlt]
          have hs2 := hs1.1.setField (j := 3) (y := ⟨p', h', r + 1, q - 1, t⟩) (u := .int .i64 (q - 1)) hx2 rfl (by decide)
          rw [List.set_set] at hs2
          have hbN : Below w.heap.size w (((wr.setCell ⟨g, k * 5 + 2, none⟩ (.int .i64 (r + 1))).setCell ⟨g, k * 5 + 3, none⟩ (.int .i64 (q - 1))).alloc bx) := ((hb.setCell hgb _).setCell hgb _).alloc (by simp; omega) _
          have hoN : OwnT solvedT (((wr.setCell ⟨g, k * 5 + 2, none⟩ (.int .i64 (r + 1))).setCell ⟨g, k * 5 + 3, none⟩ (.int .i64 (q - 1))).alloc bx) w.heap.size (.slice (some ⟨g, 0, none⟩) l.length c1) (modL l k) := by rw [HML.out]; exact OwnT.alloc hs2.1 _
          have a2 := box_old hc2 bx
          have a3 := box_old hc3 bx
          have f2 : (wr.alloc bx).frozen? ⟨g, k * 5 + 2, none⟩ = false := hoA.frozen _
          have f3 : (wr.alloc bx).frozen? ⟨g, k * 5 + 3, none⟩ = false := hoA.frozen _
          have hm12 : (modL l k).length = l.length := modL_len l k
          have HMG := Lib.hid (fun W g' => areSolvedI_any (some ⟨g, 0, none⟩) c1 (modL l k) W (by rw [hm12]; omega) g')
          rw [hm12] at HMG
          have HM12 := Lib.hid hm12
          clear hx hx2 hs1 hs2 hsb hoA ho HML HN hm12 hb
          rw [hbx] at hbN hoN a2 a3 f2 f3
          go_wp2_with fail
          obtain ⟨wn, hwn⟩ : ∃ wn : World, wn = (((wr.setCell ⟨g, k * 5 + 2, none⟩ (.int .i64 (r + 1))).setCell ⟨g, k * 5 + 3, none⟩ (.int .i64 (q - 1))).alloc (.cells #[.int .i64 p', .int .i64 h', .int .i64 r, .int .i64 q, .int .i64 t] 25)) := ⟨_, rfl⟩
          rw [← hwn] at hbN hoN ⊢
          clear hwn
          refine (HMG.out _ hoN.rd).mono ?_
          rintro e w5 ⟨rfl, hb5⟩
          have ho5 := hoN.below hb5 (Nat.le_refl _)
          have hb6 := hbN.trans (hb5.mono hbN.size)
          cases hgm : goodB (modL l k)
          · have HR := Lib.hid (pro_bad HA.out hgm)
            clear hoN HMG
            go_wp2
            go_ret2
            rw [HR.out.1, HR.out.2]
            exact ⟨none, 0, rfl, OwnT.nil _ _, hb6⟩
          · have HR := Lib.hid (pro_yes hg HA.out hgm)
            clear hoN HMG
            go_wp2
            go_ret2
            rw [HR.out.1, HR.out.2]
            exact ⟨some ⟨g, 0, none⟩, c1, by rw [HM12.out]; rfl, by rw [HM12.out]; exact ho5, hb6⟩
        · have HN2 := Lib.hid (prAt_miss HN.out hx (fun e => hh e.2))
          have d1 : (p' == p) = true := by simp [hp]
          have d2 : (h' == h) = false := by simp [hh]
          clear hx HN hsb hp hh
          go_wp2
          go_roundw
          case rel => exact ⟨k + 1, by omega, by go_num, HN2, ho.alloc _, hb.alloc hz _⟩
          case measure => simp [intOf]; omega
      · have HN2 := Lib.hid (prAt_miss HN.out hx (fun e => hp e.1))
        have d1 : (p' == p) = false := by simp [hp]
        clear hx HN hsb hp
        go_wp2
        go_roundw
        case rel => exact ⟨k + 1, by omega, by go_num, HN2, ho.alloc _, hb.alloc hz _⟩
        case measure => simp [intOf]; omega
    · obtain rfl : k = l.length := by omega
      have HR := Lib.hid (pro_none HN.out)
      clear HN
      go_wp2
      go_ret2
      rw [HR.out.1, HR.out.2]
      exact ⟨none, 0, rfl, OwnT.nil _ _, hb⟩
end Go.Proofs.Ytcbecfkckdalmaa
