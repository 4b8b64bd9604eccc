/-
  Plain facts behind the law of grades.
-/
import Derived.Test.YthoojcmnkhhokaaGraU
import Derived.Test.YthoojcmnkhhokaaGraS
import Derived.Test.YthoojcmnkhhokaaGraH
namespace Go.Proofs.Ythoojcmnkhhokaa
set_option maxRecDepth 100000
open Go.RowKit

theorem pm_pass {s : List PartV} {t : TryV} (h : oneB s t = true) : (pmV s t = 0 ↔ passB s t.points = true) ∧ 0 ≤ pmV s t ∧ pmV s t ≤ 1200 := by
  have h1 := oneB_iff h
  obtain ⟨_, _, ⟨hf1, hf2⟩, ⟨hp1, hp2⟩, ⟨hm1, hm2⟩⟩ := try_nums h1.1 h1.2
  rw [pmV_yes h]
  unfold passB
  generalize misA s t.points s.length = mi at *
  generalize fulA s s.length = fu at *
  generalize ptsA t.points s.length = pt at *
  simp only [Bool.and_eq_true, decide_eq_true_eq]
  omega
theorem rs_fail {s : List PartV} {t : TryV} (h : oneB s t = true) : (rsV s t != failS) = passB s t.points := by
  rw [rsV_yes h]
  unfold resV
  cases hp : passB s t.points
  · rw [if_neg (by decide)]
    decide
  · simp only [if_true]
    split
    · decide
    · decide
theorem wk_mis {s : List PartV} {t : TryV} (_hs : schB s = true) (ht : tryB s t = true) (k : Nat) (hk : k ≤ s.length) : ((wkA s t.points k).length : Int) ≤ misA s t.points k := by
  have hl := (tryB_iff ht).2.2.1
  induction k with
  | zero => rw [wkA_zero, misA_zero]; simp
  | succ k ih =>
    have hx : s[k]? = some (s[k]'(by omega)) := List.getElem?_eq_getElem _
    have hn : t.points[k]? = some (t.points[k]'(by omega)) := List.getElem?_eq_getElem _
    generalize s[k] = x at *
    generalize t.points[k] = n at *
    have ih := ih (by omega)
    rw [misA_succ hx hn]
    by_cases h : n < x.needed
    · rw [wkA_yes hx hn h, List.length_append]
      simp only [List.length_singleton]
      omega
    · rw [wkA_no hx hn h]
      omega
theorem wk_miss (s : List PartV) (t : TryV) : ((wkV s t).length : Int) ≤ pmV s t := by
  cases h : oneB s t
  · rw [wkV_no h, pmV_no h]; simp
  · have h1 := oneB_iff h
    have h2 := wk_mis h1.1 h1.2 s.length (Nat.le_refl _)
    rw [wkV_yes h, pmV_yes h]
    omega
theorem pts_ful {s : List PartV} {t : TryV} (_hs : schB s = true) (ht : tryB s t = true) : ptsA t.points s.length ≤ fulA s s.length := by
  obtain ⟨_, _, h2, h3⟩ := tryB_iff ht
  have key : ∀ k, k ≤ s.length → ptsA t.points k ≤ fulA s k := by
    intro k
    induction k with
    | zero => intro _; rw [ptsA_zero, fulA_zero]; omega
    | succ k ih =>
      intro hk
      obtain ⟨x, hx⟩ := get_of_lt s (k := k) (by omega)
      obtain ⟨n, hn⟩ := get_of_lt t.points (k := k) (by omega)
      have := h3 k x n hx hn
      have := ih (by omega)
      rw [ptsA_succ hn, fulA_succ hx]; omega
  exact key _ (Nat.le_refl _)
theorem per_in (s : List PartV) (t : TryV) : 0 ≤ perV s t ∧ perV s t ≤ 100 := by
  cases h : oneB s t
  · rw [perV_no h]; omega
  · have h1 := oneB_iff h
    obtain ⟨_, _, ⟨hf1, hf2⟩, ⟨hp1, hp2⟩, _⟩ := try_nums h1.1 h1.2
    have h3 := pts_ful h1.1 h1.2
    rw [perV_yes h]
    generalize fulA s s.length = fu at *
    generalize ptsA t.points s.length = pt at *
    exact ⟨Int.ediv_nonneg (by omega) (by omega), by
      have := Int.ediv_le_ediv (c := fu) (by omega) (show 100 * pt ≤ 100 * fu by omega)
      rw [Int.mul_ediv_cancel _ (by omega)] at this
      exact this⟩
/-- The numbers of counting tries of the first k pupils. -/
def grN (s : List PartV) (ts : List TryV) : Nat → Nat
  | 0 => 0
  | k + 1 => grN s ts k + match (pupA ts)[k]? with
    | some p => (ofP ts p (cntL s ts)).length
    | none => 0
def cntP (f : Int → Int) (L : List Int) (p : Int) : Nat := (L.filter fun o => f o == p).length
theorem cntP_cons (f : Int → Int) (o : Int) (L : List Int) (p : Int) : cntP f (o :: L) p = cntP f L p + if f o = p then 1 else 0 := by
  unfold cntP
  rw [List.filter_cons]
  by_cases e : f o = p
  · simp [e]
  · simp [e]
theorem sum_ite (x : Int) (Q : List Int) (hQ : Q.Nodup) (c : Int → Nat) : (Q.map fun p => c p + if x = p then 1 else 0).sum = (Q.map c).sum + if x ∈ Q then 1 else 0 := by
  induction Q with
  | nil => simp
  | cons q Q ih =>
    have hq := List.nodup_cons.1 hQ
    have ih := ih hq.2
    rw [List.map_cons, List.sum_cons, ih, List.map_cons, List.sum_cons]
    by_cases e : x = q
    · subst e
      rw [if_pos rfl, if_neg hq.1, if_pos (by simp)]
      omega
    · rw [if_neg e]
      by_cases e2 : x ∈ Q
      · rw [if_pos e2, if_pos (by simp [e2])]; omega
      · rw [if_neg e2, if_neg (by simp [e, e2])]; omega
theorem sum_filt (f : Int → Int) (P : List Int) (hP : P.Nodup) (L : List Int) (h : ∀ o ∈ L, f o ∈ P) : (P.map fun p => (L.filter fun o => f o == p).length).sum = L.length := by
  show (P.map (cntP f L)).sum = L.length
  induction L with
  | nil =>
    have : P.map (cntP f []) = P.map (fun _ => 0) := rfl
    rw [this]
    clear hP h this
    induction P with
    | nil => rfl
    | cons p P ih => simp only [List.map_cons, List.sum_cons, ih]; rfl
  | cons o L ih =>
    have ih := ih (fun x hx => h x (by simp [hx]))
    have ho := h o (by simp)
    rw [show cntP f (o :: L) = fun p => cntP f L p + if f o = p then 1 else 0 from funext (cntP_cons f o L), sum_ite _ _ hP, ih, if_pos ho]
    rfl
theorem rise_nodup {L : List Int} (h : rise L) : L.Nodup := List.Pairwise.imp (fun {a b} (hab : a < b) => (by intro e; omega)) h
theorem grN_take (s : List PartV) (ts : List TryV) (k : Nat) : grN s ts k = (((pupA ts).take k).map fun p => (ofP ts p (cntL s ts)).length).sum := by
  induction k with
  | zero => simp [grN]
  | succ k ih =>
    cases hx : (pupA ts)[k]? with
    | none =>
      have h1 := List.getElem?_eq_none_iff.1 hx
      simp only [grN, hx, ih]
      rw [List.take_of_length_le h1, List.take_of_length_le (by omega)]
      rfl
    | some p =>
      simp only [grN, hx, ih]
      rw [take_snoc' hx, List.map_append, List.sum_append]
      simp
theorem grN_all (s : List PartV) (ts : List TryV) : grN s ts (pupA ts).length = (cntL s ts).length := by
  rw [grN_take, List.take_length]
  refine sum_filt (pupOf ts) (pupA ts) (rise_nodup (by have := (putTo_mem (pupL ts)).1; unfold pupA; rwa [show (pupL ts).length = ts.length by simp [pupL]] at this)) (cntL s ts) ?_
  intro o ho
  have h1 := (cntA_mem s ts ts.length).1 o ho
  obtain ⟨j, rfl⟩ : ∃ j : Nat, o = j := ⟨o.toNat, by omega⟩
  obtain ⟨t, ht⟩ := get_of_lt ts (k := j) (by omega)
  rw [pupOf_at ht, pupA_mem]
  exact List.mem_map.2 ⟨t, List.mem_of_getElem? ht, rfl⟩
theorem grN_done {s : List PartV} {ts : List TryV} : (grN s ts (grV s ts).length : Int) = (cvV s ts).length := by
  cases h : goodB s ts
  · rw [grV_no h, cvV_no h]; rfl
  · rw [grV_yes h, cvV_yes h]
    unfold grA
    rw [List.length_map, List.take_length, grN_all]
theorem ofP_len (ts : List TryV) (p : Int) (L : List Int) : (ofP ts p L).length ≤ L.length := List.length_filter_le _ _
theorem gr_row {s : List PartV} {ts : List TryV} {k : Nat} {r : List Int} (h : (grV s ts)[k]? = some r) : ∃ (p : Int) (m : Nat), r = [p, (m : Int)] ∧ (1 ≤ p ∧ p ≤ 999) ∧ m ≤ 10 ∧ grN s ts (k + 1) = grN s ts k + m ∧ grN s ts k ≤ 10 * k := by
  cases hg : goodB s ts
  · rw [grV_no hg] at h; cases h
  · rw [grV_yes hg] at h
    unfold grA at h
    rw [List.take_length, List.getElem?_map] at h
    obtain ⟨h1, h2, h3⟩ := goodB_iff hg
    have hc : (cntL s ts).length ≤ 10 := by have := (cntA_mem s ts ts.length).2.2; unfold cntL; omega
    have hb : ∀ j, grN s ts j ≤ 10 * j := by
      intro j
      induction j with
      | zero => simp [grN]
      | succ j ih =>
        simp only [grN]
        split
        · have := ofP_len ts ‹_› (cntL s ts); omega
        · omega
    cases hx : (pupA ts)[k]? with
    | none => rw [hx] at h; cases h
    | some p =>
      rw [hx] at h
      simp only [Option.map_some, Option.some.injEq] at h
      subst h
      refine ⟨p, _, rfl, ?_, ?_, ?_, hb k⟩
      · have hp := (pupA_mem ts p).1 (List.mem_of_getElem? hx)
        obtain ⟨t, ht, rfl⟩ := List.mem_map.1 hp
        exact (tryB_iff (h3 t ht)).1
      · have := ofP_len ts p (cntL s ts); omega
      · simp only [grN, hx]
attribute [irreducible] grN
end Go.Proofs.Ythoojcmnkhhokaa
