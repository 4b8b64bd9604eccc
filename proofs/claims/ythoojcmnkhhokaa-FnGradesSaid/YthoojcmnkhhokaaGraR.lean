/-
  The counting tries, the grades: plain.
-/
import Derived.Test.YthoojcmnkhhokaaGraP
import Derived.Test.YthoojcmnkhhokaaRiseExt
namespace Go.Proofs.Ythoojcmnkhhokaa
set_option maxRecDepth 100000
open Go.RowKit

theorem fold_put (l : List Int) : ∀ P, rise P → rise (l.foldl putL P) ∧ ∀ x, x ∈ l.foldl putL P ↔ x ∈ P ∨ x ∈ l := by
  induction l with
  | nil => intro P h; exact ⟨h, fun x => by simp⟩
  | cons a l ih =>
    intro P h
    obtain ⟨h1, h2, _, _⟩ := put_spec h a
    obtain ⟨h3, h4⟩ := ih _ h1
    refine ⟨h3, fun x => ?_⟩
    rw [List.foldl_cons, h4, h2, List.mem_cons]
    constructor
    · rintro ((h | h) | h)
      · exact .inr (.inl h)
      · exact .inl h
      · exact .inr (.inr h)
    · rintro (h | h | h)
      · exact .inl (.inr h)
      · exact .inl (.inl h)
      · exact .inr h
/-- Numbers put into a rising list, one after the other. -/
def addL (L l : List Int) (m : Nat) : List Int := (l.take m).foldl putL L
theorem addL_zero (L l : List Int) : addL L l 0 = L := by simp [addL]
theorem addL_succ {L l : List Int} {m : Nat} {x : Int} (h : l[m]? = some x) : addL L l (m + 1) = putL (addL L l m) x := by
  unfold addL; rw [take_snoc' h, List.foldl_append]; rfl
theorem addL_len (L l : List Int) (m : Nat) : (addL L l m).length ≤ L.length + m := by
  have h1 := fold_put_len (l.take m) L
  have h2 := List.length_take_le m l
  unfold addL; omega
def outP (F : Int → List Int) (P : List Int) : Nat → List Int
  | 0 => []
  | k + 1 => match P[k]? with
    | some p => addL (outP F P k) (F p) (F p).length
    | none => outP F P k
theorem outP_zero (F : Int → List Int) (P : List Int) : outP F P 0 = [] := rfl
theorem outP_succ {F : Int → List Int} {P : List Int} {k : Nat} {p : Int} (h : P[k]? = some p) : outP F P (k + 1) = addL (outP F P k) (F p) (F p).length := by simp only [outP, h]
theorem outP_len (F : Int → List Int) (P : List Int) (hF : ∀ p, (F p).length ≤ 10) (k : Nat) : (outP F P k).length ≤ 10 * k := by
  induction k with
  | zero => simp [outP]
  | succ k ih =>
    simp only [outP]
    split
    · rename_i p _
      have h1 := addL_len (outP F P k) (F p) (F p).length
      have h2 := hF p
      omega
    · omega
theorem outP_spec (F : Int → List Int) (P : List Int) (k : Nat) (hk : k ≤ P.length) : rise (outP F P k) ∧ ∀ x, x ∈ outP F P k ↔ ∃ p ∈ P.take k, x ∈ F p := by
  induction k with
  | zero => exact ⟨rise_nil, fun x => by simp [outP]⟩
  | succ k ih =>
    obtain ⟨h1, h2⟩ := ih (by omega)
    obtain ⟨p, hp⟩ := get_of_lt P (k := k) (by omega)
    rw [outP_succ hp]
    obtain ⟨h3, h4⟩ := fold_put (F p) _ h1
    unfold addL
    rw [List.take_length]
    refine ⟨h3, fun x => ?_⟩
    rw [h4, h2, take_snoc' hp]
    constructor
    · rintro (⟨q, hq, hx⟩ | hx)
      · exact ⟨q, List.mem_append.2 (.inl hq), hx⟩
      · exact ⟨p, List.mem_append.2 (.inr (List.mem_singleton.2 rfl)), hx⟩
    · rintro ⟨q, hq, hx⟩
      rcases List.mem_append.1 hq with hq | hq
      · exact .inl ⟨q, hq, hx⟩
      · rw [List.mem_singleton.1 hq] at hx; exact .inr hx
theorem putTo_mem (l : List Int) : rise (putTo l l.length) ∧ ∀ x, x ∈ putTo l l.length ↔ x ∈ l := by
  obtain ⟨h1, h2⟩ := fold_put l [] rise_nil
  unfold putTo
  rw [List.take_length]
  exact ⟨h1, fun x => by rw [h2]; simp⟩
/-- All pupils, rising; all tries that count. -/
def pupA (ts : List TryV) : List Int := putTo (pupL ts) ts.length
def cntL (s : List PartV) (ts : List TryV) : List Int := cntA s ts ts.length
theorem pupA_mem (ts : List TryV) (x : Int) : x ∈ pupA ts ↔ x ∈ pupL ts := by
  have := (putTo_mem (pupL ts)).2 x
  unfold pupA
  rwa [show (pupL ts).length = ts.length by simp [pupL]] at this
theorem pupA_len (ts : List TryV) : (pupA ts).length ≤ ts.length := putTo_len _ _
theorem outP_all (s : List PartV) (ts : List TryV) : outP (fun p => ofP ts p (cntL s ts)) (pupA ts) (pupA ts).length = cntL s ts := by
  obtain ⟨h1, h2⟩ := outP_spec (fun p => ofP ts p (cntL s ts)) (pupA ts) (pupA ts).length (Nat.le_refl _)
  obtain ⟨h3, h4, _⟩ := cntA_mem s ts ts.length
  refine rise_ext _ _ h1 h4 (fun x => ?_)
  rw [h2, List.take_length]
  constructor
  · rintro ⟨p, _, hx⟩
    exact (List.mem_filter.1 hx).1
  · intro hx
    have hb := h3 x hx
    obtain ⟨q, rfl⟩ : ∃ q : Nat, x = (q : Int) := ⟨x.toNat, by omega⟩
    obtain ⟨t, ht⟩ := get_of_lt ts (k := q) (by omega)
    refine ⟨t.pupil, (pupA_mem ts _).2 (List.mem_map.2 ⟨t, List.mem_of_getElem? ht, rfl⟩), List.mem_filter.2 ⟨hx, ?_⟩⟩
    rw [pupOf_at ht]; simp
/-- What CountingTries returns. -/
def cvV (s : List PartV) (ts : List TryV) : List Int := if goodB s ts = true then cntL s ts else []
theorem cvV_yes {s : List PartV} {ts : List TryV} (h : goodB s ts = true) : cvV s ts = cntL s ts := if_pos h
theorem cvV_no {s : List PartV} {ts : List TryV} (h : goodB s ts = false) : cvV s ts = [] := if_neg (by simp [h])
theorem cvV_len (s : List PartV) (ts : List TryV) : (cvV s ts).length ≤ 10 := by
  cases h : goodB s ts
  · rw [cvV_no h]; simp
  · rw [cvV_yes h]
    have := (cntA_mem s ts ts.length).2.2
    have := (goodB_iff h).2.1
    unfold cntL; omega
/-- What GradesOf returns. -/
def grRow (s : List PartV) (ts : List TryV) (p : Int) : List Int := [p, ((ofP ts p (cntL s ts)).length : Nat)]
def grA (s : List PartV) (ts : List TryV) (k : Nat) : List (List Int) := ((pupA ts).take k).map (grRow s ts)
theorem grA_zero (s : List PartV) (ts : List TryV) : grA s ts 0 = [] := by simp [grA]
theorem grA_succ {s : List PartV} {ts : List TryV} {k : Nat} {p : Int} (h : (pupA ts)[k]? = some p) : grA s ts (k + 1) = grA s ts k ++ [grRow s ts p] := by
  unfold grA; rw [take_snoc' h, List.map_append]; rfl
theorem grA_len (s : List PartV) (ts : List TryV) (k : Nat) : (grA s ts k).length ≤ k := by
  unfold grA; rw [List.length_map]; exact List.length_take_le _ _
def grV (s : List PartV) (ts : List TryV) : List (List Int) := if goodB s ts = true then grA s ts (pupA ts).length else []
theorem grV_yes {s : List PartV} {ts : List TryV} (h : goodB s ts = true) : grV s ts = grA s ts (pupA ts).length := if_pos h
theorem grV_no {s : List PartV} {ts : List TryV} (h : goodB s ts = false) : grV s ts = [] := if_neg (by simp [h])
theorem grV_small (s : List PartV) (ts : List TryV) : (grV s ts).length ≤ 1000 ∧ ∀ r ∈ grV s ts, r.length ≤ 2 := by
  cases h : goodB s ts
  · rw [grV_no h]; simp
  · rw [grV_yes h]
    have h1 := grA_len s ts (pupA ts).length
    have h2 := pupA_len ts
    have h3 := (goodB_iff h).2.1
    refine ⟨by omega, fun r hr => ?_⟩
    obtain ⟨p, _, rfl⟩ := List.mem_map.1 hr
    simp [grRow]
end Go.Proofs.Ythoojcmnkhhokaa
