/-
  Exhibits by their years; the oldest of a land; those of which no two are kin: plain.
-/
import Derived.Test.YthoejiepaackhaaMusD
import Derived.Test.YthoejiepaackhaaPut
namespace Go.Proofs.Ythoejiepaackhaa
open Go.RowKit

def madeL (L : List ExhibitV) : List Int := L.map ExhibitV.made
theorem madeL_len (L : List ExhibitV) : (madeL L).length = L.length := by simp [madeL]
theorem madeL_at {L : List ExhibitV} {m : Nat} {x : ExhibitV} (h : L[m]? = some x) : (madeL L).getD m 0 = x.made := by
  unfold madeL; rw [List.getD_eq_getElem?_getD, List.getElem?_map, h]; rfl
def agA (l : List ExhibitV) : Nat → List ExhibitV
  | 0 => []
  | k + 1 => match l[k]? with
    | some x => insL (agA l k) (posL (madeL (agA l k)) x.made (agA l k).length) x
    | none => agA l k
theorem agA_zero (l : List ExhibitV) : agA l 0 = [] := rfl
theorem agA_succ {l : List ExhibitV} {k : Nat} {x : ExhibitV} (h : l[k]? = some x) : agA l (k + 1) = insL (agA l k) (posL (madeL (agA l k)) x.made (agA l k).length) x := by simp only [agA, h]
theorem agA_len (l : List ExhibitV) (k : Nat) (hk : k ≤ l.length) : (agA l k).length = k := by
  induction k with
  | zero => rfl
  | succ k ih =>
    obtain ⟨x, hx⟩ := get_of_lt l (k := k) (by omega)
    rw [agA_succ hx, length_insL, ih (by omega)]
theorem agA_mem (l : List ExhibitV) (k : Nat) : ∀ y ∈ agA l k, y ∈ l := by
  induction k with
  | zero => intro y h; simp [agA] at h
  | succ k ih =>
    intro y h
    cases hx : l[k]? with
    | none => simp only [agA, hx] at h; exact ih y h
    | some x =>
      rw [agA_succ hx, mem_insL] at h
      rcases h with rfl | h
      · exact List.mem_of_getElem? hx
      · exact ih y h
def agV (l : List ExhibitV) : List ExhibitV := agA l l.length
theorem agV_eq (l : List ExhibitV) : agA l l.length = agV l := rfl
theorem agV_len (l : List ExhibitV) : (agV l).length = l.length := agA_len l _ (Nat.le_refl _)
theorem agV_exh {l : List ExhibitV} (h : goodB l = true) (y : ExhibitV) (hy : y ∈ agV l) : exhB y = true := good_mem h y (agA_mem l _ y hy)

/-! ### the oldest of a land -/
def landB (s : ByteArray) (x : ExhibitV) : Bool := x.land.toList == s.toList
def olF (l : List ExhibitV) (s : ByteArray) : Option ExhibitV := (agV l).find? (landB s)
def olV (l : List ExhibitV) (s : ByteArray) : Int := if goodB l = true then (match olF l s with | some x => x.id_ | none => 0) else 0
def olB (l : List ExhibitV) (s : ByteArray) : Bool := goodB l && (olF l s).isSome
def noneTo (L : List ExhibitV) (s : ByteArray) (k : Nat) : Bool := (L.take k).all fun x => !landB s x
theorem noneTo_zero (L : List ExhibitV) (s : ByteArray) : noneTo L s 0 = true := by simp [noneTo]
theorem noneTo_succ {L : List ExhibitV} {s : ByteArray} {k : Nat} {x : ExhibitV} (h : noneTo L s k = true) (hx : L[k]? = some x) (hn : (x.land.toList == s.toList) = false) : noneTo L s (k + 1) = true := by
  unfold noneTo at *
  rw [take_snoc' hx, List.all_append, h]
  simp [landB, hn]
theorem ol_bad {l : List ExhibitV} (s : ByteArray) (h : goodB l = false) : olV l s = 0 ∧ olB l s = false := by simp [olV, olB, h]
theorem find_first {L : List ExhibitV} {s : ByteArray} {k : Nat} {x : ExhibitV} (h : noneTo L s k = true) (hx : L[k]? = some x) (hh : landB s x = true) : L.find? (landB s) = some x := by
  have hk := (List.getElem?_eq_some_iff.1 hx).1
  have e : L = L.take k ++ x :: L.drop (k + 1) := by
    have h1 := List.take_append_drop k L
    rw [List.drop_eq_getElem_cons hk, (List.getElem?_eq_some_iff.1 hx).2] at h1
    exact h1.symm
  rw [e, List.find?_append]
  have h1 : (L.take k).find? (landB s) = none := by
    rw [List.find?_eq_none]
    intro y hy
    have := List.all_eq_true.1 h y hy
    simpa using this
  rw [h1]
  simp [hh]
theorem ol_hit {l : List ExhibitV} {s : ByteArray} {k : Nat} {x : ExhibitV} (hg : goodB l = true) (h : noneTo (agV l) s k = true) (hx : (agV l)[k]? = some x) (hh : (x.land.toList == s.toList) = true) : olV l s = x.id_ ∧ olB l s = true := by
  have := find_first h hx (show landB s x = true from hh)
  unfold olV olB olF
  rw [this, hg]
  exact ⟨rfl, rfl⟩
theorem ol_none {l : List ExhibitV} {s : ByteArray} (hg : goodB l = true) (h : noneTo (agV l) s (agV l).length = true) : olV l s = 0 ∧ olB l s = false := by
  have : (agV l).find? (landB s) = none := by
    rw [List.find?_eq_none]
    intro y hy
    unfold noneTo at h
    rw [List.take_length] at h
    have := List.all_eq_true.1 h y hy
    simpa using this
  unfold olV olB olF
  rw [this, hg]
  exact ⟨rfl, rfl⟩

/-! ### those of which no two are kin -/
def kinB (x y : ExhibitV) : Bool := (x.upper == y.upper) && (x.lower == y.lower)
theorem kinB_symm (x y : ExhibitV) : kinB x y = kinB y x := by
  unfold kinB
  rw [show (x.upper == y.upper) = (y.upper == x.upper) from BEq.comm, show (x.lower == y.lower) = (y.lower == x.lower) from BEq.comm]
def kinTo (ch : List ExhibitV) (x : ExhibitV) (m : Nat) : Bool := (ch.take m).any fun y => kinB x y
theorem kinTo_zero (ch : List ExhibitV) (x : ExhibitV) : kinTo ch x 0 = false := by simp [kinTo]
theorem kinTo_succ {ch : List ExhibitV} {x y : ExhibitV} {m : Nat} (h : ch[m]? = some y) : kinTo ch x (m + 1) = (kinTo ch x m || kinB x y) := by
  unfold kinTo; rw [take_snoc' h, List.any_append]; simp
def rodA (ch : List ExhibitV) (m : Nat) : Int := sumTo ExhibitV.rods ch m
theorem rodA_zero (ch : List ExhibitV) : rodA ch 0 = 0 := sumTo_zero _ _
theorem rodA_succ {ch : List ExhibitV} {y : ExhibitV} {m : Nat} (h : ch[m]? = some y) : rodA ch (m + 1) = rodA ch m + y.rods := sumTo_succ _ h
def fitB (ch : List ExhibitV) (room : Int) (x : ExhibitV) : Bool := decide (x.rods ≤ room - rodA ch ch.length) && !kinTo ch x ch.length
def shA (O : List ExhibitV) (room : Int) : Nat → List ExhibitV
  | 0 => []
  | k + 1 => match O[k]? with
    | some x => if fitB (shA O room k) room x = true then shA O room k ++ [x] else shA O room k
    | none => shA O room k
theorem shA_zero (O : List ExhibitV) (room : Int) : shA O room 0 = [] := rfl
theorem shA_yes {O : List ExhibitV} {room : Int} {k : Nat} {x : ExhibitV} (hx : O[k]? = some x) (h : fitB (shA O room k) room x = true) : shA O room (k + 1) = shA O room k ++ [x] := by simp only [shA, hx]; exact if_pos h
theorem shA_no {O : List ExhibitV} {room : Int} {k : Nat} {x : ExhibitV} (hx : O[k]? = some x) (h : fitB (shA O room k) room x = false) : shA O room (k + 1) = shA O room k := by simp only [shA, hx]; exact if_neg (by simp [h])
theorem shA_len (O : List ExhibitV) (room : Int) (k : Nat) : (shA O room k).length ≤ k := by
  induction k with
  | zero => simp [shA]
  | succ k ih =>
    cases hx : O[k]? with
    | none => simp only [shA, hx]; omega
    | some x =>
      cases h : fitB (shA O room k) room x
      · rw [shA_no hx h]; omega
      · rw [shA_yes hx h]; simp; omega
theorem shA_mem (O : List ExhibitV) (room : Int) (k : Nat) : ∀ y ∈ shA O room k, y ∈ O := by
  induction k with
  | zero => intro y h; simp [shA] at h
  | succ k ih =>
    intro y hy
    cases hx : O[k]? with
    | none => simp only [shA, hx] at hy; exact ih y hy
    | some x =>
      cases h : fitB (shA O room k) room x
      · rw [shA_no hx h] at hy; exact ih y hy
      · rw [shA_yes hx h, List.mem_append, List.mem_singleton] at hy
        rcases hy with hy | rfl
        · exact ih y hy
        · exact List.mem_of_getElem? hx
theorem rodA_snoc (ch : List ExhibitV) (x : ExhibitV) : rodA (ch ++ [x]) (ch ++ [x]).length = rodA ch ch.length + x.rods := by
  unfold rodA sumTo
  rw [List.take_length, List.take_length]
  simp
theorem rodA_bd {ch : List ExhibitV} (h : ∀ y ∈ ch, exhB y = true) (m : Nat) : 0 ≤ rodA ch m ∧ rodA ch m ≤ 31 * m := by
  exact sumTo_bd ExhibitV.rods 31 ch (fun y hy => by have := (exhB_iff (h y hy)).2.2.2.2.1; omega) m
def idL (L : List ExhibitV) : List Int := L.map ExhibitV.id_
theorem idL_snoc (L : List ExhibitV) (x : ExhibitV) : idL (L ++ [x]) = idL L ++ [x.id_] := by simp [idL]
theorem idL_len (L : List ExhibitV) : (idL L).length = L.length := by simp [idL]
def shB (l : List ExhibitV) (room : Int) : Bool := goodB l && inB room 0 500
def shV (l : List ExhibitV) (room : Int) : List Int := if shB l room = true then idL (shA (agV l) room l.length) else []
theorem shV_yes {l : List ExhibitV} {room : Int} (h : shB l room = true) : shV l room = idL (shA (agV l) room l.length) := if_pos h
theorem shV_no {l : List ExhibitV} {room : Int} (h : shB l room = false) : shV l room = [] := if_neg (by simp [h])
theorem shB_iff {l : List ExhibitV} {room : Int} (h : shB l room = true) : goodB l = true ∧ inB room 0 500 = true := by simpa [shB] using h
theorem shV_len (l : List ExhibitV) (room : Int) : (shV l room).length ≤ 10 := by
  cases h : shB l room
  · rw [shV_no h]; simp
  · rw [shV_yes h, idL_len]
    have h1 := shA_len (agV l) room l.length
    have h2 := (goodB_iff (shB_iff h).1).1
    omega

/-! ### put into a case -/
def findA (l : List ExhibitV) (id : Int) (k : Nat) : Bool := (l.take k).all fun x => !(x.id_ == id)
theorem findA_zero (l : List ExhibitV) (id : Int) : findA l id 0 = true := by simp [findA]
theorem findA_succ {l : List ExhibitV} {id : Int} {k : Nat} {x : ExhibitV} (h : findA l id k = true) (hx : l[k]? = some x) (hn : ¬ x.id_ = id) : findA l id (k + 1) = true := by
  unfold findA at *
  rw [take_snoc' hx, List.all_append, h]; simp [hn]
def idxV (l : List ExhibitV) (id : Int) : Int := if findA l id l.length = true then -1 else ((l.findIdx fun x => x.id_ == id : Nat) : Int)
theorem idxV_hit {l : List ExhibitV} {id : Int} {k : Nat} {x : ExhibitV} (h : findA l id k = true) (hx : l[k]? = some x) (hh : x.id_ = id) : idxV l id = (k : Int) := by
  obtain ⟨hk, hxx⟩ := List.getElem?_eq_some_iff.1 hx
  have h1 : ¬ findA l id l.length = true := by
    intro hall
    unfold findA at hall
    rw [List.take_length] at hall
    have := List.all_eq_true.1 hall x (List.mem_of_getElem? hx)
    simp [hh] at this
  unfold idxV
  rw [if_neg h1]
  congr 1
  rw [List.findIdx_eq hk]
  refine ⟨by rw [hxx]; simp [hh], fun j hj => ?_⟩
  have hjl : j < l.length := by omega
  unfold findA at h
  have hm : l[j] ∈ l.take k := by
    rw [List.mem_take_iff_getElem]
    exact ⟨j, by omega, rfl⟩
  have := List.all_eq_true.1 h _ hm
  simpa using this
theorem idxV_none {l : List ExhibitV} {id : Int} (h : findA l id l.length = true) : idxV l id = -1 := if_pos h
theorem idxV_cases (l : List ExhibitV) (id : Int) : idxV l id = -1 ∨ ∃ (k : Nat) (x : ExhibitV), idxV l id = k ∧ l[k]? = some x ∧ x.id_ = id := by
  by_cases h : findA l id l.length = true
  · exact .inl (idxV_none h)
  · right
    have hex : ∃ x ∈ l, (x.id_ == id) = true := by
      unfold findA at h
      rw [List.take_length] at h
      have h2 : ¬ ∀ x ∈ l, (!(x.id_ == id)) = true := fun hh => h (List.all_eq_true.2 hh)
      apply Classical.byContradiction
      intro hne
      exact h2 (fun x hx => by
        cases hq : (x.id_ == id)
        · rfl
        · exact absurd ⟨x, hx, hq⟩ hne)
    have hlt := List.findIdx_lt_length.2 hex
    have hgt := List.findIdx_getElem (w := hlt)
    refine ⟨_, l[l.findIdx fun x => x.id_ == id], ?_, List.getElem?_eq_getElem hlt, by simpa using hgt⟩
    unfold idxV
    rw [if_neg h]
def caseV (x : ExhibitV) (t : Int) : ExhibitV := { x with case_ := t }
def mvL (l : List ExhibitV) (k : Nat) (t : Int) : List ExhibitV := match l[k]? with
  | some x => l.set k (caseV x t)
  | none => l
theorem mvL_at {l : List ExhibitV} {k : Nat} {x : ExhibitV} (h : l[k]? = some x) (t : Int) : mvL l k t = l.set k (caseV x t) := by simp [mvL, h]
theorem mvL_len (l : List ExhibitV) (k : Nat) (t : Int) : (mvL l k t).length = l.length := by
  unfold mvL; split <;> simp
theorem mvL_ok {l : List ExhibitV} {k : Nat} {t : Int} (h : ∀ x ∈ l, x.ok) : ∀ x ∈ mvL l k t, x.ok := by
  intro y hy
  unfold mvL at hy
  split at hy
  · rename_i x hx
    rcases List.mem_or_eq_of_mem_set hy with hy | rfl
    · exact h y hy
    · exact h x (List.mem_of_getElem? hx)
  · exact h y hy
def mvB (l : List ExhibitV) (id t : Int) : Bool := goodB l && decide (0 ≤ idxV l id) && goodB (mvL l (idxV l id).toNat t)
def mvV (l : List ExhibitV) (id t : Int) : List ExhibitV := if mvB l id t = true then mvL l (idxV l id).toNat t else []
theorem mvV_yes {l : List ExhibitV} {id t : Int} (h : mvB l id t = true) : mvV l id t = mvL l (idxV l id).toNat t := if_pos h
theorem mvV_no {l : List ExhibitV} {id t : Int} (h : mvB l id t = false) : mvV l id t = [] := if_neg (by simp [h])
theorem mvV_len (l : List ExhibitV) (id t : Int) : (mvV l id t).length ≤ 10 := by
  cases h : mvB l id t
  · rw [mvV_no h]; simp
  · rw [mvV_yes h, mvL_len]
    simp only [mvB, Bool.and_eq_true] at h
    exact (goodB_iff h.1.1).1
/-- A case that is none fells the list. -/
theorem mv_case {l : List ExhibitV} {k : Nat} {x : ExhibitV} {t : Int} (hx : l[k]? = some x) (ht : inB t 0 9 = false) : goodB (mvL l k t) = false := by
  have hk := (List.getElem?_eq_some_iff.1 hx).1
  rw [mvL_at hx]
  cases hg : goodB (l.set k (caseV x t))
  · rfl
  · have := good_mem hg (caseV x t) (List.mem_of_getElem? (i := k) (by rw [List.getElem?_set_self hk]))
    have h2 := (exhB_iff this).2.2.2.2.2
    have h3 := (inB_not _ _ _).1 ht
    exact absurd h2 h3
attribute [irreducible] agA agV shA
end Go.Proofs.Ythoejiepaackhaa
