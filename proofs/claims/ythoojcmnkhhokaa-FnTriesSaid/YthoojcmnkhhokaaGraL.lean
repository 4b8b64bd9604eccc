/-
  The rank of the tries: plain.
-/
import Derived.Test.YthoojcmnkhhokaaGraG
import Derived.Test.YthoojcmnkhhokaaPut
import Derived.Test.YthoojcmnkhhokaaSpread
namespace Go.Proofs.Ythoojcmnkhhokaa
set_option maxRecDepth 100000
open Go.RowKit

def trK (ts : List TryV) (n : Nat) (o : Int) : Int := match ts[o.toNat]? with
  | some t => -(1000 * t.grade + ptsA t.points n)
  | none => 0
theorem trK_at {ts : List TryV} {n k : Nat} {t : TryV} (h : ts[k]? = some t) : trK ts n (k : Int) = -(1000 * t.grade + ptsA t.points n) := by
  unfold trK
  rw [Int.toNat_natCast, h]
def rkA (ts : List TryV) (n : Nat) : Nat → List Int
  | 0 => []
  | k + 1 => insL (rkA ts n k) (posL ((rkA ts n k).map (trK ts n)) (trK ts n k) (rkA ts n k).length) k
theorem rkA_zero (ts : List TryV) (n : Nat) : rkA ts n 0 = [] := rfl
theorem rkA_succ (ts : List TryV) (n k : Nat) : rkA ts n (k + 1) = insL (rkA ts n k) (posL ((rkA ts n k).map (trK ts n)) (trK ts n k) (rkA ts n k).length) k := rfl
theorem rkA_len (ts : List TryV) (n k : Nat) : (rkA ts n k).length = k := by
  induction k with
  | zero => rfl
  | succ k ih => rw [rkA_succ, length_insL, ih]
theorem rkA_mem (ts : List TryV) (n k : Nat) : ∀ o ∈ rkA ts n k, 0 ≤ o ∧ o < k := by
  induction k with
  | zero => intro o h; simp [rkA] at h
  | succ k ih =>
    intro o h
    rw [rkA_succ, mem_insL] at h
    rcases h with rfl | h
    · omega
    · have := ih o h; omega
def rkV (s : List PartV) (ts : List TryV) : List Int := if goodB s ts = true then rkA ts s.length ts.length else []
theorem rkV_no {s : List PartV} {ts : List TryV} (h : goodB s ts = false) : rkV s ts = [] := by simp [rkV, h]
theorem rkV_yes {s : List PartV} {ts : List TryV} (h : goodB s ts = true) : rkV s ts = rkA ts s.length ts.length := by simp [rkV, h]
theorem rkV_len (s : List PartV) (ts : List TryV) : (rkV s ts).length ≤ 10 := by
  cases h : goodB s ts
  · rw [rkV_no h]; simp
  · rw [rkV_yes h, rkA_len]; exact (goodB_iff h).2.1
theorem key_at {L : List Int} {f : Int → Int} {m : Nat} {o : Int} (h : L[m]? = some o) : (L.map f).getD m 0 = f o := by
  rw [List.getD_eq_getElem?_getD, List.getElem?_map, h]; rfl
theorem try_key {s : List PartV} {ts : List TryV} (h : goodB s ts = true) {k : Nat} {t : TryV} (hx : ts[k]? = some t) : (1 ≤ t.grade ∧ t.grade ≤ 10) ∧ 0 ≤ ptsA t.points s.length ∧ ptsA t.points s.length ≤ 600 := by
  obtain ⟨hs, _, hall⟩ := goodB_iff h
  have ht := hall _ (List.mem_of_getElem? hx)
  have h2 := try_nums hs ht
  have h3 := tryB_iff ht
  exact ⟨h3.2.1, h2.2.2.2.1⟩
attribute [irreducible] trK rkA rkV
end Go.Proofs.Ythoojcmnkhhokaa
