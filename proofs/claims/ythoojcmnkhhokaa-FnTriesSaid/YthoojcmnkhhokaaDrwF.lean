/-
  Plain facts behind the laws of tries and of grades.
-/
import Derived.Test.YthoojcmnkhhokaaGraU
import Derived.Test.YthoojcmnkhhokaaGraL
import Derived.Test.YthoojcmnkhhokaaGraI
import Derived.Test.YthoojcmnkhhokaaGraH
import Derived.Test.YthoojcmnkhhokaaGraS
namespace Go.Proofs.Ythoojcmnkhhokaa
set_option maxRecDepth 100000
open Go.RowKit

def low (L : List Int) : Prop := L.Pairwise (· ≤ ·)
theorem low_get {L : List Int} (h : low L) {i j : Nat} (hij : i ≤ j) (hj : j < L.length) : L.getD i 0 ≤ L.getD j 0 := by
  rcases Nat.eq_or_lt_of_le hij with rfl | hlt
  · exact Int.le_refl _
  · have := List.pairwise_iff_getElem.1 h i j (by omega) hj hlt
    rw [List.getD_eq_getElem?_getD, List.getD_eq_getElem?_getD, List.getElem?_eq_getElem (by omega), List.getElem?_eq_getElem hj]
    exact this
theorem low_ins {L : List Int} (h : low L) (n : Int) : low (insL L (posL L n L.length) n) := by
  have hp := posL_le L n L.length
  have hhi := posL_hi L n L.length
  have hlo := posL_lo L n L.length
  generalize posL L n L.length = p at *
  have h1 : ∀ x ∈ L.take p, x ≤ n := by
    intro x hx
    obtain ⟨j, hj, hjl, rfl⟩ := mem_take_lt hx
    rcases hlo with h0 | ⟨_, h0⟩
    · omega
    · have := low_get h (i := j) (j := p - 1) (by omega) (by omega)
      omega
  have h2 : ∀ x ∈ L.drop p, n ≤ x := by
    intro x hx
    obtain ⟨j, hj, hjl, rfl⟩ := mem_drop_ge hx
    have := hhi j hj hjl
    omega
  have h3 : (L.take p ++ L.drop p).Pairwise (· ≤ ·) := by rw [List.take_append_drop]; exact h
  obtain ⟨h4, h5, h6⟩ := List.pairwise_append.1 h3
  show (insL L p n).Pairwise (· ≤ ·)
  unfold insL
  rw [List.pairwise_append]
  refine ⟨h4, ?_, ?_⟩
  · rw [List.pairwise_cons]
    exact ⟨h2, h5⟩
  · intro x hx y hy
    rcases List.mem_cons.1 hy with rfl | hy
    · exact h1 x hx
    · exact h6 x hx y hy
theorem map_ins (f : Int → Int) (L : List Int) (p : Nat) (x : Int) : (insL L p x).map f = insL (L.map f) p (f x) := by
  unfold insL
  simp [List.map_take, List.map_drop]
theorem rk_low (ts : List TryV) (n k : Nat) : low ((rkA ts n k).map (trK ts n)) := by
  induction k with
  | zero => rw [rkA_zero]; exact List.Pairwise.nil
  | succ k ih =>
    rw [rkA_succ, map_ins]
    have := low_ins ih (trK ts n k)
    rwa [List.length_map] at this
theorem rk_grade {s : List PartV} {ts : List TryV} (h : goodB s ts = true) {k : Nat} {o o' : Int} (ho : (rkV s ts)[k]? = some o) (ho' : (rkV s ts)[k + 1]? = some o') :
    ∃ (j q : Nat) (t t' : TryV), o = j ∧ o' = q ∧ j < ts.length ∧ q < ts.length ∧ ts[j]? = some t ∧ ts[q]? = some t' ∧ t'.grade ≤ t.grade := by
  rw [rkV_yes h] at ho ho'
  have m1 := rkA_mem ts s.length ts.length o (List.mem_of_getElem? ho)
  have m2 := rkA_mem ts s.length ts.length o' (List.mem_of_getElem? ho')
  obtain ⟨j, rfl⟩ : ∃ j : Nat, o = j := ⟨o.toNat, by omega⟩
  obtain ⟨q, rfl⟩ : ∃ q : Nat, o' = q := ⟨o'.toNat, by omega⟩
  have h1 : ts[j]? = some (ts[j]'(by omega)) := List.getElem?_eq_getElem _
  have h2 : ts[q]? = some (ts[q]'(by omega)) := List.getElem?_eq_getElem _
  refine ⟨j, q, _, _, rfl, rfl, by omega, by omega, h1, h2, ?_⟩
  have hlt : k + 1 < ((rkA ts s.length ts.length).map (trK ts s.length)).length := by
    rw [List.length_map]
    exact (List.getElem?_eq_some_iff.1 ho').1
  have hk := low_get (rk_low ts s.length ts.length) (i := k) (j := k + 1) (by omega) hlt
  rw [key_at ho, key_at ho', trK_at h1, trK_at h2] at hk
  have k1 := try_key h h1
  have k2 := try_key h h2
  omega
theorem cnt_pass (s : List PartV) (ts : List TryV) (k : Nat) : ∀ o ∈ cntA s ts k, ∃ (j : Nat) (t : TryV), o = j ∧ j < k ∧ ts[j]? = some t ∧ passB s t.points = true := by
  induction k with
  | zero => intro o h; rw [cntA_zero] at h; cases h
  | succ k ih =>
    intro o h
    cases hx : ts[k]? with
    | none =>
      have : cntA s ts (k + 1) = cntA s ts k := by simp only [cntA, hx]
      rw [this] at h
      obtain ⟨j, t, h1, h2, h3⟩ := ih o h
      exact ⟨j, t, h1, by omega, h3⟩
    | some t =>
      by_cases hc : t.grade = (ofP ts t.pupil (cntA s ts k)).length + 1 ∧ passB s t.points = true
      · rw [cntA_yes hx hc.1 hc.2] at h
        rcases List.mem_append.1 h with h | h
        · obtain ⟨j, t, h1, h2, h3⟩ := ih o h
          exact ⟨j, t, h1, by omega, h3⟩
        · rw [List.mem_singleton.1 h]
          exact ⟨k, t, rfl, by omega, hx, hc.2⟩
      · rw [cntA_no hx hc] at h
        obtain ⟨j, t, h1, h2, h3⟩ := ih o h
        exact ⟨j, t, h1, by omega, h3⟩
theorem res_pass {s : List PartV} {l : List Int} (h : passB s l = true) : resV s l = honorS ∨ resV s l = passedS := by
  unfold resV
  rw [if_pos h]
  split
  · exact .inl rfl
  · exact .inr rfl
theorem cv_mem {s : List PartV} {ts : List TryV} : ∀ o ∈ cvV s ts, ∃ (j : Nat) (t : TryV), o = j ∧ j < ts.length ∧ ts[j]? = some t ∧ oneB s t = true ∧ (rsV s t = honorS ∨ rsV s t = passedS) := by
  intro o ho
  cases h : goodB s ts
  · simp [cvV, h] at ho
  · simp only [cvV, h, if_true, cntL] at ho
    obtain ⟨j, t, h1, h2, h3, h4⟩ := cnt_pass s ts _ o ho
    obtain ⟨g1, _, g3⟩ := goodB_iff h
    have hone : oneB s t = true := by unfold oneB; rw [g1, g3 t (List.mem_of_getElem? h3)]; rfl
    exact ⟨j, t, h1, h2, h3, hone, by rw [rsV_yes hone]; exact res_pass h4⟩
theorem bst_min (s : List PartV) (c : Nat → Int) (n : Nat) (hf : ∀ i, i < n → 0 < fulX s i) (k : Nat) (hk : k ≤ n) (i : Nat) (hi : i < k) : c (bstA s c k) * fulX s i ≤ c i * fulX s (bstA s c k) := by
  induction k generalizing i with
  | zero => omega
  | succ k ih =>
    by_cases h : c k * fulX s (bstA s c k) < c (bstA s c k) * fulX s k
    · rw [bstA_yes h]
      rcases Nat.lt_or_ge i k with hlt | hge
      · have h1 := ih (by omega) i hlt
        have hb : bstA s c k < n := bstA_lt s c (by omega) (by omega)
        have fb := hf _ hb
        have fi := hf i (by omega)
        have fk := hf k (by omega)
        generalize fulX s (bstA s c k) = FB at *
        generalize c (bstA s c k) = CB at *
        generalize fulX s i = FI at *
        generalize fulX s k = FK at *
        generalize c k = CK at *
        generalize c i = CI at *
        have e1 : CK * FB * FI ≤ CB * FK * FI := Int.mul_le_mul_of_nonneg_right (Int.le_of_lt h) (Int.le_of_lt fi)
        have e2 : CB * FI * FK ≤ CI * FB * FK := Int.mul_le_mul_of_nonneg_right h1 (Int.le_of_lt fk)
        have e3 : FB * (CK * FI) ≤ FB * (CI * FK) := by
          have a1 : FB * (CK * FI) = CK * FB * FI := by rw [← Int.mul_assoc, Int.mul_comm FB CK]
          have a2 : FB * (CI * FK) = CI * FB * FK := by rw [← Int.mul_assoc, Int.mul_comm FB CI]
          have a3 : CB * FK * FI = CB * FI * FK := by rw [Int.mul_assoc, Int.mul_comm FK FI, ← Int.mul_assoc]
          omega
        exact Int.le_of_mul_le_mul_left e3 fb
      · obtain rfl : i = k := by omega
        exact Int.le_refl _
    · rw [bstA_no h]
      rcases Nat.lt_or_ge i k with hlt | hge
      · exact ih (by omega) i hlt
      · obtain rfl : i = k := by omega
        omega
theorem har_facts {s : List PartV} {ts : List TryV} (h : harO s ts = true) : ∃ b : Nat, harV s ts = b ∧ b < s.length ∧ (∀ t ∈ ts, t.points.length = s.length) ∧ (∀ i, i < s.length → colA ts b ts.length * fulX s i ≤ colA ts i ts.length * fulX s b) ∧ (∀ i k, 0 ≤ colA ts i k ∧ colA ts i k ≤ 100 * k) ∧ ts.length ≤ 10 ∧ (∀ (i : Nat) (x : PartV), s[i]? = some x → 1 ≤ x.full ∧ x.full ≤ 100) := by
  have hg : goodB s ts = true := by unfold harO at h; simp only [Bool.and_eq_true] at h; exact h.1
  obtain ⟨hs, h10, hall⟩ := goodB_iff hg
  have hl := sch_len hs
  have hf : ∀ i, i < s.length → 0 < fulX s i := by
    intro i hi
    have hx : s[i]? = some (s[i]'hi) := List.getElem?_eq_getElem hi
    rw [fulX_at hx]
    have := (sch_part hs hx).1
    omega
  exact ⟨_, harV_yes h, bstA_lt s _ (by omega) (Nat.le_refl _), fun t ht => (tryB_iff (hall t ht)).2.2.1, fun i hi => bst_min s (colF ts ts.length) s.length hf s.length (Nat.le_refl _) i hi, fun i k => colA_bd hg i k, h10, fun i x hx => (sch_part hs hx).1⟩
end Go.Proofs.Ythoojcmnkhhokaa
