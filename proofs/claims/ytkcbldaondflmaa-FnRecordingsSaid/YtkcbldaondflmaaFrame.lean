/-
  From a walk to a row: what the frame of every law of this seat shares.
-/
import Derived.Test.YtkcbldaondflmaaTyped
import Derived.ProofKit
import Derived.OpenShut
import Derived.Deep.Slices
namespace Go.Proofs.Ytkcbldaondflmaa
open Go.ChangeShapes Go.WideShapes Go.ChangeAt Go.RowKit Go.Deep

theorem ownk : ownKnob Try.prog.godebug = none := by kernel_rfl
theorem laid_out : laidOutB Try.prog = true := by kernel_rfl

section
variable {H : Type} {enc : TypeId × Value → H} {P : Program}
theorem trodAll_below (hl : laidOutB P = true) {W W' : World} (hb : Below W.heap.size W W') : ∀ (ts : List TypeId) (vs : List Value) (ds : List (DataW H)) (ps : List MemPlace),
    (ts.all fun t => P.readableRec t && decide (t < P.types.size)) = true → DataW.TrodAll enc P W 0 (fun _ => true) true ts vs ds ps → (∀ x ∈ ps, x.block < W.heap.size) →
    DataW.TrodAll enc P W' 0 (fun b => decide (b < W.heap.size)) true ts vs ds ps
  | [], vs, ds, ps, _, h, _ => by
    obtain ⟨rfl, rfl, rfl⟩ := trodAll_nil h
    exact trodAll_mk0
  | t :: ts, vs, ds, ps, hr, h, hlt => by
    obtain ⟨v, vs', d, ds', p, q, rfl, rfl, rfl, h1, h2⟩ := trodAll_cons h
    have hr' : (P.readableRec t = true ∧ t < P.types.size) ∧ (ts.all fun t => P.readableRec t && decide (t < P.types.size)) = true := by simpa using hr
    exact trodAll_cons_mk (Below.trod hl hr'.1.1 hr'.1.2 h1 hb (fun x hx => hlt x (by simp [hx])))
      (trodAll_below hl hb ts vs' ds' q hr'.2 h2 (fun x hx => hlt x (by simp [hx])))

variable {α : Type} {w : World} {base : Nat}
/-- An argument that is a slice: a list, whose elements are laid into cells as the type says. -/
theorem open_rows (T : Ty α) (hC : Try.prog.cellsOf T.e = T.sz)
    (hdec : ∀ (n : Nat) (cs : List Value) (x : DataW H × List MemPlace), DataW.trod enc Try.prog w 0 (fun _ => true) true n T.e cs = some x → ∃ y, cs = T.enc y)
    {r : Reach} {b0 : Nat} {v : Value} {d : DataW H} {p : List MemPlace} (hv : Value.okWide Try.prog w r b0 T.st v) (h : DataW.Trod enc Try.prog w 0 (fun _ => true) true T.st v d p) :
    ∃ A c l, v = .slice A (l : List α).length c ∧ l.length ≤ maxLen ∧ RdT T w A l := by
  obtain ⟨A, len, cap, rfl⟩ := okWide_slice T.hst hv
  obtain ⟨fuel, hf⟩ := h
  rcases open_slice T.hst hf with ⟨h0, _⟩ | ⟨a, len', cap', m, n, D, Pl, hcs, _, hl, hm, hmm, _, hi⟩
  · simp [Value.cells] at h0
    obtain ⟨rfl, rfl, rfl⟩ := h0
    exact ⟨none, 0, [], rfl, by simp [maxLen], RdT.nil _ _⟩
  · simp [Value.cells] at hcs
    obtain ⟨rfl, rfl, rfl⟩ := hcs
    simp only [if_true] at hmm
    subst hmm
    have hel : ∀ i, i < len → ∃ y : α, ∀ j u, (T.enc y)[j]? = some u → w.cell? (a.add (i * T.sz + j)) = some u := by
      intro i hilt
      obtain ⟨cs', hc, ht⟩ := hi i (by omega)
      obtain ⟨y, rfl⟩ := hdec n cs' _ ht
      rw [hC] at hc
      obtain ⟨_, hlen, hat⟩ := World.cells?_some hc
      refine ⟨y, fun j u hu => ?_⟩
      have hj : j < T.sz := by
        have := (List.getElem?_eq_some_iff.1 hu).1
        rwa [T.henc] at this
      rw [← add_add, hat j hj, hu]
    have hex : ∀ k, k ≤ len → ∃ l : List α, l.length = k ∧ ∀ i y, l[i]? = some y → ∀ j u, (T.enc y)[j]? = some u → w.cell? (a.add (i * T.sz + j)) = some u := by
      intro k
      induction k with
      | zero => exact fun _ => ⟨[], rfl, fun i y h => by simp at h⟩
      | succ k ih =>
        intro hk
        obtain ⟨l, hll, hc⟩ := ih (by omega)
        obtain ⟨y, hy⟩ := hel k (by omega)
        refine ⟨l ++ [y], by simp [hll], fun i z hz j u hu => ?_⟩
        by_cases hik : i < l.length
        · rw [List.getElem?_append_left hik] at hz
          exact hc i z hz j u hu
        · rw [List.getElem?_append_right (by omega)] at hz
          have : i - l.length = 0 := by
            have := (List.getElem?_eq_some_iff.1 hz).1
            simp at this
            omega
          rw [this] at hz
          simp at hz
          subst hz
          rw [show i = k by omega]
          exact hy j u hu
    obtain ⟨l, rfl, hcells⟩ := hex len (Nat.le_refl _)
    refine ⟨some a, _, l, rfl, by omega, flat_length T l, fun hn => ?_⟩
    have hu0 : ∃ u, (T.enc l[0])[0]? = some u := ⟨_, List.getElem?_eq_getElem (by rw [T.henc]; exact T.hsz)⟩
    obtain ⟨u0, hu0⟩ := hu0
    have hc0 := hcells 0 _ (List.getElem?_eq_getElem hn) 0 u0 hu0
    obtain ⟨b, off, spot⟩ := a
    have hspot : spot = none := by simpa [Addr.add] using World.cell?_spot hc0
    subst hspot
    have hlt := World.block_lt_of_cell? w _ hc0
    rw [Addr.add_lit] at hlt
    refine ⟨b, off, rfl, hlt, fun j u hu => ?_⟩
    have hj : j < l.length * T.sz := by
      have := (List.getElem?_eq_some_iff.1 hu).1
      rwa [flat_length] at this
    have hi : j / T.sz < l.length := Nat.div_lt_of_lt_mul (by rw [Nat.mul_comm]; exact hj)
    have hx := List.getElem?_eq_getElem hi
    have hr : j % T.sz < T.sz := Nat.mod_lt _ T.hsz
    have hdm : j / T.sz * T.sz + j % T.sz = j := by rw [Nat.mul_comm]; exact Nat.div_add_mod j T.sz
    have hu' := flat_at T l (j / T.sz) (j % T.sz) _ _ hx (List.getElem?_eq_getElem (by rw [T.henc]; exact hr))
    rw [hdm, hu] at hu'
    have := hcells _ _ hx (j % T.sz) u (by rw [List.getElem?_eq_getElem (by rw [T.henc]; exact hr)]; exact hu'.symm)
    rw [hdm, Addr.add_lit] at this
    exact this
end
end Go.Proofs.Ytkcbldaondflmaa
