/-
  An argument that is a slice of slices of moves, opened.
-/
import Derived.Test.YtkcbldaondflmaaMSS
import Derived.Test.YtkcbldaondflmaaFrameS
import Derived.Test.YtkcbldaondflmaaFrameMove
import Derived.ChangeMaps5
namespace Go.Proofs.Ytkcbldaondflmaa
open Go.ChangeShapes Go.WideShapes Go.ChangeAt Go.RowKit Go.Deep

section
variable {H : Type} {enc : TypeId × Value → H} {α : Type} {w : World}
theorem open_cellsT (T : Ty α) (hC : Try.prog.cellsOf T.e = T.sz)
    (hdec : ∀ (n : Nat) (cs : List Value) (x : DataW H × List MemPlace), DataW.trod enc Try.prog w 0 (fun _ => true) true n T.e cs = some x → ∃ y, cs = T.enc y)
    {fuel : Nat} {cs0 : List Value} {x : DataW H × List MemPlace} (hf : DataW.trod enc Try.prog w 0 (fun _ => true) true fuel T.st cs0 = some x) :
    ∃ A c l, cs0 = [.slice A (l : List α).length c] ∧ l.length ≤ maxLen ∧ RdT T w A l := by
  rcases open_slice T.hst hf with ⟨h0, _⟩ | ⟨a, len, cap', m, n, D, Pl, hcs, _, hl, hm, hmm, _, hi⟩
  · exact ⟨none, 0, [], h0, by simp [maxLen], RdT.nil _ _⟩
  · simp only [if_true] at hmm
    subst hmm
    have hel : ∀ i, i < len → ∃ y : α, ∀ j u, (T.enc y)[j]? = some u → w.cell? (a.add (i * T.sz + j)) = some u := by
      intro i hilt
      obtain ⟨cs', hc, ht⟩ := hi i (by omega)
      obtain ⟨y, rfl⟩ := hdec n cs' _ ht
      rw [hC] at hc
      obtain ⟨_, hlen, hat⟩ := World.cells?_some hc
      refine ⟨y, fun j u hu => ?_⟩
      have hj : j < T.sz := by
        have := (List.getElem?_eq_some_iff.1 hu).1
        rwa [T.henc] at this
      rw [← add_add, hat j hj, hu]
    have hex : ∀ k, k ≤ len → ∃ l : List α, l.length = k ∧ ∀ i y, l[i]? = some y → ∀ j u, (T.enc y)[j]? = some u → w.cell? (a.add (i * T.sz + j)) = some u := by
      intro k
      induction k with
      | zero => exact fun _ => ⟨[], rfl, fun i y h => by simp at h⟩
      | succ k ih =>
        intro hk
        obtain ⟨l, hll, hc⟩ := ih (by omega)
        obtain ⟨y, hy⟩ := hel k (by omega)
        refine ⟨l ++ [y], by simp [hll], fun i z hz j u hu => ?_⟩
        by_cases hik : i < l.length
        · rw [List.getElem?_append_left hik] at hz
          exact hc i z hz j u hu
        · rw [List.getElem?_append_right (by omega)] at hz
          have : i - l.length = 0 := by
            have := (List.getElem?_eq_some_iff.1 hz).1
            simp at this
            omega
          rw [this] at hz
          simp at hz
          subst hz
          rw [show i = k by omega]
          exact hy j u hu
    obtain ⟨l, rfl, hcells⟩ := hex len (Nat.le_refl _)
    refine ⟨some a, _, l, hcs, by omega, flat_length T l, fun hn => ?_⟩
    have hu0 : ∃ u, (T.enc l[0])[0]? = some u := ⟨_, List.getElem?_eq_getElem (by rw [T.henc]; exact T.hsz)⟩
    obtain ⟨u0, hu0⟩ := hu0
    have hc0 := hcells 0 _ (List.getElem?_eq_getElem hn) 0 u0 hu0
    obtain ⟨b, off, spot⟩ := a
    have hspot : spot = none := by simpa [Addr.add] using World.cell?_spot hc0
    subst hspot
    have hlt := World.block_lt_of_cell? w _ hc0
    rw [Addr.add_lit] at hlt
    refine ⟨b, off, rfl, hlt, fun j u hu => ?_⟩
    have hj : j < l.length * T.sz := by
      have := (List.getElem?_eq_some_iff.1 hu).1
      rwa [flat_length] at this
    have hi : j / T.sz < l.length := Nat.div_lt_of_lt_mul (by rw [Nat.mul_comm]; exact hj)
    have hx := List.getElem?_eq_getElem hi
    have hr : j % T.sz < T.sz := Nat.mod_lt _ T.hsz
    have hdm : j / T.sz * T.sz + j % T.sz = j := by rw [Nat.mul_comm]; exact Nat.div_add_mod j T.sz
    have hu' := flat_at T l (j / T.sz) (j % T.sz) _ _ hx (List.getElem?_eq_getElem (by rw [T.henc]; exact hr))
    rw [hdm, hu] at hu'
    have := hcells _ _ hx (j % T.sz) u (by rw [List.getElem?_eq_getElem (by rw [T.henc]; exact hr)]; exact hu'.symm)
    rw [hdm, Addr.add_lit] at this
    exact this
end
theorem dec_hdrL {H : Type} (W : World) (enc : TypeId × Value → H) (n : Nat) (cs : List Value) (x : DataW H × List MemPlace) (h : DataW.trod enc Try.prog W 0 (fun _ => true) true n hdrL.e cs = some x) : ∃ y, cs = hdrL.enc y ∧ ∃ l : List MoveV, y.n = l.length ∧ l.length ≤ maxLen ∧ RdT moveL W y.A l := by
  obtain ⟨A, c, l, rfl, hm, hr⟩ := open_cellsT moveL (by kernel_rfl) (dec_move W enc) h
  exact ⟨⟨A, l.length, c⟩, rfl, l, rfl, hm, hr⟩
theorem open_movess {H : Type} (W : World) (enc : TypeId × Value → H) {r : Reach} {b0 : Nat} {v : Value} {d : DataW H} {p : List MemPlace} (hv : Value.okWide Try.prog W r b0 38 v) (h : DataW.Trod enc Try.prog W 0 (fun _ => true) true 38 v d p) :
    ∃ A c ps, v = .slice A (List.length ps) c ∧ ps.length ≤ maxLen ∧ (∀ q ∈ ps, q.2.length ≤ maxLen) ∧ RdM hdrL moveL W A ps := by
  obtain ⟨A, c, l, rfl, hm, hp, hr⟩ := open_rowsP hdrL (Pr := fun y => ∃ l : List MoveV, y.n = l.length ∧ l.length ≤ maxLen ∧ RdT moveL W y.A l) (by kernel_rfl) (dec_hdrL W enc) hv h
  have hex : ∀ hs : List HdrV, (∀ y ∈ hs, ∃ l : List MoveV, y.n = l.length ∧ l.length ≤ maxLen ∧ RdT moveL W y.A l) → ∃ ps : List (HdrV × List MoveV), ps.map Prod.fst = hs ∧ ∀ q ∈ ps, q.1.n = q.2.length ∧ q.2.length ≤ maxLen ∧ RdT moveL W q.1.A q.2 := by
    intro hs
    induction hs with
    | nil => exact fun _ => ⟨[], rfl, by simp⟩
    | cons y hs ih =>
      intro hy
      obtain ⟨ps, e, hps⟩ := ih (fun z hz => hy z (by simp [hz]))
      obtain ⟨l, h1⟩ := hy y (by simp)
      refine ⟨(y, l) :: ps, by simp [e], fun q hq => ?_⟩
      rcases List.mem_cons.1 hq with rfl | hq
      · exact h1
      · exact hps q hq
  obtain ⟨ps, e, hps⟩ := hex l hp
  subst e
  rw [List.length_map] at hm ⊢
  exact ⟨A, c, ps, rfl, hm, fun q hq => (hps q hq).2.1, hr, fun q hq => ⟨(hps q hq).1, (hps q hq).2.2⟩⟩
end Go.Proofs.Ytkcbldaondflmaa
