/-
  An append of one element: where the new row lies.
-/
import Derived.Test.YtcbecfkckdalmaaIntSS
namespace Go.Proofs.Ytcbecfkckdalmaa
open Go.RowKit

section
variable {P : Program}
theorem run_append_where (w : World) (base : Nat) (t ty e : TypeId) (i : TypeInfo) (z : Value) (size bytes : Nat) (ht : P.underlying t = some (.slice e)) (hi : P.info? e = some i) (hz : i.zero = some z)
    (hsize : i.size = size) (hby : i.bytes = bytes)
    (v : Value) (n : Nat) (xs : List Value) (hown : w.ownsRow base e size v n xs)
    (a : Addr) (m c : Nat) (news : List Value) (hm : 0 < m) (hl : news.length = m * size) (hnews : ∀ j u, news[j]? = some u → w.cell? (a.add j) = some u) (h1 : ∀ u ∈ news, u.oneCell' = true)
    (h63 : n + m ≤ maxLen) (hbytes : (n + m) * bytes ≤ 140737488355328) (v' : Value) (w' : World)
    (hrun : (Builtin.append_ #[t, t] ty #[v, .slice (some a) m c]).run P w = .ok v' w') : v'.ownBlock = v.ownBlock ∨ v'.ownBlock = some w.heap.size := by
  subst hsize
  subst hby
  have hsmall : n + m ≤ 9223372036854775807 := by simp only [maxLen] at h63; omega
  rcases hown.2 with ⟨rfl, rfl⟩ | ⟨g, cap, cur, rfl, hbg, hg, hnc, hcm, hcs, htake⟩
  · have hr := run_append_nil (P := P) w t ty e i z ht hi hz a m c news hl hnews (by omega) (by omega) (by have hb := hbytes; simp only [Nat.zero_add] at hb; omega)
    rw [hr] at hrun
    injection hrun with e1 e2
    subst e1
    exact .inr rfl
  · by_cases hroom : n + m ≤ cap
    · have hfit : n * i.size + news.length ≤ cur.size := by rw [hl, hcs, ← Nat.add_mul]; exact Nat.mul_le_mul_right _ hroom
      have hr := run_append_room (P := P) w t ty e i ht hi g n cap cur hg a m c news hl hnews h1 hroom hfit
      rw [hr] at hrun
      injection hrun with e1 e2
      subst e1
      exact .inl rfl
    · have holds : ∀ j u, xs[j]? = some u → w.cell? ((⟨g, 0, none⟩ : Addr).add j) = some u := hown.cells (g := g) rfl
      have hr := run_append_grow (P := P) w t ty e i z ht hi hz ⟨g, 0, none⟩ n cap xs hown.1 holds a m c news hl hnews (by omega) (by omega) (growslice_fits (by omega) hbytes)
      rw [hr] at hrun
      injection hrun with e1 e2
      subst e1
      exact .inr rfl
end
theorem wpList_appW {α : Type} {w w0 : World} {ops : Array Oper} {rest : List Oper} {o : Oper} {a : Act} {Q : Exit → Act → World → Prop} (T : Ty α) (hgd : o.guard = none) (s x : Operand)
    (ho : o.op = .call { callee := .builtin .append, args := #[s, x], argTypes := #[T.st, T.st] })
    (base : Nat) (v : Value) (l : List α) (hs : a.eval s = v) (hown : OwnT T w base v l) (B : Nat) (hB : Below B w0 w)
    (y : α) (us : Array Value) (hus : us = (T.enc y).toArray) (N : Nat) (hN : N = w.heap.size) (hx : a.eval x = .slice (some ⟨N, 0, none⟩) 1 1)
    (hlen : l.length + 1 ≤ 16777216) (hbase : base ≤ w.heap.size) (hBb : B ≤ base)
    (h : ∀ A' c' w', OwnT T w' base (.slice A' (l.length + 1) c') (l ++ [y]) → Below B w0 w' → (w.alloc (.cells us T.e)).grownBy w' v.ownBlock → Hid (∀ u, ApartV u v → (∀ k, u.ownBlock = some k → k < w.heap.size) → ApartV u (.slice A' (l.length + 1) c')) → wpList Try.prog ops Q rest (a.put o.dst (.slice A' (l.length + 1) c')) w') :
    wpList Try.prog ops Q (o :: rest) a (w.alloc (.cells us T.e)) := by
  obtain ⟨i0, hi, hz0, hz1, hz2⟩ := info_parts T.info
  have hby := T.hbytes
  have hzs : T.zv.cells.size = T.sz := by rw [← Array.length_toList, T.hz, T.henc]
  subst hN hus
  have hlt := hown.lt
  have hbd : (l.length + 1) * T.bytes ≤ 140737488355328 := by
    have : (l.length + 1) * T.bytes ≤ 16777216 * 256 := Nat.mul_le_mul hlen hby
    omega
  have hml : l.length + 1 ≤ maxLen := by unfold maxLen; omega
  refine wpList_plain hgd fun K hK => ?_
  have hcn := cells_new w (T.enc y) T.e
  have hle : (T.enc y).length = 1 * T.sz := by rw [T.henc, Nat.one_mul]
  obtain ⟨v', w', hr, h2, h3, h4⟩ := run_append_own (P := Try.prog) (w.alloc (.cells (T.enc y).toArray T.e)) base T.st o.type T.e i0 T.zv T.sz T.bytes T.hst hi hz0 hz1 hz2 hzs T.hsz v _ _ (World.ownsRow.alloc hown _) ⟨w.heap.size, 0, none⟩ 1 1 (T.enc y) hle hcn (T.one y) hml hbd (by simp; omega)
  have hwh := run_append_where (P := Try.prog) (w.alloc (.cells (T.enc y).toArray T.e)) base T.st o.type T.e i0 T.zv T.sz T.bytes T.hst hi hz0 hz1 hz2 v _ _ (World.ownsRow.alloc hown _) ⟨w.heap.size, 0, none⟩ 1 1 (T.enc y) (by omega) hle hcn (T.one y) hml hbd v' w' hr
  unfold Oper.wp execOp
  simp only [ho, resolve, invoke, builtin, Sem.run_bind, Sem.run_pure, Result.andThen_ok, List.map_toArray, List.map_cons, List.map_nil, hs, hx, hr]
  obtain ⟨A', c', rfl⟩ := own_form h2
  refine hK _ _ (h A' c' w' ?_ ?_ h3 (Lib.hid ?_))
  · unfold OwnT
    rw [flat_snoc, List.length_append]
    exact h2
  · exact (hB.alloc (by omega) _).grown h3 (by simp; omega) (fun k hk => by have := hlt k hk; omega)
  · intro u hu hk
    rcases hwh with e | e
    · unfold ApartV at *
      rw [e]; exact hu
    · right
      rw [e]
      intro e2
      have := hk _ e2
      simp at this
      omega
end Go.Proofs.Ytcbecfkckdalmaa
