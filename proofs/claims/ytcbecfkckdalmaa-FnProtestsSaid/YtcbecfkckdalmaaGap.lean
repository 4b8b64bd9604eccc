/-
  A gap in an owned row: the part from place k on is copied one place on, over any element type; an element is put there.
-/
import Derived.Test.YtcbecfkckdalmaaTyped
import Derived.Laws.CopyOwn
import Derived.StillTailTactics
namespace Go.Proofs.Ytcbecfkckdalmaa
open Go.RowKit

section
variable {P : Program}
theorem run_copyT (w : World) (dT sT ty elem : TypeId) (sz g o dLen dCap : Nat) (a : Addr) (sLen sCap : Nat) (cur : Array Value) (t : TypeId) (cs : List Value)
    (hu : P.underlying dT = some (.slice elem)) (hs : (P.info? elem).map (·.size) = some sz)
    (hg : w.heap[g]? = some (.cells cur t (0, 0))) (hn : cs.length = Nat.min sLen dLen * sz)
    (hsrc : ∀ j v, cs[j]? = some v → w.cell? (a.add j) = some v) (hfit : o + cs.length ≤ cur.size) (h1 : ∀ v ∈ cs, v.oneCell' = true) :
    (Builtin.copy_ #[dT, sT] ty #[.slice (some ⟨g, o, none⟩) dLen dCap, .slice (some a) sLen sCap]).run P w =
      .ok (goInt (Nat.min sLen dLen : Nat)) (w.setRow g (cur.toList.take o ++ cs ++ cur.toList.drop (o + cs.length)).toArray) := by
  have hl := run_loadCells_list (P := P) w a cs hsrc
  have hst := run_storeCells_at P g o t cs 0 cur w hg (by simpa using hfit) h1
  cases hq : P.info? elem with
  | none => simp [hq] at hs
  | some i =>
    have hi : i.size = sz := by simpa [hq] using hs
    simp [Builtin.copy_, run_underlying hu, Builtin.lenOf, Builtin.firstCells, sizeOf, typeInfo, hq, hi, ← hn, hl, hst]
theorem run_copyT_none (w : World) (dT sT ty elem : TypeId) (sz : Nat) (d a : Option Addr) (dLen dCap sLen sCap : Nat) (hu : P.underlying dT = some (.slice elem)) (hs : (P.info? elem).map (·.size) = some sz) (hn : Nat.min sLen dLen = 0) :
    (Builtin.copy_ #[dT, sT] ty #[.slice d dLen dCap, .slice a sLen sCap]).run P w = .ok (goInt 0) w := by
  cases hq : P.info? elem with
  | none => simp [hq] at hs
  | some i =>
    have hl : ∀ (x : Addr), (loadCells x 0).run P w = .ok #[] w := fun x => by simpa using run_loadCells_list (P := P) w x [] (by simp)
    cases d <;> cases a <;> simp [Builtin.copy_, run_underlying hu, Builtin.lenOf, Builtin.firstCells, sizeOf, typeInfo, hq, hn, storeCells, hl]
end

/-! ### plain -/
def gapL {α : Type} (L : List α) (k : Nat) : List α := L.take (k + 1) ++ (L.drop k).take (L.length - (k + 1))
theorem length_gapL {α : Type} (L : List α) (k : Nat) (h : k + 1 ≤ L.length) : (gapL L k).length = L.length := by
  unfold gapL
  rw [List.length_append, List.length_take, List.length_take, List.length_drop]; omega
theorem gapL_set {α : Type} (l : List α) (z x : α) (k : Nat) (hk : k ≤ l.length) : (gapL (l ++ [z]) k).set k x = l.take k ++ x :: l.drop k := by
  have h1 : (l ++ [z]).take (k + 1) = l.take k ++ [(l ++ [z])[k]'(by simp; omega)] := by
    rw [List.take_add_one, List.getElem?_eq_getElem (by simp; omega), List.take_append_of_le_length hk]; rfl
  have h2 : ((l ++ [z]).drop k).take ((l ++ [z]).length - (k + 1)) = l.drop k := by
    rw [List.drop_append_of_le_length hk, List.take_append_of_le_length (by simp), List.take_of_length_le (by simp)]
  unfold gapL
  rw [h1, h2, List.append_assoc, List.set_append_right (h := by simp; omega)]
  rw [show k - (l.take k).length = 0 by simp; omega]
  rfl
theorem gapL_last {α : Type} (L : List α) (k : Nat) (h : k + 1 = L.length) : gapL L k = L := by
  unfold gapL
  rw [h, Nat.sub_self, List.take_zero, List.append_nil, List.take_of_length_le (Nat.le_refl _)]
def insL {α : Type} (l : List α) (k : Nat) (x : α) : List α := l.take k ++ x :: l.drop k
theorem length_insL {α : Type} (l : List α) (k : Nat) (x : α) : (insL l k x).length = l.length + 1 := by
  unfold insL
  rw [List.length_append, List.length_cons, List.length_take, List.length_drop]; omega
theorem mem_insL {α : Type} (l : List α) (k : Nat) (x y : α) : y ∈ insL l k x ↔ y = x ∨ y ∈ l := by
  unfold insL
  conv => rhs; rw [← List.take_append_drop k l]
  simp only [List.mem_append, List.mem_cons]
  constructor
  · rintro (h | h | h) <;> simp [h]
  · rintro (h | h | h) <;> simp [h]
theorem map_insL {α β : Type} (f : α → β) (l : List α) (k : Nat) (x : α) : (insL l k x).map f = insL (l.map f) k (f x) := by simp [insL]

section
variable {α : Type} (T : Ty α)
theorem flat_take (L : List α) (k : Nat) : T.flat (L.take k) = (T.flat L).take (k * T.sz) := by
  unfold Ty.flat
  induction L generalizing k with
  | nil => simp
  | cons x L ih =>
    cases k with
    | zero => simp
    | succ k =>
      rw [List.take_succ_cons, List.flatMap_cons, List.flatMap_cons, ih, Nat.add_mul, Nat.one_mul, Nat.add_comm, List.take_append, T.henc, List.take_of_length_le (l := T.enc x) (by rw [T.henc]; omega)]
      rw [show T.sz + k * T.sz - T.sz = k * T.sz by omega]
theorem flat_drop (L : List α) (k : Nat) : T.flat (L.drop k) = (T.flat L).drop (k * T.sz) := by
  unfold Ty.flat
  induction L generalizing k with
  | nil => simp
  | cons x L ih =>
    cases k with
    | zero => simp
    | succ k =>
      rw [List.drop_succ_cons, List.flatMap_cons, ih, Nat.add_mul, Nat.one_mul, Nat.add_comm, List.drop_append, T.henc, List.drop_eq_nil_of_le (show (T.enc x).length ≤ T.sz + k * T.sz by rw [T.henc]; omega)]
      rw [show T.sz + k * T.sz - T.sz = k * T.sz by omega]; rfl
theorem flat_one (L : List α) : ∀ u ∈ T.flat L, u.oneCell' = true := by
  intro u hu
  obtain ⟨x, _, hx⟩ := List.mem_flatMap.1 hu
  exact T.one x u hx
theorem T_size : (Try.prog.info? T.e).map (·.size) = some T.sz := by
  obtain ⟨i0, hi, _, hz1, _⟩ := info_parts T.info
  rw [hi]; simp [hz1]

theorem OwnT.cap {w : World} {base n c : Nat} {ad : Addr} {l : List α} (h : OwnT T w base (.slice (some ad) n c) l) : n = l.length ∧ n ≤ c ∧ c ≤ maxLen := by
  rcases h.2 with ⟨hv, _⟩ | ⟨g, cap, cur, hv, hb, hh, h1, h2, h3, h4⟩
  · cases hv
  · injection hv with e1 e2 e3
    subst e2 e3
    exact ⟨rfl, h1, h2⟩
theorem wpList_gapT {w : World} {ops : Array Oper} {rest : List Oper} {o : Oper} {a : Act} {Q : Exit → Act → World → Prop} (hgd : o.guard = none) (d s : Operand)
    (ho : o.op = .call { callee := .builtin .copy, args := #[d, s], argTypes := #[T.st, T.st] })
    (base g n c k : Nat) (L : List α) (hown : OwnT T w base (.slice (some ⟨g, 0, none⟩) n c) L) (hk : k + 1 ≤ L.length)
    (dp sp : Option Addr) (dLen dCap sLen sCap : Nat) (hd : a.eval d = .slice dp dLen dCap) (hs : a.eval s = .slice sp sLen sCap)
    (hdl : dLen = L.length - (k + 1)) (hsl : sLen = L.length - k)
    (hp : k + 1 < L.length → dp = some ⟨g, (k + 1) * T.sz, none⟩ ∧ sp = some ⟨g, k * T.sz, none⟩)
    (h : ∀ w', OwnT T w' base (.slice (some ⟨g, 0, none⟩) n c) (gapL L k) → w.grownBy w' (some g) → wpList Try.prog ops Q rest (a.put o.dst (goInt (L.length - (k + 1) : Nat))) w') :
    wpList Try.prog ops Q (o :: rest) a w := by
  refine wpList_plain hgd fun K hK => ?_
  have hmin : Nat.min sLen dLen = L.length - (k + 1) := by
    show min sLen dLen = _
    omega
  by_cases h0 : k + 1 = L.length
  · have hrun := run_copyT_none (P := Try.prog) w T.st T.st o.type T.e T.sz dp sp dLen dCap sLen sCap T.hst (T_size T) (by rw [hmin]; omega)
    unfold Oper.wp
    simp [execOp, ho, resolve, invoke, builtin, hd, hs, hrun, Result.andThen]
    have := h w (by rw [gapL_last L k h0]; exact hown) (gr_refl _ _)
    rw [show L.length - (k + 1) = 0 by omega] at this
    exact hK _ _ this
  · obtain ⟨rfl, rfl⟩ := hp (by omega)
    obtain ⟨A', c', hv⟩ := hown.form
    injection hv with _ hn _
    subst hn
    have hown' : w.ownsRow base T.e T.sz (.slice (some ⟨g, 0, none⟩) L.length c) L.length (T.flat L) := hown
    obtain ⟨_, hor⟩ := hown'
    rcases hor with ⟨hv2, _⟩ | ⟨g', cap, cur, hv2, hb, hh, h1, h2, h3, h4⟩
    · cases hv2
    · injection hv2 with e1 e2 e3
      injection e1 with e1
      injection e1 with e1 _ _
      subst e1 e3
      have hcl : (T.flat ((L.drop k).take (L.length - (k + 1)))).length = (L.length - (k + 1)) * T.sz := by
        rw [flat_length, List.length_take, List.length_drop, Nat.min_eq_left (by omega)]
      have hfit : (k + 1) * T.sz + (L.length - (k + 1)) * T.sz = L.length * T.sz := by
        rw [← Nat.add_mul]; congr 1; omega
      have hcur : L.length * T.sz ≤ cur.size := by rw [h3]; exact Nat.mul_le_mul_right _ h1
      have hsrc : ∀ j v, (T.flat ((L.drop k).take (L.length - (k + 1))))[j]? = some v → w.cell? ((⟨g, k * T.sz, none⟩ : Addr).add j) = some v := by
        intro j v hv
        rw [Addr.add_lit]
        rw [flat_take, flat_drop] at hv
        have hj := (List.getElem?_eq_some_iff.1 hv).1
        rw [List.length_take] at hj
        have hj : j < (L.length - (k + 1)) * T.sz := by omega
        rw [List.getElem?_take_of_lt hj, List.getElem?_drop, ← h4, List.getElem?_take_of_lt (by
          have : (L.length - (k + 1)) * T.sz + k * T.sz ≤ L.length * T.sz := by rw [← Nat.add_mul]; exact Nat.mul_le_mul_right _ (by omega)
          omega)] at hv
        simp only [World.cell?, hh]
        simpa using hv
      have hrun := run_copyT (P := Try.prog) w T.st T.st o.type T.e T.sz g ((k + 1) * T.sz) dLen dCap ⟨g, k * T.sz, none⟩ sLen sCap cur T.e (T.flat ((L.drop k).take (L.length - (k + 1)))) T.hst (T_size T) hh (by rw [hcl, hmin]) hsrc (by rw [hcl, hfit]; exact hcur) (flat_one T _)
      rw [hmin] at hrun
      unfold Oper.wp
      simp only [execOp, ho, resolve, invoke, builtin]
      simp [hd, hs, hrun, Result.andThen]
      refine hK _ _ (h _ ?_ ⟨rfl, rfl, rfl, by simp [World.setRow], fun i hi hne => setRow_other w g i _ (fun e => hne (by rw [e]))⟩)
      refine ⟨flat_length T _, ?_⟩
      rw [length_gapL L k hk]
      refine .inr ⟨g, c, _, rfl, hb, setRow_heap w g cur _ _ _ hh, h1, h2, ?_, ?_⟩
      · simp [hcl]; omega
      · have e1 : cur.toList.take ((k + 1) * T.sz) = T.flat (L.take (k + 1)) := by
          rw [flat_take, ← h4, List.take_take, Nat.min_eq_left (Nat.mul_le_mul_right _ hk)]
        have e2 : (cur.toList.take ((k + 1) * T.sz) ++ T.flat ((L.drop k).take (L.length - (k + 1)))).length = L.length * T.sz := by
          rw [List.length_append, hcl, List.length_take, Nat.min_eq_left (by rw [Array.length_toList]; omega), hfit]
        have e3 : ∀ X, ((cur.toList.take ((k + 1) * T.sz) ++ T.flat ((L.drop k).take (L.length - (k + 1)))) ++ X).take (L.length * T.sz) = T.flat (L.take (k + 1)) ++ T.flat ((L.drop k).take (L.length - (k + 1))) := by
          intro X
          rw [List.take_append_of_le_length (Nat.le_of_eq e2.symm), List.take_of_length_le (Nat.le_of_eq e2), e1]
        have e4 := e3 (cur.toList.drop ((k + 1) * T.sz + (T.flat ((L.drop k).take (L.length - (k + 1)))).length))
        rw [List.append_assoc] at e4
        have e5 : T.flat (gapL L k) = T.flat (L.take (k + 1)) ++ T.flat ((L.drop k).take (L.length - (k + 1))) := flat_append T _ _
        rw [e5, ← e4]
end

/-! ### ints -/
def intT : Ty Int where
  enc x := [.int .i64 x]
  sz := 1
  e := 3
  st := 43
  bytes := 8
  zero := 0
  zv := .int .i64 0
  henc _ := rfl
  one _ u hu := by simp at hu; subst hu; rfl
  hsz := by decide
  hz := rfl
  hst := Try.underlying43
  info := by kernel_rfl
  hbytes := by decide
theorem flat_int (l : List Int) : intT.flat l = ints l := by
  induction l with
  | nil => rfl
  | cons x l ih =>
    show intT.enc x ++ intT.flat l = Value.int .i64 x :: ints l
    rw [ih]; rfl
theorem own_int {w : World} {base : Nat} {v : Value} {l : List Int} : OwnT intT w base v l ↔ OwnI w base v l := by
  unfold OwnT OwnI
  rw [flat_int]
  exact Iff.rfl
theorem OwnI.cap {w : World} {base n c : Nat} {ad : Addr} {l : List Int} (h : OwnI w base (.slice (some ad) n c) l) : n = l.length ∧ n ≤ c ∧ c ≤ maxLen := OwnT.cap intT (own_int.2 h)
theorem wpList_gapI {w : World} {ops : Array Oper} {rest : List Oper} {o : Oper} {a : Act} {Q : Exit → Act → World → Prop} (hgd : o.guard = none) (d s : Operand)
    (ho : o.op = .call { callee := .builtin .copy, args := #[d, s], argTypes := #[43, 43] })
    (base g n c k : Nat) (L : List Int) (hown : OwnI w base (.slice (some ⟨g, 0, none⟩) n c) L) (hk : k + 1 ≤ L.length)
    (dp sp : Option Addr) (dLen dCap sLen sCap : Nat) (hd : a.eval d = .slice dp dLen dCap) (hs : a.eval s = .slice sp sLen sCap)
    (hdl : dLen = L.length - (k + 1)) (hsl : sLen = L.length - k)
    (hp : k + 1 < L.length → dp = some ⟨g, k + 1, none⟩ ∧ sp = some ⟨g, k, none⟩)
    (h : ∀ w', OwnI w' base (.slice (some ⟨g, 0, none⟩) n c) (gapL L k) → w.grownBy w' (some g) → wpList Try.prog ops Q rest (a.put o.dst (goInt (L.length - (k + 1) : Nat))) w') :
    wpList Try.prog ops Q (o :: rest) a w :=
  wpList_gapT intT hgd d s ho base g n c k L (own_int.2 hown) hk dp sp dLen dCap sLen sCap hd hs hdl hsl (fun h => by
    obtain ⟨e1, e2⟩ := hp h
    exact ⟨by rw [e1]; show _ = some (⟨g, (k + 1) * 1, none⟩ : Addr); rw [Nat.mul_one], by rw [e2]; show _ = some (⟨g, k * 1, none⟩ : Addr); rw [Nat.mul_one]⟩)
    (fun w' h1 h2 => h w' (own_int.1 h1) h2)
/-- The gap behind an append, for ints: what is stored at its place makes the list with the number put in. -/
theorem wpList_insI {w : World} {ops : Array Oper} {rest : List Oper} {o : Oper} {a : Act} {Q : Exit → Act → World → Prop} (hgd : o.guard = none) (d s : Operand)
    (ho : o.op = .call { callee := .builtin .copy, args := #[d, s], argTypes := #[43, 43] })
    (base g n c k : Nat) (L : List Int) (z : Int) (hown : OwnI w base (.slice (some ⟨g, 0, none⟩) n c) (L ++ [z])) (hk : k ≤ L.length)
    (dp sp : Option Addr) (dLen dCap sLen sCap : Nat) (hd : a.eval d = .slice dp dLen dCap) (hs : a.eval s = .slice sp sLen sCap)
    (hdl : dLen = L.length - k) (hsl : sLen = L.length + 1 - k)
    (hp : k < L.length → dp = some ⟨g, k + 1, none⟩ ∧ sp = some ⟨g, k, none⟩)
    (h : ∀ w' y, w'.cell? ⟨g, k, none⟩ = some (.int .i64 y) → w'.frozen? ⟨g, k, none⟩ = false → Hid (∀ x, OwnI (w'.setCell ⟨g, k, none⟩ (.int .i64 x)) base (.slice (some ⟨g, 0, none⟩) n c) (insL L k x) ∧ w'.grownBy (w'.setCell ⟨g, k, none⟩ (.int .i64 x)) (some g)) → Hid (w.grownBy w' (some g)) → wpList Try.prog ops Q rest (a.put o.dst (goInt (L.length - k : Nat))) w') :
    wpList Try.prog ops Q (o :: rest) a w := by
  refine wpList_gapI hgd d s ho base g n c k (L ++ [z]) hown (by simp; omega) dp sp dLen dCap sLen sCap hd hs (by simp; omega) (by simp; omega) (fun hh => hp (by simp at hh; omega)) ?_
  intro w' h1 h2
  have hl : k < (gapL (L ++ [z]) k).length := by rw [length_gapL _ _ (by simp; omega)]; simp; omega
  have := h w' _ (h1.cell (List.getElem?_eq_getElem hl)) (h1.frozen k) (Lib.hid (fun x => by
    have := h1.set k x
    rw [gapL_set L z x k hk] at this
    exact this)) (Lib.hid h2)
  rw [show (L ++ [z]).length - (k + 1) = L.length - k by simp]
  exact this
/-- The same for elements of several cells. -/
theorem wpList_insT {α : Type} (T : Ty α) {w : World} {ops : Array Oper} {rest : List Oper} {o : Oper} {a : Act} {Q : Exit → Act → World → Prop} (hgd : o.guard = none) (d s : Operand)
    (ho : o.op = .call { callee := .builtin .copy, args := #[d, s], argTypes := #[T.st, T.st] })
    (base g n c k : Nat) (L : List α) (z : α) (hown : OwnT T w base (.slice (some ⟨g, 0, none⟩) n c) (L ++ [z])) (hk : k ≤ L.length)
    (dp sp : Option Addr) (dLen dCap sLen sCap : Nat) (hd : a.eval d = .slice dp dLen dCap) (hs : a.eval s = .slice sp sLen sCap)
    (hdl : dLen = L.length - k) (hsl : sLen = L.length + 1 - k)
    (hp : k < L.length → dp = some ⟨g, (k + 1) * T.sz, none⟩ ∧ sp = some ⟨g, k * T.sz, none⟩)
    (h : ∀ w' y, (∀ j u, (T.enc y)[j]? = some u → w'.cell? ⟨g, k * T.sz + j, none⟩ = some u) → (∀ j, w'.frozen? ⟨g, j, none⟩ = false) → Hid (∀ x, OwnT T (setCells w' g (k * T.sz) (T.enc x)) base (.slice (some ⟨g, 0, none⟩) n c) (insL L k x) ∧ w'.grownBy (setCells w' g (k * T.sz) (T.enc x)) (some g)) → Hid (w.grownBy w' (some g)) → wpList Try.prog ops Q rest (a.put o.dst (goInt (L.length - k : Nat))) w') :
    wpList Try.prog ops Q (o :: rest) a w := by
  refine wpList_gapT T hgd d s ho base g n c k (L ++ [z]) hown (by simp; omega) dp sp dLen dCap sLen sCap hd hs (by simp; omega) (by simp; omega) (fun hh => hp (by simp at hh; omega)) ?_
  intro w' h1 h2
  have hl : k < (gapL (L ++ [z]) k).length := by rw [length_gapL _ _ (by simp; omega)]; simp; omega
  have := h w' _ (h1.cell (List.getElem?_eq_getElem hl)) h1.frozen (Lib.hid (fun x => by
    have := h1.set hl x
    rw [gapL_set L z x k hk] at this
    exact this)) (Lib.hid h2)
  rw [show (L ++ [z]).length - (k + 1) = L.length - k by simp]
  exact this
end Go.Proofs.Ytcbecfkckdalmaa
