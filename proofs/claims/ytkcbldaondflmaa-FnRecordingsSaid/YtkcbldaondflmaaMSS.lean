/-
  Slices of slices of moves: read, owned; counted, copied, equal.
-/
import Derived.Test.YtkcbldaondflmaaMove
import Derived.Test.YtkcbldaondflmaaApart
namespace Go.Proofs.Ytkcbldaondflmaa
open Go.RowKit

structure HdrV where
  A : Option Addr
  n : Nat
  c : Nat
def HdrV.val (h : HdrV) : Value := .slice h.A h.n h.c
def hdrM : Ty HdrV where
  enc x := [.slice x.A x.n x.c]
  sz := 1
  e := 26
  st := 41
  bytes := 24
  zero := ⟨none, 0, 0⟩
  zv := .slice none 0 0
  henc _ := rfl
  one _ u hu := by simp at hu; subst hu; rfl
  hsz := by decide
  hz := rfl
  hst := Try.underlying41
  info := by kernel_rfl
  hbytes := by decide
def hdrL : Ty HdrV where
  enc x := [.slice x.A x.n x.c]
  sz := 1
  e := 22
  st := 38
  bytes := 24
  zero := ⟨none, 0, 0⟩
  zv := .slice none 0 0
  henc _ := rfl
  one _ u hu := by simp at hu; subst hu; rfl
  hsz := by decide
  hz := rfl
  hst := Try.underlying38
  info := by kernel_rfl
  hbytes := by decide
structure RdM (T : Ty HdrV) (M : Ty MoveV) (w : World) (A : Option Addr) (ps : List (HdrV × List MoveV)) : Prop where
  rd : RdT T w A (ps.map Prod.fst)
  row : ∀ p ∈ ps, p.1.n = p.2.length ∧ RdT M w p.1.A p.2
structure OwnM (w : World) (base : Nat) (v : Value) (ps : List (HdrV × List MoveV)) : Prop where
  own : OwnT hdrM w base v (ps.map Prod.fst)
  row : ∀ p ∈ ps, p.1.n = p.2.length ∧ OwnT moveT w base p.1.val p.2
theorem hdrM_move : hdrM.e ≠ moveT.e := by decide
section
variable {T : Ty HdrV} {M : Ty MoveV} {w w' : World} {base n c : Nat} {A : Option Addr} {v : Value} {ps : List (HdrV × List MoveV)}
theorem RdM.below {B : Nat} (h : RdM T M w A ps) (hb : Below B w w') (hB : w.heap.size ≤ B) : RdM T M w' A ps := ⟨h.rd.below hb hB, fun p hp => ⟨(h.row p hp).1, (h.row p hp).2.below hb hB⟩⟩
theorem OwnM.below {B : Nat} (h : OwnM w base v ps) (hb : Below B w w') (hB : w.heap.size ≤ B) : OwnM w' base v ps := ⟨h.own.below hb hB, fun p hp => ⟨(h.row p hp).1, (h.row p hp).2.below hb hB⟩⟩
theorem OwnM.rd (h : OwnM w base (.slice A n c) ps) : RdM hdrM moveT w A ps := ⟨h.own.rd, fun p hp => ⟨(h.row p hp).1, OwnT.rd (h.row p hp).2⟩⟩
theorem OwnM.apartO (h : OwnM w base v ps) {p : HdrV × List MoveV} (hp : p ∈ ps) : ApartV v p.1.val := own_apart h.own (h.row p hp).2 hdrM_move
theorem rdM_at (h : RdM T M w A ps) (hT : T.sz = 1) (hE : ∀ x : HdrV, T.enc x = [.slice x.A x.n x.c]) {k : Nat} (hk : k < ps.length) : ∃ b off A' c' l, A = some ⟨b, off, none⟩ ∧ ps[k]? = some (⟨A', l.length, c'⟩, l) ∧ b < w.heap.size ∧ w.cell? ⟨b, off + k, none⟩ = some (.slice A' l.length c') ∧ RdT M w A' l := by
  obtain ⟨b, off, ⟨A', n', c'⟩, hA, hx, hlt, hc⟩ := h.rd.at_ (k := k) (by rw [List.length_map]; exact hk)
  have hp : ps[k]? = some (ps[k]'hk) := List.getElem?_eq_getElem hk
  obtain ⟨hn, hr⟩ := h.row _ (List.mem_of_getElem? hp)
  rw [List.getElem?_map, hp] at hx
  generalize ps[k]'hk = q at *
  obtain ⟨⟨A2, n2, c2⟩, l⟩ := q
  simp only [Option.map_some, Option.some.injEq] at hx
  injection hx with e1 e2 e3
  subst e1 e2 e3
  dsimp only at hn hr
  subst hn
  refine ⟨b, off, A2, c2, l, hA, hp, hlt, ?_, hr⟩
  have h0 := hc 0 (.slice A2 l.length c2) (by rw [hE]; rfl)
  rwa [Nat.add_zero, hT, Nat.mul_one] at h0
theorem RdM.atM (h : RdM hdrM M w A ps) {k : Nat} (hk : k < ps.length) : ∃ b off A' c' l, A = some ⟨b, off, none⟩ ∧ ps[k]? = some (⟨A', l.length, c'⟩, l) ∧ b < w.heap.size ∧ w.cell? ⟨b, off + k, none⟩ = some (.slice A' l.length c') ∧ RdT M w A' l := rdM_at h rfl (fun _ => rfl) hk
theorem RdM.atL (h : RdM hdrL M w A ps) {k : Nat} (hk : k < ps.length) : ∃ b off A' c' l, A = some ⟨b, off, none⟩ ∧ ps[k]? = some (⟨A', l.length, c'⟩, l) ∧ b < w.heap.size ∧ w.cell? ⟨b, off + k, none⟩ = some (.slice A' l.length c') ∧ RdT M w A' l := rdM_at h rfl (fun _ => rfl) hk
theorem map_set_fst {α β : Type} (ps : List (α × β)) (k : Nat) (x : α × β) : (ps.set k x).map Prod.fst = (ps.map Prod.fst).set k x.1 := by
  rw [List.map_set]
theorem OwnM.put {g k : Nat} {x : HdrV × List MoveV} (h : OwnM w base (.slice (some ⟨g, 0, none⟩) n c) ps)
    (hown : OwnT hdrM w' base (.slice (some ⟨g, 0, none⟩) n c) ((ps.map Prod.fst).set k x.1)) (hg : w.grownBy w' (some g)) (hx : x.1.n = x.2.length) (ho : OwnT moveT w base x.1.val x.2) : OwnM w' base (.slice (some ⟨g, 0, none⟩) n c) (ps.set k x) := by
  refine ⟨by rw [map_set_fst]; exact hown, ?_⟩
  intro p hp
  rcases List.mem_or_eq_of_mem_set hp with hp | rfl
  · exact ⟨(h.row p hp).1, OwnT.kept (h.row p hp).2 hg (h.apartO hp).symm⟩
  · exact ⟨hx, OwnT.kept ho hg (own_apart h.own ho hdrM_move).symm⟩
end
/-- Each list is small. -/
def smTo (ps : List (HdrV × List MoveV)) (k : Nat) : Prop := ∀ p ∈ ps.take k, p.2.length ≤ 1048576
theorem smTo_zero (ps : List (HdrV × List MoveV)) : smTo ps 0 := by intro p hp; simp at hp
theorem smTo_succ {ps : List (HdrV × List MoveV)} {k : Nat} {p : HdrV × List MoveV} (h : smTo ps k) (hx : ps[k]? = some p) (hp : p.2.length ≤ 1048576) : smTo ps (k + 1) := by
  intro q hq
  rw [take_snoc' hx] at hq
  rcases List.mem_append.1 hq with hq | hq
  · exact h q hq
  · rw [List.mem_singleton.1 hq]; exact hp
set_option maxHeartbeats 1600000 in
theorem szMSS_any (A : Option Addr) (c : Nat) (ps : List (HdrV × List MoveV)) (left : Int) (w : World) (h0 : 0 ≤ left) (h1 : left ≤ 1048576) (hn : ps.length ≤ maxLen) (hr : RdM hdrL moveL w A ps) (hok : ∀ p ∈ ps, p.2.length ≤ maxLen) :
    Calls Try.prog 30 #[.slice A ps.length c, .int .i64 left] w fun e w' => (∃ r : Int, e = .returned (.int .i64 r) ∧ (r < 0 ∨ (0 ≤ r ∧ r ≤ left ∧ (ps.length : Int) ≤ left ∧ ∀ p ∈ ps, p.2.length ≤ 1048576))) ∧ Below w.heap.size w w' := by
  unfold maxLen at hn
  by_cases h : left < ps.length
  · go_enter Try.func30, Try.ntmps30
    go_wp2
    go_ret
    exact ⟨⟨_, rfl, .inl (by omega)⟩, Below.refl _ _⟩
  · go_enter Try.func30, Try.ntmps30
    go_wp2
    go_loopw [1, 5] (fun q i wr => ∃ (k : Nat) (r : Int), k ≤ ps.length ∧ i = .int .i64 k ∧ q = .int .i64 r ∧ 0 ≤ r ∧ r ≤ left - ps.length ∧ Hid (smTo ps k) ∧ Below w.heap.size w wr) (fun _ i _ => ps.length - (intOf i).toNat)
    case atStart => exact ⟨0, _, by omega, rfl, rfl, by omega, by omega, Lib.hid (smTo_zero ps), Below.refl _ _⟩
    case round =>
      obtain ⟨k, r, hk, rfl, rfl, hr0, hr1, HR, hb⟩ := hrel
      have hz := hb.size
      by_cases hlt : k < ps.length
      · obtain ⟨b, off, A2, c2, l, rfl, hx, hlb, hc, _⟩ := (hr.below hb (Nat.le_refl _)).atL hlt
        have hw : l.length ≤ maxLen := hok _ (List.mem_of_getElem? hx)
        unfold maxLen at hw
        have hw2 : l.length ≤ 9223372036854775807 := by omega
        have HT := Lib.hid (fun hp => smTo_succ HR.out hx hp)
        clear hw hx
        by_cases hs : r < l.length
        · go_wp2_with (go_at_call 11; refine (szBeadMoveS_any A2 l.length c2 r _ hr0 (by omega) hw2).mono ?_; rintro e w2 ⟨rfl, rfl⟩; rw [if_pos hs])
          go_ret
          exact ⟨⟨_, rfl, .inl (by omega)⟩, hb⟩
        · go_wp2_with (go_at_call 11; refine (szBeadMoveS_any A2 l.length c2 r _ hr0 (by omega) hw2).mono ?_; rintro e w2 ⟨rfl, rfl⟩; rw [if_neg hs])
          go_roundw
          case rel => exact ⟨k + 1, _, by omega, by go_num, rfl, by omega, by omega, Lib.hid (HT.out (by show l.length ≤ 1048576; omega)), hb⟩
          case measure => simp [intOf]; omega
      · obtain rfl : k = ps.length := by omega
        have H := Lib.hid (show ∀ p ∈ ps, p.2.length ≤ 1048576 by have := HR.out; unfold smTo at this; rwa [List.take_length] at this)
        clear HR
        go_wp2
        go_ret
        exact ⟨⟨_, rfl, .inr ⟨hr0, by omega, by omega, H.out⟩⟩, hb⟩
set_option maxHeartbeats 3200000 in
theorem toMSS_any (A : Option Addr) (c : Nat) (ps : List (HdrV × List MoveV)) (w : World) (hn : ps.length ≤ 1048576) (hsm : ∀ p ∈ ps, p.2.length ≤ 1048576) (h : RdM hdrL moveL w A ps) :
    Calls Try.prog 32 #[.slice A ps.length c] w fun e w' => ∃ A' c' qs, e = .returned (.slice A' (List.length qs) c') ∧ qs.map Prod.snd = ps.map Prod.snd ∧ OwnM w' w.heap.size (.slice A' (List.length qs) c') qs ∧ Below w.heap.size w w' := by
  go_enter Try.func32, Try.ntmps32
  go_wp2_with (at_make; refine wpList_makeT (w0 := w) (B := w.heap.size) hdrM rfl _ _ rfl w.heap.size _ _ ps.length rfl rfl rfl rfl (by omega) (Nat.le_refl _) (Below.refl _ _) (Nat.le_refl _) ?_; intro w1 hown1 hb1 hgr1)
  have hO1 : OwnM w1 w.heap.size (.slice (some ⟨w.heap.size, 0, none⟩) ps.length ps.length) (List.replicate ps.length (hdrM.zero, [])) := by
    refine ⟨by rw [List.map_replicate]; exact hown1, ?_⟩
    intro p hp
    rw [List.eq_of_mem_replicate hp]
    exact ⟨rfl, OwnT.nil _ _⟩
  have hV1 := Lib.hid (show (List.replicate ps.length (hdrM.zero, ([] : List MoveV))).map Prod.snd = copyTo (ps.map Prod.snd) [] 0 by rw [copyTo_zero, List.map_replicate, List.length_map])
  clear hown1 hgr1
  go_loopw [4] (fun i wr => ∃ (k : Nat) (qs : List (HdrV × List MoveV)), k ≤ ps.length ∧ i = .int .i64 k ∧ Hid (qs.map Prod.snd = copyTo (ps.map Prod.snd) [] k) ∧ OwnM wr w.heap.size (.slice (some ⟨w.heap.size, 0, none⟩) ps.length ps.length) qs ∧ Below w.heap.size w wr) (fun i _ => ps.length - (intOf i).toNat)
  case atStart => exact ⟨0, _, by omega, rfl, hV1, hO1, hb1⟩
  case round =>
    obtain ⟨k, qs, hk, rfl, HV, hown, hb⟩ := hrel
    clear hO1 hb1 hV1
    have hz := hb.size
    have hql : qs.length = ps.length := by
      have := congrArg List.length HV.out
      rw [length_copyTo _ _ _ (by rw [List.length_map]; exact hk)] at this
      simpa using this
    by_cases hlt : k < ps.length
    · obtain ⟨b, off, A2, c2, l, rfl, hx, hlb, hc0, hr⟩ := (h.below hb (Nat.le_refl _)).atL hlt
      have hll : l.length ≤ 1048576 := hsm _ (List.mem_of_getElem? hx)
      have HX := Lib.hid hx
      have hq1 : k < (qs.map Prod.fst).length := by rw [List.length_map]; omega
      have hq2 : (qs.map Prod.fst)[k]? = some ((qs.map Prod.fst)[k]'hq1) := List.getElem?_eq_getElem hq1
      have HQL := Lib.hid hql
      clear hx hql
      go_wp2_with fail
      refine (toBeadMoveS_any A2 c2 l _ hll hr).mono ?_
      rintro e w2 ⟨A3, c3, rfl, ho3, hb2⟩
      have hown2 := hown.below hb2 (Nat.le_refl _)
      have s0 := hown2.own.cell hq2 0 _ rfl
      have f0 : w2.frozen? ⟨w.heap.size, k, none⟩ = false := hown2.own.frozen _
      have s0' : w2.cell? ⟨w.heap.size, k, none⟩ = some (.slice ((qs.map Prod.fst)[k]'hq1).A ((qs.map Prod.fst)[k]'hq1).n ((qs.map Prod.fst)[k]'hq1).c) := by
        rw [Nat.add_zero, show k * hdrM.sz = k from Nat.mul_one k] at s0
        exact s0
      clear s0
      go_wp2
      go_roundw
      case rel =>
        have hs := hown2.own.set hq1 ⟨A3, l.length, c3⟩
        rw [show k * hdrM.sz = k from Nat.mul_one k] at hs
        have hp := hown2.put (k := k) (x := (⟨A3, l.length, c3⟩, l)) hs.1 hs.2 rfl (OwnT.mono ho3 hz)
        refine ⟨k + 1, qs.set k (⟨A3, l.length, c3⟩, l), by omega, by go_num, Lib.hid ?_, hp, (hb.trans (hb2.mono hz)).grown hs.2 (by have := hb2.size; omega) (fun k hk => by cases hk; exact Nat.le_refl _)⟩
        rw [List.map_set, HV.out]
        exact copyTo_succ (ps.map Prod.snd) _ _ k (by rw [List.getElem?_map, HX.out]; rfl)
      case measure => simp [intOf]; omega
    · obtain rfl : k = ps.length := by omega
      have HF := Lib.hid (show qs.map Prod.snd = ps.map Prod.snd by have := HV.out; rwa [show ps.length = (ps.map Prod.snd).length by rw [List.length_map], copyTo_all] at this)
      have HQL := Lib.hid hql
      clear HV hql
      go_wp2
      go_ret
      exact ⟨_, ps.length, qs, by rw [HQL.out]; rfl, HF.out, by rw [HQL.out]; exact hown, hb⟩
theorem snd_at {ps qs : List (HdrV × List MoveV)} (h : ps.map Prod.snd = qs.map Prod.snd) {k : Nat} {p q : HdrV × List MoveV} (hp : ps[k]? = some p) (hq : qs[k]? = some q) : p.2 = q.2 := by
  have := congrArg (·[k]?) h
  simpa [List.getElem?_map, hp, hq] using this
set_option maxHeartbeats 1600000 in
theorem eqMSS_same (A1 A2 : Option Addr) (n m c1 c2 : Nat) (ps qs : List (HdrV × List MoveV)) (w : World) (hn : n = ps.length) (hm : m = qs.length) (hl : n ≤ 16777216) (hpq : ps.map Prod.snd = qs.map Prod.snd) (hsm : ∀ p ∈ ps, p.2.length ≤ 16777216) (h1 : RdM hdrM moveT w A1 ps) (h2 : RdM hdrM moveT w A2 qs) :
    Calls Try.prog 34 #[.slice A1 n c1, .slice A2 m c2] w fun e w' => e = .returned (.bool true) ∧ Below w.heap.size w w' := by
  have hle : m = n := by have := congrArg List.length hpq; simp at this; omega
  subst hle
  have e1 : (decide ((m : Int) = m)) = true := by simp
  have HPQ := Lib.hid hpq
  have hml1 : m ≤ ps.length := by omega
  have hml2 : m ≤ qs.length := by omega
  have hml3 : ps.length ≤ m := by omega
  clear hpq hn hm
  go_enter Try.func34, Try.ntmps34
  go_wp2
  go_loopw [5] (fun i wr => ∃ k : Nat, k ≤ m ∧ i = .int .i64 k ∧ Below w.heap.size w wr) (fun i _ => m - (intOf i).toNat)
  case atStart => exact ⟨0, by omega, rfl, Below.refl _ _⟩
  case round =>
    obtain ⟨k, hk, rfl, hb⟩ := hrel
    have hz := hb.size
    by_cases hlt : k < m
    · obtain ⟨b1, o1, A3, c3, l3, rfl, hx, hl1, hc1, hr1⟩ := (h1.below hb (Nat.le_refl _)).atM (k := k) (by omega)
      obtain ⟨b2, o2, A4, c4, l4, rfl, hy, hl2, hc2, hr2⟩ := (h2.below hb (Nat.le_refl _)).atM (k := k) (by omega)
      have hll := hsm _ (List.mem_of_getElem? hx)
      have he : l3 = l4 := snd_at HPQ.out hx hy
      subst he
      dsimp only at hll
      have d1 : decide ((k : Int) < (m : Int)) = true := decide_eq_true (by omega)
      have q1 : (k : Int) < (m : Int) := by omega
      clear hx hy
      go_wp2_with fail
      go_still_tail 8, (by kernel_rfl)
      change wpList _ _ _ _ _ wr.drew
      go_wp2_with fail
      refine (eqBeadMoveS_same A3 A4 _ c3 c4 l3 _ rfl (by omega) (show RdT moveT wr.drew A3 l3 from hr1) (show RdT moveT wr.drew A4 l3 from hr2)).mono ?_
      rintro e w2 ⟨rfl, hb2⟩
      go_wp2
      go_roundw
      case rel => exact ⟨k + 1, by omega, by go_num, hb.trans (((Below.refl _ _).drew.trans hb2).mono hz)⟩
      case measure => simp [intOf]; omega
    · go_wp2
      go_ret
      exact ⟨rfl, hb⟩
end Go.Proofs.Ytkcbldaondflmaa
