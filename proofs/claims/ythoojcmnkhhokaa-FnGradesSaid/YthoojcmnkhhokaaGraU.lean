/-
  The weak parts of a try: contracts. A try by value marked.
-/
import Derived.Test.YthoojcmnkhhokaaGraG
import Derived.Test.YthoojcmnkhhokaaStrS
namespace Go.Proofs.Ythoojcmnkhhokaa
set_option maxRecDepth 100000
open Go.RowKit

def wkA (s : List PartV) (l : List Int) : Nat → List ByteArray
  | 0 => []
  | k + 1 => match s[k]?, l[k]? with
    | some x, some n => if n < x.needed then wkA s l k ++ [x.name] else wkA s l k
    | _, _ => wkA s l k
theorem wkA_zero (s : List PartV) (l : List Int) : wkA s l 0 = [] := rfl
theorem wkA_yes {s : List PartV} {l : List Int} {k : Nat} {x : PartV} {n : Int} (hx : s[k]? = some x) (hn : l[k]? = some n) (h : n < x.needed) : wkA s l (k + 1) = wkA s l k ++ [x.name] := by simp only [wkA, hx, hn]; exact if_pos h
theorem wkA_no {s : List PartV} {l : List Int} {k : Nat} {x : PartV} {n : Int} (hx : s[k]? = some x) (hn : l[k]? = some n) (h : ¬ n < x.needed) : wkA s l (k + 1) = wkA s l k := by simp only [wkA, hx, hn]; exact if_neg h
theorem wkA_len (s : List PartV) (l : List Int) (k : Nat) : (wkA s l k).length ≤ k := by
  induction k with
  | zero => simp [wkA]
  | succ k ih =>
    cases hx : s[k]? with
    | none => simp only [wkA, hx]; omega
    | some x =>
      cases hn : l[k]? with
      | none => simp only [wkA, hx, hn]; omega
      | some n =>
        by_cases h : n < x.needed
        · rw [wkA_yes hx hn h]; simp; omega
        · rw [wkA_no hx hn h]; omega
def wkV (s : List PartV) (t : TryV) : List ByteArray := if oneB s t = true then wkA s t.points s.length else []
theorem wkV_no {s : List PartV} {t : TryV} (h : oneB s t = false) : wkV s t = [] := if_neg (by simp [h])
theorem wkV_yes {s : List PartV} {t : TryV} (h : oneB s t = true) : wkV s t = wkA s t.points s.length := if_pos h
theorem oneB_iff {s : List PartV} {t : TryV} (h : oneB s t = true) : schB s = true ∧ tryB s t = true := by
  unfold oneB at h; simp only [Bool.and_eq_true] at h; exact h
theorem wkV_len (s : List PartV) (t : TryV) : (wkV s t).length ≤ 6 := by
  cases h : oneB s t
  · rw [wkV_no h]; simp
  · rw [wkV_yes h]
    have h1 := wkA_len s t.points s.length
    have h2 := (schB_iff (oneB_iff h).1).1
    omega

set_option maxHeartbeats 3200000 in
theorem weakI_any (A : Option Addr) (c : Nat) (s : List PartV) (pu gr : Int) (B : Option Addr) (d : Nat) (l : List Int) (w : World) (hn : s.length ≤ 16777216) (hcap : s.length ≤ c) (h : RdT partT w A s) (hok : ∀ x ∈ s, x.ok) (hm : l.length ≤ 16777216) (hr : RdI w B l) :
    Calls Try.prog 35 #[.slice A s.length c, .agg #[.int .i64 pu, .int .i64 gr, .slice B l.length d]] w (RetStrS w (wkV s ⟨pu, gr, l⟩) (oneB s ⟨pu, gr, l⟩)) := by
  have hS := Lib.hid (fun W g => isScheme_any A c s W hn hcap g hok)
  have hT := Lib.hid (fun W g g2 => isTry_any A c s pu gr B d l W hn hm g g2)
  obtain ⟨wb, hwb, hbb, hbl, u0, u1, u2⟩ := try_box w pu gr B l.length d
  have h := h.below hbb (Nat.le_refl _)
  have hr := hr.below hbb (Nat.le_refl _)
  cases gs : schB s
  · have e : oneB s ⟨pu, gr, l⟩ = false := by unfold oneB; rw [gs]; rfl
    rw [wkV_no e, e]
    go_enter Try.func35, Try.ntmps35
    go_wp2_with fail
    rw [← hwb]
    clear hwb
    refine (hS.out _ h).mono ?_
    rintro e w1 ⟨rfl, hb1⟩
    go_wp2
    go_ret2
    exact ⟨none, 0, rfl, OwnT.nil _ _, hbb.trans (hb1.mono hbb.size)⟩
  cases gt : tryB s ⟨pu, gr, l⟩
  · have e : oneB s ⟨pu, gr, l⟩ = false := by unfold oneB; rw [gs, gt]; rfl
    rw [wkV_no e, e]
    rw [gt] at hT
    go_enter Try.func35, Try.ntmps35
    go_wp2_with fail
    rw [← hwb]
    clear hwb
    refine (hS.out _ h).mono ?_
    rintro e w1 ⟨rfl, hb1⟩
    rw [gs]
    have v0 := (hb1.cell (p := ⟨w.heap.size, 0, none⟩) hbl).trans u0
    have v1 := (hb1.cell (p := ⟨w.heap.size, 1, none⟩) hbl).trans u1
    have v2 := (hb1.cell (p := ⟨w.heap.size, 2, none⟩) hbl).trans u2
    have hb2 := hbb.trans (hb1.mono hbb.size)
    go_wp2_with fail
    refine (hT.out _ (h.below hb1 (Nat.le_refl _)) (hr.below hb1 (Nat.le_refl _))).mono ?_
    rintro e w3 ⟨rfl, hb3⟩
    go_wp2
    go_ret2
    exact ⟨none, 0, rfl, OwnT.nil _ _, hb2.trans (hb3.mono hb2.size)⟩
  · have e : oneB s ⟨pu, gr, l⟩ = true := by unfold oneB; rw [gs, gt]; rfl
    obtain ⟨hl6, hls, _, _, _⟩ := try_nums gs gt
    dsimp only at hls
    have hls1 : l.length ≤ s.length := Nat.le_of_eq hls
    have hls2 : s.length ≤ l.length := Nat.le_of_eq hls.symm
    have H0 := Lib.hid (wkA_zero s l)
    have HLN := Lib.hid (wkA_len s l)
    rw [wkV_yes e, e]
    rw [gt] at hT
    dsimp only
    clear hls
    go_enter Try.func35, Try.ntmps35
    go_wp2_with fail
    rw [← hwb]
    clear hwb
    refine (hS.out _ h).mono ?_
    rintro e w1 ⟨rfl, hb1⟩
    rw [gs]
    have v0 := (hb1.cell (p := ⟨w.heap.size, 0, none⟩) hbl).trans u0
    have v1 := (hb1.cell (p := ⟨w.heap.size, 1, none⟩) hbl).trans u1
    have v2 := (hb1.cell (p := ⟨w.heap.size, 2, none⟩) hbl).trans u2
    have hl1 : w.heap.size < w1.heap.size := World.block_lt_of_cell? w1 _ v2
    have hb2 := hbb.trans (hb1.mono hbb.size)
    have h1 := h.below hb1 (Nat.le_refl _)
    have hr1 := hr.below hb1 (Nat.le_refl _)
    clear hb1 hbb u0 u1 u2
    go_wp2_with fail
    refine (hT.out _ h1 hr1).mono ?_
    rintro e w3 ⟨rfl, hb3⟩
    have x2 := (hb3.cell (p := ⟨w.heap.size, 2, none⟩) hl1).trans v2
    have hl3 : w.heap.size < w3.heap.size := World.block_lt_of_cell? w3 _ x2
    have h3 := h1.below hb3 (Nat.le_refl _)
    have hr3 := hr1.below hb3 (Nat.le_refl _)
    have hb4 := hb2.trans (hb3.mono hb2.size)
    have hz4 := hb4.size
    clear hb3 v0 v1 v2 hb2 h1 hr1 h hr
    go_wp2
    go_loopw [6, 20] (fun o i wr => ∃ (k : Nat) (A' : Option Addr) (c' : Nat), k ≤ s.length ∧ i = .int .i64 k ∧ o = .slice A' (wkA s l k).length c' ∧ OwnT strT wr w3.heap.size (.slice A' (wkA s l k).length c') (wkA s l k) ∧ Below w3.heap.size w3 wr) (fun _ i _ => s.length - (intOf i).toNat)
    case atStart => exact ⟨0, none, 0, by omega, rfl, by rw [H0.out]; rfl, by rw [H0.out]; exact OwnT.nil _ _, Below.refl _ _⟩
    case round =>
      obtain ⟨k, A', c', hk, rfl, rfl, ho, hb⟩ := hrel
      have hz := hb.size
      have hln := HLN.out k
      by_cases hlt : k < s.length
      · obtain ⟨b, off, nm, fu, ne, rfl, hy, hlb2, hd0, hd1, hd2⟩ := partT_at (h3.below hb (Nat.le_refl _)) hlt
        obtain ⟨b2, o2, x, rfl, hx, hlb3, hc⟩ := (hr3.below hb (Nat.le_refl _)).at_ (k := k) (by omega)
        have v2 := (hb.cell (p := ⟨w.heap.size, 2, none⟩) hl3).trans x2
        have HY := Lib.hid (fun h => wkA_yes hy hx h)
        have HN := Lib.hid (fun h => wkA_no hy hx h)
        have j1 : (k : Int) < (l.length : Int) := by omega
        clear hy hx
        dsimp only at HY HN
        generalize wkA s l k = L at *
        obtain ⟨bx, hbx⟩ : ∃ bx : Obj, bx = .cells #[.string nm, .int .i64 fu, .int .i64 ne] 71 := ⟨_, rfl⟩
        have hbA := hb.alloc hz bx
        obtain ⟨wn, hwn⟩ : ∃ wn : World, wn = wr.alloc bx := ⟨_, rfl⟩
        have BN : Blk wn wr.heap.size 71 #[.string nm, .int .i64 fu, .int .i64 ne] := by rw [hwn, hbx]; exact Blk.new _ _ _
        have n0 : wn.cell? ⟨wr.heap.size, 0, none⟩ = some (.string nm) := BN.cell 0
        have n2 : wn.cell? ⟨wr.heap.size, 2, none⟩ = some (.int .i64 ne) := BN.cell 2
        have v2' : wn.cell? ⟨w.heap.size, 2, none⟩ = some (.slice (some ⟨b2, o2, none⟩) l.length d) := by rw [hwn]; exact cell_alloc_old v2 bx
        have hc' : wn.cell? ⟨b2, o2 + k, none⟩ = some (.int .i64 x) := by rw [hwn]; exact cell_alloc_old hc bx
        have hoA : OwnT strT wn w3.heap.size (.slice A' L.length c') L := by rw [hwn]; exact ho.alloc bx
        rw [← hwn] at hbA
        have hzA := hbA.size
        by_cases hm : x < ne
        · have E := Lib.hid (HY.out hm)
          have dm : decide (x < ne) = true := decide_eq_true hm
          have HLL := Lib.hid (show (wkA s l (k + 1)).length = L.length + 1 by rw [E.out]; simp)
          clear BN hc v2 HY HN ho
          go_wp2_with fail
          rw [← hbx, ← hwn]
          clear hbx hwn
          go_quiet (fail)
          have hoD := hoA.drewN nq
          have hbD := below_drewN hbA nq
          go_wp2_with (at_builtin; refine wpList_appT strT rfl _ _ rfl w3.heap.size _ _ rfl hoD w3.heap.size hbD nm _ rfl 1 1 rfl rfl (by omega) hzA (Nat.le_refl _) ?_; intro A3 c3 w5 hown3 hb5 hgr3)
          go_roundw
          case rel => exact ⟨k + 1, A3, c3, by omega, by go_num, by rw [HLL.out], by rw [HLL.out]; rw [E.out]; exact hown3, hb5⟩
          case measure => simp [intOf]; omega
        · have E := Lib.hid (HN.out hm)
          have dm : decide (x < ne) = false := decide_eq_false hm
          clear BN hc v2 HY HN ho
          go_wp2_with fail
          rw [← hbx, ← hwn]
          clear hbx hwn
          go_quiet (fail)
          go_wp2
          go_roundw
          case rel => exact ⟨k + 1, A', c', by omega, by go_num, by rw [E.out], by rw [E.out]; exact hoA, below_drewN hbA _⟩
          case measure => simp [intOf]; omega
      · obtain rfl : k = s.length := by omega
        go_wp2
        go_ret2
        exact ⟨A', c', rfl, ho.mono hz4, hb4.trans (hb.mono hz4)⟩
theorem ownStr_empty (w : World) (base : Nat) (hb : base ≤ w.heap.size) : OwnT strT (w.alloc (.cells #[] 9)) base (.slice (some ⟨w.heap.size, 0, none⟩) 0 0) [] := World.ownsRow_lit w #[] 0 hb (by unfold maxLen; omega) rfl
theorem Blk.ne_v {α : Type} {T : Ty α} {w : World} {b base : Nat} {t : TypeId} {cs : Array Value} {v : Value} {l : List α} (h : Blk w b t cs) (ho : OwnT T w base v l) (ht : t ≠ T.e) : some b ≠ v.ownBlock := by
  rcases ho.2 with ⟨rfl, _⟩ | ⟨g, cap, cur, rfl, hg, hh, r⟩
  · intro e; cases e
  · intro e; exact Blk.ne_own h ho ht (Option.some.inj (show some b = some g from e))
set_option maxHeartbeats 3200000 in
theorem weakS_any (A : Option Addr) (c : Nat) (s : List PartV) (pu gr : Int) (B : Option Addr) (d : Nat) (l : List Int) (w : World) (hn : s.length ≤ 16777216) (_hcap : s.length ≤ c) (h : RdT partT w A s) (hok : ∀ x ∈ s, x.ok) (hm : l.length ≤ 16777216) (hr : RdI w B l) :
    Calls Try.prog 34 #[.slice A s.length c, .agg #[.int .i64 pu, .int .i64 gr, .slice B l.length d]] w (RetStrS w (wkV s ⟨pu, gr, l⟩) (oneB s ⟨pu, gr, l⟩)) := by
  have hO := Lib.hid (fun W g g2 => l17One_any A c s pu gr B d l W hn hm g hok g2)
  obtain ⟨wb, hwb⟩ : ∃ wb : World, wb = w.alloc (.cells #[.int .i64 pu, .int .i64 gr, .slice B l.length d] 35) := ⟨_, rfl⟩
  have hbb : Below w.heap.size w wb := by rw [hwb]; exact (Below.refl _ _).alloc (Nat.le_refl _) _
  have BB : Blk wb w.heap.size 35 #[.int .i64 pu, .int .i64 gr, .slice B l.length d] := by rw [hwb]; exact Blk.new _ _ _
  have hws : wb.heap.size = w.heap.size + 1 := by rw [hwb]; simp
  obtain ⟨wc, hwc⟩ : ∃ wc : World, wc = wb.alloc (.cells #[] 9) := ⟨_, rfl⟩
  have hbc1 : Below wb.heap.size wb wc := by rw [hwc]; exact (Below.refl _ _).alloc (Nat.le_refl _) _
  have hbc := hbb.trans (hbc1.mono hbb.size)
  have he : OwnT strT wc w.heap.size (.slice (some ⟨w.heap.size + 1, 0, none⟩) 0 0) [] := by rw [hwc, ← hws]; exact ownStr_empty _ _ hbb.size
  have BC : Blk wc w.heap.size 35 #[.int .i64 pu, .int .i64 gr, .slice B l.length d] := by rw [hwc]; exact BB.alloc _
  have v0 : wc.cell? ⟨w.heap.size, 0, none⟩ = some (.int .i64 pu) := BC.cell 0
  have v1 : wc.cell? ⟨w.heap.size, 1, none⟩ = some (.int .i64 gr) := BC.cell 1
  have v2 : wc.cell? ⟨w.heap.size, 2, none⟩ = some (.slice B l.length d) := BC.cell 2
  have h1 := h.below hbc (Nat.le_refl _)
  have hr1 := hr.below hbc (Nat.le_refl _)
  clear hbc1 hbb BB hws
  cases go : oneB s ⟨pu, gr, l⟩
  · rw [wkV_no go]
    rw [go] at hO
    go_enter Try.func34, Try.ntmps34
    go_wp2_with fail
    rw [← hwb, ← hwc]
    clear hwb hwc
    refine (hO.out _ h1 hr1).mono ?_
    rintro e w1 ⟨rfl, hb1⟩
    have he := he.below hb1 (Nat.le_refl _)
    go_wp2
    go_ret2
    exact ⟨_, 0, rfl, he, hbc.trans (hb1.mono hbc.size)⟩
  · obtain ⟨gs, gt⟩ := oneB_iff go
    obtain ⟨hl6, hls, _, _, _⟩ := try_nums gs gt
    dsimp only at hls
    have hls1 : l.length ≤ s.length := Nat.le_of_eq hls
    have hls2 : s.length ≤ l.length := Nat.le_of_eq hls.symm
    have H0 := Lib.hid (wkA_zero s l)
    have HLN := Lib.hid (wkA_len s l)
    rw [wkV_yes go]
    rw [go] at hO
    dsimp only
    clear hls gs gt
    go_enter Try.func34, Try.ntmps34
    go_wp2_with fail
    rw [← hwb, ← hwc]
    clear hwb hwc
    refine (hO.out _ h1 hr1).mono ?_
    rintro e w3 ⟨rfl, hb3⟩
    have he3 := he.below hb3 (Nat.le_refl _)
    have B3 := BC.below hb3 BC.lt
    have hb4 := hbc.trans (hb3.mono hbc.size)
    clear hb3 v0 v1 v2 hbc h1 hr1 he BC
    go_wp2
    go_loopw [6, 7] (fun o i wr => ∃ (k : Nat) (A' : Option Addr) (c' : Nat), k ≤ s.length ∧ i = .int .i64 k ∧ o = .slice A' (wkA s l k).length c' ∧ OwnT strT wr w.heap.size (.slice A' (wkA s l k).length c') (wkA s l k) ∧ Blk wr w.heap.size 35 #[.int .i64 pu, .int .i64 gr, .slice B l.length d] ∧ Below w.heap.size w wr) (fun _ i _ => s.length - (intOf i).toNat)
    case atStart => exact ⟨0, _, 0, by omega, rfl, by rw [H0.out]; rfl, by rw [H0.out]; exact he3, B3, hb4⟩
    case round =>
      obtain ⟨k, A', c', hk, rfl, rfl, ho, BB, hb⟩ := hrel
      clear he3 B3 hb4
      have hz := hb.size
      have hln := HLN.out k
      by_cases hlt : k < s.length
      · obtain ⟨b, off, nm, fu, ne, rfl, hy, hlb2, hd0, hd1, hd2⟩ := partT_at (h.below hb (Nat.le_refl _)) hlt
        obtain ⟨b2, o2, x, rfl, hx, hlb3, hc⟩ := (hr.below hb (Nat.le_refl _)).at_ (k := k) (by omega)
        have v2 : wr.cell? ⟨w.heap.size, 2, none⟩ = some (.slice (some ⟨b2, o2, none⟩) l.length d) := BB.cell 2
        have HY := Lib.hid (fun h => wkA_yes hy hx h)
        have HN := Lib.hid (fun h => wkA_no hy hx h)
        have j1 : (k : Int) < (l.length : Int) := by omega
        clear hy hx
        dsimp only at HY HN
        generalize wkA s l k = L at *
        by_cases hm : x < ne
        · have E := Lib.hid (HY.out hm)
          have dm : decide (x < ne) = true := decide_eq_true hm
          have HLL := Lib.hid (show (wkA s l (k + 1)).length = L.length + 1 by rw [E.out]; simp)
          clear HY HN
          go_wp2_with fail
          go_quiet (fail)
          have hoD := ho.drewN nq
          have hbD := below_drewN hb nq
          have BD : Blk (wr.drewN nq) w.heap.size 35 #[.int .i64 pu, .int .i64 gr, .slice (some ⟨b2, o2, none⟩) l.length d] := BB
          clear BB
          go_wp2_with (at_builtin; refine wpList_appT strT rfl _ _ rfl w.heap.size _ _ rfl hoD w.heap.size hbD nm _ rfl 1 1 rfl rfl (by omega) hz (Nat.le_refl _) ?_; intro A3 c3 w5 hown3 hb5 hgr3)
          go_roundw
          case rel => exact ⟨k + 1, A3, c3, by omega, by go_num, by rw [HLL.out], by rw [HLL.out]; rw [E.out]; exact hown3, (BD.alloc _).gr hgr3 (Blk.ne_v BD hoD (by decide)), hb5⟩
          case measure => simp [intOf]; omega
        · have E := Lib.hid (HN.out hm)
          have dm : decide (x < ne) = false := decide_eq_false hm
          clear HY HN
          go_wp2_with fail
          go_quiet (fail)
          go_wp2
          go_roundw
          case rel => exact ⟨k + 1, A', c', by omega, by go_num, by rw [E.out], by rw [E.out]; exact ho.drewN _, BB, below_drewN hb _⟩
          case measure => simp [intOf]; omega
      · obtain rfl : k = s.length := by omega
        go_wp2
        go_ret2
        exact ⟨A', c', rfl, ho, hb⟩
set_option maxHeartbeats 800000 in
theorem markTry_ok (base : Nat) (pu gr : Int) (A : Option Addr) (c : Nat) (l : List Int) (k : Int) (w : World) (hk0 : 0 ≤ k) (hk1 : k ≤ 1073741824) (hm : l.length ≤ 16777216) (h : OwnI w base (.slice A l.length c) l) :
    Calls Try.prog 38 #[.agg #[.int .i64 pu, .int .i64 gr, .slice A l.length c], .int .i64 k] w fun e w' => e = .returned (.int .i64 (k + l.length)) ∧ OwnI w' base (.slice A l.length c) (marks k l.length) ∧ w.grownBy w' (Value.slice A l.length c).ownBlock := by
  obtain ⟨wb, hwb, hbb, hbl, u0, u1, u2⟩ := try_box w pu gr A l.length c
  have hg1 : w.grownBy wb (Value.slice A l.length c).ownBlock := by rw [hwb]; exact World.grownBy_alloc w _ _
  have ho := h.below hbb (Nat.le_refl _)
  go_enter Try.func38, Try.ntmps38
  go_wp2_with fail
  rw [← hwb]
  clear hwb
  refine (markIntS_ok base A c l k _ hk0 hk1 hm ho).mono ?_
  rintro e w1 ⟨rfl, ho1, hg2⟩
  go_wp2
  go_ret
  exact ⟨rfl, ho1, gr_trans hg1 hg2⟩
end Go.Proofs.Ythoojcmnkhhokaa
