/-
  The draws of schemes and tries, as functions of the bytes.
-/
import Derived.Test.YthoojcmnkhhokaaDrwB
import Derived.Test.YthoojcmnkhhokaaDrwD
namespace Go.Proofs.Ythoojcmnkhhokaa
set_option maxRecDepth 100000
open Go.RowKit Go.Lib Go.Lib.Hx

theorem own_cap {α : Type} {T : Ty α} {w : World} {base n c : Nat} {A : Option Addr} {l : List α} (h : OwnT T w base (.slice A n c) l) : n ≤ c := by
  rcases h.2 with ⟨hv, hn⟩ | ⟨g, cap, cur, hv, hg, hh, h1, h2, h3, h4⟩
  · injection hv with e1 e2 e3
    omega
  · injection hv with e1 e2 e3
    omega
theorem own_off {α : Type} {T : Ty α} {w : World} {base n c : Nat} {A : Option Addr} {l : List α} (h : OwnT T w base (.slice A n c) l) (g : Nat) (hg : g < base) : ∀ b off, A = some ⟨b, off, none⟩ → b ≠ g := by
  intro b off hA
  subst hA
  rcases h.2 with ⟨hv, hn⟩ | ⟨g', cap, cur, hv, hg', hh, h1, h2, h3, h4⟩
  · injection hv with e1 e2 e3
    cases e1
  · injection hv with e1 e2 e3
    injection e1 with e1
    injection e1 with e1 e4 e5
    omega
/-- A scheme and tries, drawn. -/
def RetYs (w : World) (e : Ending) (w' : World) : Prop :=
  ∃ (s : List PartV) (A1 : Option Addr) (c1 : Nat) (ps : List (TryH × List Int)) (A2 : Option Addr) (c2 : Nat), e = .returned (.tuple #[.slice A1 s.length c1, .slice A2 ps.length c2]) ∧ s.length ≤ 7 ∧ s.length ≤ c1 ∧ smL s ∧ RdT partT w' A1 s ∧ ps.length ≤ 11 ∧ (∀ p ∈ ps, p.2.length ≤ 8) ∧ RdY tryT w' A2 ps ∧ Below w.heap.size w w'
def RetY1 (w : World) (e : Ending) (w' : World) : Prop :=
  ∃ (s : List PartV) (A1 : Option Addr) (c1 : Nat) (pu gr : Int) (lp : List Int) (A2 : Option Addr) (c2 : Nat), e = .returned (.tuple #[.slice A1 s.length c1, .agg #[.int .i64 pu, .int .i64 gr, .slice A2 lp.length c2]]) ∧ s.length ≤ 7 ∧ s.length ≤ c1 ∧ smL s ∧ RdT partT w' A1 s ∧ lp.length ≤ 8 ∧ RdI w' A2 lp ∧ Below w.heap.size w w'
set_option maxHeartbeats 1000000 in
theorem drawTries_any (A : Option Addr) (c : Nat) (l : List (Fin 256)) (w : World) (hl : l.length ≤ 65536) (h : RdT byteT w A l) :
    Calls Try.prog 91 #[.slice A l.length c] w (RetYs w) := by
  have hC := Cur.new (c := c) h
  have hb0 : Below w.heap.size w (w.alloc (.cells #[.slice A l.length c, .int .i64 0, .int .u64 0] 99)) := (Below.refl _ _).alloc (Nat.le_refl _) _
  go_enter Try.func91, Try.ntmps91
  go_wp2_with fail
  refine (scheme17_any w.heap.size c 0 A l _ hl (by omega) hC).mono ?_
  rintro e w1 ⟨s, A1, c1, hn1, hs1, rfl, HS⟩
  have hne := own_off HS.own w.heap.size HS.hgb
  have hrs := HS.own.rd
  have hc1 := HS.cur
  go_wp2_with fail
  refine (tries17_any w.heap.size c _ A l A1 c1 s _ hl (by omega) hc1 hn1 hs1 hrs hne).mono ?_
  rintro e w2 ⟨ps, A2, c2, hm, hp8, rfl, hy, hc2, hg2⟩
  go_wp2
  go_ret2
  exact ⟨s, A1, c1, ps, A2, c2, rfl, hn1, own_cap HS.own, hs1, hrs.grown partT hg2 (fun _ b off hA he => by cases he; exact hne _ _ hA rfl), hm, hp8, hy, below_cur (below_cur hb0 HS.old (Nat.le_refl _)) hg2 (Nat.le_refl _)⟩
set_option maxHeartbeats 1000000 in
theorem drawGradesOf_any (A : Option Addr) (c : Nat) (l : List (Fin 256)) (w : World) (hl : l.length ≤ 65536) (h : RdT byteT w A l) :
    Calls Try.prog 63 #[.slice A l.length c] w (RetYs w) := by
  go_enter Try.func63, Try.ntmps63
  go_wp2_with fail
  refine (drawTries_any A c l w hl h).mono ?_
  rintro e w1 ⟨s, A1, c1, ps, A2, c2, rfl, r⟩
  go_wp2
  go_ret2
  exact ⟨s, A1, c1, ps, A2, c2, rfl, r⟩
set_option maxHeartbeats 1000000 in
theorem drawCountingTries_any (A : Option Addr) (c : Nat) (l : List (Fin 256)) (w : World) (hl : l.length ≤ 65536) (h : RdT byteT w A l) :
    Calls Try.prog 59 #[.slice A l.length c] w (RetYs w) := by
  go_enter Try.func59, Try.ntmps59
  go_wp2_with fail
  refine (drawTries_any A c l w hl h).mono ?_
  rintro e w1 ⟨s, A1, c1, ps, A2, c2, rfl, r⟩
  go_wp2
  go_ret2
  exact ⟨s, A1, c1, ps, A2, c2, rfl, r⟩
set_option maxHeartbeats 1000000 in
theorem drawHardestPart_any (A : Option Addr) (c : Nat) (l : List (Fin 256)) (w : World) (hl : l.length ≤ 65536) (h : RdT byteT w A l) :
    Calls Try.prog 60 #[.slice A l.length c] w (RetYs w) := by
  go_enter Try.func60, Try.ntmps60
  go_wp2_with fail
  refine (drawTries_any A c l w hl h).mono ?_
  rintro e w1 ⟨s, A1, c1, ps, A2, c2, rfl, r⟩
  go_wp2
  go_ret2
  exact ⟨s, A1, c1, ps, A2, c2, rfl, r⟩
set_option maxHeartbeats 1000000 in
theorem drawRankTries_any (A : Option Addr) (c : Nat) (l : List (Fin 256)) (w : World) (hl : l.length ≤ 65536) (h : RdT byteT w A l) :
    Calls Try.prog 57 #[.slice A l.length c] w (RetYs w) := by
  go_enter Try.func57, Try.ntmps57
  go_wp2_with fail
  refine (drawTries_any A c l w hl h).mono ?_
  rintro e w1 ⟨s, A1, c1, ps, A2, c2, rfl, r⟩
  go_wp2
  go_ret2
  exact ⟨s, A1, c1, ps, A2, c2, rfl, r⟩
set_option maxHeartbeats 2000000 in
theorem drawResult_any (A : Option Addr) (c : Nat) (l : List (Fin 256)) (w : World) (hl : l.length ≤ 65536) (h : RdT byteT w A l) :
    Calls Try.prog 61 #[.slice A l.length c] w (RetY1 w) := by
  obtain ⟨wz, hwz⟩ : ∃ wz : World, wz = w.alloc (.cells #[.int .i64 0, .int .i64 0, .slice none 0 0] 35) := ⟨_, rfl⟩
  obtain ⟨rb, hrb⟩ : ∃ rb : Nat, rb = w.heap.size := ⟨_, rfl⟩
  have BR0 : Blk wz rb 35 #[.int .i64 0, .int .i64 0, .slice none 0 0] := by rw [hwz, hrb]; exact Blk.new w _ _
  have hz : Below w.heap.size w wz := by rw [hwz]; exact (Below.refl _ _).alloc (Nat.le_refl _) _
  have hC := Cur.new (c := c) (h.below hz (Nat.le_refl _))
  have hb0 : Below w.heap.size w (wz.alloc (.cells #[.slice A l.length c, .int .i64 0, .int .u64 0] 99)) := hz.alloc hz.size _
  have BR1 := BR0.alloc (.cells #[.slice A l.length c, .int .i64 0, .int .u64 0] 99)
  have hrz : rb < wz.heap.size := BR0.lt
  have hwr : w.heap.size ≤ rb := by omega
  go_enter Try.func61, Try.ntmps61
  go_upto_region 1 with fail
  rw [← hwz, ← hrb]
  clear hwz hrb BR0
  go_wp2_with fail
  refine (scheme17_any wz.heap.size c 0 A l _ hl (by omega) hC).mono ?_
  rintro e w1 ⟨s, A1, c1, hn1, hs1, rfl, HS⟩
  have hne := own_off HS.own wz.heap.size HS.hgb
  have hrs := HS.own.rd
  have hc1 := HS.cur
  have BR2 := BR1.gr HS.old (by simp; omega)
  have hb1 := hb0.grown HS.old (by simp; have := hz.size; omega) (fun i hi => by cases hi; exact hz.size)
  clear BR1
  go_wp2_with fail
  refine (try17_any wz.heap.size c _ A l A1 c1 s _ hl (by omega) hc1 hn1 hs1 hrs hne).mono ?_
  rintro e w2 ⟨pu, gr, lp, A2, c2, hlp, rfl, HT⟩
  have BR3 := BR2.gr HT.old (by simp; omega)
  have hrs2 := hrs.grown partT HT.old (fun _ b off hA he => by cases he; exact hne _ _ hA rfl)
  have hb2 := hb1.grown HT.old hb1.size (fun i hi => by cases hi; exact hz.size)
  have r0 := BR3.cell 0
  have r1 := BR3.cell 1
  have r2 := BR3.cell 2
  have q0 := BR3.frozen 0
  have q1 := BR3.frozen 1
  have q2 := BR3.frozen 2
  go_wp2
  refine bodyPost_ret (v := .tuple #[.slice A1 s.length c1, .agg #[.int .i64 pu, .int .i64 gr, .slice A2 lp.length c2]]) (by simp [results, Try.results61, go_sem, r0, r1, r2]) rfl ⟨s, A1, c1, pu, gr, lp, A2, c2, rfl, hn1, own_cap HS.own, hs1, ?_, hlp, ?_, ?_⟩
  · have hnr := own_off HS.own rb (by simp; omega)
    exact ((hrs2.grown partT (gr_setCell w2 ⟨rb, 0, none⟩ _) (fun _ b off hA he => by cases he; exact hnr _ _ hA rfl)).grown partT (gr_setCell _ ⟨rb, 1, none⟩ _) (fun _ b off hA he => by cases he; exact hnr _ _ hA rfl)).grown partT (gr_setCell _ ⟨rb, 2, none⟩ _) (fun _ b off hA he => by cases he; exact hnr _ _ hA rfl)
  · have hnr := own_off HT.own rb (by have := HS.size; have := HS.le; simp at *; omega)
    exact (((OwnI.rd (own_int.1 HT.own)).grown (gr_setCell w2 ⟨rb, 0, none⟩ _) (fun _ b off hA he => by cases he; exact hnr _ _ hA rfl)).grown (gr_setCell _ ⟨rb, 1, none⟩ _) (fun _ b off hA he => by cases he; exact hnr _ _ hA rfl)).grown (gr_setCell _ ⟨rb, 2, none⟩ _) (fun _ b off hA he => by cases he; exact hnr _ _ hA rfl)
  · exact ((hb2.setCell hwr _).setCell hwr _).setCell hwr _
end Go.Proofs.Ythoojcmnkhhokaa
