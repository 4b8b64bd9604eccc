/-
  The draw of tries.
-/
import Derived.Test.YthoojcmnkhhokaaDrwC
namespace Go.Proofs.Ythoojcmnkhhokaa
set_option maxRecDepth 100000
open Go.RowKit Go.Lib Go.Lib.Hx

def RowsY (w : World) (base : Nat) (ps : List (TryH × List Int)) : Prop := ∀ p ∈ ps, p.1.n = p.2.length ∧ p.2.length ≤ 8 ∧ OwnI w base p.1.val p.2
theorem ownTry_empty (w : World) (base : Nat) (hb : base ≤ w.heap.size) : OwnT tryT (w.alloc (.cells #[] 35)) base (.slice (some ⟨w.heap.size, 0, none⟩) 0 0) [] := World.ownsRow_lit w #[] 0 hb (by unfold maxLen; omega) rfl
theorem RowsY.gr {w w' : World} {base g : Nat} {ps : List (TryH × List Int)} (h : RowsY w base ps) (hg : w.grownBy w' (some g)) (hgb : g < base) : RowsY w' base ps :=
  fun p hp => ⟨(h p hp).1, (h p hp).2.1, own_int.1 (own_cur (own_int.2 (h p hp).2.2) hg hgb)⟩
theorem RowsY.app {w w9 : World} {base : Nat} {o : Obj} {v : Value} {hs : List TryH} {ps : List (TryH × List Int)} (h : RowsY w base ps) (hv : OwnT tryT w base v hs) (hg : (w.alloc o).grownBy w9 v.ownBlock) : RowsY w9 base ps :=
  fun p hp => ⟨(h p hp).1, (h p hp).2.1, own_int.1 (((own_int.2 (h p hp).2.2).alloc o).kept hg (by
    have ha := (own_apart hv (h p hp).2.2 try_int).symm
    exact ha))⟩
theorem RowsY.snoc {w : World} {base : Nat} {ps : List (TryH × List Int)} {q : TryH × List Int} (h : RowsY w base ps) (hq : q.1.n = q.2.length ∧ q.2.length ≤ 8 ∧ OwnI w base q.1.val q.2) : RowsY w base (ps ++ [q]) := by
  intro p hp
  rcases List.mem_append.1 hp with hp | hp
  · exact h p hp
  · rw [List.mem_singleton.1 hp]; exact hq
set_option maxRecDepth 100000 in
set_option maxHeartbeats 8000000 in
theorem tries17_any (g c P : Nat) (A : Option Addr) (l : List (Fin 256)) (AS : Option Addr) (cs : Nat) (s : List PartV) (w : World) (hl : l.length ≤ 65536) (hP : P ≤ 600000000) (h : Cur w g A c l P) (hn : s.length ≤ 7) (hs : smL s) (hr : RdT partT w AS s) (hne : ∀ b off, AS = some ⟨b, off, none⟩ → b ≠ g) :
    Calls Try.prog 97 #[.pointer (some ⟨g, 0, none⟩), .slice AS s.length cs] w fun e w' => ∃ (ps : List (TryH × List Int)) (A' : Option Addr) (c' : Nat), ps.length ≤ 11 ∧ (∀ p ∈ ps, p.2.length ≤ 8) ∧ e = .returned (.slice A' ps.length c') ∧ RdY tryT w' A' ps ∧ Cur w' g A c l (P + 1000) ∧ w.grownBy w' (some g) := by
  have hgl := h.lt
  obtain ⟨w0, hw0⟩ : ∃ w0 : World, w0 = w.alloc (.cells #[] 35) := ⟨_, rfl⟩
  have HS0 : Sta tryT w.heap.size w w0 g A c l P (.slice (some ⟨w.heap.size, 0, none⟩) 0 0) [] := by
    rw [hw0]
    exact ⟨ownTry_empty w w.heap.size (Nat.le_refl _), h.kept (World.grownBy_alloc w _ none) (by simp), World.grownBy_alloc w _ (some g), by simp, hgl, Nat.le_refl _⟩
  have hc0 := HS0.cur
  go_enter Try.func97, Try.ntmps97
  go_upto_region 2 with fail
  rw [← hw0]
  clear hw0
  go_wp2_with fail
  refine (pick_any g c P 9 A l _ hl (by omega) (by decide) (by decide) hc0).mono ?_
  rintro e w1 ⟨n0, hn0, rfl, hc1, hg1⟩
  have HS1 := HS0.gr hg1 hc1
  clear HS0 hc0 hg1
  go_wp2_with fail
  refine (one_any g c _ 24 A l _ hl (by omega) (by decide) (by decide) hc1).mono ?_
  rintro e w2 ⟨b1, rfl, hc2, hg2⟩
  have HS2 := HS1.gr hg2 hc2
  clear HS1 hc1 hg2
  go_upto_if 11 with fail
  go_cut [6] (fun s6 wx => ∃ m : Nat, m ≤ 11 ∧ s6 = .int .i64 m ∧ Sta tryT w.heap.size w wx g A c l (P + 6) (.slice (some ⟨w.heap.size, 0, none⟩) 0 0) [])
  case first =>
    cases b1
    · go_wp2_with fail
      go_meet
      exact ⟨n0, by omega, rfl, HS2.more (by omega)⟩
    · go_wp2_with fail
      refine (pick_any g c _ 2 A l _ hl (by omega) (by decide) (by decide) hc2).mono ?_
      rintro e w3 ⟨n1, hn1, rfl, hc3, hg3⟩
      have i1 : IntKind.i64.wrap (10 + (n1 : Int)) = 10 + (n1 : Int) := IntWalk.i64_in _ (by omega)
      go_wp2_with fail
      go_meet
      exact ⟨10 + n1, by omega, by go_num, HS2.gr hg3 hc3⟩
  case rest =>
    obtain ⟨m, hm, rfl, HS3⟩ := hcut
    clear HS2 hc2
    go_wp2
    go_loopw [5] (fun o wr => ∃ (ps : List (TryH × List Int)) (A' : Option Addr) (c' : Nat), ps.length ≤ 11 ∧ ps.length ≤ m ∧ o = .slice A' ps.length c' ∧ Sta tryT w.heap.size w wr g A c l (P + 6 + 60 * ps.length) (.slice A' ps.length c') (ps.map Prod.fst) ∧ RowsY wr w.heap.size ps) (fun o _ => 11 - (match o with | .slice _ n _ => n | _ => 0))
    case atStart => exact ⟨[], _, _, by simp, by simp, rfl, HS3, fun p hp => by cases hp⟩
    case round =>
      obtain ⟨ps, A', c', hl1, hl2, rfl, HS, HR⟩ := hrel
      clear HS3
      by_cases hlt : ps.length < m
      · have d1 : decide (ps.length < m) = true := decide_eq_true hlt
        have hrr := hr.grown partT HS.old (fun _ b off hA he => by cases he; exact hne _ _ hA rfl)
        have hcr := HS.cur
        go_wp2_with fail
        refine (try17_any g c _ A l AS cs s _ hl (by omega) hcr hn hs hrr hne).mono ?_
        rintro e w5 ⟨pu, gr, lp, A2, c2, hlp, rfl, HT⟩
        have HS5 := HS.gr HT.old HT.cur
        have HR5 := (HR.gr HT.old HS.hgb)
        have HO5 : OwnI w5 w.heap.size (TryH.val ⟨pu, gr, A2, lp.length, c2⟩) lp := own_int.1 (HT.own.mono HS.size)
        clear HS HR HT hrr hcr
        go_wp2_with (at_builtin; refine wpList_appT tryT rfl _ _ rfl w.heap.size _ _ rfl HS5.own g HS5.below ⟨pu, gr, A2, lp.length, c2⟩ _ rfl 1 1 rfl rfl (by rw [List.length_map]; omega) HS5.size (by omega) ?_; intro A3 c3 w9 ho9 hb9 hg9; rw [List.length_map] at ho9; rw [List.length_map])
        have HS9 := HS5.app ho9 hg9
        have HR9 := (HR5.snoc (q := (⟨pu, gr, A2, lp.length, c2⟩, lp)) ⟨rfl, hlp, HO5⟩).app HS5.own hg9
        go_roundw
        case rel => exact ⟨ps ++ [(⟨pu, gr, A2, lp.length, c2⟩, lp)], A3, c3, by simp; omega, by simp; omega, by rw [List.length_append]; rfl, (by rw [List.length_append, List.map_append]; exact HS9.more (by simp; omega)), HR9⟩
        case measure => simp; omega
      · have d1 : decide (ps.length < m) = false := decide_eq_false hlt
        go_wp2
        go_ret
        exact ⟨ps, A', c', hl1, fun p hp => (HR p hp).2.1, rfl, ⟨HS.own.rd, fun p hp => ⟨(HR p hp).1, OwnI.rd (HR p hp).2.2⟩⟩, HS.cur.more (by omega), HS.old⟩
end Go.Proofs.Ythoojcmnkhhokaa
