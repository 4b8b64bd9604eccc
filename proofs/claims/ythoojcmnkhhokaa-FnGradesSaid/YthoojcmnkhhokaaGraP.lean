/-
  The pupils of the tries; one pupil's tries that count: the program's contracts.
-/
import Derived.Test.YthoojcmnkhhokaaGraO
import Derived.Test.YthoojcmnkhhokaaGraD
import Derived.Test.YthoojcmnkhhokaaPutW
namespace Go.Proofs.Ythoojcmnkhhokaa
set_option maxRecDepth 100000
open Go.RowKit

def pupL (ts : List TryV) : List Int := ts.map TryV.pupil
set_option maxHeartbeats 1600000 in
theorem pupilsOf_any (B : Option Addr) (d : Nat) (ps : List (TryH × List Int)) (ts : List TryV) (sv : ps.map toV = ts) (w : World) (hm : ps.length ≤ 1000) (hr : RdY tryT w B ps) :
    Calls Try.prog 86 #[.slice B ps.length d] w fun e w' => ∃ A' c', e = .returned (.slice A' (putTo (pupL ts) ps.length).length c') ∧ OwnI w' w.heap.size (.slice A' (putTo (pupL ts) ps.length).length c') (putTo (pupL ts) ps.length) ∧ Below w.heap.size w w' := by
  have TV := Lib.hid (fun k (p : TryH × List Int) (hp : ps[k]? = some p) => (show (pupL ts)[k]? = some p.1.pupil by rw [← sv]; unfold pupL; rw [List.getElem?_map, List.getElem?_map, hp]; rfl))
  go_enter Try.func86, Try.ntmps86
  go_wp2
  go_loopw [3, 8] (fun o i wr => ∃ (k : Nat) (A' : Option Addr) (c' : Nat), k ≤ ps.length ∧ i = .int .i64 k ∧ o = .slice A' (putTo (pupL ts) k).length c' ∧ OwnI wr w.heap.size (.slice A' (putTo (pupL ts) k).length c') (putTo (pupL ts) k) ∧ Below w.heap.size w wr) (fun _ i _ => ps.length - (intOf i).toNat)
  case atStart => exact ⟨0, none, 0, by omega, rfl, rfl, OwnI.nil _ _, Below.refl _ _⟩
  case round =>
    obtain ⟨k, A', c', hk, rfl, rfl, ho, hb⟩ := hrel
    have hz := hb.size
    have hl := putTo_len (pupL ts) k
    by_cases hlt : k < ps.length
    · obtain ⟨b, off, pu, gr, A2, c2, l, rfl, hx, hlb, hc0, hc1, hc2, hrl⟩ := (hr.below hb (Nat.le_refl _)).atT hlt
      have hS := putTo_succ (TV.out k _ hx)
      dsimp only at hS
      have HS := Lib.hid hS
      have hoA := ho.alloc (.cells #[.int .i64 pu, .int .i64 gr, .slice A2 l.length c2] 35)
      have hbA := hb.alloc hz (.cells #[.int .i64 pu, .int .i64 gr, .slice A2 l.length c2] 35)
      clear hx ho hS
      generalize putTo (pupL ts) k = L at *
      go_wp2_with fail
      refine (putInt_any w.heap.size A' c' L pu _ (by omega) (by simp; omega) hoA).mono ?_
      rintro e w2 ⟨A3, c3, rfl, ho3, hb3⟩
      rw [← HS.out] at ho3 ⊢
      go_wp2
      go_roundw
      case rel => exact ⟨k + 1, A3, c3, by omega, by go_num, rfl, ho3, hbA.trans hb3⟩
      case measure => simp [intOf]; omega
    · obtain rfl : k = ps.length := by omega
      go_wp2
      go_ret
      exact ⟨A', c', rfl, ho, hb⟩

set_option maxHeartbeats 4000000 in
theorem counting_any (A : Option Addr) (c : Nat) (s : List PartV) (B : Option Addr) (d : Nat) (ps : List (TryH × List Int)) (ts : List TryV) (sv : ps.map toV = ts) (p : Int) (w : World) (gg : goodB s ts = true) (h : RdT partT w A s) (hr : RdY tryT w B ps) :
    Calls Try.prog 87 #[.slice A s.length c, .slice B ps.length d, .int .i64 p] w fun e w' => ∃ A' c', e = .returned (.tuple #[.slice A' (ofP ts p (cntA s ts ps.length)).length c', .int .i64 (ofP ts p (cntA s ts ps.length)).length]) ∧ OwnI w' w.heap.size (.slice A' (ofP ts p (cntA s ts ps.length)).length c') (ofP ts p (cntA s ts ps.length)) ∧ Below w.heap.size w w' := by
  have hlm : ts.length = ps.length := by rw [← sv, List.length_map]
  have TV := fun k q (hp : ps[k]? = some q) => (show ts[k]? = some (toV q) by rw [← sv, List.getElem?_map, hp]; rfl)
  obtain ⟨hs, h10, hall⟩ := goodB_iff gg
  have HT := Lib.hid (fun k q (hp : ps[k]? = some q) A' c' W g g2 => isPassed_any A c s q.1.pupil q.1.grade A' c' q.2 W hs (hall _ (List.mem_of_getElem? (TV k q hp))) g g2)
  have HG := Lib.hid (fun k q (hp : ps[k]? = some q) => (tryB_iff (hall _ (List.mem_of_getElem? (TV k q hp)))).2.1)
  have HY := Lib.hid (fun k q (hp : ps[k]? = some q) => own_yes (s := s) (p := p) (TV k q hp))
  have HN := Lib.hid (fun k q (hp : ps[k]? = some q) => own_no (s := s) (p := p) (TV k q hp))
  have HLN := Lib.hid (fun k => Nat.le_trans (List.length_filter_le _ _) (cntA_mem s ts k).2.2 : ∀ k, (ofP ts p (cntA s ts k)).length ≤ k)
  have hp10 : ps.length ≤ 10 := by omega
  have HZ := Lib.hid (own_zero s ts p)
  clear hlm hs hall TV h10
  go_enter Try.func87, Try.ntmps87
  go_wp2
  go_loopw [8, 9, 14] (fun o n i wr => ∃ (k : Nat) (A' : Option Addr) (c' : Nat), k ≤ ps.length ∧ i = .int .i64 k ∧ o = .slice A' (ofP ts p (cntA s ts k)).length c' ∧ n = .int .i64 ((ofP ts p (cntA s ts k)).length : Nat) ∧ OwnI wr w.heap.size (.slice A' (ofP ts p (cntA s ts k)).length c') (ofP ts p (cntA s ts k)) ∧ Below w.heap.size w wr) (fun _ _ i _ => ps.length - (intOf i).toNat)
  case atStart => exact ⟨0, none, 0, by omega, rfl, by rw [HZ.out]; rfl, by rw [HZ.out]; rfl, by rw [HZ.out]; exact OwnI.nil _ _, Below.refl _ _⟩
  case round =>
    obtain ⟨k, A', c', hk, rfl, rfl, rfl, ho, hb⟩ := hrel
    have hz := hb.size
    by_cases hlt : k < ps.length
    · obtain ⟨b, off, pu, gr, A2, c2, l, rfl, hx, hlb, hc0, hc1, hc2, hrl⟩ := (hr.below hb (Nat.le_refl _)).atT hlt
      have HT1 := Lib.hid (HT.out k _ hx A2 c2)
      have hg := HG.out k _ hx
      have hyes := HY.out k _ hx
      have hno := HN.out k _ hx
      have hln := HLN.out k
      dsimp only [toV] at HT1 hg hyes hno
      obtain ⟨wn, hwn⟩ : ∃ wn : World, wn = wr.alloc (.cells #[.int .i64 pu, .int .i64 gr, .slice A2 l.length c2] 35) := ⟨_, rfl⟩
      have hbn : Below wr.heap.size wr wn := by rw [hwn]; exact (Below.refl _ _).alloc (Nat.le_refl _) _
      have u0 : wn.cell? ⟨wr.heap.size, 0, none⟩ = some (.int .i64 pu) := by rw [hwn]; exact cell_of_row _ _ 0 _ _ (0, 0) (heap_alloc_new wr _)
      have u1 : wn.cell? ⟨wr.heap.size, 1, none⟩ = some (.int .i64 gr) := by rw [hwn]; exact cell_of_row _ _ 1 _ _ (0, 0) (heap_alloc_new wr _)
      have u2 : wn.cell? ⟨wr.heap.size, 2, none⟩ = some (.slice A2 l.length c2) := by rw [hwn]; exact cell_of_row _ _ 2 _ _ (0, 0) (heap_alloc_new wr _)
      have hon := ho.below hbn (Nat.le_refl _)
      have hbN := hb.trans (hbn.mono hz)
      have hrn := hrl.below hbn (Nat.le_refl _)
      have hpn := h.below hbN (Nat.le_refl _)
      have HWN := Lib.hid hwn
      generalize ofP ts p (cntA s ts k) = L at *
      have i1 : IntKind.i64.wrap ((L.length : Int) + 1) = (L.length : Int) + 1 := IntWalk.i64_in _ (by omega)
      by_cases e1 : pu = p
      · by_cases e2 : gr = (L.length : Int) + 1
        · have HT2 := Lib.hid (fun W g g2 => HT1.out W g g2)
          cases e3 : passB s l
          · rw [e3] at HT2
            have E := Lib.hid (show ofP ts p (cntA s ts (k + 1)) = L from hno (fun hh => by rw [e3] at hh; cases hh.2.2))
            subst e1
            have d2 : (gr == (L.length : Int) + 1) = true := by rw [beq_iff_eq]; exact e2
            clear hyes hno hx hwn HT1 e2 ho hg
            go_wp2_with fail
            rw [← HWN.out]
            clear HWN
            refine (HT2.out _ hpn hrn).mono ?_
            rintro e w2 ⟨rfl, hb2⟩
            go_wp2
            go_roundw
            case rel => exact ⟨k + 1, A', c', by omega, by go_num, by rw [E.out], by rw [E.out], by rw [E.out]; exact hon.below hb2 (Nat.le_refl _), hbN.trans (hb2.mono hbN.size)⟩
            case measure => simp [intOf]; omega
          · rw [e3] at HT2
            have E := Lib.hid (show ofP ts p (cntA s ts (k + 1)) = L ++ [(k : Int)] from hyes e1 (by exact e2) e3)
            have HLL := Lib.hid (show (ofP ts p (cntA s ts (k + 1))).length = L.length + 1 by rw [E.out]; simp)
            subst e1
            have d2 : (gr == (L.length : Int) + 1) = true := by rw [beq_iff_eq]; exact e2
            clear hyes hno hx hwn HT1 e2 ho hg
            go_wp2_with fail
            rw [← HWN.out]
            clear HWN
            refine (HT2.out _ hpn hrn).mono ?_
            rintro e w2 ⟨rfl, hb2⟩
            have hbC := hbN.trans (hb2.mono hbN.size)
            have hoC := hon.below hb2 (Nat.le_refl _)
            have hzC := hbC.size
            go_wp2_with (at_builtin; refine wpList_app_int rfl _ _ rfl w.heap.size _ _ rfl (hoC) w.heap.size w (hbC) (k : Int) 1 1 rfl rfl (by omega) (hzC) (Nat.le_refl _) ?_; intro A1 c1 w3 hown1 hb3 hgr1)
            go_roundw
            case rel => exact ⟨k + 1, A1, c1, by omega, by go_num, by rw [HLL.out], by rw [HLL.out]; rfl, by rw [HLL.out]; rw [E.out]; exact hown1, hb3⟩
            case measure => simp [intOf]; omega
        · have E := Lib.hid (show ofP ts p (cntA s ts (k + 1)) = L from hno (fun hh => e2 hh.2.1))
          subst e1
          have d2 : (gr == (L.length : Int) + 1) = false := by rw [beq_eq_false_iff_ne]; exact e2
          clear hyes hno hx hwn HT1 e2 ho hg
          go_wp2
          rw [← HWN.out]
          clear HWN
          go_roundw
          case rel => exact ⟨k + 1, A', c', by omega, by go_num, by rw [E.out], by rw [E.out], by rw [E.out]; exact hon, hbN⟩
          case measure => simp [intOf]; omega
      · have E := Lib.hid (show ofP ts p (cntA s ts (k + 1)) = L from hno (fun hh => e1 hh.1))
        have d1 : (pu == p) = false := by rw [beq_eq_false_iff_ne]; exact e1
        clear hyes hno hx hwn HT1 e1 ho hg
        go_wp2
        rw [← HWN.out]
        clear HWN
        go_roundw
        case rel => exact ⟨k + 1, A', c', by omega, by go_num, by rw [E.out], by rw [E.out], by rw [E.out]; exact hon, hbN⟩
        case measure => simp [intOf]; omega
    · obtain rfl : k = ps.length := by omega
      go_wp2
      go_ret2
      exact ⟨A', c', rfl, ho, hb⟩
end Go.Proofs.Ythoojcmnkhhokaa
