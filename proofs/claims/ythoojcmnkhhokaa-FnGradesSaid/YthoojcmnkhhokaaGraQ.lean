/-
  The counting tries: the reference's contracts.
-/
import Derived.Test.YthoojcmnkhhokaaGraO
import Derived.Test.YthoojcmnkhhokaaGraD
namespace Go.Proofs.Ythoojcmnkhhokaa
set_option maxRecDepth 100000
open Go.RowKit

theorem resV_bad {s : List PartV} {l : List Int} (h : passB s l = false) : resV s l = ⟨#[102, 97, 105, 108, 101, 100]⟩ := if_neg (by simp [h])
theorem resV_ok {s : List PartV} {l : List Int} (h : passB s l = true) : resV s l = ⟨#[104, 111, 110, 111, 114]⟩ ∨ resV s l = ⟨#[112, 97, 115, 115, 101, 100]⟩ := by
  unfold resV
  rw [if_pos h]
  by_cases h2 : honB s l = true
  · rw [if_pos h2]; exact .inl rfl
  · rw [if_neg h2]; exact .inr rfl
/-- How many of the first m of a list of indices are one pupil's. -/
def cofP (ts : List TryV) (p : Int) (L : List Int) (m : Nat) : Int := ((ofP ts p (L.take m)).length : Nat)
theorem cofP_zero (ts : List TryV) (p : Int) (L : List Int) : cofP ts p L 0 = 0 := by simp [cofP, ofP]
theorem cofP_all (ts : List TryV) (p : Int) (L : List Int) : cofP ts p L L.length = ((ofP ts p L).length : Nat) := by unfold cofP; rw [List.take_length]
theorem take_s {L : List Int} {m : Nat} {o : Int} (h : L[m]? = some o) : L.take (m + 1) = L.take m ++ [o] := by
  rw [List.take_add_one, h]; rfl
theorem cofP_hit {ts : List TryV} {p : Int} {L : List Int} {m : Nat} {o : Int} (h : L[m]? = some o) (hp : pupOf ts o = p) : cofP ts p L (m + 1) = cofP ts p L m + 1 := by
  unfold cofP
  rw [take_s h]
  unfold ofP
  rw [List.filter_append]
  simp [hp]
theorem cofP_miss {ts : List TryV} {p : Int} {L : List Int} {m : Nat} {o : Int} (h : L[m]? = some o) (hp : ¬ pupOf ts o = p) : cofP ts p L (m + 1) = cofP ts p L m := by
  unfold cofP
  rw [take_s h]
  unfold ofP
  rw [List.filter_append]
  simp [hp]
theorem cofP_bd (ts : List TryV) (p : Int) (L : List Int) (m : Nat) : 0 ≤ cofP ts p L m ∧ cofP ts p L m ≤ m := by
  unfold cofP
  have h1 : (ofP ts p (L.take m)).length ≤ (L.take m).length := List.length_filter_le _ _
  rw [List.length_take] at h1
  omega
theorem own_e0q (W : World) (base : Nat) (hb : base ≤ W.heap.size) : OwnI (W.alloc (.cells #[] 3)) base (.slice (some ⟨W.heap.size, 0, none⟩) 0 0) [] := World.ownsRow_lit W #[] 0 hb (by unfold maxLen; omega) rfl

set_option maxHeartbeats 4000000 in
theorem l17Counts_any (A : Option Addr) (c : Nat) (s : List PartV) (B : Option Addr) (d : Nat) (ps : List (TryH × List Int)) (ts : List TryV) (sv : ps.map toV = ts) (w : World) (gg : goodB s ts = true) (h : RdT partT w A s) (hr : RdY tryT w B ps) :
    Calls Try.prog 85 #[.slice A s.length c, .slice B ps.length d] w fun e w' => ∃ A' c', e = .returned (.slice A' (cntA s ts ps.length).length c') ∧ OwnI w' w.heap.size (.slice A' (cntA s ts ps.length).length c') (cntA s ts ps.length) ∧ Below w.heap.size w w' := by
  have hlm : ts.length = ps.length := by rw [← sv, List.length_map]
  have TV := fun k (q : TryH × List Int) (hp : ps[k]? = some q) => (show ts[k]? = some (toV q) by rw [← sv, List.getElem?_map, hp]; rfl)
  obtain ⟨hs, h10, hall⟩ := goodB_iff gg
  have HT := Lib.hid (fun k q (hp : ps[k]? = some q) A' c' W g g2 => l17Result_any A c s q.1.pupil q.1.grade A' c' q.2 W hs (hall _ (List.mem_of_getElem? (TV k q hp))) g g2)
  have HG := Lib.hid (fun k q (hp : ps[k]? = some q) => (tryB_iff (hall _ (List.mem_of_getElem? (TV k q hp)))).2.1)
  have HP := Lib.hid (fun k q (hp : ps[k]? = some q) => pupOf_at (TV k q hp))
  have HY := Lib.hid (fun k q (hp : ps[k]? = some q) => cntA_yes (s := s) (TV k q hp))
  have HN := Lib.hid (fun k q (hp : ps[k]? = some q) => cntA_no (s := s) (TV k q hp))
  have HM := Lib.hid (fun k => cntA_mem s ts k)
  have hp10 : ps.length ≤ 10 := by omega
  have HZ := Lib.hid (cntA_zero s ts)
  have he := own_e0q w w.heap.size (Nat.le_refl _)
  have hbe : Below w.heap.size w (w.alloc (.cells #[] 3)) := (Below.refl _ _).alloc (Nat.le_refl _) _
  clear hlm hs hall TV h10
  go_enter Try.func85, Try.ntmps85
  go_wp2
  go_loopw [5, 6] (fun o i wr => ∃ (k : Nat) (A' : Option Addr) (c' : Nat), k ≤ ps.length ∧ i = .int .i64 k ∧ o = .slice A' (cntA s ts k).length c' ∧ OwnI wr w.heap.size (.slice A' (cntA s ts k).length c') (cntA s ts k) ∧ Below w.heap.size w wr) (fun _ i _ => ps.length - (intOf i).toNat)
  case atStart => exact ⟨0, _, 0, by omega, rfl, by rw [HZ.out]; rfl, by rw [HZ.out]; exact he, hbe⟩
  case round =>
    obtain ⟨k, A', c', hk, rfl, rfl, ho, hb⟩ := hrel
    clear he hbe
    have hz := hb.size
    obtain ⟨wq, rfl⟩ : ∃ wq : World, wq = wr := ⟨_, rfl⟩
    by_cases hlt : k < ps.length
    · obtain ⟨b, off, pu, gr, A2, c2, l, rfl, hx, hlb, hc0, hc1, hc2, hrl⟩ := (hr.below hb (Nat.le_refl _)).atT hlt
      have HT1 := Lib.hid (HT.out k _ hx A2 c2)
      have hg := HG.out k _ hx
      have hyes := HY.out k _ hx
      have hno := HN.out k _ hx
      dsimp only [toV] at HT1 hg hyes hno
      obtain ⟨hM1, _, hM3⟩ := HM.out k
      have HM1 := Lib.hid hM1
      clear hx hM1
      have HYES := Lib.hid hyes
      have HNO := Lib.hid hno
      clear hyes hno
      have HL : Hid ((ofP ts pu (cntA s ts k)).length = (ofP ts pu (cntA s ts k)).length) := Lib.hid rfl
      clear HL
      generalize cntA s ts k = L at *
      have dk1 : decide (k < ps.length) = true := decide_eq_true hlt
      have dk2 : decide ((k : Int) < (ps.length : Int)) = true := decide_eq_true (by omega)
      go_wp2
      clear dk1 dk2
      go_loopw [7, 8] (fun n i wy => ∃ m : Nat, m ≤ L.length ∧ i = .int .i64 m ∧ n = .int .i64 (cofP ts pu L m) ∧ Below wq.heap.size wq wy) (fun _ i _ => L.length - (intOf i).toNat)
      case atStart => exact ⟨0, by omega, rfl, by rw [cofP_zero], Below.refl _ _⟩
      case round =>
        obtain ⟨m, hmm, rfl, rfl, hby⟩ := hrel
        have hzy := hby.size
        have hoB := ho.below hby (Nat.le_refl _)
        have hbB := hb.trans (hby.mono hz)
        obtain ⟨cb1, cb2⟩ := cofP_bd ts pu L m
        have e0 := (hby.cell (p := ⟨b, off + k * 3, none⟩) hlb).trans hc0
        have e1 := (hby.cell (p := ⟨b, off + k * 3 + 1, none⟩) hlb).trans hc1
        have e2 := (hby.cell (p := ⟨b, off + k * 3 + 2, none⟩) hlb).trans hc2
        have b4' : (k : Int) < (ps.length : Int) := by omega
        by_cases hlj : m < L.length
        · obtain ⟨ob, ooff, o, rfl, hoo', holt, hoc⟩ := hoB.rd.at_ (k := m) hlj
          have hom := HM1.out o (List.mem_of_getElem? hoo')
          obtain ⟨q', rfl⟩ : ∃ q' : Nat, o = (q' : Int) := ⟨o.toNat, by omega⟩
          obtain ⟨b', off', pu2, gr2, A3, c3', l3, hA', hx2, hlb2, hd0, hd1, hd2, hrl3⟩ := (hr.below hbB (Nat.le_refl _)).atT (k := q') (by omega)
          injection hA' with hA'
          injection hA' with g1 g2 _
          subst g1 g2
          have hpo := HP.out q' _ hx2
          dsimp only [toV] at hpo
          have HHIT := Lib.hid (fun e => cofP_hit (p := pu) hoo' (hpo.trans e))
          have HMISS := Lib.hid (fun (e : ¬ pu2 = pu) => cofP_miss (p := pu) hoo' (fun e2 => e (hpo.symm.trans e2)))
          have i1 : IntKind.i64.wrap (cofP ts pu L m + 1) = cofP ts pu L m + 1 := IntWalk.i64_in _ (by omega)
          have b1' : (m : Int) < (L.length : Int) := by omega
          have b2' : (q' : Int) < (ps.length : Int) := by omega
          clear hx2 hpo hoo'
          by_cases hpp : pu2 = pu
          · have E := Lib.hid (HHIT.out hpp)
            subst hpp
            clear HHIT HMISS
            go_wp2_with fail
            go_quiet (fail)
            go_wp2
            go_roundw
            case rel => exact ⟨m + 1, by omega, by go_num, by rw [E.out], below_drewN hby _⟩
            case measure => simp [intOf]; omega
          · have E := Lib.hid (HMISS.out hpp)
            have d1 : (pu2 == pu) = false := by rw [beq_eq_false_iff_ne]; exact hpp
            clear HHIT HMISS
            go_wp2_with fail
            go_quiet (fail)
            go_wp2
            go_roundw
            case rel => exact ⟨m + 1, by omega, by go_num, by rw [E.out], below_drewN hby _⟩
            case measure => simp [intOf]; omega
        · obtain rfl : m = L.length := by omega
          have hcA := cofP_all ts pu L
          have HT2 := Lib.hid (fun W g g2 => HT1.out W g g2)
          have hpB := h.below hbB (Nat.le_refl _)
          have hrB := hrl.below hby (Nat.le_refl _)
          have hzB := hbB.size
          have i1 : IntKind.i64.wrap (cofP ts pu L L.length + 1) = cofP ts pu L L.length + 1 := IntWalk.i64_in _ (by omega)
          by_cases hge : gr = cofP ts pu L L.length + 1
          · have d1 : (gr == cofP ts pu L L.length + 1) = true := by rw [beq_iff_eq]; exact hge
            cases e3 : passB s l
            · have E := Lib.hid (HNO.out (fun hh => by rw [e3] at hh; cases hh.2))
              rw [resV_bad e3] at HT2
              clear hge hcA HYES HNO HT1
              go_wp2_with fail
              refine (HT2.out _ hpB hrB).mono ?_
              rintro e w2 ⟨rfl, hb2⟩
              go_wp2
              go_roundw
              case rel => exact ⟨k + 1, A', c', by omega, by go_num, by rw [E.out], by rw [E.out]; exact hoB.below hb2 (Nat.le_refl _), hbB.trans (hb2.mono hzB)⟩
              case measure => simp [intOf]; omega
            · have E := Lib.hid (HYES.out (hge.trans (by rw [hcA])) e3)
              have HLL := Lib.hid (show (cntA s ts (k + 1)).length = L.length + 1 by rw [E.out]; simp)
              clear hge hcA HYES HNO HT1
              rcases resV_ok e3 with er | er
              all_goals
                rw [er] at HT2
                clear er
                go_wp2_with fail
                refine (HT2.out _ hpB hrB).mono ?_
                rintro e w2 ⟨rfl, hb2⟩
                have hbC := hbB.trans (hb2.mono hzB)
                have hoC := hoB.below hb2 (Nat.le_refl _)
                have hzC := hbC.size
                go_wp2_with (at_builtin; refine wpList_app_int rfl _ _ rfl w.heap.size _ _ rfl (hoC) w.heap.size w (hbC) (k : Int) 1 1 rfl rfl (by omega) (hzC) (Nat.le_refl _) ?_; intro A1 c1 w3 hown1 hb3 hgr1)
                go_roundw
                case rel => exact ⟨k + 1, A1, c1, by omega, by go_num, by rw [HLL.out], by rw [HLL.out]; rw [E.out]; exact hown1, hb3⟩
                case measure => simp [intOf]; omega
          · have d1 : (gr == cofP ts pu L L.length + 1) = false := by rw [beq_eq_false_iff_ne]; exact hge
            have E := Lib.hid (HNO.out (fun hh => hge (hh.1.trans (by rw [hcA]))))
            clear hge hcA HYES HNO HT1
            go_wp2
            go_roundw
            case rel => exact ⟨k + 1, A', c', by omega, by go_num, by rw [E.out], by rw [E.out]; exact hoB, hbB⟩
            case measure => simp [intOf]; omega
    · obtain rfl : k = ps.length := by omega
      go_wp2
      go_ret
      exact ⟨A', c', rfl, ho, hb⟩
end Go.Proofs.Ythoojcmnkhhokaa
