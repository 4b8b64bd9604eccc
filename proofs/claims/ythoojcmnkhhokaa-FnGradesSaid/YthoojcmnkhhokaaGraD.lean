/-
  Are tries valid: contracts.
-/
import Derived.Test.YthoojcmnkhhokaaGraC
import Derived.Test.YthoojcmnkhhokaaTryB
namespace Go.Proofs.Ythoojcmnkhhokaa
set_option maxRecDepth 100000
open Go.RowKit

set_option maxHeartbeats 4000000 in
theorem areTriesI_any (A : Option Addr) (c : Nat) (s : List PartV) (B : Option Addr) (d : Nat) (ps : List (TryH × List Int)) (w : World) (hn : s.length ≤ 16777216) (hcap : s.length ≤ c) (h : RdT partT w A s) (hok : ∀ x ∈ s, x.ok) (hm : ps.length ≤ 16777216) (hsm : ∀ p ∈ ps, p.2.length ≤ 16777216) (hr : RdY tryT w B ps) :
    Calls Try.prog 30 #[.slice A s.length c, .slice B ps.length d] w fun e w' => e = .returned (.bool (goodB s (ps.map toV))) ∧ Below w.heap.size w w' := by
  have hS := Lib.hid (fun W g => isScheme_any A c s W hn hcap g hok)
  have HLM := Lib.hid (show (ps.map toV).length = ps.length from List.length_map _)
  obtain ⟨R, hR⟩ : ∃ R : Bool, R = goodB s (ps.map toV) := ⟨_, rfl⟩
  rw [← hR]
  have HR := Lib.hid hR
  clear hR
  cases gs : schB s
  · have E := Lib.hid (show R = false from HR.out.trans (goodB_sch gs))
    go_enter Try.func30, Try.ntmps30
    go_wp2_with (go_at_call 18; refine (hS.out _ h).mono ?_; rintro e w1 ⟨rfl, hb1⟩; rw [gs])
    go_ret
    exact ⟨by rw [E.out]; rfl, hb1⟩
  by_cases h10 : ps.length ≤ 10
  · have d0 : decide ((10 : Int) < (ps.length : Int)) = false := decide_eq_false (by omega)
    go_enter Try.func30, Try.ntmps30
    go_wp2_with (go_at_call 18; refine (hS.out _ h).mono ?_; rintro e w1 ⟨rfl, hb1⟩; rw [gs])
    clear d0
    go_loopw [17] (fun i wr => ∃ k : Nat, k ≤ ps.length ∧ i = .int .i64 k ∧ Hid (((ps.map toV).take k).all (tryB s) = true) ∧ Below w.heap.size w wr) (fun i _ => ps.length - (intOf i).toNat)
    case atStart => exact ⟨0, by omega, rfl, Lib.hid (by simp), hb1⟩
    case round =>
      obtain ⟨k, hk, rfl, hall, hb⟩ := hrel
      clear hb1
      have hz := hb.size
      by_cases hlt : k < ps.length
      · obtain ⟨b, off, pu, gr, A2, c2, l, rfl, hx, hlb, hc0, hc1, hc2, hrl⟩ := (hr.below hb (Nat.le_refl _)).atT hlt
        have hxv : (ps.map toV)[k]? = some ⟨pu, gr, l⟩ := by rw [List.getElem?_map, hx]; rfl
        have hsl := hsm _ (List.mem_of_getElem? hx)
        dsimp only at hsl
        have HT := Lib.hid (fun W g g2 => isTry_any A c s pu gr A2 c2 l W hn hsl g g2)
        have hbA : Below w.heap.size w (wr.alloc (.cells #[.int .i64 pu, .int .i64 gr, .slice A2 l.length c2] 35)) := hb.alloc hz _
        have hrA := hrl.below ((Below.refl _ _).alloc (Nat.le_refl _) (.cells #[.int .i64 pu, .int .i64 gr, .slice A2 l.length c2] 35)) (Nat.le_refl _)
        cases gt : tryB s ⟨pu, gr, l⟩
        · have E := Lib.hid (show R = false from HR.out.trans (goodB_bad hxv gt))
          clear hx hxv hall
          go_wp2_with (go_at_call 76; refine (HT.out _ (h.below hbA (Nat.le_refl _)) hrA).mono ?_; rintro e w2 ⟨rfl, hb2⟩; rw [gt])
          go_ret
          exact ⟨by rw [E.out]; rfl, hbA.trans (hb2.mono hbA.size)⟩
        · have HA := Lib.hid (show ((ps.map toV).take (k + 1)).all (tryB s) = true by rw [all_succ _ hxv, hall.out, gt]; rfl)
          clear hx hxv hall
          go_wp2_with (go_at_call 76; refine (HT.out _ (h.below hbA (Nat.le_refl _)) hrA).mono ?_; rintro e w2 ⟨rfl, hb2⟩; rw [gt])
          go_roundw
          case rel => exact ⟨k + 1, by omega, by go_num, HA, hbA.trans (hb2.mono hbA.size)⟩
          case measure => simp [intOf]; omega
      · have E := Lib.hid (show R = true from HR.out.trans (goodB_yes gs (by rw [HLM.out]; exact h10) (by have := hall.out; rwa [all_take _ _ k (by rw [HLM.out]; omega)] at this)))
        clear hall
        go_wp2
        go_ret
        exact ⟨by rw [E.out]; rfl, hb⟩
  · have d0 : decide ((10 : Int) < (ps.length : Int)) = true := decide_eq_true (by omega)
    have E := Lib.hid (show R = false from HR.out.trans (goodB_long (by rw [HLM.out]; exact h10)))
    go_enter Try.func30, Try.ntmps30
    go_wp2_with (go_at_call 18; refine (hS.out _ h).mono ?_; rintro e w1 ⟨rfl, hb1⟩; rw [gs])
    go_ret
    exact ⟨by rw [E.out]; rfl, hb1⟩

set_option maxHeartbeats 4000000 in
theorem l17Good_any (A : Option Addr) (c : Nat) (s : List PartV) (B : Option Addr) (d : Nat) (ps : List (TryH × List Int)) (w : World) (hn : s.length ≤ 16777216) (_hcap : s.length ≤ c) (h : RdT partT w A s) (hok : ∀ x ∈ s, x.ok) (hm : ps.length ≤ 16777216) (hsm : ∀ p ∈ ps, p.2.length ≤ 16777216) (hr : RdY tryT w B ps) :
    Calls Try.prog 81 #[.slice A s.length c, .slice B ps.length d] w fun e w' => e = .returned (.bool (goodB s (ps.map toV))) ∧ Below w.heap.size w w' := by
  have hS := Lib.hid (fun W g => l17Scheme_any A c s W hn g hok)
  have HLM := Lib.hid (show (ps.map toV).length = ps.length from List.length_map _)
  obtain ⟨R, hR⟩ : ∃ R : Bool, R = goodB s (ps.map toV) := ⟨_, rfl⟩
  rw [← hR]
  have HR := Lib.hid hR
  clear hR
  go_enter Try.func81, Try.ntmps81
  go_wp2
  go_loopw [5] (fun i wr => ∃ k : Nat, k ≤ ps.length ∧ i = .int .i64 k ∧ Hid (((ps.map toV).take k).all (tryB s) = true) ∧ Below w.heap.size w wr) (fun i _ => ps.length - (intOf i).toNat)
  case atStart => exact ⟨0, by omega, rfl, Lib.hid (by simp), Below.refl _ _⟩
  case round =>
    obtain ⟨k, hk, rfl, hall, hb⟩ := hrel
    have hz := hb.size
    by_cases hlt : k < ps.length
    · obtain ⟨b, off, pu, gr, A2, c2, l, rfl, hx, hlb, hc0, hc1, hc2, hrl⟩ := (hr.below hb (Nat.le_refl _)).atT hlt
      have hxv : (ps.map toV)[k]? = some ⟨pu, gr, l⟩ := by rw [List.getElem?_map, hx]; rfl
      have hsl := hsm _ (List.mem_of_getElem? hx)
      dsimp only at hsl
      have HT := Lib.hid (fun W g g2 => l17One_any A c s pu gr A2 c2 l W hn hsl g hok g2)
      cases gt : oneB s ⟨pu, gr, l⟩
      · have E := Lib.hid (show R = false by
          cases gs : schB s
          · exact HR.out.trans (goodB_sch gs)
          · exact HR.out.trans (goodB_bad hxv (by unfold oneB at gt; rw [gs] at gt; exact gt)))
        clear hx hxv hall
        go_wp2_with (go_at_call 73; refine (HT.out _ (h.below hb (Nat.le_refl _)) hrl).mono ?_; rintro e w2 ⟨rfl, hb2⟩; rw [gt])
        go_ret
        exact ⟨by rw [E.out]; rfl, hb.trans (hb2.mono hb.size)⟩
      · have HA := Lib.hid (show ((ps.map toV).take (k + 1)).all (tryB s) = true by
          unfold oneB at gt
          simp only [Bool.and_eq_true] at gt
          rw [all_succ _ hxv, hall.out, gt.2]; rfl)
        clear hx hxv hall
        go_wp2_with (go_at_call 73; refine (HT.out _ (h.below hb (Nat.le_refl _)) hrl).mono ?_; rintro e w2 ⟨rfl, hb2⟩; rw [gt])
        go_roundw
        case rel => exact ⟨k + 1, by omega, by go_num, HA, hb.trans (hb2.mono hb.size)⟩
        case measure => simp [intOf]; omega
    · have hall2 : (ps.map toV).all (tryB s) = true := by have := hall.out; rwa [all_take _ _ k (by rw [HLM.out]; omega)] at this
      have HA := Lib.hid hall2
      clear hall hall2
      cases gs : schB s
      · have E := Lib.hid (show R = false from HR.out.trans (goodB_sch gs))
        go_wp2_with (go_at_call 67; refine (hS.out _ (h.below hb (Nat.le_refl _))).mono ?_; rintro e w1 ⟨rfl, hb1⟩; rw [gs])
        go_ret
        exact ⟨by rw [E.out]; rfl, hb.trans (hb1.mono hz)⟩
      · by_cases h10 : ps.length ≤ 10
        · have d0 : decide ((ps.length : Int) ≤ 10) = true := decide_eq_true (by omega)
          have d1 : decide (ps.length ≤ 10) = true := decide_eq_true (by omega)
          have E := Lib.hid (show R = true from HR.out.trans (goodB_yes gs (by rw [HLM.out]; exact h10) HA.out))
          go_wp2_with (go_at_call 67; refine (hS.out _ (h.below hb (Nat.le_refl _))).mono ?_; rintro e w1 ⟨rfl, hb1⟩; rw [gs])
          go_ret
          exact ⟨by rw [E.out]; rfl, hb.trans (hb1.mono hz)⟩
        · have d0 : decide ((ps.length : Int) ≤ 10) = false := decide_eq_false (by omega)
          have d1 : decide (ps.length ≤ 10) = false := decide_eq_false (by omega)
          have E := Lib.hid (show R = false from HR.out.trans (goodB_long (by rw [HLM.out]; exact h10)))
          go_wp2_with (go_at_call 67; refine (hS.out _ (h.below hb (Nat.le_refl _))).mono ?_; rintro e w1 ⟨rfl, hb1⟩; rw [gs])
          go_ret
          exact ⟨by rw [E.out]; rfl, hb.trans (hb1.mono hz)⟩
set_option maxHeartbeats 800000 in
theorem areTriesS_any (A : Option Addr) (c : Nat) (s : List PartV) (B : Option Addr) (d : Nat) (ps : List (TryH × List Int)) (w : World) (hn : s.length ≤ 16777216) (hcap : s.length ≤ c) (h : RdT partT w A s) (hok : ∀ x ∈ s, x.ok) (hm : ps.length ≤ 16777216) (hsm : ∀ p ∈ ps, p.2.length ≤ 16777216) (hr : RdY tryT w B ps) :
    Calls Try.prog 28 #[.slice A s.length c, .slice B ps.length d] w fun e w' => e = .returned (.bool (goodB s (ps.map toV))) ∧ Below w.heap.size w w' := by
  go_enter Try.func28, Try.ntmps28
  go_wp2_with (go_at_call 81; refine (l17Good_any A c s B d ps _ hn hcap h hok hm hsm hr).mono ?_; rintro e w1 ⟨rfl, hb1⟩)
  go_ret
  exact ⟨rfl, hb1⟩
theorem areTriesI_t (A : Option Addr) (c : Nat) (s : List PartV) (B : Option Addr) (d : Nat) (ps : List (TryH × List Int)) (ts : List TryV) (sv : ps.map toV = ts) (w : World) (hn : s.length ≤ 16777216) (hcap : s.length ≤ c) (h : RdT partT w A s) (hok : ∀ x ∈ s, x.ok) (hm : ps.length ≤ 16777216) (hsm : ∀ p ∈ ps, p.2.length ≤ 16777216) (hr : RdY tryT w B ps) :
    Calls Try.prog 30 #[.slice A s.length c, .slice B ps.length d] w fun e w' => e = .returned (.bool (goodB s ts)) ∧ Below w.heap.size w w' := by
  subst sv
  exact areTriesI_any A c s B d ps w hn hcap h hok hm hsm hr
theorem areTriesS_t (A : Option Addr) (c : Nat) (s : List PartV) (B : Option Addr) (d : Nat) (ps : List (TryH × List Int)) (ts : List TryV) (sv : ps.map toV = ts) (w : World) (hn : s.length ≤ 16777216) (hcap : s.length ≤ c) (h : RdT partT w A s) (hok : ∀ x ∈ s, x.ok) (hm : ps.length ≤ 16777216) (hsm : ∀ p ∈ ps, p.2.length ≤ 16777216) (hr : RdY tryT w B ps) :
    Calls Try.prog 28 #[.slice A s.length c, .slice B ps.length d] w fun e w' => e = .returned (.bool (goodB s ts)) ∧ Below w.heap.size w w' := by
  subst sv
  exact areTriesS_any A c s B d ps w hn hcap h hok hm hsm hr
theorem l17Good_t (A : Option Addr) (c : Nat) (s : List PartV) (B : Option Addr) (d : Nat) (ps : List (TryH × List Int)) (ts : List TryV) (sv : ps.map toV = ts) (w : World) (hn : s.length ≤ 16777216) (hcap : s.length ≤ c) (h : RdT partT w A s) (hok : ∀ x ∈ s, x.ok) (hm : ps.length ≤ 16777216) (hsm : ∀ p ∈ ps, p.2.length ≤ 16777216) (hr : RdY tryT w B ps) :
    Calls Try.prog 81 #[.slice A s.length c, .slice B ps.length d] w fun e w' => e = .returned (.bool (goodB s ts)) ∧ Below w.heap.size w w' := by
  subst sv
  exact l17Good_any A c s B d ps w hn hcap h hok hm hsm hr
end Go.Proofs.Ythoojcmnkhhokaa
