/-
  How telling a task is: contracts.
-/
import Derived.Test.YtcljnfmlakpflaaBugD
import Derived.Test.YtcljnfmlakpflaaPutW
namespace Go.Proofs.Ytcljnfmlakpflaa
open Go.RowKit

def tellV (a b : Int) : Int := ((addTo (allA a b 6) (allA a b 6).length).length : Nat)
theorem tellV_add (a b : Int) : tellV a b = ((addTo (allA a b 6) (allA a b 6).length).length : Nat) := rfl
theorem tellV_put (a b : Int) : tellV a b = ((putTo (allA a b 6) (allA a b 6).length).length : Nat) := by rw [(putTo_addTo _ _).2.2]; rfl
theorem tellV_bd (a b : Int) : 0 ≤ tellV a b ∧ tellV a b ≤ 6 := by
  have h1 := addTo_len (allA a b 6) (allA a b 6).length
  rw [allA_len] at h1
  unfold tellV
  rw [allA_len]
  omega
theorem addTo_pos {l : List Int} {k : Nat} (hk : 0 < k) (hl : k ≤ l.length) : 0 < (addTo l k).length := by
  induction k with
  | zero => omega
  | succ k ih =>
    rw [addTo_succ (List.getElem?_eq_getElem (show k < l.length by omega))]
    unfold addU
    split
    · rename_i h
      have : l[k] ∈ addTo l k := (hasB_iff _ _).1 h
      exact List.length_pos_of_mem this
    · simp
theorem tellV_pos (a b : Int) : 1 ≤ tellV a b := by
  have := addTo_pos (l := allA a b 6) (k := (allA a b 6).length) (by rw [allA_len]; omega) (Nat.le_refl _)
  unfold tellV
  omega
attribute [irreducible] tellV

set_option maxHeartbeats 800000 in
theorem l1Has_any (A : Option Addr) (c : Nat) (l : List Int) (n : Int) (w : World) (hn : l.length ≤ 16777216) (h : RdI w A l) :
    Calls Try.prog 83 #[.slice A l.length c, .int .i64 n] w fun e w' => e = .returned (.bool (hasB l n)) ∧ w = w' := by
  go_enter Try.func83, Try.ntmps83
  go_wp2
  go_loop [5] (fun i => ∃ k : Nat, k ≤ l.length ∧ i = .int .i64 k ∧ Hid (hasB (l.take k) n = false)) (fun i => l.length - (intOf i).toNat)
  case atStart => exact ⟨0, by omega, rfl, Lib.hid rfl⟩
  case round =>
    obtain ⟨k, hk, rfl, E⟩ := hrel
    by_cases hlt : k < l.length
    · obtain ⟨b, off, x, rfl, hx, _, hc⟩ := h.at_ hlt
      by_cases hxn : x = n
      · subst hxn
        have E2 := Lib.hid (show hasB l x = true from (hasB_iff _ _).2 (List.mem_of_getElem? hx))
        have hq : (x == x) = true := by simp
        clear hx E
        go_wp2
        go_ret
        exact ⟨by rw [E2.out]; rfl, rfl⟩
      · have E2 := Lib.hid (show hasB (l.take (k + 1)) n = false by
          have h1 : n ∉ l.take k := (hasB_not _ _).1 E.out
          rw [take_snoc' hx]
          have : n ∉ l.take k ++ [x] := by
            rw [List.mem_append, List.mem_singleton]
            rintro (h | h)
            · exact h1 h
            · exact hxn h.symm
          exact (hasB_not _ _).2 this)
        have hq : (x == n) = false := by simp [hxn]
        clear hx E
        go_wp2
        go_round
        case rel => exact ⟨k + 1, by omega, by go_num, E2⟩
        case measure => simp [intOf]; omega
    · have E2 := Lib.hid (show hasB l n = false by have := E.out; rwa [List.take_of_length_le (by omega)] at this)
      clear E
      go_wp2
      go_ret
      exact ⟨by rw [E2.out]; rfl, rfl⟩

set_option maxHeartbeats 800000 in
theorem tellingOf_any (a b : Int) (w : World) (ha : 0 ≤ a) (ha' : a ≤ 9999) (hb : 0 ≤ b) (hb' : b ≤ 9999) :
    Calls Try.prog 68 #[.int .i64 a, .int .i64 b] w fun e w' => e = .returned (.int .i64 (tellV a b)) ∧ Below w.heap.size w w' := by
  have hT := tellV_put a b
  have hc := fun W => allAnswers_any a b W ha ha' hb hb'
  have hl6 := Nat.le_of_eq (allA_len a b 6)
  generalize tellV a b = T at *
  generalize allA a b 6 = l at *
  have HT := Lib.hid hT
  clear hT
  go_enter Try.func68, Try.ntmps68
  go_wp2_with fail
  refine (hc _).mono ?_
  rintro e w1 ⟨A, c, rfl, hown, hb1⟩
  clear hc
  have hz1 := hb1.size
  go_wp2
  go_loopw [5, 12] (fun v i wr => ∃ (k : Nat) (A' : Option Addr) (c' : Nat), k ≤ l.length ∧ i = .int .i64 k ∧ v = .slice A' (putTo l k).length c' ∧ OwnI wr w1.heap.size (.slice A' (putTo l k).length c') (putTo l k) ∧ Below w1.heap.size w1 wr) (fun _ i _ => l.length - (intOf i).toNat)
  case atStart => exact ⟨0, none, 0, by omega, rfl, rfl, OwnI.nil _ _, Below.refl _ _⟩
  case round =>
    obtain ⟨k, A', c', hk, rfl, rfl, ho, hbl⟩ := hrel
    have hr := hown.rd.below hbl (Nat.le_refl _)
    have hz := hbl.size
    have hpl := putTo_len l k
    clear hown
    by_cases hlt : k < l.length
    · obtain ⟨b', off, x, rfl, hx, hlb, hcx⟩ := hr.at_ hlt
      have E := Lib.hid (putTo_succ hx)
      clear hx
      go_wp2_with fail
      refine (putInt_any w1.heap.size A' c' _ x _ (by omega) hz ho).mono ?_
      rintro e w2 ⟨A2, c2, rfl, ho2, hb2⟩
      rw [← E.out] at ho2 ⊢
      go_wp2
      go_roundw
      case rel => exact ⟨k + 1, A2, c2, by omega, by go_num, rfl, ho2, hbl.trans hb2⟩
      case measure => simp [intOf]; omega
    · obtain rfl : k = l.length := by omega
      go_wp2
      go_ret
      exact ⟨by rw [HT.out]; rfl, hb1.trans (hbl.mono hz1)⟩

set_option maxHeartbeats 800000 in
theorem l16Telling_any (a b : Int) (w : World) (ha : 0 ≤ a) (ha' : a ≤ 9999) (hb : 0 ≤ b) (hb' : b ≤ 9999) :
    Calls Try.prog 67 #[.int .i64 a, .int .i64 b] w fun e w' => e = .returned (.int .i64 (tellV a b)) ∧ Below w.heap.size w w' := by
  have hT := tellV_add a b
  have hc := fun W => l16All_any a b W ha ha' hb hb'
  have hl6 := Nat.le_of_eq (allA_len a b 6)
  generalize tellV a b = T at *
  generalize allA a b 6 = l at *
  have HT := Lib.hid hT
  clear hT
  go_enter Try.func67, Try.ntmps67
  go_wp2_with fail
  refine (hc _).mono ?_
  rintro e w1 ⟨A, c, rfl, hown, hb1⟩
  clear hc
  have hz1 := hb1.size
  go_wp2
  go_loopw [6, 7] (fun v i wr => ∃ (k : Nat) (A' : Option Addr) (c' : Nat), k ≤ l.length ∧ i = .int .i64 k ∧ v = .slice A' (addTo l k).length c' ∧ OwnI wr w1.heap.size (.slice A' (addTo l k).length c') (addTo l k) ∧ Below w1.heap.size w1 wr) (fun _ i _ => l.length - (intOf i).toNat)
  case atStart => exact ⟨0, _, 0, by omega, rfl, rfl, OwnI.empty _ _ (Nat.le_refl _), (Below.refl _ _).alloc (Nat.le_refl _) _⟩
  case round =>
    obtain ⟨k, A', c', hk, rfl, rfl, ho, hbl⟩ := hrel
    have hr := hown.rd.below hbl (Nat.le_refl _)
    have hz := hbl.size
    have hpl := addTo_len l k
    clear hown
    by_cases hlt : k < l.length
    · obtain ⟨b', off, x, rfl, hx, hlb, hcx⟩ := hr.at_ hlt
      have E := Lib.hid (addTo_succ hx)
      clear hx
      cases hc : hasB (addTo l k) x
      · have E2 := Lib.hid (E.out.trans (addU_new hc))
        clear E
        go_wp2_with fail
        refine (l1Has_any A' c' _ x _ (by omega) ho.rd).mono ?_
        rintro e w2 ⟨rfl, rfl⟩
        rw [hc]
        clear hc
        go_wp2_with (at_builtin; refine wpList_app_int rfl _ _ rfl w1.heap.size _ _ rfl ho w1.heap.size w1 hbl x 1 1 rfl rfl (by omega) hz (Nat.le_refl _) ?_; intro A3 c3 w3 hown3 hb3 hgr3)
        go_roundw
        case rel => exact ⟨k + 1, A3, c3, by omega, by go_num, by rw [E2.out, List.length_append]; rfl, by rw [E2.out]; rw [List.length_append]; exact hown3, hb3⟩
        case measure => simp [intOf]; omega
      · have E2 := Lib.hid (E.out.trans (addU_has hc))
        clear E
        go_wp2_with fail
        refine (l1Has_any A' c' _ x _ (by omega) ho.rd).mono ?_
        rintro e w2 ⟨rfl, rfl⟩
        rw [hc]
        clear hc
        go_wp2
        go_roundw
        case rel => exact ⟨k + 1, A', c', by omega, by go_num, by rw [E2.out], by rw [E2.out]; exact ho, hbl⟩
        case measure => simp [intOf]; omega
    · obtain rfl : k = l.length := by omega
      go_wp2
      go_ret
      exact ⟨by rw [HT.out]; rfl, hb1.trans (hbl.mono hz1)⟩

/-! ### TellingOf -/
def telW (a b : Int) : Int := if taskB a b = true then tellV a b else 0
theorem telW_no {a b : Int} (h : taskB a b = false) : telW a b = 0 := by simp [telW, h]
theorem telW_yes {a b : Int} (h : taskB a b = true) : telW a b = tellV a b := by simp [telW, h]
attribute [irreducible] telW
set_option maxHeartbeats 800000 in
theorem tellingOfI_any (a b : Int) (w : World) :
    Calls Try.prog 30 #[.int .i64 a, .int .i64 b] w (RetN w (telW a b) (taskB a b)) := by
  cases h2 : taskB a b
  · rw [telW_no h2]
    go_enter Try.func30, Try.ntmps30
    go_wp2_with (go_at_call 54; refine (isTask_any _ _ _).mono ?_; rintro e w' ⟨rfl, rfl⟩; rw [h2])
    go_ret2
    exact ⟨rfl, Below.refl _ _⟩
  · rw [telW_yes h2]
    have ht := (taskB_iff _ _).1 h2
    go_enter Try.func30, Try.ntmps30
    go_wp2_with (first | (go_at_call 54; refine (isTask_any _ _ _).mono ?_; rintro e w' ⟨rfl, rfl⟩; rw [h2]) | (go_at_call 68; refine (tellingOf_any _ _ _ ht.1.1 ht.1.2 ht.2.1 (by omega)).mono ?_; rintro e w1 ⟨rfl, hb1⟩))
    go_ret2
    exact ⟨rfl, hb1⟩
set_option maxHeartbeats 800000 in
theorem tellingOfS_any (a b : Int) (w : World) :
    Calls Try.prog 29 #[.int .i64 a, .int .i64 b] w (RetN w (telW a b) (taskB a b)) := by
  cases h2 : taskB a b
  · rw [telW_no h2]
    go_enter Try.func29, Try.ntmps29
    go_wp2_with (go_at_call 51; refine (l16Task_any _ _ _).mono ?_; rintro e w' ⟨rfl, rfl⟩; rw [h2])
    go_ret2
    exact ⟨rfl, Below.refl _ _⟩
  · rw [telW_yes h2]
    have ht := (taskB_iff _ _).1 h2
    go_enter Try.func29, Try.ntmps29
    go_wp2_with (first | (go_at_call 51; refine (l16Task_any _ _ _).mono ?_; rintro e w' ⟨rfl, rfl⟩; rw [h2]) | (go_at_call 67; refine (l16Telling_any _ _ _ ht.1.1 ht.1.2 ht.2.1 (by omega)).mono ?_; rintro e w1 ⟨rfl, hb1⟩))
    go_ret2
    exact ⟨rfl, hb1⟩
end Go.Proofs.Ytcljnfmlakpflaa
