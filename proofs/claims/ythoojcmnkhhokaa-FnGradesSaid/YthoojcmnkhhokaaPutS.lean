/-
  A number put into a rising list by the reference: the contract. (Printed by gen_puts.py.)
-/
import Derived.Test.YthoojcmnkhhokaaApp3
import Derived.Test.YthoojcmnkhhokaaRiseExt
namespace Go.Proofs.Ythoojcmnkhhokaa
set_option maxRecDepth 100000
open Go.RowKit
attribute [local go_sem ↓] Go.wp_at_zero Go.wp_at_succ

theorem putL_ins {L : List Int} (h : rise L) (n : Int) (k : Nat) (hk : k ≤ L.length) (h1 : ∀ j, j < k → L.getD j 0 < n) (h2 : k < L.length → n < L.getD k 0) : putL L n = insL L k n := by
  obtain ⟨r1, r2⟩ := rise_parts h n k hk (fun j hj hl => by
    by_cases e : j = k
    · subst e; exact h2 hl
    · have := rise_lt h (i := k) (j := j) (by omega) hl; have := h2 (by omega); omega) (by
    by_cases e : k = 0
    · exact .inl e
    · exact .inr ⟨by omega, h1 (k - 1) (by omega)⟩)
  obtain ⟨s1, s2, _, _⟩ := put_spec h n
  exact rise_ext _ _ s1 r1 (fun x => by rw [s2, mem_insL])
set_option maxRecDepth 100000 in
set_option maxHeartbeats 4000000 in
theorem l1Put_any (base g c : Nat) (L : List Int) (n : Int) (w : World) (hL : L.length ≤ 900) (hr : rise L) (hbase : base ≤ w.heap.size) (h : OwnI w base (.slice (some ⟨g, 0, none⟩) L.length c) L) :
    Calls Try.prog 90 #[.slice (some ⟨g, 0, none⟩) L.length c, .int .i64 n] w fun e w' => ∃ g' c', e = .returned (.slice (some ⟨g', 0, none⟩) (putL L n).length c') ∧ OwnI w' base (.slice (some ⟨g', 0, none⟩) (putL L n).length c') (putL L n) ∧ Below base w w' := by
  have HP := Lib.hid (putL_ins hr n)
  have HH := Lib.hid (put_spec hr n).2.2.1
  have hcap := h.cap.2.1
  clear hr
  generalize putL L n = R at *
  go_enter Try.func90, Try.ntmps90
  go_wp2
  go_loop [5] (fun i => ∃ k : Nat, k ≤ L.length ∧ i = .int .i64 k ∧ Hid (∀ j, j < k → L.getD j 0 < n)) (fun i => L.length - (intOf i).toNat)
  case atStart => exact ⟨0, by omega, rfl, Lib.hid (fun j h => by omega)⟩
  case round =>
    obtain ⟨k, hk, rfl, E⟩ := hrel
    by_cases hlt : k < L.length
    · obtain ⟨b, off, x, hA, hx, _, hc⟩ := h.rd.at_ hlt
      injection hA with hA
      injection hA with e1 e2 _
      subst e1 e2
      rw [Nat.zero_add] at hc
      have hxd := Lib.hid (getD_of hx)
      rcases Int.lt_trichotomy x n with h1 | h1 | h1
      · have E2 := Lib.hid (show ∀ j, j < k + 1 → L.getD j 0 < n from fun j hj => by
          by_cases e : j = k
          · rw [e, hxd.out]; exact h1
          · exact E.out j (by omega))
        have d1 : decide (x < n) = true := decide_eq_true h1
        clear E hx hxd HP HH
        go_wp2
        go_round
        case rel => exact ⟨k + 1, by omega, by go_num, E2⟩
        case measure => simp [intOf]; omega
      · subst h1
        have E2 := Lib.hid (HH.out (List.mem_of_getElem? hx))
        have d1 : decide (x < x) = false := decide_eq_false (by omega)
        have d2 : (x == x) = true := by simp
        clear E hx hxd HP HH
        go_wp2
        go_ret
        exact ⟨g, c, by rw [E2.out]; rfl, by rw [E2.out]; exact h, Below.refl _ _⟩
      · have E2 := Lib.hid (show R = insL L k n from HP.out k (by omega) E.out (fun _ => by rw [hxd.out]; exact h1))
        have d1 : decide (x < n) = false := decide_eq_false (by omega)
        have d2 : (x == n) = false := by rw [beq_eq_false_iff_ne]; omega
        clear E hx hxd HP HH
        have dk1 : decide (k < L.length) = true := decide_eq_true hlt
        have dk2 : decide ((k : Int) < (L.length : Int)) = true := decide_eq_true (by omega)
        obtain ⟨wt, rfl⟩ : ∃ wt : World, wt = w := ⟨_, rfl⟩
        have hoT := own_int.2 h
        have HR := Lib.hid (show R.length = L.length + 1 by rw [E2.out, length_insL])
        have HI := Lib.hid (show R = L.take k ++ [n] ++ L.drop k by rw [E2.out]; unfold insL; simp)
        clear E2 h
        have T0 : RdT intT wt (some ⟨g, 0, none⟩) ((L).take (k)) := hoT.rd.take intT (k)
        have T1 : ∀ X, ((k) < (L).length → X = some ⟨g, (k), none⟩) → RdT intT wt X ((L).drop (k)) := fun X hX => RdT.drop intT hoT.rd (k) X (fun hh => by rw [hX hh]; show _ = some (⟨g, 0 + (k) * 1, none⟩ : Addr); rw [Nat.mul_one, Nat.zero_add])
        have htl : ((L).take (k)).length = k := by rw [List.length_take]; omega
        have HL5 := Lib.hid (show ([] : List Int).length + ((L).take (k)).length = k by rw [htl]; simp)
        have HL6 := Lib.hid (show ((L).take (k)).length + [n].length = k + 1 by rw [htl]; simp)
        have HL7 := Lib.hid (show ((L).take (k) ++ [n]).length + ((L).drop (k)).length = L.length + 1 by rw [List.length_append, htl, List.length_drop]; simp; omega)
        have HD := Lib.hid (show (L).length - (k) = ((L).drop (k)).length by rw [List.length_drop])
        have LB1 := fun o : Obj => ((Below.refl wt.heap.size wt).drew.alloc (Nat.le_refl _) o : Below wt.heap.size wt (wt.drew.alloc o))
        have LB2 := fun o o' : Obj => ((LB1 o).alloc (by simp) o' : Below wt.heap.size wt ((wt.drew.alloc o).alloc o'))
        have hgt : g < wt.heap.size := (hoT.lt g rfl).2
        have j1 : (0 : Int) ≤ (k : Int) := by omega
        have j2 : (k : Int) ≤ ((L).length : Int) := by omega
        have j3 : (k : Int) ≤ (c : Int) := by omega
        have j4 : ((L).length : Int) ≤ (c : Int) := by omega
        have j5 : ((k : Int)).toNat = k := by omega
        have hTL := Lib.hid htl
        have hpl : (k) + ((L).length - (k)) ≤ 1000 := by omega
        clear htl
        have hcc : ¬ c = k := by omega
        all_goals
          go_wp2_with fail
          go_region_held3 (fun _ => True) (trivial) (first
            | (refine step_spreadT intT rfl _ _ (by rfl) wt.heap.size (.slice A6 (k + 1) c6) ((L).take (k) ++ [n]) (by rfl) (by first | exact ho6) wt.heap.size hb6 _ ((L).drop (k)) _ _ (by exact HD.out) (by rfl) (by exact (T1 _ (fun hh => by first | rfl | omega)).below hb6 (Nat.le_refl _)) (by rw [HL7.out]; omega) (by have := hb6.size; omega) (Nat.le_refl _) ?_; intro A7 c7 w7 ho7 hb7 hgr7; rw [HL7.out] at ho7 ⊢)
            | (refine step_spreadT intT rfl _ _ (by rfl) wt.heap.size (.slice A5 (k) c5) ((L).take (k)) (by rfl) (by first | exact ho5 | exact ho5.alloc _) wt.heap.size (by first | exact hb5 | exact hb5.alloc hb5.size _) _ [n] _ _ rfl (by rfl) (by first | exact oneT_new intT w5 n _ rfl | exact RdT.gr3 (w := ((wt.alloc (.cells #[] 3)).alloc (.cells #[.int .i64 n] 3)).drew) (oneT_new2 intT wt (.cells #[] 3) n _ rfl) hgr5 (fun _ b off e => by cases e; intro hc; exact absurd (Option.some.inj (show some _ = some _ from hc)) (by simp)) | exact RdT.gr3 (w := ((wt.alloc (.cells #[.int .i64 n] 3)).alloc (.cells #[] 3)).drew) (oneT_new3 intT wt (.cells #[] 3) n _ rfl) hgr5 (fun _ b off e => by cases e; intro hc; exact absurd (Option.some.inj (show some _ = some _ from hc)) (by simp))) (by rw [HL6.out]; omega) (by have := hb5.size; first | omega | (simp; omega)) (Nat.le_refl _) ?_; intro A6 c6 w6 ho6 hb6 hgr6; rw [HL6.out] at ho6 ⊢)
            | (refine step_spreadT intT rfl _ _ (by rfl) wt.heap.size _ ([] : List Int) (by rfl) (by first | exact ownT_e0 intT wt.drew _ (Nat.le_refl _) | exact ownT_e02 intT wt.drew _ _ (Nat.le_succ_of_le (Nat.le_refl _)) | exact (ownT_e0 intT wt.drew _ (Nat.le_refl _)).alloc _) wt.heap.size (by first | exact LB1 _ | exact LB2 _ _) _ ((L).take (k)) _ _ ?hn5 (by rfl) (by first | exact T0.below (LB1 _) (Nat.le_refl _) | exact T0.below (LB2 _ _) (Nat.le_refl _)) (by rw [HL5.out]; omega) (by first | (simp; done) | (simp; omega)) (Nat.le_refl _) ?_; (case hn5 => first | exact hTL.out.symm | (rw [hTL.out]; omega) | (rw [hTL.out]; simp; done) | (rw [hTL.out]; simp; omega)); intro A5 c5 w5 ho5 hb5 hgr5; rw [HL5.out, List.nil_append] at ho5; rw [HL5.out]))
          all_goals
            have ho8 := own_int.1 ho7
            rw [← HI.out] at ho8
            obtain ⟨g8, rfl, hg8, _⟩ := OwnI.head ho8 (by rw [HR.out]; omega)
            have HF : Hid (OwnI w7 wt.heap.size (.slice (some ⟨g8, 0, none⟩) (L.length + 1) c7) R) := Lib.hid ho8
            have hbF := hb7.mono hbase
            clear T0 T1 ho5 ho6 ho7 ho8 hb5 hb6 hb7 hgr5 hgr6 hgr7 LB1 LB2
            go_wp2
            go_ret
            exact ⟨g8, c7, by rw [HR.out]; rfl, by rw [HR.out]; exact HF.out.mono hbase, hbF⟩
    · have E2 := Lib.hid (show R = insL L k n from HP.out k hk E.out (fun hh => absurd hh hlt))
      have dk1 : decide (k < L.length) = false := decide_eq_false hlt
      have dk2 : decide ((k : Int) < (L.length : Int)) = false := decide_eq_false (by omega)
      clear E HP HH
      obtain ⟨wt, rfl⟩ : ∃ wt : World, wt = w := ⟨_, rfl⟩
      have hoT := own_int.2 h
      have HR := Lib.hid (show R.length = L.length + 1 by rw [E2.out, length_insL])
      have HI := Lib.hid (show R = L.take k ++ [n] ++ L.drop k by rw [E2.out]; unfold insL; simp)
      clear E2 h
      have T0 : RdT intT wt (some ⟨g, 0, none⟩) ((L).take (k)) := hoT.rd.take intT (k)
      have T1 : ∀ X, ((k) < (L).length → X = some ⟨g, (k), none⟩) → RdT intT wt X ((L).drop (k)) := fun X hX => RdT.drop intT hoT.rd (k) X (fun hh => by rw [hX hh]; show _ = some (⟨g, 0 + (k) * 1, none⟩ : Addr); rw [Nat.mul_one, Nat.zero_add])
      have htl : ((L).take (k)).length = k := by rw [List.length_take]; omega
      have HL5 := Lib.hid (show ([] : List Int).length + ((L).take (k)).length = k by rw [htl]; simp)
      have HL6 := Lib.hid (show ((L).take (k)).length + [n].length = k + 1 by rw [htl]; simp)
      have HL7 := Lib.hid (show ((L).take (k) ++ [n]).length + ((L).drop (k)).length = L.length + 1 by rw [List.length_append, htl, List.length_drop]; simp; omega)
      have HD := Lib.hid (show (L).length - (k) = ((L).drop (k)).length by rw [List.length_drop])
      have LB1 := fun o : Obj => ((Below.refl wt.heap.size wt).drew.alloc (Nat.le_refl _) o : Below wt.heap.size wt (wt.drew.alloc o))
      have LB2 := fun o o' : Obj => ((LB1 o).alloc (by simp) o' : Below wt.heap.size wt ((wt.drew.alloc o).alloc o'))
      have hgt : g < wt.heap.size := (hoT.lt g rfl).2
      have j1 : (0 : Int) ≤ (k : Int) := by omega
      have j2 : (k : Int) ≤ ((L).length : Int) := by omega
      have j3 : (k : Int) ≤ (c : Int) := by omega
      have j4 : ((L).length : Int) ≤ (c : Int) := by omega
      have j5 : ((k : Int)).toNat = k := by omega
      have hTL := Lib.hid htl
      have hpl : (k) + ((L).length - (k)) ≤ 1000 := by omega
      clear htl
      rcases (show c ≤ k ∨ ¬ c = k by omega) with hcc | hcc
      all_goals
        go_wp2_with fail
        go_region_held3 (fun _ => True) (trivial) (first
          | (refine step_spreadT intT rfl _ _ (by rfl) wt.heap.size (.slice A6 (k + 1) c6) ((L).take (k) ++ [n]) (by rfl) (by first | exact ho6) wt.heap.size hb6 _ ((L).drop (k)) _ _ (by exact HD.out) (by rfl) (by exact (T1 _ (fun hh => by first | rfl | omega)).below hb6 (Nat.le_refl _)) (by rw [HL7.out]; omega) (by have := hb6.size; omega) (Nat.le_refl _) ?_; intro A7 c7 w7 ho7 hb7 hgr7; rw [HL7.out] at ho7 ⊢)
          | (refine step_spreadT intT rfl _ _ (by rfl) wt.heap.size (.slice A5 (k) c5) ((L).take (k)) (by rfl) (by first | exact ho5 | exact ho5.alloc _) wt.heap.size (by first | exact hb5 | exact hb5.alloc hb5.size _) _ [n] _ _ rfl (by rfl) (by first | exact oneT_new intT w5 n _ rfl | exact RdT.gr3 (w := ((wt.alloc (.cells #[] 3)).alloc (.cells #[.int .i64 n] 3)).drew) (oneT_new2 intT wt (.cells #[] 3) n _ rfl) hgr5 (fun _ b off e => by cases e; intro hc; exact absurd (Option.some.inj (show some _ = some _ from hc)) (by simp)) | exact RdT.gr3 (w := ((wt.alloc (.cells #[.int .i64 n] 3)).alloc (.cells #[] 3)).drew) (oneT_new3 intT wt (.cells #[] 3) n _ rfl) hgr5 (fun _ b off e => by cases e; intro hc; exact absurd (Option.some.inj (show some _ = some _ from hc)) (by simp))) (by rw [HL6.out]; omega) (by have := hb5.size; first | omega | (simp; omega)) (Nat.le_refl _) ?_; intro A6 c6 w6 ho6 hb6 hgr6; rw [HL6.out] at ho6 ⊢)
          | (refine step_spreadT intT rfl _ _ (by rfl) wt.heap.size _ ([] : List Int) (by rfl) (by first | exact ownT_e0 intT wt.drew _ (Nat.le_refl _) | exact ownT_e02 intT wt.drew _ _ (Nat.le_succ_of_le (Nat.le_refl _)) | exact (ownT_e0 intT wt.drew _ (Nat.le_refl _)).alloc _) wt.heap.size (by first | exact LB1 _ | exact LB2 _ _) _ ((L).take (k)) _ _ ?hn5 (by rfl) (by first | exact T0.below (LB1 _) (Nat.le_refl _) | exact T0.below (LB2 _ _) (Nat.le_refl _)) (by rw [HL5.out]; omega) (by first | (simp; done) | (simp; omega)) (Nat.le_refl _) ?_; (case hn5 => first | exact hTL.out.symm | (rw [hTL.out]; omega) | (rw [hTL.out]; simp; done) | (rw [hTL.out]; simp; omega)); intro A5 c5 w5 ho5 hb5 hgr5; rw [HL5.out, List.nil_append] at ho5; rw [HL5.out]))
        all_goals
          have ho8 := own_int.1 ho7
          rw [← HI.out] at ho8
          obtain ⟨g8, rfl, hg8, _⟩ := OwnI.head ho8 (by rw [HR.out]; omega)
          have HF : Hid (OwnI w7 wt.heap.size (.slice (some ⟨g8, 0, none⟩) (L.length + 1) c7) R) := Lib.hid ho8
          have hbF := hb7.mono hbase
          clear T0 T1 ho5 ho6 ho7 ho8 hb5 hb6 hb7 hgr5 hgr6 hgr7 LB1 LB2
          go_wp2
          go_ret
          exact ⟨g8, c7, by rw [HR.out]; rfl, by rw [HR.out]; exact HF.out.mono hbase, hbF⟩
end Go.Proofs.Ythoojcmnkhhokaa
