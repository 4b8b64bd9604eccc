/-
  The answer with a bug: contracts.
-/
import Derived.Test.YtcljnfmlakpflaaBugB
namespace Go.Proofs.Ytcljnfmlakpflaa
open Go.RowKit

/-- 'out = append([]int{y}, out...)': a row of its own, one longer. -/
theorem wpList_prep_int {w w0 : World} {ops : Array Oper} {rest : List Oper} {o : Oper} {a : Act} {Q : Exit → Act → World → Prop} (hgd : o.guard = none) (s x : Operand)
    (ho : o.op = .call { callee := .builtin .append, args := #[s, x], argTypes := #[27, 27] })
    (y : Int) (hs : a.eval s = .slice (some ⟨w.heap.size, 0, none⟩) 1 1) (A : Addr) (n c : Nat) (l : List Int) (hx : a.eval x = .slice (some A) n c) (hn : n = l.length) (base : Nat) (hown : OwnI w base (.slice (some A) n c) l)
    (B : Nat) (hB : Below B w0 w) (hBw : B ≤ w.heap.size) (hlen : l.length + 1 ≤ 16777216)
    (h : ∀ A' c' w', OwnI w' B (.slice (some A') (l.length + 1) c') ([y] ++ l) → Below B w0 w' → wpList Try.prog ops Q rest (a.put o.dst (.slice (some A') (l.length + 1) c')) w') :
    wpList Try.prog ops Q (o :: rest) a (w.alloc (.cells #[.int .i64 y] 3)) := by
  obtain ⟨i0, hi, hz0, hz1, hz2⟩ := info_parts int_info
  subst hn
  have hr := hown.rd
  have hr2 : RdI (w.alloc (.cells #[.int .i64 y] 3)) (some A) l := hr.below ((Below.refl _ _).alloc (Nat.le_refl _) _) (Nat.le_refl _)
  have hone := OwnI.one w B hBw y
  have hlt := hone.lt
  refine wpList_append_own _ hgd s x _ ho B 3 i0 (.int .i64 0) 1 8 Try.underlying27 hi hz0 hz1 hz2 rfl (by decide) _ _ _ hs hone A l.length c (ints l) hx (by rw [length_ints, Nat.mul_one]) ?_ ?_ ?_ ?_ ?_ ?_
  · intro j u hu
    have hj : j < l.length := by have := (List.getElem?_eq_some_iff.1 hu).1; rwa [length_ints] at this
    obtain ⟨b, off, v, hA, hv, _, hc⟩ := hr2.at_ hj
    cases hA
    rw [ints_at?, hv] at hu
    cases hu
    rw [Addr.add_lit]
    exact hc
  · intro u hu
    simp only [ints, List.mem_map] at hu
    obtain ⟨z, _, rfl⟩ := hu
    rfl
  · simp only [List.length_cons, List.length_nil]; unfold maxLen; omega
  · simp only [List.length_cons, List.length_nil]; omega
  · simp; omega
  · intro v' w' hown' hgr _
    obtain ⟨A', c', rfl⟩ := own_form hown'
    have hown2 : OwnI w' B (.slice A' (l.length + 1) c') ([y] ++ l) := by
      unfold OwnI
      have e : ([y] ++ l).length = [y].length + l.length := List.length_append
      have e2 : l.length + 1 = [y].length + l.length := by show l.length + 1 = 1 + l.length; omega
      rw [e, e2]
      have e3 : ints ([y] ++ l) = ints [y] ++ ints l := by simp [ints]
      rw [e3]
      exact hown'
    obtain ⟨b, off, v, hA, _⟩ := hown2.rd.at_ (k := 0) (by simp)
    subst hA
    have e2 : [y].length + l.length = l.length + 1 := by show 1 + l.length = l.length + 1; omega
    rw [e2]
    exact h _ c' w' hown2 ((hB.alloc hBw _).grown hgr (by simp; omega) (fun k hk => by have := hlt k hk; omega))

set_option maxHeartbeats 1600000 in
theorem l9Digits_any (a : Int) (w : World) (ha : 0 ≤ a) (ha' : a ≤ 9999) :
    Calls Try.prog 81 #[.int .i64 a] w fun e w' => ∃ A c, e = .returned (.slice A (dig a) c) ∧ Below w.heap.size w w' := by
  have hd0 : a / pw 0 = a := by rw [pw0]; omega
  go_enter Try.func81, Try.ntmps81
  go_wp2
  go_loopw [3, 0] (fun o n wr => ∃ (k : Nat) (l : List Int) (A : Addr) (cp : Nat), k ≤ dig a ∧ l.length = k ∧ n = .int .i64 (a / pw k) ∧ o = .slice (some A) l.length cp ∧ OwnI wr w.heap.size (.slice (some A) l.length cp) l ∧ Below w.heap.size w wr) (fun _ n _ => (intOf n).toNat)
  case atStart => exact ⟨0, [], _, 0, by omega, rfl, by rw [hd0], rfl, OwnI.empty _ _ (Nat.le_refl _), (Below.refl _ _).alloc (Nat.le_refl _) _⟩
  case round =>
    obtain ⟨k, l, A, cp, hk, hl, rfl, rfl, hown, hb⟩ := hrel
    have hz := hb.size
    have hdl := dig_lt a ha ha' k (by have := dig_bd a; omega)
    have hbd := dig_bd a
    have hp := pw_pos k
    have hda := div_bd a (pw k) 9999 hp ha ha'
    have hnx := Lib.hid (div_next a k (by omega))
    generalize hq : a / pw k = q at *
    clear hd0
    by_cases hlt : 0 < q
    · have hk1 := hdl.mpr hlt
      go_wp2_with (at_builtin; refine wpList_prep_int rfl _ _ rfl (q % 10) rfl A _ _ l rfl rfl w.heap.size hown w.heap.size hb hz (by omega) ?_; intro A1 c1 w1 hown1 hb1)
      go_roundw
      case rel => exact ⟨k + 1, [q % 10] ++ l, A1, c1, by omega, by simp; omega, by rw [← hnx.out], by simp; omega, hown1, hb1⟩
      case measure => simp [intOf]; omega
    · have hk1 : k = dig a := by have := mt hdl.mp hlt; omega
      go_wp2
      go_ret
      exact ⟨⟨some A, cp, rfl⟩, hb⟩

set_option maxHeartbeats 400000 in
theorem l16Width_any (a : Int) (w : World) (ha : 0 ≤ a) (ha' : a ≤ 9999) :
    Calls Try.prog 60 #[.int .i64 a] w fun e w' => e = .returned (.int .i64 (wid a)) ∧ Below w.heap.size w w' := by
  have hbd := dig_bd a
  have E := Lib.hid (wid_dig a)
  go_enter Try.func60, Try.ntmps60
  go_wp2_with (first | (go_at_call 81; refine (l9Digits_any _ _ ha ha').mono ?_; rintro e w1 ⟨A, c, rfl, hb⟩) | (go_at_call 80; refine (l1Most_any _ _ _).mono ?_; rintro e w' ⟨rfl, rfl⟩))
  go_ret
  exact ⟨by rw [← E.out]; rfl, hb⟩

set_option maxHeartbeats 1600000 in
theorem answerWith_any (bug a b : Int) (w : World) (hb0 : 0 ≤ bug) (hb5 : bug ≤ 5) (ha : 0 ≤ a) (ha' : a ≤ 9999) (hb : 0 ≤ b) (hb' : b ≤ 9999) :
    Calls Try.prog 55 #[.int .i64 bug, .int .i64 a, .int .i64 b] w fun e w' => e = .returned (.int .i64 (ansV bug a b)) ∧ Below w.heap.size w w' := by
  go_enter Try.func55, Try.ntmps55
  go_wp2
  go_loopw [7, 8, 9] (fun s c p wr => ∃ (k : Nat), k ≤ wid a ∧ s = .int .i64 (ansA bug a b k).1 ∧ c = .int .i64 (ansA bug a b k).2 ∧ p = .int .i64 (pw k) ∧ Below w.heap.size w wr) (fun _ _ p _ => (100000 - intOf p).toNat)
  case atStart => exact ⟨0, by omega, by rw [ansA_zero], by rw [ansA_zero], rfl, Below.refl _ _⟩
  case round =>
    obtain ⟨k, hk, rfl, rfl, rfl, hbl⟩ := hrel
    have hw := wid_bd a
    have hp := pw_pos k
    have hp2 := pw_mono (j := k) (k := 4) (by omega)
    rw [pw4] at hp2
    have hda := div_bd a (pw k) 9999 hp ha ha'
    have hdb := div_bd b (pw k) 9999 hp hb hb'
    have hs := ansA_bd1 bug a b k
    have hc2 := ansA_bd2 bug a b k
    have hcol := col_at bug a b k
    have hcv := colV_bd bug _ _ hcol.1.1 hcol.1.2 hcol.2.1 hcol.2.2
    have hm := colM _ (pw k) hcv.1.1 hcv.1.2 (by omega)
    have hcc := fun W => column_any bug _ _ W hb0 hb5 hcol.1.1 hcol.1.2 hcol.2.1 hcol.2.2
    by_cases hlt : k < wid a
    · have e1 := Lib.hid (ansA_1 bug a b k)
      have e2 := Lib.hid (ansA_2 bug a b k)
      have e3 := Lib.hid (pw_succ k)
      generalize colV bug (a / pw k % 10 - (ansA bug a b k).2) (b / pw k % 10) = cv at *
      rcases (show k = 0 ∨ 1 ≤ k by omega) with rfl | hk1
      · have g1 : (pw 0 == 1) = true := by rw [pw0]; rfl
        go_wp2_with fail
        go_quiet ((go_at_call 63; exact Calls.quiet_of_same (same_symm (hcc _))))
        go_wp2
        go_roundw
        case rel => exact ⟨1, by omega, by rw [e1.out], by rw [e2.out], by rw [e3.out]; go_num, below_drewN hbl _⟩
        case measure => simp [intOf]; omega
      · have hle := (wid_lt a ha ha' k hk1 (by omega)).mp hlt
        have g1 : (pw k == 1) = false := by
          have := pw_mono (j := 1) (k := k) hk1
          rw [pw1] at this
          simp; omega
        have g2 : decide (pw k ≤ a) = true := decide_eq_true hle
        go_wp2_with fail
        go_quiet ((go_at_call 63; exact Calls.quiet_of_same (same_symm (hcc _))))
        go_wp2
        go_roundw
        case rel => exact ⟨k + 1, by omega, by rw [e1.out], by rw [e2.out], by rw [e3.out]; go_num, below_drewN hbl _⟩
        case measure => simp [intOf]; omega
    · obtain rfl : k = wid a := by omega
      have g1 : (pw (wid a) == 1) = false := by
        have := pw_mono (j := 1) (k := wid a) hw.1
        rw [pw1] at this
        simp; omega
      have g2 : decide (pw (wid a) ≤ a) = false := decide_eq_false (by have := wid_gt a ha ha'; omega)
      have E := Lib.hid (ansV_eq bug a b)
      clear hcc hcol hcv hm
      go_wp2
      go_ret
      exact ⟨by rw [E.out]; rfl, hbl⟩

set_option maxHeartbeats 1600000 in
theorem l16Answer_any (bug a b : Int) (w : World) (hb0 : 0 ≤ bug) (hb5 : bug ≤ 5) (ha : 0 ≤ a) (ha' : a ≤ 9999) (hb : 0 ≤ b) (hb' : b ≤ 9999) :
    Calls Try.prog 52 #[.int .i64 bug, .int .i64 a, .int .i64 b] w fun e w' => e = .returned (.int .i64 (ansV bug a b)) ∧ Below w.heap.size w w' := by
  go_enter Try.func52, Try.ntmps52
  go_wp2
  go_loopw [7, 8, 9] (fun s c i wr => ∃ (k : Nat), k ≤ wid a ∧ s = .int .i64 (ansA bug a b k).1 ∧ c = .int .i64 (ansA bug a b k).2 ∧ i = .int .i64 k ∧ Below w.heap.size w wr) (fun _ _ i _ => wid a - (intOf i).toNat)
  case atStart => exact ⟨0, by omega, by rw [ansA_zero], by rw [ansA_zero], rfl, Below.refl _ _⟩
  case round =>
    obtain ⟨k, hk, rfl, rfl, rfl, hbl⟩ := hrel
    have hw := wid_bd a
    have hp := pw_pos k
    have hp2 := pw_mono (j := k) (k := 4) (by omega)
    rw [pw4] at hp2
    have hda := div_bd a (pw k) 9999 hp ha ha'
    have hdb := div_bd b (pw k) 9999 hp hb hb'
    have hs := ansA_bd1 bug a b k
    have hc2 := ansA_bd2 bug a b k
    have hcol := col_at bug a b k
    have hcv := colV_bd bug _ _ hcol.1.1 hcol.1.2 hcol.2.1 hcol.2.2
    have hm := colM _ (pw k) hcv.1.1 hcv.1.2 (by omega)
    have hcc := fun W => l16Column_any bug _ _ W hb0 hb5 hcol.1.1 hcol.1.2 hcol.2.1 hcol.2.2
    have hz := hbl.size
    by_cases hlt : k < wid a
    · have g1 : decide ((k : Int) < (wid a : Int)) = true := decide_eq_true (by omega)
      have e1 := Lib.hid (ansA_1 bug a b k)
      have e2 := Lib.hid (ansA_2 bug a b k)
      generalize hcvg : colV bug (a / pw k % 10 - (ansA bug a b k).2) (b / pw k % 10) = cv at *
      clear hcvg
      go_wp2_with (go_at_call 60; refine (l16Width_any _ _ ha ha').mono ?_; rintro e w1 ⟨rfl, hb1⟩)
      go_quiet ((go_at_call 62; exact Calls.quiet_of_same (power2_any _ _ (by omega) (by omega))))
      go_wp2_with (first | (go_at_call 61; refine (hcc _).mono ?_; rintro e w' ⟨rfl, rfl⟩) | (go_at_call 62; refine (power2_any _ _ (by omega) (by omega)).mono ?_; rintro e w' ⟨rfl, rfl⟩))
      go_roundw
      case rel => exact ⟨k + 1, by omega, by rw [e1.out], by rw [e2.out], by go_num, below_drewN (hbl.trans (hb1.mono hz)) _⟩
      case measure => simp [intOf]; omega
    · obtain rfl : k = wid a := by omega
      have E := Lib.hid (ansV_eq bug a b)
      clear hcc hcol hcv hm
      go_wp2_with (go_at_call 60; refine (l16Width_any _ _ ha ha').mono ?_; rintro e w1 ⟨rfl, hb1⟩)
      go_ret
      exact ⟨by rw [E.out]; rfl, hbl.trans (hb1.mono hz)⟩
end Go.Proofs.Ytcljnfmlakpflaa
