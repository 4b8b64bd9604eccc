/-
  Solved rows compared, a number looked for: rSolves and rHas.
-/
import Derived.Test.YtcbecfkckdalmaaSolved
import Derived.Test.YtcbecfkckdalmaaPut
import Derived.Laws.StructEq
namespace Go.Proofs.Ytcbecfkckdalmaa
open Go.RowKit

theorem eq_solved (a b c d f : Int) (w : World) :
    (Op.equalIn 10000 25 (.agg #[.int .i64 a, .int .i64 b, .int .i64 c, .int .i64 d, .int .i64 f]) (.agg #[.int .i64 a, .int .i64 b, .int .i64 c, .int .i64 d, .int .i64 f])).run Try.prog w = .ok true w := by
  have hf : (Try.prog.fieldsOf 25).toList.map (fun f => (f.type, f.offset, f.name != "_")) = [(3, 0, true), (3, 1, true), (3, 2, true), (3, 3, true), (3, 4, true)] := by kernel_rfl
  have hp0 : ∀ (a b c d f : Int) (W : World), (part 3 #[.int .i64 a, .int .i64 b, .int .i64 c, .int .i64 d, .int .i64 f] 0).run Try.prog W = .ok (.int .i64 a) W := fun a b c d f W => by kernel_rfl
  have hp1 : ∀ (a b c d f : Int) (W : World), (part 3 #[.int .i64 a, .int .i64 b, .int .i64 c, .int .i64 d, .int .i64 f] 1).run Try.prog W = .ok (.int .i64 b) W := fun a b c d f W => by kernel_rfl
  have hp2 : ∀ (a b c d f : Int) (W : World), (part 3 #[.int .i64 a, .int .i64 b, .int .i64 c, .int .i64 d, .int .i64 f] 2).run Try.prog W = .ok (.int .i64 c) W := fun a b c d f W => by kernel_rfl
  have hp3 : ∀ (a b c d f : Int) (W : World), (part 3 #[.int .i64 a, .int .i64 b, .int .i64 c, .int .i64 d, .int .i64 f] 3).run Try.prog W = .ok (.int .i64 d) W := fun a b c d f W => by kernel_rfl
  have hp4 : ∀ (a b c d f : Int) (W : World), (part 3 #[.int .i64 a, .int .i64 b, .int .i64 c, .int .i64 d, .int .i64 f] 4).run Try.prog W = .ok (.int .i64 f) W := fun a b c d f W => by kernel_rfl
  have he : ∀ (a b : Int) (W : World), (Op.equalIn 9999 3 (.int .i64 a) (.int .i64 b)).run Try.prog W = .ok (a == b) W := fun a b W => run_equalIn_int W 9998 3 .i64 .i64 a b Try.underlying3
  rw [run_equalIn_agg w 9999 _ _ _ Try.underlying25 (by kernel_rfl)]
  generalize (Try.prog.fieldsOf 25).toList = fs at hf ⊢
  have hl : fs.length = 5 := by have := congrArg List.length hf; simpa using this
  match fs, hl, hf with
  | [f0, f1, f2, f3, f4], _, hf =>
    simp only [List.map_cons, List.map_nil, List.cons.injEq, Prod.mk.injEq, and_true] at hf
    obtain ⟨⟨t0, o0, n0⟩, ⟨t1, o1, n1⟩, ⟨t2, o2, n2⟩, ⟨t3, o3, n3⟩, ⟨t4, o4, n4⟩⟩ := hf
    simp only [bne_iff_ne] at n0 n1 n2 n3 n4
    simp [Op.eqFields, t0, o0, n0, t1, o1, n1, t2, o2, n2, t3, o3, n3, t4, o4, n4, hp0, hp1, hp2, hp3, hp4, he]
set_option maxHeartbeats 1600000 in
theorem rSolves_same (A1 A2 : Option Addr) (n c1 c2 : Nat) (l : List SolvedV) (w : World) (hn : n = l.length) (hm : n ≤ 16777216) (h1 : RdT solvedT w A1 l) (h2 : RdT solvedT w A2 l) :
    Calls Try.prog 52 #[.slice A1 n c1, .slice A2 n c2] w fun e w' => e = .returned (.bool true) ∧ Below w.heap.size w w' := by
  have e1 : (decide ((n : Int) = n)) = true := by simp
  go_enter Try.func52, Try.ntmps52
  go_wp2
  go_loopw [5] (fun i wr => ∃ k : Nat, k ≤ n ∧ i = .int .i64 k ∧ RdT solvedT wr A1 l ∧ RdT solvedT wr A2 l ∧ Below w.heap.size w wr) (fun i _ => n - (intOf i).toNat)
  case atStart => exact ⟨0, by omega, rfl, h1, h2, Below.refl _ _⟩
  case round =>
    obtain ⟨k, hk, rfl, g1, g2, hb⟩ := hrel
    clear h1 h2
    by_cases hlt : k < n
    · obtain ⟨b1, o1, pupil, heat, right, wrong, time, rfl, hx, hl1, hc0, hc1, hc2, hc3, hc4⟩ := solvedT_at g1 (k := k) (by omega)
      obtain ⟨b2, o2, rfl, hl2, hcells⟩ := solvedT_cells g2 (by omega)
      obtain ⟨hd0, hd1, hd2, hd3, hd4⟩ := hcells k pupil heat right wrong time hx
      clear hx hcells
      go_wp2_with fail
      have hE := fun W => eq_solved pupil heat right wrong time W
      go_quiet (fail)
      go_wp2
      go_roundw
      case rel => exact ⟨k + 1, by omega, by go_num, g1.below (w := wr) (B := wr.heap.size) (below_drewN (Below.refl _ _) _) (Nat.le_refl _), g2.below (w := wr) (B := wr.heap.size) (below_drewN (Below.refl _ _) _) (Nat.le_refl _), below_drewN hb _⟩
      case measure => simp [intOf]; omega
    · go_wp2
      go_ret
      exact ⟨rfl, hb⟩

set_option maxHeartbeats 800000 in
theorem rHas_any (A : Option Addr) (c : Nat) (l : List Int) (n : Int) (w : World) (hn : l.length ≤ 16777216) (h : RdI w A l) :
    Calls Try.prog 60 #[.slice A l.length c, .int .i64 n] w fun e w' => e = .returned (.bool (hasB l n)) ∧ w = w' := by
  go_enter Try.func60, Try.ntmps60
  go_wp2
  go_loop [5] (fun i => ∃ k : Nat, k ≤ l.length ∧ i = .int .i64 k ∧ Hid (hasB (l.take k) n = false)) (fun i => l.length - (intOf i).toNat)
  case atStart => exact ⟨0, by omega, rfl, Lib.hid rfl⟩
  case round =>
    obtain ⟨k, hk, rfl, E⟩ := hrel
    by_cases hlt : k < l.length
    · obtain ⟨b, off, x, rfl, hx, _, hc⟩ := h.at_ hlt
      by_cases hxn : x = n
      · subst hxn
        have E2 := Lib.hid (show hasB l x = true from (hasB_iff _ _).2 (List.mem_of_getElem? hx))
        have hq : (x == x) = true := by simp
        clear hx E
        go_wp2
        go_ret
        exact ⟨by rw [E2.out]; rfl, rfl⟩
      · have E2 := Lib.hid (show hasB (l.take (k + 1)) n = false by
          have h1 : n ∉ l.take k := (hasB_not _ _).1 E.out
          rw [take_snoc' hx]
          have : n ∉ l.take k ++ [x] := by
            rw [List.mem_append, List.mem_singleton]
            rintro (h | h)
            · exact h1 h
            · exact hxn h.symm
          exact (hasB_not _ _).2 this)
        have hq : (x == n) = false := by simp [hxn]
        clear hx E
        go_wp2
        go_round
        case rel => exact ⟨k + 1, by omega, by go_num, E2⟩
        case measure => simp [intOf]; omega
    · have E2 := Lib.hid (show hasB l n = false by have := E.out; rwa [List.take_of_length_le (by omega)] at this)
      clear E
      go_wp2
      go_ret
      exact ⟨by rw [E2.out]; rfl, rfl⟩
end Go.Proofs.Ytcbecfkckdalmaa
