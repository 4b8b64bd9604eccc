/-
  The tests and the chains of the exercises: contracts.
-/
import Derived.Test.YtlmcnlakgjhalaaExA
import Derived.Test.YtlmcnlakgjhalaaInts
namespace Go.Proofs.Ytlmcnlakgjhalaa
open Go.RowKit

def exB (a b : Int) : Bool := inB a 0 9999 && inB b 0 9999
theorem exB_iff (a b : Int) : exB a b = true ↔ (0 ≤ a ∧ a ≤ 9999) ∧ (0 ≤ b ∧ b ≤ 9999) := by simp [exB, inB]

set_option maxHeartbeats 400000 in
theorem isFactor_any (n : Int) (w : World) :
    Calls Try.prog 54 #[.int .i64 n] w fun e w' => e = .returned (.bool (inB n 0 9999)) ∧ w = w' := by
  go_enter Try.func54, Try.ntmps54
  go_wp2_with (go_at_call 55; refine (within_any _ _ _ _).mono ?_; rintro e w' ⟨rfl, rfl⟩)
  go_ret
  exact ⟨rfl, rfl⟩
set_option maxHeartbeats 400000 in
theorem l9Factor_any (n : Int) (w : World) :
    Calls Try.prog 51 #[.int .i64 n] w fun e w' => e = .returned (.bool (inB n 0 9999)) ∧ w = w' := by
  go_enter Try.func51, Try.ntmps51
  go_wp2_with (go_at_call 52; refine (l1In_any _ _ _ _).mono ?_; rintro e w' ⟨rfl, rfl⟩)
  go_ret
  exact ⟨rfl, rfl⟩
set_option maxHeartbeats 400000 in
theorem areFactors_any (a b : Int) (w : World) :
    Calls Try.prog 74 #[.int .i64 a, .int .i64 b] w fun e w' => e = .returned (.bool (exB a b)) ∧ w = w' := by
  unfold exB
  cases h : inB a 0 9999
  all_goals
    go_enter Try.func74, Try.ntmps74
    go_wp2_with (go_at_call 54; refine (isFactor_any _ _).mono ?_; rintro e w' ⟨rfl, rfl⟩)
    go_ret
    exact ⟨rfl, rfl⟩
set_option maxHeartbeats 400000 in
theorem l9Both_any (a b : Int) (w : World) :
    Calls Try.prog 73 #[.int .i64 a, .int .i64 b] w fun e w' => e = .returned (.bool (exB a b)) ∧ w = w' := by
  unfold exB
  cases h : inB a 0 9999
  all_goals
    go_enter Try.func73, Try.ntmps73
    go_wp2_with (go_at_call 51; refine (l9Factor_any _ _).mono ?_; rintro e w' ⟨rfl, rfl⟩)
    go_ret
    exact ⟨rfl, rfl⟩
set_option maxHeartbeats 400000 in
theorem isExercise_any (a b : Int) (w : World) :
    Calls Try.prog 61 #[.int .i64 a, .int .i64 b] w fun e w' => e = .returned (.bool (exB a b)) ∧ w = w' := by
  go_enter Try.func61, Try.ntmps61
  go_wp2_with (go_at_call 74; refine (areFactors_any _ _ _).mono ?_; rintro e w' ⟨rfl, rfl⟩)
  go_ret
  exact ⟨rfl, rfl⟩
set_option maxHeartbeats 400000 in
theorem l20Good_any (a b : Int) (w : World) :
    Calls Try.prog 60 #[.int .i64 a, .int .i64 b] w fun e w' => e = .returned (.bool (exB a b)) ∧ w = w' := by
  go_enter Try.func60, Try.ntmps60
  go_wp2_with (go_at_call 73; refine (l9Both_any _ _ _).mono ?_; rintro e w' ⟨rfl, rfl⟩)
  go_ret
  exact ⟨rfl, rfl⟩

theorem OwnI.empty (w : World) (base : Nat) (hb : base ≤ w.heap.size) : OwnI (w.alloc (.cells #[] 3)) base (.slice (some ⟨w.heap.size, 0, none⟩) 0 0) [] := World.ownsRow_lit w #[] 0 hb (by unfold maxLen; omega) rfl

set_option maxHeartbeats 400000 in
theorem columns_any (a b : Int) (w : World) (ha : 0 ≤ a) (ha' : a ≤ 9999) (hb : 0 ≤ b) (hb' : b ≤ 9999) :
    Calls Try.prog 53 #[.int .i64 a, .int .i64 b] w fun e w' => ∃ A c, e = .returned (.slice A (cols a b 4).length c) ∧ OwnI w' w.heap.size (.slice A (cols a b 4).length c) (cols a b 4) ∧ Below w.heap.size w w' := by
  go_enter Try.func53, Try.ntmps53
  go_wp2
  go_loopw [5, 6, 7] (fun o c i wr => ∃ (k : Nat) (A : Option Addr) (cp : Nat), k ≤ 4 ∧ i = .int .i64 k ∧ c = .int .i64 (car a b k) ∧ o = .slice A (cols a b k).length cp ∧ OwnI wr w.heap.size (.slice A (cols a b k).length cp) (cols a b k) ∧ Below w.heap.size w wr) (fun _ _ i _ => 4 - (intOf i).toNat)
  case atStart => exact ⟨0, _, 0, by omega, rfl, rfl, rfl, OwnI.empty _ _ (Nat.le_refl _), (Below.refl _ _).alloc (Nat.le_refl _) _⟩
  case round =>
    obtain ⟨k, A, cp, hk, rfl, rfl, rfl, hown, hbl⟩ := hrel
    have hc := car_bd a b k
    have hz := hbl.size
    have hl := cols_len a b k
    by_cases hlt : k < 4
    · have hp := pw_pos k
      have hp2 := pw_le (k := k) (by omega)
      have hda := div_bd a (pw k) 9999 hp ha ha'
      have hdb := div_bd b (pw k) 9999 hp hb hb'
      by_cases hpos : 10 ≤ a / pw k % 10 + b / pw k % 10 + car a b k
      · have e : cols a b (k + 1) = cols a b k ++ [(k : Int)] := if_pos (by omega)
        have e2 : car a b (k + 1) = 1 := by simp only [car]; omega
        have E := Lib.hid e
        have E2 := Lib.hid e2
        clear e e2
        go_wp2_with fail
        go_quiet ((go_at_call 57; exact Calls.quiet_of_same (power2_any _ _ (by omega) (by omega))))
        go_wp2_with (at_builtin; refine wpList_app_int rfl _ _ rfl w.heap.size _ _ rfl (hown.drewN nq) w.heap.size w (below_drewN hbl nq) k 1 1 rfl rfl (by omega) hz (Nat.le_refl _) ?_; intro A1 c1 w1 hown1 hbl1 hgr1)
        go_roundw
        case rel => exact ⟨k + 1, A1, c1, by omega, by go_num, by rw [E2.out], by rw [E.out, List.length_append]; rfl, by rw [E.out]; rw [List.length_append]; exact hown1, hbl1⟩
        case measure => simp [intOf]; omega
      · have e : cols a b (k + 1) = cols a b k := if_neg (by omega)
        have e2 : car a b (k + 1) = 0 := by simp only [car]; omega
        have E := Lib.hid e
        have E2 := Lib.hid e2
        clear e e2
        go_wp2_with fail
        go_quiet ((go_at_call 57; exact Calls.quiet_of_same (power2_any _ _ (by omega) (by omega))))
        go_wp2
        go_roundw
        case rel => exact ⟨k + 1, A, cp, by omega, by go_num, by rw [E2.out], by rw [E.out], by rw [E.out]; exact hown, below_drewN hbl nq⟩
        case measure => simp [intOf]; omega
    · obtain rfl : k = 4 := by omega
      go_wp2
      go_ret
      exact ⟨A, cp, rfl, hown, hbl⟩

/-! ### chains -/
theorem cols_bd (a b : Int) (n : Nat) : ∀ (k : Nat) (x : Int), (cols a b n)[k]? = some x → 0 ≤ x ∧ x < n := by
  induction n with
  | zero => intro k x h; simp [cols] at h
  | succ n ih =>
    intro k x h
    have h2 : x ∈ cols a b (n + 1) := List.mem_of_getElem? h
    have h3 : ∀ y ∈ cols a b n, 0 ≤ y ∧ y < n := fun y hy => by
      obtain ⟨j, hj⟩ := List.getElem?_of_mem hy
      exact ih j y hj
    simp only [cols] at h2
    split at h2
    · rw [List.mem_append, List.mem_singleton] at h2
      rcases h2 with h2 | rfl
      · have := h3 x h2; omega
      · omega
    · have := h3 x h2; omega

/-- The longest run so far, and the run that ends here, of the first k columns. -/
def chn (l : List Int) : Nat → Int × Int
  | 0 => (0, 0)
  | k + 1 =>
    let now := if 0 < k ∧ l.getD (k - 1) 0 = l.getD k 0 - 1 then (chn l k).2 + 1 else 1
    (max (chn l k).1 now, now)
theorem chn_bd (l : List Int) (k : Nat) : 0 ≤ (chn l k).1 ∧ (chn l k).1 ≤ k ∧ 0 ≤ (chn l k).2 ∧ (chn l k).2 ≤ k := by
  induction k with
  | zero => simp [chn]
  | succ k ih =>
    simp only [chn]
    split <;> omega
theorem chn_first (l : List Int) : chn l 1 = (1, 1) := by simp [chn]; rfl
theorem chn_hit {l : List Int} {k : Nat} {x y : Int} (h0 : 0 < k) (hx : l[k]? = some x) (hy : l[k - 1]? = some y) (h : y = x - 1) : chn l (k + 1) = (max (chn l k).1 ((chn l k).2 + 1), (chn l k).2 + 1) := by
  simp only [chn]
  rw [if_pos ⟨h0, by simp [List.getD, hx, hy, h]⟩]
theorem chn_miss {l : List Int} {k : Nat} {x y : Int} (hx : l[k]? = some x) (hy : l[k - 1]? = some y) (h : ¬ y = x - 1) : chn l (k + 1) = (max (chn l k).1 1, 1) := by
  simp only [chn]
  rw [if_neg (fun hh => h (by simpa [List.getD, hx, hy] using hh.2))]
theorem max_if (a b : Int) : (if a < b then b else a) = max a b := by split <;> omega
def chainV (l : List Int) : Int := (chn l l.length).1

set_option maxHeartbeats 400000 in
theorem chainOf_any (A : Option Addr) (c : Nat) (l : List Int) (w : World) (hm : l.length ≤ 4) (hbd : ∀ (k : Nat) (x : Int), l[k]? = some x → 0 ≤ x ∧ x ≤ 4) (h : RdI w A l) :
    Calls Try.prog 63 #[.slice A l.length c] w fun e w' => e = .returned (.int .i64 (chainV l)) ∧ Below w.heap.size w w' := by
  go_enter Try.func63, Try.ntmps63
  go_wp2
  go_loopw [3, 4, 9] (fun m n i wr => ∃ k : Nat, k ≤ l.length ∧ i = .int .i64 k ∧ m = .int .i64 (chn l k).1 ∧ n = .int .i64 (chn l k).2 ∧ RdI wr A l ∧ Below w.heap.size w wr) (fun _ _ i _ => l.length - (intOf i).toNat)
  case atStart => exact ⟨0, by omega, rfl, rfl, rfl, h, Below.refl _ _⟩
  case round =>
    obtain ⟨k, hk, rfl, rfl, rfl, hr, hb⟩ := hrel
    have hc := chn_bd l k
    by_cases hlt : k < l.length
    · obtain ⟨b, off, rfl, _, hcell⟩ := hr.open_ (by omega)
      obtain ⟨x, hx⟩ := get_of_lt l hlt
      have hcx := hcell k x hx
      have hbx := hbd k x hx
      by_cases h0 : 0 < k
      · obtain ⟨y, hy⟩ := get_of_lt l (k := k - 1) (by omega)
        have hcy := hcell (k - 1) y hy
        have hby := hbd (k - 1) y hy
        by_cases he : y = x - 1
        · have E := Lib.hid (chn_hit h0 hx hy he)
          clear hx hy hcell
          go_wp2
          go_roundw
          case rel => exact ⟨k + 1, by omega, by go_num, by rw [E.out]; exact congrArg _ (max_if _ _), by rw [E.out], hr, hb⟩
          case measure => simp [intOf]; omega
        · have E := Lib.hid (chn_miss hx hy he)
          clear hx hy hcell
          go_wp2
          go_roundw
          case rel => exact ⟨k + 1, by omega, by go_num, by rw [E.out]; exact congrArg _ (max_if _ _), by rw [E.out], hr, hb⟩
          case measure => simp [intOf]; omega
      · obtain rfl : k = 0 := by omega
        have E := Lib.hid (chn_first l)
        have hcx0 : wr.cell? ⟨b, off, none⟩ = some (.int .i64 x) := hcx
        have hz : chn l 0 = (0, 0) := rfl
        clear hx hcell hcx
        go_wp2
        go_roundw
        case rel => exact ⟨1, by omega, rfl, by rw [E.out], by rw [E.out], hr, hb⟩
        case measure => simp [intOf]; omega
    · have e : k = l.length := by omega
      have E := Lib.hid e
      clear e
      go_wp2
      go_ret
      exact ⟨by unfold chainV; rw [← E.out]; rfl, hb⟩

set_option maxHeartbeats 800000 in
theorem l20Chain_any (a b : Int) (w : World) (ha : 0 ≤ a) (ha' : a ≤ 9999) (hb : 0 ≤ b) (hb' : b ≤ 9999) :
    Calls Try.prog 62 #[.int .i64 a, .int .i64 b] w fun e w' => e = .returned (.int .i64 (chainV (cols a b 4))) ∧ Below w.heap.size w w' := by
  have hcol := fun W => columns_any a b W ha ha' hb hb'
  have hbd := cols_bd a b 4
  have hll := cols_len a b 4
  generalize cols a b 4 = l at *
  have HC := Lib.hid hcol
  clear hcol
  go_enter Try.func62, Try.ntmps62
  go_wp2_with (go_at_call 53; refine (HC.out _).mono ?_; rintro e w1 ⟨A, c, rfl, hown, hbl⟩)
  have hr0 := hown.rd
  go_loopw [6, 7, 8] (fun m n i wr => ∃ k : Nat, k ≤ l.length ∧ i = .int .i64 k ∧ m = .int .i64 (chn l k).1 ∧ n = .int .i64 (chn l k).2 ∧ RdI wr A l ∧ Below w.heap.size w wr) (fun _ _ i _ => l.length - (intOf i).toNat)
  case atStart => exact ⟨0, by omega, rfl, rfl, rfl, hr0, hbl⟩
  case round =>
    obtain ⟨k, hk, rfl, rfl, rfl, hr, hb⟩ := hrel
    have hc := chn_bd l k
    by_cases hlt : k < l.length
    · obtain ⟨b, off, rfl, _, hcell⟩ := hr.open_ (by omega)
      obtain ⟨x, hx⟩ := get_of_lt l hlt
      have hcx := hcell k x hx
      have hbx := hbd k x hx
      by_cases h0 : 0 < k
      · obtain ⟨y, hy⟩ := get_of_lt l (k := k - 1) (by omega)
        have hcy := hcell (k - 1) y hy
        have hby := hbd (k - 1) y hy
        by_cases he : x = y + 1
        · have E := Lib.hid (chn_hit h0 hx hy (by omega))
          clear hx hy hcell
          go_wp2_with fail
          go_quiet (fail)
          go_wp2_with (go_at_call 75; refine (l1Most_any _ _ _).mono ?_; rintro e w' ⟨rfl, rfl⟩)
          go_roundw
          case rel => exact ⟨k + 1, by omega, by go_num, by rw [E.out], by rw [E.out], hr, below_drewN hb _⟩
          case measure => simp [intOf]; omega
        · have E := Lib.hid (chn_miss hx hy (by omega))
          clear hx hy hcell
          go_wp2_with fail
          go_quiet (fail)
          go_wp2_with (go_at_call 75; refine (l1Most_any _ _ _).mono ?_; rintro e w' ⟨rfl, rfl⟩)
          go_roundw
          case rel => exact ⟨k + 1, by omega, by go_num, by rw [E.out], by rw [E.out], hr, below_drewN hb _⟩
          case measure => simp [intOf]; omega
      · obtain rfl : k = 0 := by omega
        have E := Lib.hid (chn_first l)
        have hcx0 : wr.cell? ⟨b, off, none⟩ = some (.int .i64 x) := hcx
        have hz : chn l 0 = (0, 0) := rfl
        have hd : decide ((0 : Int) < ((0 : Nat) : Int)) = false := rfl
        clear hx hcell hcx
        go_wp2_with fail
        go_quiet (fail)
        go_wp2_with (go_at_call 75; refine (l1Most_any _ _ _).mono ?_; rintro e w' ⟨rfl, rfl⟩)
        go_roundw
        case rel => exact ⟨1, by omega, rfl, by rw [E.out]; rfl, by rw [E.out], hr, below_drewN hb _⟩
        case measure => simp [intOf]; omega
    · have e : k = l.length := by omega
      have E := Lib.hid e
      clear e
      go_wp2
      go_ret
      exact ⟨by unfold chainV; rw [← E.out]; rfl, hb⟩
end Go.Proofs.Ytlmcnlakgjhalaa
