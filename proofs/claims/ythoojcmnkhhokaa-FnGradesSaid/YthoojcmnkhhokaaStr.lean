/-
  Words and marked texts: plain, contracts.
-/
import Derived.Test.YthoojcmnkhhokaaInts0
import Derived.Test.YthoojcmnkhhokaaTyped
import Derived.Laws.BytesArg
namespace Go.Proofs.Ythoojcmnkhhokaa
set_option maxRecDepth 100000
open Go.RowKit

/-! ### words -/
def lowC (c : UInt8) : Bool := decide (97 ≤ c.toNat) && decide (c.toNat ≤ 122)
def lows (s : ByteArray) (k : Nat) : Bool := (s.data.toList.take k).all lowC
theorem take_byte (s : ByteArray) (k : Nat) (h : k < s.size) : s.data.toList.take (k + 1) = s.data.toList.take k ++ [s[k]] := by
  rw [List.take_succ_eq_append_getElem (by simpa using h)]; rfl
theorem lows_zero (s : ByteArray) : lows s 0 = true := by simp [lows]
theorem lows_succ (s : ByteArray) (k : Nat) (h : k < s.size) : lows s (k + 1) = (lows s k && lowC s[k]) := by
  unfold lows; rw [take_byte s k h, List.all_append]; simp
theorem lows_bad {s : ByteArray} {k : Nat} (h : lows s k = false) : lows s s.size = false := by
  unfold lows at *
  rw [List.all_eq_false] at *
  obtain ⟨x, hx, hn⟩ := h
  exact ⟨x, by rw [List.take_of_length_le (by simp)]; exact List.mem_of_mem_take hx, hn⟩
def wordB (s : ByteArray) : Bool := inB s.size 1 10 && lows s s.size
theorem wordB_len {s : ByteArray} (h : inB s.size 1 10 = false) : wordB s = false := by simp [wordB, h]
theorem wordB_bad {s : ByteArray} {k : Nat} (h : lows s k = false) : wordB s = false := by simp [wordB, lows_bad h]
theorem wordB_all {s : ByteArray} (h : lows s s.size = true) : wordB s = inB s.size 1 10 := by simp [wordB, h]
theorem lowC_lo {c : UInt8} (h : (c.toNat : Int) < 97) : lowC c = false := by simp [lowC]; omega
theorem lowC_hi {c : UInt8} (h : 122 < (c.toNat : Int)) : lowC c = false := by simp [lowC]; omega
theorem lowC_in {c : UInt8} (h : ¬ (c.toNat : Int) < 97) (h2 : ¬ 122 < (c.toNat : Int)) : lowC c = true := by simp [lowC]; omega
attribute [irreducible] lows lowC wordB

set_option maxHeartbeats 800000 in
theorem isWord_any (s : ByteArray) (w : World) (hs : s.size ≤ maxLen) :
    Calls Try.prog 70 #[.string s] w fun e w' => e = .returned (.bool (wordB s)) ∧ w = w' := by
  unfold maxLen at hs
  have hs2 : s.size ≤ 9223372036854775807 := by omega
  clear hs
  cases hg0 : inB s.size 1 10
  · rw [wordB_len hg0]
    go_enter Try.func70, Try.ntmps70
    go_wp2_with (go_at_call 69; refine (within_any _ _ _ _).mono ?_; rintro e w' ⟨rfl, rfl⟩; rw [hg0])
    go_ret
    exact ⟨rfl, rfl⟩
  · go_enter Try.func70, Try.ntmps70
    go_wp2_with (go_at_call 69; refine (within_any _ _ _ _).mono ?_; rintro e w' ⟨rfl, rfl⟩; rw [hg0])
    go_loop [3] (fun i => ∃ k : Nat, k ≤ s.size ∧ i = .int .i64 k ∧ Hid (lows s k = true)) (fun i => s.size - (intOf i).toNat)
    case atStart => exact ⟨0, by omega, rfl, Lib.hid (lows_zero s)⟩
    case round =>
      obtain ⟨k, hk, rfl, hall⟩ := hrel
      by_cases hlt : k < s.size
      · have hsu := lows_succ s k hlt
        rw [hall.out, Bool.true_and] at hsu
        by_cases h1 : (s[k].toNat : Int) < 97
        · have E := Lib.hid (wordB_bad (hsu.trans (lowC_lo h1)))
          have d1 : decide ((s[k].toNat : Int) < 97) = true := decide_eq_true h1
          clear hsu hall
          go_wp2
          go_ret
          exact ⟨by rw [E.out]; rfl, rfl⟩
        by_cases h2 : 122 < (s[k].toNat : Int)
        · have E := Lib.hid (wordB_bad (hsu.trans (lowC_hi h2)))
          have d1 : decide ((s[k].toNat : Int) < 97) = false := decide_eq_false h1
          have d2 : decide (122 < (s[k].toNat : Int)) = true := decide_eq_true h2
          clear hsu hall
          go_wp2
          go_ret
          exact ⟨by rw [E.out]; rfl, rfl⟩
        · have hall' := Lib.hid (hsu.trans (lowC_in h1 h2))
          have d1 : decide ((s[k].toNat : Int) < 97) = false := decide_eq_false h1
          have d2 : decide (122 < (s[k].toNat : Int)) = false := decide_eq_false h2
          clear hsu hall
          go_wp2
          go_round
          case rel => exact ⟨k + 1, by omega, by go_num, hall'⟩
          case measure => simp [intOf]; omega
      · obtain rfl : k = s.size := by omega
        have E := Lib.hid ((wordB_all hall.out).trans hg0)
        clear hall
        go_wp2
        go_ret
        exact ⟨by rw [E.out]; rfl, rfl⟩

set_option maxHeartbeats 800000 in
theorem l2Word_any (s : ByteArray) (w : World) (hs : s.size ≤ maxLen) :
    Calls Try.prog 94 #[.string s] w fun e w' => e = .returned (.bool (wordB s)) ∧ w = w' := by
  unfold maxLen at hs
  have hs2 : s.size ≤ 9223372036854775807 := by omega
  clear hs
  go_enter Try.func94, Try.ntmps94
  go_wp2
  go_loop [3] (fun i => ∃ k : Nat, k ≤ s.size ∧ i = .int .i64 k ∧ Hid (lows s k = true)) (fun i => s.size - (intOf i).toNat)
  case atStart => exact ⟨0, by omega, rfl, Lib.hid (lows_zero s)⟩
  case round =>
    obtain ⟨k, hk, rfl, hall⟩ := hrel
    by_cases hlt : k < s.size
    · have hsu := lows_succ s k hlt
      rw [hall.out, Bool.true_and] at hsu
      by_cases h1 : (s[k].toNat : Int) < 97
      · have E := Lib.hid (wordB_bad (hsu.trans (lowC_lo h1)))
        have d1 : decide ((s[k].toNat : Int) < 97) = true := decide_eq_true h1
        clear hsu hall
        go_wp2
        go_ret
        exact ⟨by rw [E.out]; rfl, rfl⟩
      by_cases h2 : 122 < (s[k].toNat : Int)
      · have E := Lib.hid (wordB_bad (hsu.trans (lowC_hi h2)))
        have d1 : decide ((s[k].toNat : Int) < 97) = false := decide_eq_false h1
        have d2 : decide (122 < (s[k].toNat : Int)) = true := decide_eq_true h2
        clear hsu hall
        go_wp2
        go_ret
        exact ⟨by rw [E.out]; rfl, rfl⟩
      · have hall' := Lib.hid (hsu.trans (lowC_in h1 h2))
        have d1 : decide ((s[k].toNat : Int) < 97) = false := decide_eq_false h1
        have d2 : decide (122 < (s[k].toNat : Int)) = false := decide_eq_false h2
        clear hsu hall
        go_wp2
        go_round
        case rel => exact ⟨k + 1, by omega, by go_num, hall'⟩
        case measure => simp [intOf]; omega
    · obtain rfl : k = s.size := by omega
      have E := Lib.hid (wordB_all hall.out)
      clear hall
      go_wp2_with (go_at_call 95; refine (l1In_any _ _ _ _).mono ?_; rintro e w' ⟨rfl, rfl⟩)
      go_ret
      exact ⟨by rw [E.out]; rfl, rfl⟩

/-- A byte by itself, as a string. -/
theorem conv_one (W : World) (x : Int) : (convert 66 9 (.slice (some ⟨W.heap.size, 0, none⟩) 1 1)).run Try.prog (W.alloc (.cells #[.int .u8 x] 5)) = .ok (.string ⟨#[UInt8.ofNat x.toNat]⟩) (W.alloc (.cells #[.int .u8 x] 5)) := by
  have := run_convert_bytes_arg (P := Try.prog) (W.alloc (.cells #[.int .u8 x] 5)) 66 5 Try.underlying66 Try.underlying5 W.heap.size 0 1 1 [x] rfl (fun i hi => by
    obtain rfl : i = 0 := by omega
    exact cell_of_row _ _ 0 _ _ (0, 0) (heap_alloc_new W _)) 9 Try.underlying9
  rw [this]
  rfl
/-! ### the marks of texts -/
def mdig : Nat → Nat → ByteArray → ByteArray
  | 0, _, o => o
  | f + 1, k, o => if k = 0 then o else mdig f (k / 10) ((⟨#[48 + UInt8.ofNat (k % 10)]⟩ : ByteArray) ++ o)
theorem mdig_zero (f : Nat) (o : ByteArray) : mdig f 0 o = o := by cases f <;> simp [mdig]
theorem mdig_step {f k : Nat} (h : 0 < k) (hf : k ≤ f) (o : ByteArray) : mdig f k o = mdig (f - 1) (k / 10) ((⟨#[48 + UInt8.ofNat (k % 10)]⟩ : ByteArray) ++ o) := by
  obtain ⟨g, rfl⟩ : ∃ g, f = g + 1 := ⟨f - 1, by omega⟩
  rw [mdig, if_neg (by omega)]; rfl
def mt (k : Int) : ByteArray := if k ≤ 0 then ⟨#[109, 48]⟩ else (⟨#[109]⟩ : ByteArray) ++ mdig k.toNat k.toNat ByteArray.empty
attribute [irreducible] mdig
set_option maxHeartbeats 800000 in
theorem markText_any (k : Int) (w : World) (hk : k ≤ 1000000000000) :
    Calls Try.prog 84 #[.int .i64 k] w fun e w' => e = .returned (.string (mt k)) ∧ Below w.heap.size w w' := by
  by_cases h0 : k ≤ 0
  · have E : mt k = ⟨#[109, 48]⟩ := if_pos h0
    rw [E]
    clear E
    go_enter Try.func84, Try.ntmps84
    go_wp2
    go_ret
    exact ⟨rfl, Below.refl _ _⟩
  · obtain ⟨n, rfl⟩ : ∃ n : Nat, k = (n : Int) := ⟨k.toNat, by omega⟩
    have E : mt (n : Int) = (⟨#[109]⟩ : ByteArray) ++ mdig n n ByteArray.empty := if_neg h0
    have HE := Lib.hid E
    have hp : 0 < n := by omega
    clear E h0
    generalize mt (n : Int) = R at *
    have hcv := conv_one
    go_enter Try.func84, Try.ntmps84
    go_wp2
    go_loopw [0, 3] (fun q o wr => ∃ (m f : Nat) (s : ByteArray), q = .int .i64 m ∧ m ≤ n ∧ m ≤ f ∧ o = .string s ∧ s.size + m ≤ n ∧ Hid (mdig n n ByteArray.empty = mdig f m s) ∧ Below w.heap.size w wr) (fun q _ _ => (intOf q).toNat)
    case atStart => exact ⟨n, n, _, rfl, by omega, by omega, rfl, by show 0 + n ≤ n; omega, Lib.hid rfl, Below.refl _ _⟩
    case round =>
      obtain ⟨m, f, s, rfl, hm, hf, rfl, hs, hd, hb⟩ := hrel
      have hz := hb.size
      by_cases h : m = 0
      · have HE2 := Lib.hid (show R = (⟨#[109]⟩ : ByteArray) ++ s by rw [HE.out, hd.out, h, mdig_zero])
        have hm0 : m ≤ 0 := by omega
        clear HE hd h
        go_wp2
        go_ret
        exact ⟨by rw [HE2.out]; rfl, hb⟩
      · have hpos : 0 < m := by omega
        have hd' := Lib.hid (hd.out.trans (mdig_step hpos hf s))
        clear hd
        go_wp2
        go_roundw
        case rel => exact ⟨m / 10, f - 1, _, rfl, by omega, by omega, rfl, by rw [ByteArray.size_append]; have : (⟨#[48 + UInt8.ofNat (m % 10)]⟩ : ByteArray).size = 1 := rfl; omega, hd', hb.alloc hz _⟩
        case measure => simp [intOf]; omega

/-! ### an element stored in two parts, a call between them -/
theorem setAll_split (us vs : List Value) : ∀ (xs : List Value) (off : Nat), setAll xs off (us ++ vs) = setAll (setAll xs off us) (off + us.length) vs := by
  induction us with
  | nil => intro xs off; rfl
  | cons u us ih =>
    intro xs off
    simp only [List.cons_append, setAll, List.length_cons]
    rw [ih, Nat.add_assoc, Nat.add_comm 1]
section
variable {α : Type} {T : Ty α} {w w2 : World} {base n c g k : Nat} {l : List α}
theorem own_part {us1 : List Value} (h : OwnT T w base (.slice (some ⟨g, 0, none⟩) n c) l) (hb : Below (setCells w g (k * T.sz) us1).heap.size (setCells w g (k * T.sz) us1) w2) :
    w2.ownsRow base T.e T.sz (.slice (some ⟨g, 0, none⟩) l.length c) l.length (setAll (T.flat l) (k * T.sz) us1) ∧ n = l.length ∧ w.grownBy w2 (some g) := by
  obtain ⟨A', c', hv⟩ := h.form
  injection hv with _ h2 h3
  subst h2 h3
  have h1 := own_setCells us1 w (k * T.sz) _ (h : w.ownsRow _ _ _ _ _ _)
  exact ⟨own_below h1.1 hb (Nat.le_refl _), rfl, gr_below h1.2 hb (Nat.le_refl _)⟩
theorem own_part_cells {us1 : List Value} (h : OwnT T w base (.slice (some ⟨g, 0, none⟩) n c) l) (hk : k < l.length) (hb : Below (setCells w g (k * T.sz) us1).heap.size (setCells w g (k * T.sz) us1) w2) :
    (∀ o, o < T.sz → ∃ v, w2.cell? ⟨g, k * T.sz + o, none⟩ = some v) ∧ ∀ o, w2.frozen? ⟨g, o, none⟩ = false := by
  obtain ⟨h1, _, _⟩ := own_part h hb
  refine ⟨fun o ho => ?_, fun o => World.ownsRow.frozenAt h1 o⟩
  have hlt : k * T.sz + o < l.length * T.sz := by
    have : (k + 1) * T.sz ≤ l.length * T.sz := Nat.mul_le_mul_right _ hk
    rw [Nat.add_mul] at this; omega
  rw [World.ownsRow.cellAt h1 _ hlt]
  exact ⟨_, List.getElem?_eq_getElem (by rw [h1.1]; exact hlt)⟩
theorem own_parts {us1 us2 : List Value} {y : α} (h : OwnT T w base (.slice (some ⟨g, 0, none⟩) n c) l) (hk : k < l.length) (he : T.enc y = us1 ++ us2) (hb : Below (setCells w g (k * T.sz) us1).heap.size (setCells w g (k * T.sz) us1) w2) :
    OwnT T (setCells w2 g (k * T.sz + us1.length) us2) base (.slice (some ⟨g, 0, none⟩) n c) (l.set k y) ∧ w.grownBy (setCells w2 g (k * T.sz + us1.length) us2) (some g) := by
  obtain ⟨h1, hn, hg⟩ := own_part h hb
  have h2 := own_setCells us2 w2 (k * T.sz + us1.length) _ h1
  subst hn
  refine ⟨?_, gr_trans hg h2.2⟩
  unfold OwnT
  rw [List.length_set, ← flat_set l k y hk, he, setAll_split]
  exact h2.1
end
end Go.Proofs.Ythoojcmnkhhokaa
