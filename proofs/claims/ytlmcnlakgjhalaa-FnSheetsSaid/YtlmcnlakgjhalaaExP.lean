/-
  The draw of a sheet.
-/
import Derived.Test.YtlmcnlakgjhalaaExN
namespace Go.Proofs.Ytlmcnlakgjhalaa
open Go.RowKit Go.Lib Go.Lib.Hx

/-- A box of a pair. -/
def PBox (w : World) (b : Nat) (p q : Int) : Prop := w.heap[b]? = some (.cells #[.int .i64 p, .int .i64 q] 45 (0, 0))
section
variable {w w' : World} {b : Nat} {p q : Int}
theorem PBox.lt (h : PBox w b p q) : b < w.heap.size := by
  rcases Nat.lt_or_ge b w.heap.size with hlt | hge
  · exact hlt
  · unfold PBox at h; rw [Array.getElem?_eq_none hge] at h; cases h
theorem PBox.c0 (h : PBox w b p q) : w.cell? ⟨b, 0, none⟩ = some (.int .i64 p) := cell_of_row w b 0 _ _ (0, 0) h
theorem PBox.c1 (h : PBox w b p q) : w.cell? ⟨b, 1, none⟩ = some (.int .i64 q) := cell_of_row w b 1 _ _ (0, 0) h
theorem PBox.frozen (h : PBox w b p q) (i : Nat) : w.frozen? ⟨b, i, none⟩ = false := by
  unfold PBox at h
  simp [World.frozen?, h]
theorem PBox.set_ (h : PBox w b p q) (p' q' : Int) : PBox ((w.setCell ⟨b, 0, none⟩ (.int .i64 p')).setCell ⟨b, 1, none⟩ (.int .i64 q')) b p' q' := by
  unfold PBox at h ⊢
  simp [World.setCell, Array.getElem?_modify, h]
theorem PBox.set0 (h : PBox w b p q) (p' : Int) : PBox (w.setCell ⟨b, 0, none⟩ (.int .i64 p')) b p' q := by
  unfold PBox at h ⊢
  simp [World.setCell, Array.getElem?_modify, h]
theorem PBox.kept {row : Option Nat} (h : PBox w b p q) (hg : w.grownBy w' row) (hr : some b ≠ row) : PBox w' b p q := (hg.block b h.lt hr).trans h
theorem PBox.new (w : World) (p q : Int) : PBox (w.alloc (.cells #[.int .i64 p, .int .i64 q] 45)) w.heap.size p q := heap_alloc_new w _
end
theorem OwnP.cur {w w' : World} {base g : Nat} {v : Value} {l : List (Int × Int)} (h : OwnT pairT w base v l) (hg : w.grownBy w' (some g)) (hlt : g < base) : OwnT pairT w' base v l :=
  h.kept hg (by
    cases hv : v.ownBlock with
    | none => exact .inl rfl
    | some k => exact .inr (fun he => by injection he with he; have := (h.lt k hv).1; omega))

set_option maxRecDepth 100000 in
set_option maxHeartbeats 4000000 in
theorem sheet_any (g c P : Nat) (A : Option Addr) (l : List (Fin 256)) (w : World) (hl : l.length ≤ 65536) (hP : P ≤ 800000000) (h : Cur w g A c l P) :
    Calls Try.prog 77 #[.pointer (some ⟨g, 0, none⟩)] w fun e w' => ∃ (out : List (Int × Int)) (A' : Option Addr) (c' : Nat), out.length ≤ 13 ∧ e = .returned (.slice A' out.length c') ∧ OwnT pairT w' w.heap.size (.slice A' out.length c') out ∧ Below g w w' := by
  have hgl := h.lt
  have he := OwnP.empty w w.heap.size (Nat.le_refl _)
  have hb0 : Below g w (w.alloc (.cells #[] 45)) := (Below.refl _ _).alloc (by omega) _
  obtain ⟨w0, hw0⟩ : ∃ w0 : World, w0 = w.alloc (.cells #[] 45) := ⟨_, rfl⟩
  have h0 : Cur w0 g A c l P := by rw [hw0]; exact h.kept (World.grownBy_alloc w _ none) (by simp)
  have hz0 : w.heap.size ≤ w0.heap.size := by rw [hw0]; simp
  rw [← hw0] at he hb0
  go_enter Try.func77, Try.ntmps77
  go_wp2_with fail
  rw [← hw0]
  clear hw0
  refine (pick_any g c P 7 A l _ hl (by omega) (by decide) (by decide) h0).mono ?_
  rintro e w1 ⟨m0, hm0, rfl, hc1, hg1⟩
  have ho1 := OwnP.cur he hg1 hgl
  have hb1 := hb0.grown hg1 (by omega) (fun k hk => by cases hk; exact Nat.le_refl _)
  have hz1 : w.heap.size ≤ w1.heap.size := Nat.le_trans hz0 hg1.size
  clear he hb0 h0 hg1 hz0
  go_wp2
  go_loopw [3, 4] (fun o n wr => ∃ (m : Nat) (out : List (Int × Int)) (A' : Option Addr) (c' : Nat), m ≤ 6 ∧ out.length + m ≤ 6 ∧ n = .int .i64 m ∧ o = .slice A' out.length c' ∧ OwnT pairT wr w.heap.size (.slice A' out.length c') out ∧ Cur wr g A c l (P + 2 + 20 * (6 - m)) ∧ Below g w wr ∧ w.heap.size ≤ wr.heap.size) (fun _ n _ => (intOf n).toNat)
  case atStart => exact ⟨m0, [], _, _, by omega, by simp; omega, rfl, rfl, ho1, hc1.more (by omega), hb1, hz1⟩
  case round =>
    obtain ⟨m, out, A', c', hm, hom, rfl, rfl, ho, hc, hb, hz⟩ := hrel
    clear ho1 hc1 hb1 hz1
    by_cases hm0 : 0 < m
    · obtain ⟨j, rfl⟩ : ∃ j, m = j + 1 := ⟨m - 1, by omega⟩
      go_wp2_with fail
      refine (addend_any g c _ A l _ hl (by omega) hc).mono ?_
      rintro e w2 ⟨p, rfl, hc2, hg2⟩
      go_wp2_with fail
      refine (addend_any g c _ A l _ hl (by omega) hc2).mono ?_
      rintro e w3 ⟨q, rfl, hc3, hg3⟩
      have hg23 := hg2.trans hg3
      have ho3 := OwnP.cur ho hg23 hgl
      have hb3 := hb.grown hg23 (by omega) (fun k hk => by cases hk; exact Nat.le_refl _)
      have hz3 : w.heap.size ≤ w3.heap.size := Nat.le_trans hz hg23.size
      obtain ⟨w4, hw4⟩ : ∃ w4 : World, w4 = w3.alloc (.cells #[.int .i64 p, .int .i64 q] 45) := ⟨_, rfl⟩
      obtain ⟨bx, hbx⟩ : ∃ bx : Nat, bx = w3.heap.size := ⟨_, rfl⟩
      have ho4 : OwnT pairT w4 w.heap.size (.slice A' out.length c') out := by rw [hw4]; exact ho3.alloc _
      have hp4 : PBox w4 bx p q := by rw [hw4, hbx]; exact PBox.new _ _ _
      have hc4 : Cur w4 g A c l (P + 2 + 20 * (6 - (j + 1)) + 2 + 2) := by rw [hw4]; exact hc3.kept (World.grownBy_alloc _ _ none) (by simp)
      have hb4 : Below g w w4 := by rw [hw4]; exact hb3.alloc (by omega) _
      have hz4 : w.heap.size ≤ w4.heap.size := by rw [hw4]; simp; omega
      have hbg : g < bx := by omega
      have hbz' : w.heap.size ≤ bx := by omega
      have hxo : ∀ k, Value.ownBlock (.slice A' out.length c') = some k → k ≠ bx := fun k hk => by have := (ho3.lt k hk).2; omega
      clear hc hc2 hc3 hg2 hg3 hg23 ho ho3 hb hb3 hz3
      rcases Nat.eq_zero_or_pos out.length with hol | hol
      · have q0 : decide (0 < out.length) = false := decide_eq_false (by omega)
        clear hol
        go_wp2_with fail
        rw [← hw4, ← hbx]
        clear hw4 hbx
        have HG := Lib.hid (fun W => l20Good_any p q W)
        cases hgd : exB p q
        · rw [hgd] at HG
          go_wp2_with (go_at_call 60; refine (HG.out _).mono ?_; rintro e w9 ⟨rfl, rfl⟩)
          refine (one_any g c _ 8 A l _ hl (by omega) (by decide) (by decide) hc4).mono ?_
          rintro e w10 ⟨o2, rfl, hc10, hg10⟩
          have ho10 := OwnP.cur ho4 hg10 hgl
          have hb10 := hb4.grown hg10 (by omega) (fun k hk => by cases hk; exact Nat.le_refl _)
          have hp10 := hp4.kept hg10 (by intro he; injection he with he; omega)
          have hz10 : w.heap.size ≤ w10.heap.size := Nat.le_trans hz4 hg10.size
          have x0 := hp10.c0
          have x1 := hp10.c1
          clear ho4 hb4 hp4 hc4 hg10 hp10
          cases o2
          · go_wp2
            go_roundw
            case rel => exact ⟨j, out, _, c', by omega, by omega, by go_num, rfl, ho10, hc10.more (by omega), hb10, hz10⟩
            case measure => first | (simp [intOf]; done) | (simp [intOf]; omega)
          · go_wp2_with (at_builtin; refine wpList_appT pairT rfl _ _ rfl w.heap.size _ _ rfl ho10 g hb10 (p, q) _ rfl 1 1 rfl rfl (by omega) hz10 (by omega) ?_; intro A3 c3 w11 ho11 hb11 hg11)
            go_roundw
            case rel => exact ⟨j, out ++ [(p, q)], A3, c3, by omega, by simp; omega, by go_num, by rw [List.length_append]; rfl, by rw [List.length_append]; exact ho11, (hc10.kept (World.grownBy_alloc _ _ none) (by simp) |>.kept hg11 (fun r hr => by have := (ho10.lt r hr).1; omega)).more (by omega), hb11, Nat.le_trans (Nat.le_trans hz10 (by simp)) hg11.size⟩
            case measure => first | (simp [intOf]; done) | (simp [intOf]; omega)
        · rw [hgd] at HG
          have x0 := hp4.c0
          have x1 := hp4.c1
          go_wp2_with (first | (go_at_call 60; refine (HG.out _).mono ?_; rintro e w9 ⟨rfl, rfl⟩) | (at_builtin; refine wpList_appT pairT rfl _ _ rfl w.heap.size _ _ rfl ho4 g hb4 (p, q) _ rfl 1 1 rfl rfl (by omega) hz4 (by omega) ?_; intro A3 c3 w11 ho11 hb11 hg11))
          go_roundw
          case rel => exact ⟨j, out ++ [(p, q)], A3, c3, by omega, by simp; omega, by go_num, by rw [List.length_append]; rfl, by rw [List.length_append]; exact ho11, (hc4.kept (World.grownBy_alloc _ _ none) (by simp) |>.kept hg11 (fun r hr => by have := (ho4.lt r hr).1; omega)).more (by omega), hb11, Nat.le_trans (Nat.le_trans hz4 (by simp)) hg11.size⟩
          case measure => first | (simp [intOf]; done) | (simp [intOf]; omega)
      · have q0 : decide (0 < out.length) = true := decide_eq_true hol
        go_wp2_with fail
        rw [← hw4, ← hbx]
        clear hw4 hbx
        refine (one_any g c _ 4 A l _ hl (by omega) (by decide) (by decide) hc4).mono ?_
        rintro e w5 ⟨o1, rfl, hc5, hg5⟩
        have ho5 := OwnP.cur ho4 hg5 hgl
        have hb5 := hb4.grown hg5 (by omega) (fun k hk => by cases hk; exact Nat.le_refl _)
        have hp5 := hp4.kept hg5 (by intro he; injection he with he; omega)
        have hz5 : w.heap.size ≤ w5.heap.size := Nat.le_trans hz4 hg5.size
        clear ho4 hb4 hp4 hz4 hc4 hg5
        cases o1
        · have y0 := hp5.c0
          have y1 := hp5.c1
          go_wp2_with fail
          have HG := Lib.hid (fun W => l20Good_any p q W)
          cases hgd : exB p q
          · rw [hgd] at HG
            go_wp2_with (go_at_call 60; refine (HG.out _).mono ?_; rintro e w9 ⟨rfl, rfl⟩)
            refine (one_any g c _ 8 A l _ hl (by omega) (by decide) (by decide) hc5).mono ?_
            rintro e w10 ⟨o2, rfl, hc10, hg10⟩
            have ho10 := OwnP.cur ho5 hg10 hgl
            have hb10 := hb5.grown hg10 (by omega) (fun k hk => by cases hk; exact Nat.le_refl _)
            have hp10 := hp5.kept hg10 (by intro he; injection he with he; omega)
            have hz10 : w.heap.size ≤ w10.heap.size := Nat.le_trans hz5 hg10.size
            have x0 := hp10.c0
            have x1 := hp10.c1
            clear ho5 hb5 hp5 hc5 hg10 hp10
            cases o2
            · go_wp2
              go_roundw
              case rel => exact ⟨j, out, _, c', by omega, by omega, by go_num, rfl, ho10, hc10.more (by omega), hb10, hz10⟩
              case measure => first | (simp [intOf]; done) | (simp [intOf]; omega)
            · go_wp2_with (at_builtin; refine wpList_appT pairT rfl _ _ rfl w.heap.size _ _ rfl ho10 g hb10 (p, q) _ rfl 1 1 rfl rfl (by omega) hz10 (by omega) ?_; intro A3 c3 w11 ho11 hb11 hg11)
              go_roundw
              case rel => exact ⟨j, out ++ [(p, q)], A3, c3, by omega, by simp; omega, by go_num, by rw [List.length_append]; rfl, by rw [List.length_append]; exact ho11, (hc10.kept (World.grownBy_alloc _ _ none) (by simp) |>.kept hg11 (fun r hr => by have := (ho10.lt r hr).1; omega)).more (by omega), hb11, Nat.le_trans (Nat.le_trans hz10 (by simp)) hg11.size⟩
              case measure => first | (simp [intOf]; done) | (simp [intOf]; omega)
          · rw [hgd] at HG
            have x0 := hp5.c0
            have x1 := hp5.c1
            go_wp2_with (first | (go_at_call 60; refine (HG.out _).mono ?_; rintro e w9 ⟨rfl, rfl⟩) | (at_builtin; refine wpList_appT pairT rfl _ _ rfl w.heap.size _ _ rfl ho5 g hb5 (p, q) _ rfl 1 1 rfl rfl (by omega) hz5 (by omega) ?_; intro A3 c3 w11 ho11 hb11 hg11))
            go_roundw
            case rel => exact ⟨j, out ++ [(p, q)], A3, c3, by omega, by simp; omega, by go_num, by rw [List.length_append]; rfl, by rw [List.length_append]; exact ho11, (hc5.kept (World.grownBy_alloc _ _ none) (by simp) |>.kept hg11 (fun r hr => by have := (ho5.lt r hr).1; omega)).more (by omega), hb11, Nat.le_trans (Nat.le_trans hz5 (by simp)) hg11.size⟩
            case measure => first | (simp [intOf]; done) | (simp [intOf]; omega)
        · go_wp2_with fail
          refine (pick_any g c _ out.length A l _ hl (by omega) hol (by omega) hc5).mono ?_
          rintro e w6 ⟨at_, hat, rfl, hc6, hg6⟩
          have ho6 := OwnP.cur ho5 hg6 hgl
          have hb6 := hb5.grown hg6 (by omega) (fun k hk => by cases hk; exact Nat.le_refl _)
          have hp6 := hp5.kept hg6 (by intro he; injection he with he; omega)
          have hz6 : w.heap.size ≤ w6.heap.size := Nat.le_trans hz5 hg6.size
          clear ho5 hb5 hp5 hz5 hc5 hg6
          obtain ⟨rb, roff, p2, q2, hA2, _, hrb, hr0, hr1⟩ := pair_at ho6.rd hat
          subst hA2
          obtain ⟨w7, hw7⟩ : ∃ w7 : World, w7 = w6.alloc (.cells #[.int .i64 p2, .int .i64 q2] 45) := ⟨_, rfl⟩
          have hp7 : PBox (w6.alloc (.cells #[.int .i64 p2, .int .i64 q2] 45)) bx p q := hp6.kept (World.grownBy_alloc _ _ none) (by simp)
          have s0 := hp7.c0
          have f0 := hp7.frozen 0
          have s1 := (hp7.set0 q2).c1
          have f1 := (hp7.set0 q2).frozen 1
          have hp8 := hp7.set_ q2 p2
          rw [← hw7] at hp8
          have hg7 : w6.grownBy w7 none := by rw [hw7]; exact World.grownBy_alloc _ _ none
          obtain ⟨w8, hw8⟩ : ∃ w8 : World, w8 = (w7.setCell ⟨bx, 0, none⟩ (.int .i64 q2)).setCell ⟨bx, 1, none⟩ (.int .i64 p2) := ⟨_, rfl⟩
          rw [← hw8] at hp8
          have hg8 : w7.grownBy w8 (some bx) := by rw [hw8]; exact grownBy_setB (grownBy_setB (World.grownBy.refl _ _) 0 _) 1 _
          have ho8 := (ho6.kept hg7 (by cases hv : Value.ownBlock (.slice (some ⟨rb, roff, none⟩) out.length c') with | none => exact .inl rfl | some k => exact .inr (by simp))).kept hg8 (by cases hv : Value.ownBlock (.slice (some ⟨rb, roff, none⟩) out.length c') with | none => exact .inl rfl | some k => exact .inr (fun he => by injection he with he; exact hxo k hv he))
          have hz7 : w.heap.size ≤ w7.heap.size := Nat.le_trans hz6 hg7.size
          have hb7 := hb6.grown hg7 (by omega) (fun k hk => by cases hk)
          have hb8 := hb7.grown hg8 (by omega) (fun k hk => by cases hk; omega)
          have hc8 := (hc6.kept hg7 (by simp)).kept hg8 (fun r hr => by cases hr; exact hbg)
          have hz8 : w.heap.size ≤ w8.heap.size := Nat.le_trans hz7 hg8.size
          clear hp7 ho6 hb6 hp6 hz6 hc6 hg7 hg8 hb7 hz7
          go_wp2_with fail
          rw [← hw7, ← hw8]
          clear hw7 hw8 s0 f0 s1 f1
          have HG := Lib.hid (fun W => l20Good_any q2 p2 W)
          cases hgd : exB q2 p2
          · rw [hgd] at HG
            go_wp2_with (go_at_call 60; refine (HG.out _).mono ?_; rintro e w9 ⟨rfl, rfl⟩)
            refine (one_any g c _ 8 A l _ hl (by omega) (by decide) (by decide) hc8).mono ?_
            rintro e w10 ⟨o2, rfl, hc10, hg10⟩
            have ho10 := OwnP.cur ho8 hg10 hgl
            have hb10 := hb8.grown hg10 (by omega) (fun k hk => by cases hk; exact Nat.le_refl _)
            have hp10 := hp8.kept hg10 (by intro he; injection he with he; omega)
            have hz10 : w.heap.size ≤ w10.heap.size := Nat.le_trans hz8 hg10.size
            have x0 := hp10.c0
            have x1 := hp10.c1
            clear ho8 hb8 hp8 hc8 hg10 hp10
            cases o2
            · go_wp2
              go_roundw
              case rel => exact ⟨j, out, _, c', by omega, by omega, by go_num, rfl, ho10, hc10.more (by omega), hb10, hz10⟩
              case measure => first | (simp [intOf]; done) | (simp [intOf]; omega)
            · go_wp2_with (at_builtin; refine wpList_appT pairT rfl _ _ rfl w.heap.size _ _ rfl ho10 g hb10 (q2, p2) _ rfl 1 1 rfl rfl (by omega) hz10 (by omega) ?_; intro A3 c3 w11 ho11 hb11 hg11)
              go_roundw
              case rel => exact ⟨j, out ++ [(q2, p2)], A3, c3, by omega, by simp; omega, by go_num, by rw [List.length_append]; rfl, by rw [List.length_append]; exact ho11, (hc10.kept (World.grownBy_alloc _ _ none) (by simp) |>.kept hg11 (fun r hr => by have := (ho10.lt r hr).1; omega)).more (by omega), hb11, Nat.le_trans (Nat.le_trans hz10 (by simp)) hg11.size⟩
              case measure => first | (simp [intOf]; done) | (simp [intOf]; omega)
          · rw [hgd] at HG
            have x0 := hp8.c0
            have x1 := hp8.c1
            go_wp2_with (first | (go_at_call 60; refine (HG.out _).mono ?_; rintro e w9 ⟨rfl, rfl⟩) | (at_builtin; refine wpList_appT pairT rfl _ _ rfl w.heap.size _ _ rfl ho8 g hb8 (q2, p2) _ rfl 1 1 rfl rfl (by omega) hz8 (by omega) ?_; intro A3 c3 w11 ho11 hb11 hg11))
            go_roundw
            case rel => exact ⟨j, out ++ [(q2, p2)], A3, c3, by omega, by simp; omega, by go_num, by rw [List.length_append]; rfl, by rw [List.length_append]; exact ho11, (hc8.kept (World.grownBy_alloc _ _ none) (by simp) |>.kept hg11 (fun r hr => by have := (ho8.lt r hr).1; omega)).more (by omega), hb11, Nat.le_trans (Nat.le_trans hz8 (by simp)) hg11.size⟩
            case measure => first | (simp [intOf]; done) | (simp [intOf]; omega)
    · obtain rfl : m = 0 := by omega
      go_wp2_with fail
      refine (one_any g c _ 24 A l _ hl (by omega) (by decide) (by decide) hc).mono ?_
      rintro e w5 ⟨o1, rfl, hc5, hg5⟩
      have ho5 := OwnP.cur ho hg5 hgl
      have hb5 := hb.grown hg5 (by omega) (fun k hk => by cases hk; exact Nat.le_refl _)
      have hz5 : w.heap.size ≤ w5.heap.size := Nat.le_trans hz hg5.size
      clear ho hb hz hc hg5
      cases o1
      · go_wp2
        go_ret
        exact ⟨out, _, c', by omega, rfl, ho5, hb5⟩
      · go_wp2
        go_loopw [3] (fun o wy => ∃ (o2 : List (Int × Int)) (A2 : Option Addr) (c2 : Nat), o2.length ≤ 13 ∧ o = .slice A2 o2.length c2 ∧ OwnT pairT wy w.heap.size (.slice A2 o2.length c2) o2 ∧ Cur wy g A c l (P + 200 + 4 * o2.length) ∧ Below g w wy ∧ w.heap.size ≤ wy.heap.size) (fun o _ => 13 - (match o with | .slice _ n _ => n | _ => 0))
        case atStart => exact ⟨out, _, c', by omega, rfl, ho5, hc5.more (by omega), hb5, hz5⟩
        case round =>
          obtain ⟨o2, A2, c2, hn2, rfl, ho, hc, hb, hz⟩ := hrel
          clear ho5 hc5 hb5 hz5
          go_wp2_with fail
          refine (pick_any g c _ 2 A l _ hl (by omega) (by decide) (by decide) hc).mono ?_
          rintro e w6 ⟨x, hx, rfl, hc6, hg6⟩
          have ho6 := OwnP.cur ho hg6 hgl
          have hb6 := hb.grown hg6 (by omega) (fun k hk => by cases hk; exact Nat.le_refl _)
          have hz6 : w.heap.size ≤ w6.heap.size := Nat.le_trans hz hg6.size
          have i1 : IntKind.i64.wrap (12 + (x : Int)) = 12 + (x : Int) := IntWalk.i64_in _ (by omega)
          clear ho hb hz hc hg6
          by_cases hlt : o2.length < 12 + x
          · have d1 : decide (o2.length < 12 + x) = true := decide_eq_true hlt
            have d2 : decide ((o2.length : Int) < 12 + (x : Int)) = true := decide_eq_true (by omega)
            go_wp2_with (at_builtin; refine wpList_appT pairT rfl _ _ rfl w.heap.size _ _ rfl ho6 g hb6 ((o2.length : Int), 95) _ rfl 1 1 rfl rfl (by omega) hz6 (by omega) ?_; intro A3 c3 w7 ho7 hb7 hg7)
            go_roundw
            case rel => exact ⟨o2 ++ [((o2.length : Int), 95)], A3, c3, by simp; omega, by rw [List.length_append]; rfl, by rw [List.length_append]; exact ho7, (hc6.kept (World.grownBy_alloc _ _ none) (by simp) |>.kept hg7 (fun r hr => by have := (ho6.lt r hr).1; omega)).more (by simp; omega), hb7, Nat.le_trans (Nat.le_trans hz6 (by simp)) hg7.size⟩
            case measure => simp; omega
          · have d1 : decide (o2.length < 12 + x) = false := decide_eq_false hlt
            have d2 : decide ((o2.length : Int) < 12 + (x : Int)) = false := decide_eq_false (by omega)
            go_wp2
            go_ret
            exact ⟨o2, _, c2, hn2, rfl, ho6, hb6⟩
set_option maxHeartbeats 1000000 in
theorem drawSheet_any (A : Option Addr) (c : Nat) (l : List (Fin 256)) (w : World) (hl : l.length ≤ 65536) (h : RdT byteT w A l) :
    Calls Try.prog 72 #[.slice A l.length c] w fun e w' => ∃ (out : List (Int × Int)) (A' : Option Addr) (c' : Nat), out.length ≤ 13 ∧ e = .returned (.slice A' out.length c') ∧ RdT pairT w' A' out ∧ Below w.heap.size w w' := by
  have hC := Cur.new (c := c) h
  have hb0 : Below w.heap.size w (w.alloc (.cells #[.slice A l.length c, .int .i64 0, .int .u64 0] 60)) := (Below.refl _ _).alloc (Nat.le_refl _) _
  go_enter Try.func72, Try.ntmps72
  go_wp2_with fail
  refine (sheet_any w.heap.size c 0 A l _ hl (by omega) hC).mono ?_
  rintro e w1 ⟨out, A', c', hn, rfl, ho, hb⟩
  go_wp2
  go_ret
  exact ⟨out, A', c', hn, rfl, ho.rd, hb0.trans hb⟩
theorem drawHard_any (A : Option Addr) (c : Nat) (l : List (Fin 256)) (w : World) (hl : l.length ≤ 65536) (h : RdT byteT w A l) :
    Calls Try.prog 48 #[.slice A l.length c] w fun e w' => ∃ (out : List (Int × Int)) (A' : Option Addr) (c' : Nat), out.length ≤ 13 ∧ e = .returned (.slice A' out.length c') ∧ RdT pairT w' A' out ∧ Below w.heap.size w w' := by
  go_enter Try.func48, Try.ntmps48
  go_wp2_with fail
  refine (drawSheet_any A c l w hl h).mono ?_
  rintro e w1 ⟨out, A', c', hn, rfl, ho, hb⟩
  go_wp2
  go_ret
  exact ⟨out, A', c', hn, rfl, ho, hb⟩
theorem drawNo_any (A : Option Addr) (c : Nat) (l : List (Fin 256)) (w : World) (hl : l.length ≤ 65536) (h : RdT byteT w A l) :
    Calls Try.prog 49 #[.slice A l.length c] w fun e w' => ∃ (out : List (Int × Int)) (A' : Option Addr) (c' : Nat), out.length ≤ 13 ∧ e = .returned (.slice A' out.length c') ∧ RdT pairT w' A' out ∧ Below w.heap.size w w' := by
  go_enter Try.func49, Try.ntmps49
  go_wp2_with fail
  refine (drawSheet_any A c l w hl h).mono ?_
  rintro e w1 ⟨out, A', c', hn, rfl, ho, hb⟩
  go_wp2
  go_ret
  exact ⟨out, A', c', hn, rfl, ho, hb⟩
theorem drawTotal_any (A : Option Addr) (c : Nat) (l : List (Fin 256)) (w : World) (hl : l.length ≤ 65536) (h : RdT byteT w A l) :
    Calls Try.prog 50 #[.slice A l.length c] w fun e w' => ∃ (out : List (Int × Int)) (A' : Option Addr) (c' : Nat), out.length ≤ 13 ∧ e = .returned (.slice A' out.length c') ∧ RdT pairT w' A' out ∧ Below w.heap.size w w' := by
  go_enter Try.func50, Try.ntmps50
  go_wp2_with fail
  refine (drawSheet_any A c l w hl h).mono ?_
  rintro e w1 ⟨out, A', c', hn, rfl, ho, hb⟩
  go_wp2
  go_ret
  exact ⟨out, A', c', hn, rfl, ho, hb⟩
end Go.Proofs.Ytlmcnlakgjhalaa
