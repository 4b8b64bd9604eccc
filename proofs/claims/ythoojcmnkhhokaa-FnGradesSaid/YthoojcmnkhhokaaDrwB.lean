/-
  The draw of a scheme.
-/
import Derived.Test.YthoojcmnkhhokaaDrwA
import Derived.Deep.DeepCutAuto
namespace Go.Proofs.Ythoojcmnkhhokaa
set_option maxRecDepth 100000
open Go.RowKit Go.Lib Go.Lib.Hx

set_option maxRecDepth 100000 in
set_option maxHeartbeats 16000000 in
theorem scheme17_any (g c P : Nat) (A : Option Addr) (l : List (Fin 256)) (w : World) (hl : l.length ≤ 65536) (hP : P ≤ 700000000) (h : Cur w g A c l P) :
    Calls Try.prog 92 #[.pointer (some ⟨g, 0, none⟩)] w (SchRes g c P A l w) := by
  have hgl := h.lt
  obtain ⟨w2, hw2⟩ : ∃ w2 : World, w2 = (w.alloc (.cells #[] 71)).alloc (.cells nmS 9) := ⟨_, rfl⟩
  obtain ⟨nb, hnb⟩ : ∃ nb : Nat, nb = w.heap.size + 1 := ⟨_, rfl⟩
  have HS2 : Sta partT w.heap.size w w2 g A c l P (.slice (some ⟨w.heap.size, 0, none⟩) 0 0) [] := by
    rw [hw2]
    exact ⟨(ownPart_empty w w.heap.size (Nat.le_refl _)).alloc _, (h.kept (World.grownBy_alloc w _ none) (by simp)).kept (World.grownBy_alloc _ _ none) (by simp), (World.grownBy_alloc w _ (some g)).trans (World.grownBy_alloc _ _ (some g)), by simp; omega, hgl, Nat.le_refl _⟩
  have BN2 : Blk w2 nb 9 nmS := by rw [hw2, hnb]; exact Blk.new1 w _ _ _
  have HNB := Lib.hid hnb
  have hgn : g < nb := by omega
  have hnw : w.heap.size < nb := by omega
  unfold nmS at hw2
  go_enter Try.func92, Try.ntmps92
  go_wp2
  rw [← hw2, ← hnb]
  clear hw2 hnb
  go_loopw [3, 5] (fun o i wr => ∃ (k : Nat) (out : List PartV) (A' : Option Addr) (c' : Nat), k ≤ 4 ∧ out.length ≤ k ∧ k ≤ out.length ∧ i = .int .i64 k ∧ o = .slice A' out.length c' ∧ Hid (smL out) ∧ Sta partT w.heap.size w wr g A c l (P + 10 * k) (.slice A' out.length c') out ∧ Blk wr nb 9 nmS) (fun _ i _ => 4 - (intOf i).toNat)
  case atStart => exact ⟨0, [], _, 0, by omega, Nat.le_refl _, Nat.le_refl _, rfl, rfl, Lib.hid smL_nil, HS2.more (by omega), BN2⟩
  case round =>
    obtain ⟨k, out, A', c', hk, ho1, ho2, rfl, rfl, HSM, HS, BN⟩ := hrel
    clear HS2 BN2
    go_upto_region 4 with fail
    go_cut [23] (fun s23 wx => ∃ b : Bool, s23 = .bool b ∧ (b = true → k < 4) ∧ (b = false → 0 < k) ∧ Sta partT w.heap.size w wx g A c l (P + 10 * k + 2) (.slice A' out.length c') out ∧ Blk wx nb 9 nmS)
    case first =>
      by_cases hk4 : k < 4
      · rcases (show k = 0 ∨ 0 < k by omega) with hk0 | hk0
        · have d0 : ((k : Int) == 0) = true := by rw [beq_iff_eq]; omega
          have HK := Lib.hid hk0
          clear hk0
          go_wp2_with fail
          go_meet
          exact ⟨true, rfl, fun _ => hk4, (fun h => by cases h), HS.more (by omega), BN⟩
        · have d0 : ((k : Int) == 0) = false := by rw [beq_eq_false_iff_ne]; omega
          go_wp2_with fail
          refine (one_any g c _ 3 A l _ hl (by omega) (by decide) (by decide) HS.cur).mono ?_
          rintro e wx ⟨b1, rfl, hc0, hgx⟩
          go_wp2_with fail
          go_meet
          exact ⟨!b1, rfl, fun _ => hk4, fun _ => hk0, HS.gr hgx hc0, BN.gr hgx (by simp; omega)⟩
      · go_wp2_with fail
        go_meet
        exact ⟨false, rfl, (fun h => by cases h), fun _ => by omega, HS.more (by omega), BN⟩
    case rest =>
      obtain ⟨b, rfl, hbt, hbf, HS, BN⟩ := hcut
      cases b
      · have hk0 := hbf rfl
        have hpos : 0 < out.length := by omega
        have hck : Cur wc g A c l (P + 10 * k + 2) := HS.cur
        clear hbt hbf BN
        go_wp2_with fail
        refine (pick_any g c _ out.length A l _ hl (by omega) hpos (by omega) hck).mono ?_
        rintro e w3 ⟨at_, hat, rfl, hc3, hg3⟩
        have HS3 := HS.gr hg3 hc3
        clear hck HS
        obtain ⟨gb, rfl, hgb, _⟩ := HS3.own.head hpos
        obtain ⟨nm, fu, ne, hxo, s0, s1, s2, f0, f1, f2⟩ := part_own HS3.own hat
        have hxx : nm.size ≤ 11 ∧ 0 ≤ fu ∧ fu ≤ 101 := HSM.out _ (List.mem_of_getElem? hxo)
        have j0 : (0 : Int) ≤ (at_ : Int) := by omega
        have j1 : (at_ : Int) < (out.length : Int) := by omega
        obtain ⟨w4, hw4⟩ : ∃ w4 : World, w4 = w3.alloc (.cells #[.string nm, .int .i64 fu, .int .i64 ne] 71) := ⟨_, rfl⟩
        obtain ⟨tb, htb⟩ : ∃ tb : Nat, tb = w3.heap.size := ⟨_, rfl⟩
        have hap : ApartV (boxV tb) (.slice (some ⟨gb, 0, none⟩) out.length c') := HS3.box (by omega)
        have hgt : w.heap.size ≤ tb := by have := HS3.size; omega
        have HS4 : Sta partT w.heap.size w w4 g A c l (P + 10 * k + 2 + 2) (.slice (some ⟨gb, 0, none⟩) out.length c') out := by rw [hw4]; exact HS3.alloc _
        have BT4 : Blk w4 tb 71 #[.string nm, .int .i64 fu, .int .i64 ne] := by rw [hw4, htb]; exact Blk.new w3 _ _
        clear HS3 hg3 hc3
        go_upto_region 11 with fail
        rw [← hw4, ← htb]
        clear hw4 htb s0 s1 s2 f0 f1 f2
        have hc4 := HS4.cur
        go_wp2_with fail
        refine (pick_any g c _ 60 A l _ hl (by omega) (by decide) (by decide) hc4).mono ?_
        rintro e w5 ⟨b, hb60, rfl, hc5, hg5⟩
        have HS5 := HS4.gr hg5 hc5
        have BT5 := BT4.gr hg5 (by simp; omega)
        clear HS4 BT4 hc4 hg5
        rcases (show b = 0 ∨ b = 1 ∨ b = 2 ∨ b = 3 ∨ b = 4 ∨ (¬ b = 0 ∧ ¬ b = 1 ∧ ¬ b = 2 ∧ ¬ b = 3 ∧ ¬ b = 4) by omega) with rfl | rfl | rfl | rfl | rfl | ⟨hn0, hn1, hn2, hn3, hn4⟩
        · go_wp2_with fail
          refine (of_lit g c _ A l [⟨#[]⟩, ⟨#[65]⟩, ⟨#[116, 105, 109, 101, 115]⟩, ⟨#[97, 98, 99, 100, 101, 102, 103, 104, 105, 106, 107]⟩] 4 w5 _ rfl rfl hl (by omega) (by decide) (by decide) hc5).mono ?_
          rintro e w6 ⟨z, hz, rfl, hc6, hg6⟩
          have HS6 := HS5.gr hg6 hc6
          have BT6 := BT5.gr hg6 (by simp; omega)
          clear HS5 BT5 hc5 hg6
          obtain ⟨w7, hw7⟩ : ∃ w7 : World, w7 = w6.setCell ⟨tb, 0, none⟩ (.string z) := ⟨_, rfl⟩
          have HS7 : Sta partT w.heap.size w w7 g A c l (P + 10 * k + 2 + 2 + 2 + 2) (.slice (some ⟨gb, 0, none⟩) out.length c') out := by rw [hw7]; exact HS6.put hap hgt _ _
          have BT7 : Blk w7 tb 71 #[.string z, .int .i64 fu, .int .i64 ne] := by rw [hw7]; exact BT6.set_ 0 _
          have q6 := BT6.frozen 0
          have q7 := BT6.cell 0
          go_upto_region 23 with fail
          rw [← hw7]
          clear hw7 q6 q7 BT6 HS6
          have hzz : z.size ≤ 11 := by
            simp only [List.mem_cons, List.mem_nil_iff, or_false] at hz
            rcases hz with rfl | rfl | rfl | rfl <;> decide
          have k0 := BT7.cell 0
          have k1 := BT7.cell 1
          have k2 := BT7.cell 2
          obtain ⟨_, _, _, _, s0, s1, s2, f0, f1, f2⟩ := part_own HS7.own (show at_ < out.length by omega)
          have HF := HS7.part_set (Q := P + 200) (show at_ < out.length by omega) z fu ne (by omega)
          go_wp2
          go_ret
          exact ⟨out.set at_ ⟨z, fu, ne⟩, _, _, by rw [List.length_set]; omega, smL_set HSM.out ⟨hzz, hxx.2⟩ at_, by rw [List.length_set]; rfl, HF⟩
        · go_wp2_with fail
          refine (among_lit g c _ A l [0, 101] 2 w5 _ rfl rfl hl (by omega) (by decide) (by decide) hc5).mono ?_
          rintro e w6 ⟨z, hz, rfl, hc6, hg6⟩
          have HS6 := HS5.gr hg6 hc6
          have BT6 := BT5.gr hg6 (by simp; omega)
          clear HS5 BT5 hc5 hg6
          obtain ⟨w7, hw7⟩ : ∃ w7 : World, w7 = w6.setCell ⟨tb, 1, none⟩ (.int .i64 z) := ⟨_, rfl⟩
          have HS7 : Sta partT w.heap.size w w7 g A c l (P + 10 * k + 2 + 2 + 2 + 2) (.slice (some ⟨gb, 0, none⟩) out.length c') out := by rw [hw7]; exact HS6.put hap hgt _ _
          have BT7 : Blk w7 tb 71 #[.string nm, .int .i64 z, .int .i64 ne] := by rw [hw7]; exact BT6.set_ 1 _
          have q6 := BT6.frozen 1
          have q7 := BT6.cell 1
          go_upto_region 23 with fail
          rw [← hw7]
          clear hw7 q6 q7 BT6 HS6
          have hzz : 0 ≤ z ∧ z ≤ 101 := by
            simp only [List.mem_cons, List.mem_nil_iff, or_false] at hz
            omega
          have k0 := BT7.cell 0
          have k1 := BT7.cell 1
          have k2 := BT7.cell 2
          obtain ⟨_, _, _, _, s0, s1, s2, f0, f1, f2⟩ := part_own HS7.own (show at_ < out.length by omega)
          have HF := HS7.part_set (Q := P + 200) (show at_ < out.length by omega) nm z ne (by omega)
          go_wp2
          go_ret
          exact ⟨out.set at_ ⟨nm, z, ne⟩, _, _, by rw [List.length_set]; omega, smL_set HSM.out ⟨hxx.1, hzz⟩ at_, by rw [List.length_set]; rfl, HF⟩
        · have e1 := BT5.cell 1
          have i2 : IntKind.i64.wrap (fu + 1) = fu + 1 := IntWalk.i64_in _ (by have := hxx.2; omega)
          go_wp2_with fail
          refine (among_lit g c _ A l [-1, fu + 1] 2 w5 _ rfl rfl hl (by omega) (by decide) (by decide) hc5).mono ?_
          rintro e w6 ⟨z, hz, rfl, hc6, hg6⟩
          have HS6 := HS5.gr hg6 hc6
          have BT6 := BT5.gr hg6 (by simp; omega)
          clear HS5 BT5 hc5 hg6
          obtain ⟨w7, hw7⟩ : ∃ w7 : World, w7 = w6.setCell ⟨tb, 2, none⟩ (.int .i64 z) := ⟨_, rfl⟩
          have HS7 : Sta partT w.heap.size w w7 g A c l (P + 10 * k + 2 + 2 + 2 + 2) (.slice (some ⟨gb, 0, none⟩) out.length c') out := by rw [hw7]; exact HS6.put hap hgt _ _
          have BT7 : Blk w7 tb 71 #[.string nm, .int .i64 fu, .int .i64 z] := by rw [hw7]; exact BT6.set_ 2 _
          have q6 := BT6.frozen 2
          have q7 := BT6.cell 2
          go_upto_region 23 with fail
          rw [← hw7]
          clear hw7 q6 q7 BT6 HS6
          have k0 := BT7.cell 0
          have k1 := BT7.cell 1
          have k2 := BT7.cell 2
          obtain ⟨_, _, _, _, s0, s1, s2, f0, f1, f2⟩ := part_own HS7.own (show at_ < out.length by omega)
          have HF := HS7.part_set (Q := P + 200) (show at_ < out.length by omega) nm fu z (by omega)
          go_wp2
          go_ret
          exact ⟨out.set at_ ⟨nm, fu, z⟩, _, _, by rw [List.length_set]; omega, smL_set HSM.out ⟨hxx.1, hxx.2⟩ at_, by rw [List.length_set]; rfl, HF⟩
        · have hcv := conv_one
          go_wp2
          go_loopw [3] (fun o wy => ∃ (o2 : List PartV) (A2 : Option Addr) (c2 : Nat), out.length ≤ o2.length ∧ o2.length ≤ 7 ∧ o = .slice A2 o2.length c2 ∧ Hid (smL o2) ∧ Sta partT w.heap.size w wy g A c l (P + 60 + 4 * o2.length) (.slice A2 o2.length c2) o2 ∧ Blk wy tb 71 #[.string nm, .int .i64 fu, .int .i64 ne] ∧ Hid (ApartV (boxV tb) (.slice A2 o2.length c2))) (fun o _ => 7 - (match o with | .slice _ n _ => n | _ => 0))
          case atStart => exact ⟨out, _, c', Nat.le_refl _, by omega, rfl, HSM, HS5.more (by omega), BT5, Lib.hid hap⟩
          case round =>
            obtain ⟨o2, A2, c2, hn1, hn2, rfl, HSM2, HS2, BT2, HA2⟩ := hrel
            clear HS5 BT5 hap
            have hc2 := HS2.cur
            go_wp2_with fail
            refine (pick_any g c _ 2 A l _ hl (by omega) (by decide) (by decide) hc2).mono ?_
            rintro e w6 ⟨b2, hb2, rfl, hc6, hg6⟩
            have HS6 := HS2.gr hg6 hc6
            have BT6 := BT2.gr hg6 (by simp; omega)
            have i1 : IntKind.i64.wrap (6 + (b2 : Int)) = 6 + (b2 : Int) := IntWalk.i64_in _ (by omega)
            clear HS2 BT2 hc2 hg6
            by_cases hlt : o2.length < 6 + b2
            · have d1 : decide (o2.length < 6 + b2) = true := decide_eq_true hlt
              have i2 : IntKind.i64.wrap (97 + (o2.length : Int)) = 97 + (o2.length : Int) := IntWalk.i64_in _ (by omega)
              have HS6a : Sta partT w.heap.size w (w6.alloc (.cells #[.int .u8 (97 + (o2.length : Int))] 5)) g A c l (P + 60 + 4 * o2.length + 2) (.slice A2 o2.length c2) o2 := HS6.alloc _
              go_wp2_with (at_builtin; refine wpList_appW partT rfl _ _ rfl w.heap.size _ _ rfl HS6a.own g HS6a.below ⟨⟨#[97 + UInt8.ofNat o2.length]⟩, 5, 0⟩ _ rfl (w6.heap.size + 1) (by simp) rfl (by omega) HS6a.size (by omega) ?_; intro A3 c3 w9 ho9 hb9 hg9 HA9)
              have HS9 := HS6a.app ho9 hg9
              have BT9 := ((BT6.alloc _).alloc _).gr hg9 (fun e => box_ne HA2.out e.symm)
              have HA10 := HA9.out (boxV tb) HA2.out (fun r hr => by cases hr; have := BT6.lt; simp; omega)
              go_roundw
              case rel => exact ⟨o2 ++ [⟨⟨#[97 + UInt8.ofNat o2.length]⟩, 5, 0⟩], A3, c3, by simp; omega, by simp; omega, by rw [List.length_append]; rfl, Lib.hid (smL_snoc HSM2.out ⟨by show 1 ≤ 11; omega, by show (0 : Int) ≤ 5; omega, by show (5 : Int) ≤ 101; omega⟩), (by rw [List.length_append]; exact HS9.more (by simp; omega)), BT9, Lib.hid (by rw [List.length_append]; exact HA10)⟩
              case measure => first | (simp; done) | (simp; omega)
            · have d1 : decide (o2.length < 6 + b2) = false := decide_eq_false hlt
              have hpo2 : 0 < o2.length := by omega
              obtain ⟨gb2, rfl, _, _⟩ := HS6.own.head hpo2
              obtain ⟨xo, hxo⟩ : ∃ xo, o2[at_]? = some xo := ⟨_, List.getElem?_eq_getElem (by omega)⟩
              have j1 : (at_ : Int) < (o2.length : Int) := by omega
              have k0 := BT6.cell 0
              have k1 := BT6.cell 1
              have k2 := BT6.cell 2
              obtain ⟨_, _, _, _, s0, s1, s2, f0, f1, f2⟩ := part_own HS6.own (show at_ < o2.length by omega)
              have HF := HS6.part_set (Q := P + 200) (show at_ < o2.length by omega) nm fu ne (by omega)
              go_wp2
              go_ret
              exact ⟨o2.set at_ ⟨nm, fu, ne⟩, _, _, by rw [List.length_set]; omega, smL_set HSM2.out ⟨hxx.1, hxx.2⟩ at_, by rw [List.length_set]; rfl, HF⟩
        · go_wp2
          go_ret
          exact ⟨[], _, c', by simp, smL_nil, rfl, own_cut HS5.own, HS5.cur.more (by omega), HS5.old, HS5.size, HS5.lo, HS5.le⟩
        · have k0 := BT5.cell 0
          have k1 := BT5.cell 1
          have k2 := BT5.cell 2
          obtain ⟨_, _, _, _, s0, s1, s2, f0, f1, f2⟩ := part_own HS5.own (show at_ < out.length by omega)
          have HF := HS5.part_set (Q := P + 200) (show at_ < out.length by omega) nm fu ne (by omega)
          go_wp2
          go_ret
          exact ⟨out.set at_ ⟨nm, fu, ne⟩, _, _, by rw [List.length_set]; omega, smL_set HSM.out ⟨hxx.1, hxx.2⟩ at_, by rw [List.length_set]; rfl, HF⟩
      · have hk4 := hbt rfl
        clear hbt hbf
        obtain ⟨s, hs, hss⟩ := nmS_at k hk4
        have cs : wc.cell? ⟨nb, k, none⟩ = some (.string s) := (BN.cell k).trans hs
        have hbl : nb < wc.heap.size := World.block_lt_of_cell? _ _ cs
        have j0 : (0 : Int) ≤ (k : Int) := by omega
        have j1 : (k : Int) < 4 := by omega
        go_upto_region 6 with fail
        go_cut [6] (fun s6 w6 => ∃ (tb : Nat) (x : Int), s6 = .pointer (some ⟨tb, 0, none⟩) ∧ x ∈ [1, 10, 20, 50, 100] ∧ nb < tb ∧ Sta partT w.heap.size w w6 g A c l (P + 10 * k + 4) (.slice A' out.length c') out ∧ Blk w6 nb 9 nmS ∧ Blk w6 tb 71 #[.string s, .int .i64 x, .int .i64 0] ∧ ApartV (boxV tb) (.slice A' out.length c'))
        case first =>
          obtain ⟨wx, rfl⟩ : ∃ wx : World, wx = wc := ⟨_, rfl⟩
          have hc0 := HS.cur
          have hne1 : ¬ nb = wx.heap.size := by omega
          have hne2 : ¬ nb = wx.heap.size + 1 := by omega
          have K1 : Calls Try.prog 99 #[.pointer (some ⟨g, 0, none⟩), .slice (some ⟨wx.heap.size, 0, none⟩) 5 5] (wx.alloc (.cells #[.int .i64 1, .int .i64 10, .int .i64 20, .int .i64 50, .int .i64 100] 3)).drew fun e w' => ∃ x, x ∈ [1, 10, 20, 50, 100] ∧ e = .returned (.int .i64 x) ∧ Cur w' g A c l (P + 10 * k + 2 + 2) ∧ wx.grownBy w' (some g) :=
            (among_litD g c _ A l [1, 10, 20, 50, 100] 5 wx _ rfl rfl hl (by omega) (by decide) (by decide) hc0).mono fun e w' ⟨x, h1, h2, h3, h4⟩ => ⟨x, h1, h2, h3, gr_of_drewD h4⟩
          have K2 : Calls Try.prog 99 #[.pointer (some ⟨g, 0, none⟩), .slice (some ⟨wx.heap.size + 1, 0, none⟩) 5 5] ((wx.alloc (.cells #[.string ⟨#[]⟩, .int .i64 0, .int .i64 0] 71)).alloc (.cells #[.int .i64 1, .int .i64 10, .int .i64 20, .int .i64 50, .int .i64 100] 3)).drew fun e w' => ∃ x, x ∈ [1, 10, 20, 50, 100] ∧ e = .returned (.int .i64 x) ∧ Cur w' g A c l (P + 10 * k + 2 + 2) ∧ (wx.alloc (.cells #[.string ⟨#[]⟩, .int .i64 0, .int .i64 0] 71)).grownBy w' (some g) :=
            (among_litD g c _ A l [1, 10, 20, 50, 100] 5 (wx.alloc (.cells #[.string ⟨#[]⟩, .int .i64 0, .int .i64 0] 71)) _ (by simp) rfl hl (by omega) (by decide) (by decide) (hc0.kept (World.grownBy_alloc _ _ none) (by simp))).mono fun e w' ⟨x, h1, h2, h3, h4⟩ => ⟨x, h1, h2, h3, gr_of_drewD h4⟩
          have K3 : Calls Try.prog 99 #[.pointer (some ⟨g, 0, none⟩), .slice (some ⟨wx.heap.size, 0, none⟩) 5 5] ((wx.alloc (.cells #[.int .i64 1, .int .i64 10, .int .i64 20, .int .i64 50, .int .i64 100] 3)).alloc (.cells #[.string ⟨#[]⟩, .int .i64 0, .int .i64 0] 71)).drew fun e w' => ∃ x, x ∈ [1, 10, 20, 50, 100] ∧ e = .returned (.int .i64 x) ∧ Cur w' g A c l (P + 10 * k + 2 + 2) ∧ ((wx.alloc (.cells #[.int .i64 1, .int .i64 10, .int .i64 20, .int .i64 50, .int .i64 100] 3)).alloc (.cells #[.string ⟨#[]⟩, .int .i64 0, .int .i64 0] 71)).grownBy w' (some g) :=
            (among_litE g c _ A l [1, 10, 20, 50, 100] 5 wx _ (.cells #[.string ⟨#[]⟩, .int .i64 0, .int .i64 0] 71) rfl rfl hl (by omega) (by decide) (by decide) hc0).mono fun e w' ⟨x, h1, h2, h3, h4⟩ => ⟨x, h1, h2, h3, gr_of_drewD h4⟩
          have PK := Lib.hid (And.intro HS BN)
          clear HS HSM BN HNB hc0
          go_region_held3 (fun wy => wy.cell? ⟨nb, k, none⟩ = some (.string s)) (((try dsimp only) <;> (first | (with_reducible assumption) | (with_reducible exact cell_drew cs) | (with_reducible exact cell_drew (box_old cs _)) | (with_reducible exact cell_drew (box_old (box_old cs _) _)) | (with_reducible exact box_old cs5 _) | (with_reducible exact cell_far3 cs5 (by first | exact hne1 | exact hne2) _ _ _)))) (first
            | (go_at_call 99; with_reducible refine K1.mono ?_; rintro e w5 ⟨x, hx, rfl, hc5, G5⟩; have cs5 : w5.cell? ⟨nb, k, none⟩ = some (.string s) := (G5.cell_far _ hbl (by simp; omega)).trans cs; have hne5 : ¬ nb = w5.heap.size := by have := G5.size; omega)
            | (go_at_call 99; with_reducible refine K2.mono ?_; rintro e w5 ⟨x, hx, rfl, hc5, hg5⟩; have G5 := (World.grownBy_alloc wx (.cells #[.string ⟨#[]⟩, .int .i64 0, .int .i64 0] 71) (some g)).trans hg5; have B5 : Blk w5 wx.heap.size 71 #[.string ⟨#[]⟩, .int .i64 0, .int .i64 0] := (Blk.new wx 71 #[.string ⟨#[]⟩, .int .i64 0, .int .i64 0]).gr hg5 (by simp; omega); have k0 := B5.cell 0; have k1 := B5.cell 1; have k2 := B5.cell 2; have q0 := B5.frozen 0; have q1 := B5.frozen 1; have q2 := B5.frozen 2; have cs5 : w5.cell? ⟨nb, k, none⟩ = some (.string s) := (G5.cell_far _ hbl (by simp; omega)).trans cs; have hne5 : ¬ nb = w5.heap.size := by have := G5.size; omega)
            | (go_at_call 99; with_reducible refine K3.mono ?_; rintro e w5 ⟨x, hx, rfl, hc5, hg5⟩; have G5 := ((World.grownBy_alloc wx _ (some g)).trans (World.grownBy_alloc _ (.cells #[.string ⟨#[]⟩, .int .i64 0, .int .i64 0] 71) (some g))).trans hg5; have B5 : Blk w5 (wx.heap.size + 1) 71 #[.string ⟨#[]⟩, .int .i64 0, .int .i64 0] := (Blk.new1 wx _ 71 #[.string ⟨#[]⟩, .int .i64 0, .int .i64 0]).gr hg5 (by simp; omega); have k0 := B5.cell 0; have k1 := B5.cell 1; have k2 := B5.cell 2; have q0 := B5.frozen 0; have q1 := B5.frozen 1; have q2 := B5.frozen 2; have cs5 : w5.cell? ⟨nb, k, none⟩ = some (.string s) := (G5.cell_far _ hbl (by simp; omega)).trans cs; have hne5 : ¬ nb = w5.heap.size := by have := G5.size; omega))
          all_goals (go_wp2_with fail; go_meet)
          · exact ⟨_, x, rfl, hx, (by have := G5.size; omega), (PK.out.1.gr (G5.trans (World.grownBy_alloc w5 _ (some g))) (hc5.kept (World.grownBy_alloc w5 _ none) (by simp))), PK.out.2.gr (G5.trans (World.grownBy_alloc w5 _ (some g))) (by simp; omega), Blk.new w5 _ _, PK.out.1.box (by have := G5.size; omega)⟩
          · exact ⟨_, x, rfl, hx, by omega, (PK.out.1.gr (gr_set3 G5 (Nat.le_succ _) _ _ _) (hc5.set3 (by omega) _ _ _)), PK.out.2.gr (gr_set3 G5 (Nat.le_succ _) _ _ _) (by simp; omega), ((B5.set_ 0 _).set_ 1 _).set_ 2 _, PK.out.1.box (by omega)⟩
          · exact ⟨_, x, rfl, hx, by omega, (PK.out.1.gr (gr_set3 G5 (Nat.le_refl _) _ _ _) (hc5.set3 (by omega) _ _ _)), PK.out.2.gr (gr_set3 G5 (Nat.le_refl _) _ _ _) (by simp; omega), ((B5.set_ 0 _).set_ 1 _).set_ 2 _, PK.out.1.box (by omega)⟩
        case rest =>
          obtain ⟨tb, x, rfl, hx, htb, HS, BN, BT, hap⟩ := hcut
          clear cs hbl
          have k0 := BT.cell 0
          have k1 := BT.cell 1
          have k2 := BT.cell 2
          have q2 := BT.frozen 2
          have hxx : 1 ≤ x ∧ x ≤ 100 := by
            simp only [List.mem_cons, List.mem_nil_iff, or_false] at hx
            omega
          clear hx
          have d2 : IntKind.i64.wrap (Int.tdiv x 2) = x / 2 := by rw [Int.tdiv_eq_ediv_of_nonneg (by omega)]; exact IntWalk.i64_in _ (by omega)
          go_wp2_with fail
          refine (among_lit g c _ A l [0, x / 2, x] 3 wc _ rfl rfl hl (by omega) (by decide) (by decide) HS.cur).mono ?_
          rintro e w7 ⟨y, _, rfl, hc7, hg7⟩
          have HS7 := HS.gr hg7 hc7
          have BN7 := BN.gr hg7 (by simp; omega)
          have BT7 := BT.gr hg7 (by simp; omega)
          clear k0 k1 k2 q2 HS BN BT hg7 hc7 d2
          obtain ⟨w8, hw8⟩ : ∃ w8 : World, w8 = w7.setCell ⟨tb, 2, none⟩ (.int .i64 y) := ⟨_, rfl⟩
          have HS8 : Sta partT w.heap.size w w8 g A c l (P + 10 * k + 4 + 2) (.slice A' out.length c') out := by rw [hw8]; exact HS7.put hap (by omega) _ _
          have BN8 : Blk w8 nb 9 nmS := by rw [hw8]; exact BN7.far (by simp; omega) _
          have BT8 : Blk w8 tb 71 #[.string s, .int .i64 x, .int .i64 y] := by rw [hw8]; exact BT7.set_ 2 _
          have q2 := BT7.frozen 2
          have q3 := BT7.cell 2
          clear HS7 BN7
          go_upto_region 8 with fail
          rw [← hw8]
          clear hw8 q2 q3 BT7
          have k0 := BT8.cell 0
          have k1 := BT8.cell 1
          have k2 := BT8.cell 2
          go_wp2_with (at_builtin; refine wpList_appT partT rfl _ _ rfl w.heap.size _ _ rfl HS8.own g HS8.below ⟨s, x, y⟩ _ rfl 1 1 rfl rfl (by omega) HS8.size (by omega) ?_; intro A3 c3 w9 ho9 hb9 hg9)
          have HS9 := HS8.app ho9 hg9
          have BN9 := (BN8.alloc _).gr hg9 (BN8.ne_v HS8.own (by decide))
          go_roundw
          case rel => exact ⟨k + 1, out ++ [⟨s, x, y⟩], A3, c3, by omega, by simp; omega, by simp; omega, by go_num, by rw [List.length_append]; rfl, Lib.hid (smL_snoc HSM.out ⟨hss, by show (0 : Int) ≤ x; omega, by show x ≤ 101; omega⟩), (by rw [List.length_append]; exact HS9.more (by omega)), BN9⟩
          case measure => first | (simp [intOf]; done) | (simp [intOf]; omega)
end Go.Proofs.Ythoojcmnkhhokaa
