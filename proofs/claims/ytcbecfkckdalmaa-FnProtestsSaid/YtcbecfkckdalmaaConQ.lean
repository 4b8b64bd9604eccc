/-
  A protest: the reference's contract.
-/
import Derived.Test.YtcbecfkckdalmaaConP
namespace Go.Proofs.Ytcbecfkckdalmaa
open Go.RowKit

theorem gr_setCell (w : World) (a : Addr) (u : Value) : w.grownBy (w.setCell a u) (some a.block) := ⟨rfl, rfl, rfl, by simp, fun k _ hk => Below.heap_setCell w a u k (fun e => hk (by rw [e]))⟩
set_option maxRecDepth 100000 in
set_option maxHeartbeats 8000000 in
theorem protestS_any (A : Option Addr) (c : Nat) (l : List SolvedV) (p h : Int) (w : World) (hn : l.length ≤ 16777216) (hr : RdT solvedT w A l) :
    Calls Try.prog 30 #[.slice A l.length c, .int .i64 p, .int .i64 h] w (RetSolved w (proV l p h) (proOk l p h)) := by
  have hG := Lib.hid (fun W g => l18Good_any A c l W hn g)
  cases hg : goodB l
  · obtain ⟨e1, e2⟩ := pro_notgood (p := p) (h := h) hg
    have hlp : 0 < l.length := by
      rcases Nat.eq_zero_or_pos l.length with h0 | h0
      · have := goodB_good (l := l) (by omega) (by rw [h0]; unfold goodTo; rfl)
        rw [this] at hg; cases hg
      · exact h0
    rw [e1, e2]
    rw [hg] at hG
    clear e1 e2
    go_enter Try.func30, Try.ntmps30
    go_wp2_with fail
    go_loopw [8] (fun i wr => i = .int .i64 0 ∧ Below w.heap.size w wr) (fun i _ => 0)
    case atStart => exact ⟨rfl, Below.refl _ _⟩
    case round =>
      obtain ⟨rfl, hb⟩ := hrel
      have hz := hb.size
      have d0 : decide ((0 : Int) < (l.length : Int)) = true := decide_eq_true (by omega)
      have d1 : decide (0 < l.length) = true := decide_eq_true (by omega)
      go_wp2_with (go_at_call 69; refine (hG.out _ (hr.below hb (Nat.le_refl _))).mono ?_; rintro e w1 ⟨rfl, hb1⟩)
      go_ret2
      exact ⟨_, 0, rfl, ownSolved_empty w1 w.heap.size (Nat.le_trans hz hb1.size), (hb.trans (hb1.mono hz)).alloc (Nat.le_trans hz hb1.size) _⟩
  rw [hg] at hG
  have hl12 := goodB_len hg
  have HSB := Lib.hid (good_pair hg).2.1
  go_enter Try.func30, Try.ntmps30
  go_wp2_with fail
  go_loopw [8] (fun i wr => ∃ k : Nat, k ≤ l.length ∧ i = .int .i64 k ∧ Hid (proNo l p h k) ∧ Below w.heap.size w wr) (fun i _ => l.length - (intOf i).toNat)
  case atStart => exact ⟨0, by omega, rfl, Lib.hid (proNo_zero l p h), Below.refl _ _⟩
  case round =>
    obtain ⟨k, hk, rfl, HN, hb⟩ := hrel
    have hz := hb.size
    by_cases hlt : k < l.length
    · have d0 : decide (k < l.length) = true := decide_eq_true hlt
      go_wp2_with fail
      refine (hG.out _ (hr.below hb (Nat.le_refl _))).mono ?_
      rintro e w5 ⟨rfl, hb5⟩
      have hb6 := hb.trans (hb5.mono hz)
      have hz6 := hb6.size
      obtain ⟨b, off, p', h', r, q, t, rfl, hx, hlb, hc0, hc1, hc2, hc3, hc4⟩ := solvedT_at (hr.below hb6 (Nat.le_refl _)) hlt
      have hsb := solvedB_iff (HSB.out _ (List.mem_of_getElem? hx))
      dsimp only at hsb
      clear hb hb5
      by_cases hp : p' = p
      · by_cases hh : h' = h
        · subst hp hh
          by_cases hq : q ≤ 0
          · have HN2 := Lib.hid (proNo_bad hg hx ⟨rfl, rfl⟩ (mod_wrong hx hq))
            have d1 : decide (0 < q) = false := decide_eq_false (by omega)
            clear hx HN hsb
            go_wp2
            go_roundw
            case rel => exact ⟨k + 1, by omega, by go_num, HN2, hb6.alloc hz6 _⟩
            case measure => simp [intOf]; omega
          · have HA := Lib.hid (prAt_keep (pro_first hg hx ⟨rfl, rfl⟩) l.length (by omega))
            have HNB := Lib.hid (fun hm => proNo_bad hg hx ⟨rfl, rfl⟩ hm)
            have HML := Lib.hid (show modL l k = l.set k ⟨p', h', r + 1, q - 1, t⟩ from modL_at hx)
            have d1 : decide (0 < q) = true := decide_eq_true (by omega)
            have i1 : IntKind.i64.wrap (r + 1) = r + 1 := IntWalk.i64_in _ (by omega)
            have i2 : IntKind.i64.wrap (q - 1) = q - 1 := IntWalk.i64_in _ (by omega)
            have hm12 : (modL l k).length = l.length := modL_len l k
            have hM := fun A' c' W g' => l18Good_any A' c' (modL l k) W (by rw [hm12]; omega) g'
            rw [hm12] at hM
            have HM := Lib.hid hM
            have HM12 := Lib.hid hm12
            obtain ⟨wb, hwb⟩ : ∃ wb : World, wb = w5.alloc (.cells #[.int .i64 p', .int .i64 h', .int .i64 r, .int .i64 q, .int .i64 t] 25) := ⟨_, rfl⟩
            have hBb : Blk wb w5.heap.size 25 #[.int .i64 p', .int .i64 h', .int .i64 r, .int .i64 q, .int .i64 t] := by rw [hwb]; exact Blk.new _ _ _
            have hb7 : Below w.heap.size w wb := by rw [hwb]; exact hb6.alloc hz6 _
            have hzb : w5.heap.size < wb.heap.size := hBb.lt
            have he := ownSolved_empty wb wb.heap.size (Nat.le_refl _)
            have hbB : Below wb.heap.size wb (wb.alloc (.cells #[] 25)) := (Below.refl _ _).alloc (Nat.le_refl _) _
            have hr8 : RdT solvedT (wb.alloc (.cells #[] 25)) (some ⟨b, off, none⟩) l := (hr.below hb7 (Nat.le_refl _)).below ((Below.refl _ _).alloc (Nat.le_refl _) _) (Nat.le_refl _)
            have hzz : wb.heap.size ≤ (wb.alloc (.cells #[] 25)).heap.size := by simp
            have b0 : wb.cell? ⟨w5.heap.size, 0, none⟩ = some (.int .i64 p') := hBb.cell 0
            have b1 : wb.cell? ⟨w5.heap.size, 1, none⟩ = some (.int .i64 h') := hBb.cell 1
            have b3 : wb.cell? ⟨w5.heap.size, 3, none⟩ = some (.int .i64 q) := hBb.cell 3
            clear hx HN hsb hb6 hm12 hM b0 b1 b3
            have hsz : wb.heap.size = w5.heap.size + 1 := by rw [hwb]; simp
            rw [hsz] at he hbB hzz
            clear hsz hzb
            rw [hwb] at hBb hb7 he hbB hr8 hzz
            clear hwb
            go_wp2_with (at_builtin; refine wpList_spreadT solvedT rfl _ _ rfl _ _ [] rfl he _ hbB (some ⟨b, off, none⟩) l l.length _ rfl rfl hr8 (by simp; omega) hzz (Nat.le_refl _) ?_; intro A1 c1 w7 ho7 hb8 hgr7; simp only [List.length_nil, Nat.zero_add, List.nil_append] at ho7; obtain ⟨g, rfl, hgb, hgl⟩ := ho7.head (by omega); have hB7 := (hBb.alloc (.cells #[] 25)).gr hgr7 (fun e => by have e2 : some w5.heap.size = some (w5.heap.size + 1) := e; injection e2 with e2; omega); have hne : ¬ w5.heap.size = g := (by omega); have hne2 : ¬ g = w5.heap.size := (by omega); have k0 := hB7.cell 0; have k1 := hB7.cell 1; have k2 := hB7.cell 2; have k3 := hB7.cell 3; have k4 := hB7.cell 4; have kf := fun i => hB7.frozen i; have ho8 := (ho7.kept (gr_setCell w7 ⟨w5.heap.size, 3, none⟩ (.int .i64 (q - 1))) (.inr (fun e => hne2 (by have e2 : some g = some w5.heap.size := e; injection e2)))).kept (gr_setCell _ ⟨w5.heap.size, 2, none⟩ (.int .i64 (r + 1))) (.inr (fun e => hne2 (by have e2 : some g = some w5.heap.size := e; injection e2))); obtain ⟨q0, q1, q2, q3, q4, _, hq0, hq1, hq2, hq3, hq4, hf0, hf1, hf2, hf3, hf4⟩ := solved_own ho8 hlt)
            have hs := ho8.set hlt ⟨p', h', r + 1, q - 1, t⟩
            rw [← HML.out] at hs
            have hbF : Below w.heap.size w (((((((w7.setCell ⟨w5.heap.size, 3, none⟩ (.int .i64 (q - 1))).setCell ⟨w5.heap.size, 2, none⟩ (.int .i64 (r + 1))).setCell ⟨g, k * 5, none⟩ (.int .i64 p')).setCell ⟨g, k * 5 + 1, none⟩ (.int .i64 h')).setCell ⟨g, k * 5 + 2, none⟩ (.int .i64 (r + 1))).setCell ⟨g, k * 5 + 3, none⟩ (.int .i64 (q - 1))).setCell ⟨g, k * 5 + 4, none⟩ (.int .i64 t)) := ((((((((hb7.trans (hb8.mono (by omega))).setCell (by simp; omega) _).setCell (by simp; omega) _).setCell (by simp; omega) _).setCell (by simp; omega) _).setCell (by simp; omega) _).setCell (by simp; omega) _).setCell (by simp; omega) _)
            have hoF : OwnT solvedT (((((((w7.setCell ⟨w5.heap.size, 3, none⟩ (.int .i64 (q - 1))).setCell ⟨w5.heap.size, 2, none⟩ (.int .i64 (r + 1))).setCell ⟨g, k * 5, none⟩ (.int .i64 p')).setCell ⟨g, k * 5 + 1, none⟩ (.int .i64 h')).setCell ⟨g, k * 5 + 2, none⟩ (.int .i64 (r + 1))).setCell ⟨g, k * 5 + 3, none⟩ (.int .i64 (q - 1))).setCell ⟨g, k * 5 + 4, none⟩ (.int .i64 t)) (w5.heap.size + 1) (.slice (some ⟨g, 0, none⟩) l.length c1) (modL l k) := hs.1
            obtain ⟨wn, hwn⟩ : ∃ wn : World, wn = (((((((w7.setCell ⟨w5.heap.size, 3, none⟩ (.int .i64 (q - 1))).setCell ⟨w5.heap.size, 2, none⟩ (.int .i64 (r + 1))).setCell ⟨g, k * 5, none⟩ (.int .i64 p')).setCell ⟨g, k * 5 + 1, none⟩ (.int .i64 h')).setCell ⟨g, k * 5 + 2, none⟩ (.int .i64 (r + 1))).setCell ⟨g, k * 5 + 3, none⟩ (.int .i64 (q - 1))).setCell ⟨g, k * 5 + 4, none⟩ (.int .i64 t)) := ⟨_, rfl⟩
            rw [← hwn] at hbF hoF ⊢
            clear hwn hs ho7 ho8 hB7 hb8 hgr7 k0 k1 k2 k3 k4 kf hq0 hq1 hq2 hq3 hq4 hf0 hf1 hf2 hf3 hf4 hBb he hbB hr8 hc0 hc1 hc2 hc3 hc4
            refine (HM.out _ _ _ hoF.rd).mono ?_
            rintro e w9 ⟨rfl, hb9⟩
            have ho9 := hoF.below hb9 (Nat.le_refl _)
            have hbG := hbF.trans (hb9.mono hbF.size)
            clear hoF hbF hb9 HM
            cases hgm : goodB (modL l k)
            · have HN2 := Lib.hid (HNB.out hgm)
              go_wp2
              go_roundw
              case rel => exact ⟨k + 1, by omega, by go_num, HN2, hbG⟩
              case measure => simp [intOf]; omega
            · have HR := Lib.hid (pro_yes hg HA.out hgm)
              go_wp2
              go_ret2
              rw [HR.out.1, HR.out.2]
              exact ⟨some ⟨g, 0, none⟩, c1, by rw [HM12.out]; rfl, by rw [HM12.out]; exact ho9.mono (by omega), hbG⟩
        · have HN2 := Lib.hid (proNo_miss HN.out hx (fun e => hh e.2))
          have d1 : (p' == p) = true := by simp [hp]
          have d2 : (h' == h) = false := by simp [hh]
          clear hx HN hsb hp hh
          go_wp2
          go_roundw
          case rel => exact ⟨k + 1, by omega, by go_num, HN2, hb6.alloc hz6 _⟩
          case measure => simp [intOf]; omega
      · have HN2 := Lib.hid (proNo_miss HN.out hx (fun e => hp e.1))
        have d1 : (p' == p) = false := by simp [hp]
        clear hx HN hsb hp
        go_wp2
        go_roundw
        case rel => exact ⟨k + 1, by omega, by go_num, HN2, hb6.alloc hz6 _⟩
        case measure => simp [intOf]; omega
    · obtain rfl : k = l.length := by omega
      have HR := Lib.hid (proNo_end HN.out)
      have d0 : decide (l.length < l.length) = false := decide_eq_false (by omega)
      clear HN
      go_wp2
      go_ret2
      rw [HR.out.1, HR.out.2]
      exact ⟨_, 0, rfl, ownSolved_empty wr w.heap.size hz, hb.alloc hz _⟩
end Go.Proofs.Ytcbecfkckdalmaa
