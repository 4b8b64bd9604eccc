/-
  Is a try passed; the sums by the reference: contracts.
-/
import Derived.Test.YthoojcmnkhhokaaGraE
import Derived.Test.YthoojcmnkhhokaaGraD
namespace Go.Proofs.Ythoojcmnkhhokaa
set_option maxRecDepth 100000
open Go.RowKit

theorem results_tmp3 {fn : Func} {t u v : Tmp} (h : fn.results = #[.tmp t, .tmp u, .tmp v]) (tmps : Array Value) (P : Program) (w : World) :
    (results fn tmps).run P w = .ok (.tuple #[tmps.getD t undef, tmps.getD u undef, tmps.getD v undef]) w := by simp [results, h]
def passB (s : List PartV) (l : List Int) : Bool := decide (misA s l s.length = 0) && decide (60 * fulA s s.length ≤ 100 * ptsA l s.length)
def honB (s : List PartV) (l : List Int) : Bool := decide (90 * fulA s s.length ≤ 100 * ptsA l s.length)

set_option maxHeartbeats 1600000 in
theorem isPassed_any (A : Option Addr) (c : Nat) (s : List PartV) (pu gr : Int) (B : Option Addr) (d : Nat) (l : List Int) (w : World) (hs : schB s = true) (ht : tryB s ⟨pu, gr, l⟩ = true) (h : RdT partT w A s) (hr : RdI w B l) :
    Calls Try.prog 83 #[.slice A s.length c, .agg #[.int .i64 pu, .int .i64 gr, .slice B l.length d]] w fun e w' => e = .returned (.bool (passB s l)) ∧ Below w.heap.size w w' := by
  obtain ⟨hl6, hls, ⟨hf1, hf2⟩, ⟨hp1, hp2⟩, ⟨hm1, hm2⟩⟩ := try_nums hs ht
  dsimp only at hls hp1 hp2 hm1 hm2
  have HM := Lib.hid (fun W g g2 => missing_any A c s pu gr B d l W hs ht g g2)
  have HS := Lib.hid (fun W (g : RdI W B l) => sumT_any hs ht B d W g)
  have HF := Lib.hid (fun W g => fullOf_any A c s W hs g)
  have HE : Hid (passB s l = (decide (misA s l s.length = 0) && decide (60 * fulA s s.length ≤ 100 * ptsA l s.length))) := Lib.hid rfl
  generalize passB s l = R at *
  dsimp only at HS
  obtain ⟨wb, hwb⟩ : ∃ wb : World, wb = w.alloc (.cells #[.int .i64 pu, .int .i64 gr, .slice B l.length d] 35) := ⟨_, rfl⟩
  have hbb : Below w.heap.size w wb := by rw [hwb]; exact (Below.refl _ _).alloc (Nat.le_refl _) _
  have BB : Blk wb w.heap.size 35 #[.int .i64 pu, .int .i64 gr, .slice B l.length d] := by rw [hwb]; exact Blk.new _ _ _
  have hbl := BB.lt
  have u2 : wb.cell? ⟨w.heap.size, 2, none⟩ = some (.slice B l.length d) := BB.cell 2
  have h := h.below hbb (Nat.le_refl _)
  have hr := hr.below hbb (Nat.le_refl _)
  clear hs ht BB hls
  generalize misA s l s.length = mi at *
  generalize fulA s s.length = fu at *
  generalize ptsA l s.length = pt at *
  have i1 : IntKind.i64.wrap (100 * pt) = 100 * pt := IntWalk.i64_in _ (by omega)
  have i2 : IntKind.i64.wrap (60 * fu) = 60 * fu := IntWalk.i64_in _ (by omega)
  go_enter Try.func83, Try.ntmps83
  go_wp2_with fail
  rw [← hwb]
  clear hwb
  refine (HM.out _ h hr).mono ?_
  rintro e w1 ⟨rfl, hb1⟩
  have v2 := (hb1.cell (p := ⟨w.heap.size, 2, none⟩) hbl).trans u2
  have hb2 := hbb.trans (hb1.mono hbb.size)
  have h := h.below hb1 (Nat.le_refl _)
  have hr := hr.below hb1 (Nat.le_refl _)
  clear u2 hb1 hbb
  by_cases hm : mi = 0
  · have d1 : (mi == 0) = true := by simp [hm]
    by_cases hpf : 60 * fu ≤ 100 * pt
    · have d2 : decide (60 * fu ≤ 100 * pt) = true := decide_eq_true hpf
      have E := Lib.hid (show R = true by rw [HE.out, hm, d2]; rfl)
      go_wp2_with (first | (go_at_call 77; refine (HS.out _ hr).mono ?_; rintro e w' ⟨rfl, rfl⟩) | (go_at_call 78; refine (HF.out _ h).mono ?_; rintro e w3 ⟨rfl, hb3⟩))
      go_ret
      exact ⟨by rw [E.out]; rfl, hb2.trans (hb3.mono hb2.size)⟩
    · have d2 : decide (60 * fu ≤ 100 * pt) = false := decide_eq_false hpf
      have E := Lib.hid (show R = false by rw [HE.out, d2]; simp)
      go_wp2_with (first | (go_at_call 77; refine (HS.out _ hr).mono ?_; rintro e w' ⟨rfl, rfl⟩) | (go_at_call 78; refine (HF.out _ h).mono ?_; rintro e w3 ⟨rfl, hb3⟩))
      go_ret
      exact ⟨by rw [E.out]; rfl, hb2.trans (hb3.mono hb2.size)⟩
  · have d1 : (mi == 0) = false := by simp [hm]
    have E := Lib.hid (show R = false by rw [HE.out, decide_eq_false hm]; rfl)
    go_wp2
    go_ret
    exact ⟨by rw [E.out]; rfl, hb2⟩

set_option maxHeartbeats 3200000 in
theorem l17Sums_any (A : Option Addr) (c : Nat) (s : List PartV) (pu gr : Int) (B : Option Addr) (d : Nat) (l : List Int) (w : World) (hs : schB s = true) (ht : tryB s ⟨pu, gr, l⟩ = true) (h : RdT partT w A s) (hr : RdI w B l) :
    Calls Try.prog 74 #[.slice A s.length c, .agg #[.int .i64 pu, .int .i64 gr, .slice B l.length d]] w fun e w' => e = .returned (.tuple #[.int .i64 (ptsA l s.length), .int .i64 (fulA s s.length), .int .i64 (misA s l s.length)]) ∧ Below w.heap.size w w' := by
  obtain ⟨hl6, hls, _, _, _⟩ := try_nums hs ht
  dsimp only at hls
  have hls1 : l.length ≤ s.length := Nat.le_of_eq hls
  have hls2 : s.length ≤ l.length := Nat.le_of_eq hls.symm
  have HB := Lib.hid (fun k hk => misA_bd hs ht k hk)
  have HB2 := Lib.hid (fun k hk => fulA_bd hs k hk)
  have HB3 := Lib.hid (fun k hk => ptsA_bd hs ht k hk)
  have HP := Lib.hid (fun k x hx => sch_part hs (k := k) (x := x) hx)
  have HT := Lib.hid (fun k n (hn : l[k]? = some n) => try_point hs ht (k := k) (n := n) hn)
  dsimp only at HB HB3
  have H0 := Lib.hid (misA_zero s l)
  have H1 := Lib.hid (fulA_zero s)
  have H2 := Lib.hid (ptsA_zero l)
  obtain ⟨wb, hwb⟩ : ∃ wb : World, wb = w.alloc (.cells #[.int .i64 pu, .int .i64 gr, .slice B l.length d] 35) := ⟨_, rfl⟩
  have hbb : Below w.heap.size w wb := by rw [hwb]; exact (Below.refl _ _).alloc (Nat.le_refl _) _
  have BB : Blk wb w.heap.size 35 #[.int .i64 pu, .int .i64 gr, .slice B l.length d] := by rw [hwb]; exact Blk.new _ _ _
  have hbl := BB.lt
  have u2 : wb.cell? ⟨w.heap.size, 2, none⟩ = some (.slice B l.length d) := BB.cell 2
  have h := h.below hbb (Nat.le_refl _)
  have hr := hr.below hbb (Nat.le_refl _)
  clear hs ht hls BB
  go_enter Try.func74, Try.ntmps74
  go_wp2
  rw [← hwb]
  clear hwb
  go_loopw [7, 8, 9, 10] (fun p q r i wr => ∃ k : Nat, k ≤ s.length ∧ i = .int .i64 k ∧ p = .int .i64 (ptsA l k) ∧ q = .int .i64 (fulA s k) ∧ r = .int .i64 (misA s l k) ∧ Below wb.heap.size wb wr) (fun _ _ _ i _ => s.length - (intOf i).toNat)
  case atStart => exact ⟨0, by omega, rfl, by rw [H2.out], by rw [H1.out], by rw [H0.out], Below.refl _ _⟩
  case round =>
    obtain ⟨k, hk, rfl, rfl, rfl, rfl, hb⟩ := hrel
    have hz := hb.size
    obtain ⟨hb1, hb2⟩ := HB.out k hk
    obtain ⟨hb3, hb4⟩ := HB2.out k hk
    obtain ⟨hb5, hb6⟩ := HB3.out k (by omega)
    by_cases hlt : k < s.length
    · obtain ⟨b, off, nm, fu, ne, rfl, hy, hlb2, hd0, hd1, hd2⟩ := partT_at (h.below hb (Nat.le_refl _)) hlt
      obtain ⟨b2, o2, x, rfl, hx, hlb3, hc⟩ := (hr.below hb (Nat.le_refl _)).at_ (k := k) (by omega)
      obtain ⟨⟨q1, q2⟩, p1, p2⟩ := HP.out k _ hy
      obtain ⟨p3, p4⟩ := HT.out k x hx
      dsimp only at p1 p2 q1 q2
      have v2 := (hb.cell (p := ⟨w.heap.size, 2, none⟩) hbl).trans u2
      have E := Lib.hid (show misA s l (k + 1) = misA s l k + max 0 (ne - x) from misA_succ hy hx)
      have E1 := Lib.hid (show fulA s (k + 1) = fulA s k + fu from fulA_succ hy)
      have E2 := Lib.hid (ptsA_succ hx)
      have i0 : IntKind.i64.wrap (ne - x) = ne - x := IntWalk.i64_in _ (by omega)
      have i1 : IntKind.i64.wrap (fulA s k + fu) = fulA s k + fu := IntWalk.i64_in _ (by omega)
      have i2 : IntKind.i64.wrap (ptsA l k + x) = ptsA l k + x := IntWalk.i64_in _ (by omega)
      have i3 : IntKind.i64.wrap (misA s l k + max 0 (ne - x)) = misA s l k + max 0 (ne - x) := IntWalk.i64_in _ (by omega)
      have j1 : (k : Int) < (l.length : Int) := by omega
      clear hy hx
      go_wp2_with fail
      go_quiet ((go_at_call 79; exact Calls.quiet_of_same (same_symm (l1Most_any _ _ _))))
      go_wp2
      go_roundw
      case rel => exact ⟨k + 1, by omega, by go_num, by rw [E2.out], by rw [E1.out], by rw [E.out], below_drewN hb _⟩
      case measure => simp [intOf]; omega
    · obtain rfl : k = s.length := by omega
      go_wp2
      refine bodyPost_ret (results_tmp3 rfl _ _ _) rfl ?_
      exact ⟨rfl, hbb.trans (hb.mono hbb.size)⟩

def failS : ByteArray := ⟨#[102, 97, 105, 108, 101, 100]⟩
def honorS : ByteArray := ⟨#[104, 111, 110, 111, 114]⟩
def passedS : ByteArray := ⟨#[112, 97, 115, 115, 101, 100]⟩
def resV (s : List PartV) (l : List Int) : ByteArray := if passB s l = true then (if honB s l = true then honorS else passedS) else failS
set_option maxHeartbeats 1600000 in
theorem l17Result_any (A : Option Addr) (c : Nat) (s : List PartV) (pu gr : Int) (B : Option Addr) (d : Nat) (l : List Int) (w : World) (hs : schB s = true) (ht : tryB s ⟨pu, gr, l⟩ = true) (h : RdT partT w A s) (hr : RdI w B l) :
    Calls Try.prog 82 #[.slice A s.length c, .agg #[.int .i64 pu, .int .i64 gr, .slice B l.length d]] w fun e w' => e = .returned (.string (resV s l)) ∧ Below w.heap.size w w' := by
  obtain ⟨hl6, hls, ⟨hf1, hf2⟩, ⟨hp1, hp2⟩, ⟨hm1, hm2⟩⟩ := try_nums hs ht
  dsimp only at hls hp1 hp2 hm1 hm2
  have HM := Lib.hid (fun W g g2 => l17Sums_any A c s pu gr B d l W hs ht g g2)
  have HE : Hid (resV s l = if (decide (misA s l s.length = 0) && decide (60 * fulA s s.length ≤ 100 * ptsA l s.length)) = true then (if decide (90 * fulA s s.length ≤ 100 * ptsA l s.length) = true then honorS else passedS) else failS) := Lib.hid rfl
  generalize resV s l = R at *
  have hbb : Below w.heap.size w (w.alloc (.cells #[.int .i64 pu, .int .i64 gr, .slice B l.length d] 35)) := (Below.refl _ _).alloc (Nat.le_refl _) _
  have h := h.below hbb (Nat.le_refl _)
  have hr := hr.below hbb (Nat.le_refl _)
  clear hs ht hls
  generalize misA s l s.length = mi at *
  generalize fulA s s.length = fu at *
  generalize ptsA l s.length = pt at *
  have i1 : IntKind.i64.wrap (100 * pt) = 100 * pt := IntWalk.i64_in _ (by omega)
  have i2 : IntKind.i64.wrap (60 * fu) = 60 * fu := IntWalk.i64_in _ (by omega)
  have i3 : IntKind.i64.wrap (90 * fu) = 90 * fu := IntWalk.i64_in _ (by omega)
  go_enter Try.func82, Try.ntmps82
  go_wp2_with fail
  refine (HM.out _ h hr).mono ?_
  rintro e w1 ⟨rfl, hb1⟩
  have hb2 := hbb.trans (hb1.mono hbb.size)
  clear hb1 hbb h hr HM
  by_cases hm : 0 < mi
  · have d1 : decide (0 < mi) = true := decide_eq_true hm
    have E := Lib.hid (show R = failS by rw [HE.out, decide_eq_false (show ¬ mi = 0 by omega)]; rfl)
    go_wp2
    go_ret
    exact ⟨by rw [E.out]; rfl, hb2⟩
  · have d1 : decide (0 < mi) = false := decide_eq_false hm
    by_cases hpf : 60 * fu ≤ 100 * pt
    · have d2 : decide (100 * pt < 60 * fu) = false := decide_eq_false (by omega)
      by_cases hpn : 90 * fu ≤ 100 * pt
      · have d3 : decide (90 * fu ≤ 100 * pt) = true := decide_eq_true hpn
        have E := Lib.hid (show R = honorS by rw [HE.out, decide_eq_true (show mi = 0 by omega), decide_eq_true hpf, d3]; rfl)
        go_wp2
        go_ret
        exact ⟨by rw [E.out]; rfl, hb2⟩
      · have d3 : decide (90 * fu ≤ 100 * pt) = false := decide_eq_false hpn
        have E := Lib.hid (show R = passedS by rw [HE.out, decide_eq_true (show mi = 0 by omega), decide_eq_true hpf, d3]; rfl)
        go_wp2
        go_ret
        exact ⟨by rw [E.out]; rfl, hb2⟩
    · have d2 : decide (100 * pt < 60 * fu) = true := decide_eq_true (by omega)
      have E := Lib.hid (show R = failS by rw [HE.out, decide_eq_false hpf]; simp)
      go_wp2
      go_ret
      exact ⟨by rw [E.out]; rfl, hb2⟩
end Go.Proofs.Ythoojcmnkhhokaa
