/-
  The percents, the missing points and the result of a try: contracts.
-/
import Derived.Test.YthoojcmnkhhokaaGraF
namespace Go.Proofs.Ythoojcmnkhhokaa
set_option maxRecDepth 100000
open Go.RowKit

theorem RdT.regrown {α : Type} {T : Ty α} {w : World} {A : Option Addr} {l : List α} (h : RdT T w A l) (d : Nat) (os : Array Obj) : RdT T (Sort.grow (redrawn w d) os) A l := h.below (below_regrown w d os) (Nat.le_refl _)
theorem RdI.regrown {w : World} {A : Option Addr} {l : List Int} (h : RdI w A l) (d : Nat) (os : Array Obj) : RdI (Sort.grow (redrawn w d) os) A l := h.below (below_regrown w d os) (Nat.le_refl _)
/-- The facts of a call with a try by value: its box. -/
theorem try_box (w : World) (pu gr : Int) (B : Option Addr) (n d : Nat) : ∃ wb : World, wb = w.alloc (.cells #[.int .i64 pu, .int .i64 gr, .slice B n d] 35) ∧ Below w.heap.size w wb ∧ w.heap.size < wb.heap.size ∧ wb.cell? ⟨w.heap.size, 0, none⟩ = some (.int .i64 pu) ∧ wb.cell? ⟨w.heap.size, 1, none⟩ = some (.int .i64 gr) ∧ wb.cell? ⟨w.heap.size, 2, none⟩ = some (.slice B n d) :=
  ⟨_, rfl, (Below.refl _ _).alloc (Nat.le_refl _) _, by simp, (Blk.new _ _ _).cell 0, (Blk.new _ _ _).cell 1, (Blk.new _ _ _).cell 2⟩
def perV (s : List PartV) (t : TryV) : Int := if oneB s t = true then 100 * ptsA t.points s.length / fulA s s.length else 0
theorem perV_no {s : List PartV} {t : TryV} (h : oneB s t = false) : perV s t = 0 := if_neg (by simp [h])
theorem perV_yes {s : List PartV} {t : TryV} (h : oneB s t = true) : perV s t = 100 * ptsA t.points s.length / fulA s s.length := if_pos h

set_option maxHeartbeats 3200000 in
theorem percentI_any (A : Option Addr) (c : Nat) (s : List PartV) (pu gr : Int) (B : Option Addr) (d : Nat) (l : List Int) (w : World) (hn : s.length ≤ 16777216) (hcap : s.length ≤ c) (h : RdT partT w A s) (hok : ∀ x ∈ s, x.ok) (hm : l.length ≤ 16777216) (hr : RdI w B l) :
    Calls Try.prog 23 #[.slice A s.length c, .agg #[.int .i64 pu, .int .i64 gr, .slice B l.length d]] w (RetN w (perV s ⟨pu, gr, l⟩) (oneB s ⟨pu, gr, l⟩)) := by
  have hS := Lib.hid (fun W g => isScheme_any A c s W hn hcap g hok)
  have hT := Lib.hid (fun W g g2 => isTry_any A c s pu gr B d l W hn hm g g2)
  obtain ⟨wb, hwb, hbb, hbl, u0, u1, u2⟩ := try_box w pu gr B l.length d
  have h := h.below hbb (Nat.le_refl _)
  have hr := hr.below hbb (Nat.le_refl _)
  cases gs : schB s
  · have e : oneB s ⟨pu, gr, l⟩ = false := by unfold oneB; rw [gs]; rfl
    rw [perV_no e, e]
    go_enter Try.func23, Try.ntmps23
    go_wp2_with fail
    rw [← hwb]
    clear hwb
    refine (hS.out _ h).mono ?_
    rintro e w1 ⟨rfl, hb1⟩
    go_wp2
    go_ret2
    exact ⟨rfl, hbb.trans (hb1.mono hbb.size)⟩
  cases gt : tryB s ⟨pu, gr, l⟩
  · have e : oneB s ⟨pu, gr, l⟩ = false := by unfold oneB; rw [gs, gt]; rfl
    rw [perV_no e, e]
    rw [gt] at hT
    go_enter Try.func23, Try.ntmps23
    go_wp2_with fail
    rw [← hwb]
    clear hwb
    refine (hS.out _ h).mono ?_
    rintro e w1 ⟨rfl, hb1⟩
    rw [gs]
    have v0 := (hb1.cell (p := ⟨w.heap.size, 0, none⟩) hbl).trans u0
    have v1 := (hb1.cell (p := ⟨w.heap.size, 1, none⟩) hbl).trans u1
    have v2 := (hb1.cell (p := ⟨w.heap.size, 2, none⟩) hbl).trans u2
    have hb2 := hbb.trans (hb1.mono hbb.size)
    go_wp2_with fail
    refine (hT.out _ (h.below hb1 (Nat.le_refl _)) (hr.below hb1 (Nat.le_refl _))).mono ?_
    rintro e w3 ⟨rfl, hb3⟩
    go_wp2
    go_ret2
    exact ⟨rfl, hb2.trans (hb3.mono hb2.size)⟩
  · have e : oneB s ⟨pu, gr, l⟩ = true := by unfold oneB; rw [gs, gt]; rfl
    obtain ⟨hl6, hls, ⟨hf1, hf2⟩, ⟨hp1, hp2⟩, ⟨hm1, hm2⟩⟩ := try_nums gs gt
    dsimp only at hls hp1 hp2 hm1 hm2
    have HS := Lib.hid (fun W (g : RdI W B l) => sumT_any gs gt B d W g)
    have HF := Lib.hid (fun W g => fullOf_any A c s W gs g)
    dsimp only at HS
    rw [perV_yes e, e]
    rw [gt] at hT
    dsimp only
    clear hls hm1 hm2
    generalize fulA s s.length = fu at *
    generalize ptsA l s.length = pt at *
    have i1 : IntKind.i64.wrap (100 * pt) = 100 * pt := IntWalk.i64_in _ (by omega)
    go_enter Try.func23, Try.ntmps23
    go_wp2_with fail
    rw [← hwb]
    clear hwb
    refine (hS.out _ h).mono ?_
    rintro e w1 ⟨rfl, hb1⟩
    rw [gs]
    have v0 := (hb1.cell (p := ⟨w.heap.size, 0, none⟩) hbl).trans u0
    have v1 := (hb1.cell (p := ⟨w.heap.size, 1, none⟩) hbl).trans u1
    have v2 := (hb1.cell (p := ⟨w.heap.size, 2, none⟩) hbl).trans u2
    have hl1 : w.heap.size < w1.heap.size := World.block_lt_of_cell? w1 _ v2
    have hb2 := hbb.trans (hb1.mono hbb.size)
    have h1 := h.below hb1 (Nat.le_refl _)
    have hr1 := hr.below hb1 (Nat.le_refl _)
    clear hb1 hbb u0 u1 u2
    go_wp2_with fail
    refine (hT.out _ h1 hr1).mono ?_
    rintro e w3 ⟨rfl, hb3⟩
    have x2 := (hb3.cell (p := ⟨w.heap.size, 2, none⟩) hl1).trans v2
    have h3 := h1.below hb3 (Nat.le_refl _)
    have hr3 := hr1.below hb3 (Nat.le_refl _)
    have hb4 := hb2.trans (hb3.mono hb2.size)
    clear hb3 v0 v1 v2
    go_wp2_with (first | (go_at_call 77; refine (HS.out _ hr3).mono ?_; rintro e w' ⟨rfl, rfl⟩) | (go_at_call 78; refine (HF.out _ h3).mono ?_; rintro e w5 ⟨rfl, hb5⟩))
    go_ret2
    exact ⟨rfl, hb4.trans (hb5.mono hb4.size)⟩
set_option maxHeartbeats 3200000 in
theorem percentS_any (A : Option Addr) (c : Nat) (s : List PartV) (pu gr : Int) (B : Option Addr) (d : Nat) (l : List Int) (w : World) (hn : s.length ≤ 16777216) (_hcap : s.length ≤ c) (h : RdT partT w A s) (hok : ∀ x ∈ s, x.ok) (hm : l.length ≤ 16777216) (hr : RdI w B l) :
    Calls Try.prog 21 #[.slice A s.length c, .agg #[.int .i64 pu, .int .i64 gr, .slice B l.length d]] w (RetN w (perV s ⟨pu, gr, l⟩) (oneB s ⟨pu, gr, l⟩)) := by
  have hO := Lib.hid (fun W g g2 => l17One_any A c s pu gr B d l W hn hm g hok g2)
  obtain ⟨wb, hwb, hbb, hbl, u0, u1, u2⟩ := try_box w pu gr B l.length d
  have h := h.below hbb (Nat.le_refl _)
  have hr := hr.below hbb (Nat.le_refl _)
  cases go : oneB s ⟨pu, gr, l⟩
  · rw [perV_no go]
    rw [go] at hO
    go_enter Try.func21, Try.ntmps21
    go_wp2_with fail
    rw [← hwb]
    clear hwb
    refine (hO.out _ h hr).mono ?_
    rintro e w1 ⟨rfl, hb1⟩
    go_wp2
    go_ret2
    exact ⟨rfl, hbb.trans (hb1.mono hbb.size)⟩
  · have gs : schB s = true := by unfold oneB at go; simp only [Bool.and_eq_true] at go; exact go.1
    have gt : tryB s ⟨pu, gr, l⟩ = true := by unfold oneB at go; simp only [Bool.and_eq_true] at go; exact go.2
    obtain ⟨hl6, hls, ⟨hf1, hf2⟩, ⟨hp1, hp2⟩, ⟨hm1, hm2⟩⟩ := try_nums gs gt
    dsimp only at hls hp1 hp2 hm1 hm2
    have HU := Lib.hid (fun W g g2 => l17Sums_any A c s pu gr B d l W gs gt g g2)
    rw [perV_yes go]
    rw [go] at hO
    dsimp only
    clear hls
    generalize misA s l s.length = mi at *
    generalize fulA s s.length = fu at *
    generalize ptsA l s.length = pt at *
    have i1 : IntKind.i64.wrap (100 * pt) = 100 * pt := IntWalk.i64_in _ (by omega)
    go_enter Try.func21, Try.ntmps21
    go_wp2_with fail
    rw [← hwb]
    clear hwb
    refine (hO.out _ h hr).mono ?_
    rintro e w1 ⟨rfl, hb1⟩
    have v0 := (hb1.cell (p := ⟨w.heap.size, 0, none⟩) hbl).trans u0
    have v1 := (hb1.cell (p := ⟨w.heap.size, 1, none⟩) hbl).trans u1
    have v2 := (hb1.cell (p := ⟨w.heap.size, 2, none⟩) hbl).trans u2
    have hb2 := hbb.trans (hb1.mono hbb.size)
    have h1 := h.below hb1 (Nat.le_refl _)
    have hr1 := hr.below hb1 (Nat.le_refl _)
    clear hb1 hbb u0 u1 u2
    go_wp2_with fail
    refine (HU.out _ h1 hr1).mono ?_
    rintro e w3 ⟨rfl, hb3⟩
    have hb4 := hb2.trans (hb3.mono hb2.size)
    clear hb3 v0 v1 v2
    go_wp2
    go_ret2
    exact ⟨rfl, hb4⟩
def pmV (s : List PartV) (t : TryV) : Int := if oneB s t = true then max (misA s t.points s.length) ((60 * fulA s s.length + 99) / 100 - ptsA t.points s.length) else 0
theorem pmV_no {s : List PartV} {t : TryV} (h : oneB s t = false) : pmV s t = 0 := if_neg (by simp [h])
theorem pmV_yes {s : List PartV} {t : TryV} (h : oneB s t = true) : pmV s t = max (misA s t.points s.length) ((60 * fulA s s.length + 99) / 100 - ptsA t.points s.length) := if_pos h

set_option maxHeartbeats 3200000 in
theorem missI_any (A : Option Addr) (c : Nat) (s : List PartV) (pu gr : Int) (B : Option Addr) (d : Nat) (l : List Int) (w : World) (hn : s.length ≤ 16777216) (hcap : s.length ≤ c) (h : RdT partT w A s) (hok : ∀ x ∈ s, x.ok) (hm : l.length ≤ 16777216) (hr : RdI w B l) :
    Calls Try.prog 26 #[.slice A s.length c, .agg #[.int .i64 pu, .int .i64 gr, .slice B l.length d]] w (RetN w (pmV s ⟨pu, gr, l⟩) (oneB s ⟨pu, gr, l⟩)) := by
  have hS := Lib.hid (fun W g => isScheme_any A c s W hn hcap g hok)
  have hT := Lib.hid (fun W g g2 => isTry_any A c s pu gr B d l W hn hm g g2)
  obtain ⟨wb, hwb, hbb, hbl, u0, u1, u2⟩ := try_box w pu gr B l.length d
  have h := h.below hbb (Nat.le_refl _)
  have hr := hr.below hbb (Nat.le_refl _)
  cases gs : schB s
  · have e : oneB s ⟨pu, gr, l⟩ = false := by unfold oneB; rw [gs]; rfl
    rw [pmV_no e, e]
    go_enter Try.func26, Try.ntmps26
    go_wp2_with fail
    rw [← hwb]
    clear hwb
    refine (hS.out _ h).mono ?_
    rintro e w1 ⟨rfl, hb1⟩
    go_wp2
    go_ret2
    exact ⟨rfl, hbb.trans (hb1.mono hbb.size)⟩
  cases gt : tryB s ⟨pu, gr, l⟩
  · have e : oneB s ⟨pu, gr, l⟩ = false := by unfold oneB; rw [gs, gt]; rfl
    rw [pmV_no e, e]
    rw [gt] at hT
    go_enter Try.func26, Try.ntmps26
    go_wp2_with fail
    rw [← hwb]
    clear hwb
    refine (hS.out _ h).mono ?_
    rintro e w1 ⟨rfl, hb1⟩
    rw [gs]
    have v0 := (hb1.cell (p := ⟨w.heap.size, 0, none⟩) hbl).trans u0
    have v1 := (hb1.cell (p := ⟨w.heap.size, 1, none⟩) hbl).trans u1
    have v2 := (hb1.cell (p := ⟨w.heap.size, 2, none⟩) hbl).trans u2
    have hb2 := hbb.trans (hb1.mono hbb.size)
    go_wp2_with fail
    refine (hT.out _ (h.below hb1 (Nat.le_refl _)) (hr.below hb1 (Nat.le_refl _))).mono ?_
    rintro e w3 ⟨rfl, hb3⟩
    go_wp2
    go_ret2
    exact ⟨rfl, hb2.trans (hb3.mono hb2.size)⟩
  · have e : oneB s ⟨pu, gr, l⟩ = true := by unfold oneB; rw [gs, gt]; rfl
    obtain ⟨hl6, hls, ⟨hf1, hf2⟩, ⟨hp1, hp2⟩, ⟨hm1, hm2⟩⟩ := try_nums gs gt
    dsimp only at hls hp1 hp2 hm1 hm2
    have HM := Lib.hid (fun W g g2 => missing_any A c s pu gr B d l W gs gt g g2)
    have HS := Lib.hid (fun W (g : RdI W B l) => sumT_any gs gt B d W g)
    have HF := Lib.hid (fun W g => fullOf_any A c s W gs g)
    dsimp only at HS
    rw [pmV_yes e, e]
    rw [gt] at hT
    dsimp only
    clear hls
    generalize misA s l s.length = mi at *
    generalize fulA s s.length = fu at *
    generalize ptsA l s.length = pt at *
    have i1 : IntKind.i64.wrap (60 * fu) = 60 * fu := IntWalk.i64_in _ (by omega)
    have i2 : IntKind.i64.wrap (60 * fu + 99) = 60 * fu + 99 := IntWalk.i64_in _ (by omega)
    have i3 : IntKind.i64.wrap ((60 * fu + 99) / 100 - pt) = (60 * fu + 99) / 100 - pt := IntWalk.i64_in _ (by omega)
    have i4 : IntKind.i64.wrap ((60 * fu + 99) / 100) = (60 * fu + 99) / 100 := IntWalk.i64_in _ (by omega)
    have i5 : Int.tdiv (60 * fu + 99) 100 = (60 * fu + 99) / 100 := Int.tdiv_eq_ediv_of_nonneg (by omega)
    go_enter Try.func26, Try.ntmps26
    go_wp2_with fail
    rw [← hwb]
    clear hwb
    refine (hS.out _ h).mono ?_
    rintro e w1 ⟨rfl, hb1⟩
    rw [gs]
    have v0 := (hb1.cell (p := ⟨w.heap.size, 0, none⟩) hbl).trans u0
    have v1 := (hb1.cell (p := ⟨w.heap.size, 1, none⟩) hbl).trans u1
    have v2 := (hb1.cell (p := ⟨w.heap.size, 2, none⟩) hbl).trans u2
    have hl1 : w.heap.size < w1.heap.size := World.block_lt_of_cell? w1 _ v2
    have hb2 := hbb.trans (hb1.mono hbb.size)
    have h1 := h.below hb1 (Nat.le_refl _)
    have hr1 := hr.below hb1 (Nat.le_refl _)
    clear hb1 hbb u0 u1 u2
    go_wp2_with fail
    refine (hT.out _ h1 hr1).mono ?_
    rintro e w3 ⟨rfl, hb3⟩
    have x0 := cell_regrown ((hb3.cell (p := ⟨w.heap.size, 0, none⟩) hl1).trans v0)
    have x1 := cell_regrown ((hb3.cell (p := ⟨w.heap.size, 1, none⟩) hl1).trans v1)
    have x2 := cell_regrown ((hb3.cell (p := ⟨w.heap.size, 2, none⟩) hl1).trans v2)
    have h3 := h1.below hb3 (Nat.le_refl _)
    have hr3 := hr1.below hb3 (Nat.le_refl _)
    have hb4 := hb2.trans (hb3.mono hb2.size)
    clear hb3 v0 v1 v2
    by_cases hmx : mi < (60 * fu + 99) / 100 - pt
    · have dm : decide (mi < (60 * fu + 99) / 100 - pt) = true := decide_eq_true hmx
      have e1 : max mi ((60 * fu + 99) / 100 - pt) = (60 * fu + 99) / 100 - pt := by omega
      have HE1 := Lib.hid e1
      clear e1
      go_wp2_with fail
      refine wp_region_quiet_below (by kernel_rfl) (by kernel_rfl) ?_
      repeat (go_big_quiet_step (((first | (go_at_call 80; exact Calls.regrown_of (HM.out _ (h3.regrown _ _) (hr3.regrown _ _))) | (go_at_call 78; exact Calls.regrown_of (HF.out _ (h3.regrown _ _))) | (go_at_call 77; exact Calls.regrown_of ((HS.out _ (hr3.regrown _ _)).mono fun e w' ⟨q, q2⟩ => ⟨q, by rw [← q2]; exact Below.refl _ _⟩))))))
      refine wpQuiet_nil ?_
      intro w5 hw'
      have hb5 := below_of_class hw'
      clear hw'
      go_wp2
      go_ret2
      exact ⟨by rw [HE1.out]; rfl, hb4.trans (hb5.mono hb4.size)⟩
    · have dm : decide (mi < (60 * fu + 99) / 100 - pt) = false := decide_eq_false hmx
      have e1 : max mi ((60 * fu + 99) / 100 - pt) = mi := by omega
      have HE1 := Lib.hid e1
      clear e1
      go_wp2_with fail
      refine wp_region_quiet_below (by kernel_rfl) (by kernel_rfl) ?_
      repeat (go_big_quiet_step (((first | (go_at_call 80; exact Calls.regrown_of (HM.out _ (h3.regrown _ _) (hr3.regrown _ _))) | (go_at_call 78; exact Calls.regrown_of (HF.out _ (h3.regrown _ _))) | (go_at_call 77; exact Calls.regrown_of ((HS.out _ (hr3.regrown _ _)).mono fun e w' ⟨q, q2⟩ => ⟨q, by rw [← q2]; exact Below.refl _ _⟩))))))
      refine wpQuiet_nil ?_
      intro w5 hw'
      have hb5 := below_of_class hw'
      clear hw'
      go_wp2
      go_ret2
      exact ⟨by rw [HE1.out]; rfl, hb4.trans (hb5.mono hb4.size)⟩
set_option maxHeartbeats 3200000 in
theorem missS_any (A : Option Addr) (c : Nat) (s : List PartV) (pu gr : Int) (B : Option Addr) (d : Nat) (l : List Int) (w : World) (hn : s.length ≤ 16777216) (_hcap : s.length ≤ c) (h : RdT partT w A s) (hok : ∀ x ∈ s, x.ok) (hm : l.length ≤ 16777216) (hr : RdI w B l) :
    Calls Try.prog 25 #[.slice A s.length c, .agg #[.int .i64 pu, .int .i64 gr, .slice B l.length d]] w (RetN w (pmV s ⟨pu, gr, l⟩) (oneB s ⟨pu, gr, l⟩)) := by
  have hO := Lib.hid (fun W g g2 => l17One_any A c s pu gr B d l W hn hm g hok g2)
  obtain ⟨wb, hwb, hbb, hbl, u0, u1, u2⟩ := try_box w pu gr B l.length d
  have h := h.below hbb (Nat.le_refl _)
  have hr := hr.below hbb (Nat.le_refl _)
  cases go : oneB s ⟨pu, gr, l⟩
  · rw [pmV_no go]
    rw [go] at hO
    go_enter Try.func25, Try.ntmps25
    go_wp2_with fail
    rw [← hwb]
    clear hwb
    refine (hO.out _ h hr).mono ?_
    rintro e w1 ⟨rfl, hb1⟩
    go_wp2
    go_ret2
    exact ⟨rfl, hbb.trans (hb1.mono hbb.size)⟩
  · have gs : schB s = true := by unfold oneB at go; simp only [Bool.and_eq_true] at go; exact go.1
    have gt : tryB s ⟨pu, gr, l⟩ = true := by unfold oneB at go; simp only [Bool.and_eq_true] at go; exact go.2
    obtain ⟨hl6, hls, ⟨hf1, hf2⟩, ⟨hp1, hp2⟩, ⟨hm1, hm2⟩⟩ := try_nums gs gt
    dsimp only at hls hp1 hp2 hm1 hm2
    have HU := Lib.hid (fun W g g2 => l17Sums_any A c s pu gr B d l W gs gt g g2)
    rw [pmV_yes go]
    rw [go] at hO
    dsimp only
    clear hls
    generalize misA s l s.length = mi at *
    generalize fulA s s.length = fu at *
    generalize ptsA l s.length = pt at *
    have i1 : IntKind.i64.wrap (60 * fu) = 60 * fu := IntWalk.i64_in _ (by omega)
    have i2 : IntKind.i64.wrap (60 * fu + 99) = 60 * fu + 99 := IntWalk.i64_in _ (by omega)
    have i3 : IntKind.i64.wrap ((60 * fu + 99) / 100 - pt) = (60 * fu + 99) / 100 - pt := IntWalk.i64_in _ (by omega)
    go_enter Try.func25, Try.ntmps25
    go_wp2_with fail
    rw [← hwb]
    clear hwb
    refine (hO.out _ h hr).mono ?_
    rintro e w1 ⟨rfl, hb1⟩
    have v0 := (hb1.cell (p := ⟨w.heap.size, 0, none⟩) hbl).trans u0
    have v1 := (hb1.cell (p := ⟨w.heap.size, 1, none⟩) hbl).trans u1
    have v2 := (hb1.cell (p := ⟨w.heap.size, 2, none⟩) hbl).trans u2
    have hb2 := hbb.trans (hb1.mono hbb.size)
    have h1 := h.below hb1 (Nat.le_refl _)
    have hr1 := hr.below hb1 (Nat.le_refl _)
    clear hb1 hbb u0 u1 u2
    go_wp2_with fail
    refine (HU.out _ h1 hr1).mono ?_
    rintro e w3 ⟨rfl, hb3⟩
    have hb4 := hb2.trans (hb3.mono hb2.size)
    clear hb3 v0 v1 v2
    go_wp2_with (go_at_call 79; refine (l1Most_any _ _ _).mono ?_; rintro e w' ⟨rfl, rfl⟩)
    go_ret2
    exact ⟨rfl, hb4⟩
end Go.Proofs.Ythoojcmnkhhokaa
