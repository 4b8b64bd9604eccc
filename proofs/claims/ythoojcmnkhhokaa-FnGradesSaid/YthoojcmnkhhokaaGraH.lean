/-
  The result of a try: contracts.
-/
import Derived.Test.YthoojcmnkhhokaaGraG
namespace Go.Proofs.Ythoojcmnkhhokaa
set_option maxRecDepth 100000
open Go.RowKit

/-- A call that returns a text, and whether there is one. -/
def RetStr (w : World) (s : ByteArray) (ok : Bool) (e : Ending) (w' : World) : Prop := e = .returned (.tuple #[.string s, .bool ok]) ∧ Below w.heap.size w w'
def rsV (s : List PartV) (t : TryV) : ByteArray := if oneB s t = true then resV s t.points else ⟨#[]⟩
theorem rsV_no {s : List PartV} {t : TryV} (h : oneB s t = false) : rsV s t = ⟨#[]⟩ := if_neg (by simp [h])
theorem rsV_yes {s : List PartV} {t : TryV} (h : oneB s t = true) : rsV s t = resV s t.points := if_pos h
set_option maxHeartbeats 3200000 in
theorem resultI_any (A : Option Addr) (c : Nat) (s : List PartV) (pu gr : Int) (B : Option Addr) (d : Nat) (l : List Int) (w : World) (hn : s.length ≤ 16777216) (hcap : s.length ≤ c) (h : RdT partT w A s) (hok : ∀ x ∈ s, x.ok) (hm : l.length ≤ 16777216) (hr : RdI w B l) :
    Calls Try.prog 33 #[.slice A s.length c, .agg #[.int .i64 pu, .int .i64 gr, .slice B l.length d]] w (RetStr w (rsV s ⟨pu, gr, l⟩) (oneB s ⟨pu, gr, l⟩)) := by
  have hS := Lib.hid (fun W g => isScheme_any A c s W hn hcap g hok)
  have hT := Lib.hid (fun W g g2 => isTry_any A c s pu gr B d l W hn hm g g2)
  obtain ⟨wb, hwb, hbb, hbl, u0, u1, u2⟩ := try_box w pu gr B l.length d
  have h := h.below hbb (Nat.le_refl _)
  have hr := hr.below hbb (Nat.le_refl _)
  cases gs : schB s
  · have e : oneB s ⟨pu, gr, l⟩ = false := by unfold oneB; rw [gs]; rfl
    rw [rsV_no e, e]
    go_enter Try.func33, Try.ntmps33
    go_wp2_with fail
    rw [← hwb]
    clear hwb
    refine (hS.out _ h).mono ?_
    rintro e w1 ⟨rfl, hb1⟩
    go_wp2
    go_ret2
    exact ⟨rfl, hbb.trans (hb1.mono hbb.size)⟩
  cases gt : tryB s ⟨pu, gr, l⟩
  · have e : oneB s ⟨pu, gr, l⟩ = false := by unfold oneB; rw [gs, gt]; rfl
    rw [rsV_no e, e]
    rw [gt] at hT
    go_enter Try.func33, Try.ntmps33
    go_wp2_with fail
    rw [← hwb]
    clear hwb
    refine (hS.out _ h).mono ?_
    rintro e w1 ⟨rfl, hb1⟩
    rw [gs]
    have v0 := (hb1.cell (p := ⟨w.heap.size, 0, none⟩) hbl).trans u0
    have v1 := (hb1.cell (p := ⟨w.heap.size, 1, none⟩) hbl).trans u1
    have v2 := (hb1.cell (p := ⟨w.heap.size, 2, none⟩) hbl).trans u2
    have hb2 := hbb.trans (hb1.mono hbb.size)
    go_wp2_with fail
    refine (hT.out _ (h.below hb1 (Nat.le_refl _)) (hr.below hb1 (Nat.le_refl _))).mono ?_
    rintro e w3 ⟨rfl, hb3⟩
    go_wp2
    go_ret2
    exact ⟨rfl, hb2.trans (hb3.mono hb2.size)⟩
  · have e : oneB s ⟨pu, gr, l⟩ = true := by unfold oneB; rw [gs, gt]; rfl
    obtain ⟨hl6, hls, ⟨hf1, hf2⟩, ⟨hp1, hp2⟩, ⟨hm1, hm2⟩⟩ := try_nums gs gt
    dsimp only at hls hp1 hp2 hm1 hm2
    have HPS := Lib.hid (fun W g g2 => isPassed_any A c s pu gr B d l W gs gt g g2)
    have HS := Lib.hid (fun W (g : RdI W B l) => sumT_any gs gt B d W g)
    have HF := Lib.hid (fun W g => fullOf_any A c s W gs g)
    have HE : Hid (rsV s ⟨pu, gr, l⟩ = if passB s l = true then (if decide (90 * fulA s s.length ≤ 100 * ptsA l s.length) = true then honorS else passedS) else failS) := Lib.hid (rsV_yes e)
    dsimp only at HS
    rw [e]
    rw [gt] at hT
    clear hls hm1 hm2
    generalize rsV s ⟨pu, gr, l⟩ = R at *
    generalize passB s l = pb at *
    generalize fulA s s.length = fu at *
    generalize ptsA l s.length = pt at *
    have i1 : IntKind.i64.wrap (100 * pt) = 100 * pt := IntWalk.i64_in _ (by omega)
    have i2 : IntKind.i64.wrap (90 * fu) = 90 * fu := IntWalk.i64_in _ (by omega)
    go_enter Try.func33, Try.ntmps33
    go_wp2_with fail
    rw [← hwb]
    clear hwb
    refine (hS.out _ h).mono ?_
    rintro e w1 ⟨rfl, hb1⟩
    rw [gs]
    have v0 := (hb1.cell (p := ⟨w.heap.size, 0, none⟩) hbl).trans u0
    have v1 := (hb1.cell (p := ⟨w.heap.size, 1, none⟩) hbl).trans u1
    have v2 := (hb1.cell (p := ⟨w.heap.size, 2, none⟩) hbl).trans u2
    have hl1 : w.heap.size < w1.heap.size := World.block_lt_of_cell? w1 _ v2
    have hb2 := hbb.trans (hb1.mono hbb.size)
    have h1 := h.below hb1 (Nat.le_refl _)
    have hr1 := hr.below hb1 (Nat.le_refl _)
    clear hb1 hbb u0 u1 u2
    go_wp2_with fail
    refine (hT.out _ h1 hr1).mono ?_
    rintro e w3 ⟨rfl, hb3⟩
    have x0 := (hb3.cell (p := ⟨w.heap.size, 0, none⟩) hl1).trans v0
    have x1 := (hb3.cell (p := ⟨w.heap.size, 1, none⟩) hl1).trans v1
    have x2 := (hb3.cell (p := ⟨w.heap.size, 2, none⟩) hl1).trans v2
    have hl3 : w.heap.size < w3.heap.size := World.block_lt_of_cell? w3 _ x2
    have h3 := h1.below hb3 (Nat.le_refl _)
    have hr3 := hr1.below hb3 (Nat.le_refl _)
    have hb4 := hb2.trans (hb3.mono hb2.size)
    clear hb3 v0 v1 v2
    go_wp2_with fail
    refine (HPS.out _ h3 hr3).mono ?_
    rintro e w5 ⟨rfl, hb5⟩
    have y2 := (hb5.cell (p := ⟨w.heap.size, 2, none⟩) hl3).trans x2
    have h5 := h3.below hb5 (Nat.le_refl _)
    have hr5 := hr3.below hb5 (Nat.le_refl _)
    have hb6 := hb4.trans (hb5.mono hb4.size)
    clear hb5 x0 x1 x2
    cases pb
    · have E := Lib.hid (show R = failS by rw [HE.out]; rfl)
      go_wp2
      go_ret2
      exact ⟨by rw [E.out]; rfl, hb6⟩
    · by_cases hh : 90 * fu ≤ 100 * pt
      · have d1 : decide (90 * fu ≤ 100 * pt) = true := decide_eq_true hh
        have E := Lib.hid (show R = honorS by rw [HE.out, d1]; rfl)
        go_wp2_with (first | (go_at_call 77; refine (HS.out _ hr5).mono ?_; rintro e w' ⟨rfl, rfl⟩) | (go_at_call 78; refine (HF.out _ h5).mono ?_; rintro e w7 ⟨rfl, hb7⟩))
        go_ret2
        exact ⟨by rw [E.out]; rfl, hb6.trans (hb7.mono hb6.size)⟩
      · have d1 : decide (90 * fu ≤ 100 * pt) = false := decide_eq_false hh
        have E := Lib.hid (show R = passedS by rw [HE.out, d1]; rfl)
        go_wp2_with (first | (go_at_call 77; refine (HS.out _ hr5).mono ?_; rintro e w' ⟨rfl, rfl⟩) | (go_at_call 78; refine (HF.out _ h5).mono ?_; rintro e w7 ⟨rfl, hb7⟩))
        go_ret2
        exact ⟨by rw [E.out]; rfl, hb6.trans (hb7.mono hb6.size)⟩
set_option maxHeartbeats 3200000 in
theorem resultS_any (A : Option Addr) (c : Nat) (s : List PartV) (pu gr : Int) (B : Option Addr) (d : Nat) (l : List Int) (w : World) (hn : s.length ≤ 16777216) (_hcap : s.length ≤ c) (h : RdT partT w A s) (hok : ∀ x ∈ s, x.ok) (hm : l.length ≤ 16777216) (hr : RdI w B l) :
    Calls Try.prog 32 #[.slice A s.length c, .agg #[.int .i64 pu, .int .i64 gr, .slice B l.length d]] w (RetStr w (rsV s ⟨pu, gr, l⟩) (oneB s ⟨pu, gr, l⟩)) := by
  have hO := Lib.hid (fun W g g2 => l17One_any A c s pu gr B d l W hn hm g hok g2)
  obtain ⟨wb, hwb, hbb, hbl, u0, u1, u2⟩ := try_box w pu gr B l.length d
  have h := h.below hbb (Nat.le_refl _)
  have hr := hr.below hbb (Nat.le_refl _)
  cases go : oneB s ⟨pu, gr, l⟩
  · rw [rsV_no go]
    rw [go] at hO
    go_enter Try.func32, Try.ntmps32
    go_wp2_with fail
    rw [← hwb]
    clear hwb
    refine (hO.out _ h hr).mono ?_
    rintro e w1 ⟨rfl, hb1⟩
    go_wp2
    go_ret2
    exact ⟨rfl, hbb.trans (hb1.mono hbb.size)⟩
  · have gs : schB s = true := by unfold oneB at go; simp only [Bool.and_eq_true] at go; exact go.1
    have gt : tryB s ⟨pu, gr, l⟩ = true := by unfold oneB at go; simp only [Bool.and_eq_true] at go; exact go.2
    obtain ⟨hl6, hls, ⟨hf1, hf2⟩, ⟨hp1, hp2⟩, ⟨hm1, hm2⟩⟩ := try_nums gs gt
    dsimp only at hls hp1 hp2 hm1 hm2
    have HU := Lib.hid (fun W g g2 => l17Result_any A c s pu gr B d l W gs gt g g2)
    rw [rsV_yes go]
    rw [go] at hO
    dsimp only
    clear hls
    generalize resV s l = R at *
    go_enter Try.func32, Try.ntmps32
    go_wp2_with fail
    rw [← hwb]
    clear hwb
    refine (hO.out _ h hr).mono ?_
    rintro e w1 ⟨rfl, hb1⟩
    have v0 := (hb1.cell (p := ⟨w.heap.size, 0, none⟩) hbl).trans u0
    have v1 := (hb1.cell (p := ⟨w.heap.size, 1, none⟩) hbl).trans u1
    have v2 := (hb1.cell (p := ⟨w.heap.size, 2, none⟩) hbl).trans u2
    have hb2 := hbb.trans (hb1.mono hbb.size)
    have h1 := h.below hb1 (Nat.le_refl _)
    have hr1 := hr.below hb1 (Nat.le_refl _)
    clear hb1 hbb u0 u1 u2
    go_wp2_with fail
    refine (HU.out _ h1 hr1).mono ?_
    rintro e w3 ⟨rfl, hb3⟩
    have hb4 := hb2.trans (hb3.mono hb2.size)
    clear hb3 v0 v1 v2
    go_wp2
    go_ret2
    exact ⟨rfl, hb4⟩
end Go.Proofs.Ythoojcmnkhhokaa
