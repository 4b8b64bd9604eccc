/-
  MoveExhibit, of the program and of the reference: contracts.
-/
import Derived.Test.YthoejiepaackhaaMusK
import Derived.Test.YthoejiepaackhaaBlk
namespace Go.Proofs.Ythoejiepaackhaa
open Go.RowKit

theorem mvB_bad {l : List ExhibitV} {id t : Int} (h : goodB l = false) : mvB l id t = false := by simp [mvB, h]
theorem mvB_none {l : List ExhibitV} {id t : Int} (h : idxV l id = -1) : mvB l id t = false := by simp [mvB, h]
theorem mvB_at {l : List ExhibitV} {id t : Int} {k : Nat} (hg : goodB l = true) (h : idxV l id = (k : Int)) : mvB l id t = goodB (mvL l k t) := by
  unfold mvB
  rw [h, hg, Int.toNat_natCast, decide_eq_true (by omega)]
  simp
theorem mvV_at {l : List ExhibitV} {id t : Int} {k : Nat} (hg : goodB l = true) (h : idxV l id = (k : Int)) (hm : goodB (mvL l k t) = true) : mvV l id t = mvL l k t := by
  rw [mvV_yes (by rw [mvB_at hg h]; exact hm), h, Int.toNat_natCast]
set_option maxRecDepth 100000 in
set_option maxHeartbeats 8000000 in
theorem mvI_any (A : Option Addr) (c : Nat) (l : List ExhibitV) (id t : Int) (w : World) (hn : l.length ≤ 16777216) (h : RdT exhibitT w A l) (hok : ∀ x ∈ l, x.ok) :
    Calls Try.prog 36 #[.slice A l.length c, .int .i64 id, .int .i64 t] w (RetExhibit w (mvV l id t) (mvB l id t)) := by
  have hE := Lib.hid (fun W g => exhibitAt_any A c l id W hn g)
  have hG := Lib.hid (fun W g => areExhibits_any A c l W hn g hok)
  cases gg : goodB l
  · have eb := mvB_bad (id := id) (t := t) gg
    rw [mvV_no eb, eb]
    rw [gg] at hG
    clear eb
    go_enter Try.func36, Try.ntmps36
    go_wp2_with fail
    refine (hE.out _ h).mono ?_
    rintro e w1 ⟨rfl, hb1⟩
    go_wp2_with fail
    refine (hG.out _ (h.below hb1 (Nat.le_refl _))).mono ?_
    rintro e w2 ⟨rfl, hb2⟩
    go_wp2
    go_ret2
    exact ⟨none, 0, rfl, OwnT.nil _ _, hb1.trans (hb2.mono hb1.size)⟩
  rw [gg] at hG
  rcases idxV_cases l id with ei | ⟨k, x, ei, hx, hid⟩
  · have eb := mvB_none (t := t) ei
    rw [mvV_no eb, eb]
    rw [ei] at hE
    clear eb ei
    go_enter Try.func36, Try.ntmps36
    go_wp2_with fail
    refine (hE.out _ h).mono ?_
    rintro e w1 ⟨rfl, hb1⟩
    go_wp2_with fail
    refine (hG.out _ (h.below hb1 (Nat.le_refl _))).mono ?_
    rintro e w2 ⟨rfl, hb2⟩
    go_wp2
    go_ret2
    exact ⟨none, 0, rfl, OwnT.nil _ _, hb1.trans (hb2.mono hb1.size)⟩
  have hkl := (List.getElem?_eq_some_iff.1 hx).1
  have h10 := (goodB_iff gg).1
  have HW := Lib.hid (fun W => within_any t 0 9 W)
  cases gt : inB t 0 9
  · have eb : mvB l id t = false := by rw [mvB_at gg ei]; exact mv_case hx gt
    rw [mvV_no eb, eb]
    rw [ei] at hE
    rw [gt] at HW
    clear eb ei hx hid
    go_enter Try.func36, Try.ntmps36
    go_wp2_with fail
    refine (hE.out _ h).mono ?_
    rintro e w1 ⟨rfl, hb1⟩
    go_wp2_with fail
    refine (hG.out _ (h.below hb1 (Nat.le_refl _))).mono ?_
    rintro e w2 ⟨rfl, hb2⟩
    go_wp2_with fail
    refine (HW.out _).mono ?_
    rintro e wz ⟨rfl, rfl⟩
    go_wp2
    go_ret2
    exact ⟨none, 0, rfl, OwnT.nil _ _, hb1.trans (hb2.mono hb1.size)⟩
  rw [gt] at HW
  have HB := Lib.hid (mvB_at (t := t) gg ei)
  have HV := Lib.hid (mvV_at (t := t) gg ei)
  have HL := Lib.hid (mvL_at hx t)
  have hml := mvL_len l k t
  have hmo := mvL_ok (k := k) (t := t) hok
  have hMG := fun W g (g' : RdT exhibitT W (some ⟨g, 0, none⟩) (mvL l k t)) (c1 : Nat) => areExhibits_any (some ⟨g, 0, none⟩) c1 (mvL l k t) W (by omega) g' hmo
  simp only [hml] at hMG
  have HMG := Lib.hid hMG
  have HML := Lib.hid hml
  have HX := Lib.hid hx
  rw [ei] at hE
  clear hMG hml hmo ei hx hid gg gt
  go_enter Try.func36, Try.ntmps36
  go_wp2_with fail
  refine (hE.out _ h).mono ?_
  rintro e w1 ⟨rfl, hb1⟩
  go_wp2_with fail
  refine (hG.out _ (h.below hb1 (Nat.le_refl _))).mono ?_
  rintro e w2 ⟨rfl, hb2⟩
  have hbA := hb1.trans (hb2.mono hb1.size)
  clear hb1 hb2
  go_wp2_with fail
  refine (HW.out _).mono ?_
  rintro e wz ⟨rfl, rfl⟩
  have he := ownExhibit_empty w2 w.heap.size hbA.size
  have hb2 := hbA.alloc hbA.size (.cells #[] 26)
  have hr2 := h.below hb2 (Nat.le_refl _)
  have hz2 := hb2.size
  go_wp2_with (at_builtin; refine wpList_spreadT exhibitT rfl _ _ rfl w.heap.size _ [] rfl he w.heap.size hb2 A l l.length _ rfl rfl hr2 (by simp; omega) hz2 (Nat.le_refl _) ?_; intro A1 c1 w3 ho3 hb3 hgr3; simp only [List.length_nil, Nat.zero_add, List.nil_append] at ho3 ⊢; obtain ⟨g, rfl, hgb, hgl⟩ := ho3.head (by omega); obtain ⟨id_, land, made, upper, lower, rods, case_, hx, hc0, hc1, hc2, hc3, hc4, hc5, hc6, hf0, hf1, hf2, hf3, hf4, hf5, hf6⟩ := exhibit_own ho3 hkl; obtain rfl : x = ⟨id_, land, made, upper, lower, rods, case_⟩ := Option.some.inj (HX.out.symm.trans hx); have HS := Lib.hid (ho3.setField (j := 6) (y := caseV ⟨id_, land, made, upper, lower, rods, case_⟩ t) (u := .int .i64 t) hx rfl (by decide)); clear hx hgr3 he hr2)
  have hbN : Below w.heap.size w (w3.setCell ⟨g, k * 7 + 6, none⟩ (.int .i64 t)) := hb3.setCell hgb _
  have hoN : OwnT exhibitT (w3.setCell ⟨g, k * 7 + 6, none⟩ (.int .i64 t)) w.heap.size (.slice (some ⟨g, 0, none⟩) l.length c1) (mvL l k t) := by rw [HL.out]; exact HS.out.1
  obtain ⟨wn, hwn⟩ : ∃ wn : World, wn = w3.setCell ⟨g, k * 7 + 6, none⟩ (.int .i64 t) := ⟨_, rfl⟩
  rw [← hwn] at hbN hoN ⊢
  clear hwn
  refine (HMG.out _ g hoN.rd c1).mono ?_
  rintro e w5 ⟨rfl, hb5⟩
  have ho5 := hoN.below hb5 (Nat.le_refl _)
  have hb6 := hbN.trans (hb5.mono hbN.size)
  cases hgm : goodB (mvL l k t)
  · have HR := Lib.hid (show mvB l id t = false from HB.out.trans hgm)
    clear hoN HMG
    go_wp2
    go_ret2
    rw [mvV_no HR.out, HR.out]
    exact ⟨none, 0, rfl, OwnT.nil _ _, hb6⟩
  · have HR := Lib.hid (show mvB l id t = true from HB.out.trans hgm)
    have HR2 := Lib.hid (HV.out hgm)
    clear hoN HMG
    go_wp2
    go_ret2
    rw [HR.out, HR2.out]
    exact ⟨some ⟨g, 0, none⟩, c1, by rw [HML.out]; rfl, by rw [HML.out]; exact ho5, hb6⟩

set_option maxRecDepth 100000 in
set_option maxHeartbeats 8000000 in
theorem mvS_any (A : Option Addr) (c : Nat) (l : List ExhibitV) (id t : Int) (w : World) (hn : l.length ≤ 16777216) (h : RdT exhibitT w A l) (hok : ∀ x ∈ l, x.ok) :
    Calls Try.prog 35 #[.slice A l.length c, .int .i64 id, .int .i64 t] w (RetExhibit w (mvV l id t) (mvB l id t)) := by
  have hE := Lib.hid (fun W g => l22Find_any A c l id W hn g hok)
  have hneg : goodB l = false ∨ idxV l id = -1 → fiV l id = -1 ∧ mvB l id t = false := by
    rintro (hh | hh)
    · exact ⟨fiV_no hh, mvB_bad hh⟩
    · refine ⟨?_, mvB_none hh⟩
      unfold fiV; split <;> first | exact hh | rfl
  by_cases hcase : goodB l = false ∨ idxV l id = -1
  · obtain ⟨e1, e2⟩ := hneg hcase
    rw [mvV_no e2, e2]
    rw [e1] at hE
    clear e1 e2 hneg hcase
    go_enter Try.func35, Try.ntmps35
    go_wp2_with fail
    refine (hE.out _ h).mono ?_
    rintro e w1 ⟨rfl, hb1⟩
    go_wp2
    go_ret2
    exact ⟨_, 0, rfl, ownExhibit_empty w1 w.heap.size hb1.size, hb1.alloc hb1.size _⟩
  have gg : goodB l = true := by
    cases e : goodB l
    · exact absurd (.inl e) hcase
    · rfl
  rcases idxV_cases l id with ei | ⟨k, x, ei, hx, hid⟩
  · exact absurd (.inr ei) hcase
  have hfi : fiV l id = (k : Int) := (fiV_yes gg).trans ei
  have hkl := (List.getElem?_eq_some_iff.1 hx).1
  have h10 := (goodB_iff gg).1
  have HB := Lib.hid (mvB_at (t := t) gg ei)
  have HV := Lib.hid (mvV_at (t := t) gg ei)
  have HL := Lib.hid (mvL_at hx t)
  have hml := mvL_len l k t
  have hmo := mvL_ok (k := k) (t := t) hok
  have hMG := fun W g (g' : RdT exhibitT W (some ⟨g, 0, none⟩) (mvL l k t)) (c1 : Nat) => l22Good_any (some ⟨g, 0, none⟩) c1 (mvL l k t) W (by omega) g' hmo
  simp only [hml] at hMG
  have HMG := Lib.hid hMG
  have HML := Lib.hid hml
  have HX := Lib.hid hx
  rw [hfi] at hE
  clear hMG hml hmo ei hx hid gg hfi hcase hneg
  go_enter Try.func35, Try.ntmps35
  go_wp2_with fail
  refine (hE.out _ h).mono ?_
  rintro e w1 ⟨rfl, hb1⟩
  have he := ownExhibit_empty w1 w.heap.size hb1.size
  have hb2 := hb1.alloc hb1.size (.cells #[] 26)
  have hr2 := h.below hb2 (Nat.le_refl _)
  have hz2 := hb2.size
  go_wp2_with (at_builtin; refine wpList_spreadT exhibitT rfl _ _ rfl w.heap.size _ [] rfl he w.heap.size hb2 A l l.length _ rfl rfl hr2 (by simp; omega) hz2 (Nat.le_refl _) ?_; intro A1 c1 w3 ho3 hb3 hgr3; simp only [List.length_nil, Nat.zero_add, List.nil_append] at ho3 ⊢; obtain ⟨g, rfl, hgb, hgl⟩ := ho3.head (by omega); obtain ⟨id_, land, made, upper, lower, rods, case_, hx, hc0, hc1, hc2, hc3, hc4, hc5, hc6, hf0, hf1, hf2, hf3, hf4, hf5, hf6⟩ := exhibit_own ho3 hkl; obtain rfl : x = ⟨id_, land, made, upper, lower, rods, case_⟩ := Option.some.inj (HX.out.symm.trans hx); clear hx hgr3 he hr2; have HS2 := Lib.hid (ho3.set hkl (caseV ⟨id_, land, made, upper, lower, rods, case_⟩ t)))
  obtain ⟨wm, hwm⟩ : ∃ wm : World, wm = (((((((w3.setCell ⟨g, k * 7, none⟩ (.int .i64 id_)).setCell ⟨g, k * 7 + 1, none⟩ (.string land)).setCell ⟨g, k * 7 + 2, none⟩ (.int .i64 made)).setCell ⟨g, k * 7 + 3, none⟩ (.int .i64 upper)).setCell ⟨g, k * 7 + 4, none⟩ (.int .i64 lower)).setCell ⟨g, k * 7 + 5, none⟩ (.int .i64 rods)).setCell ⟨g, k * 7 + 6, none⟩ (.int .i64 t)) := ⟨_, rfl⟩
  have hoM : OwnT exhibitT wm w.heap.size (.slice (some ⟨g, 0, none⟩) l.length c1) (mvL l k t) := by rw [hwm, HL.out]; exact HS2.out.1
  have hgM : w3.grownBy wm (some g) := by rw [hwm]; exact HS2.out.2
  have hbM := hb3.grown hgM hb3.size (fun i hi => by cases hi; exact hgb)
  rw [← hwm]
  clear hwm hgM HS2
  have hoN := hoM.alloc (.cells #[.int .i64 id_, .string land, .int .i64 made, .int .i64 upper, .int .i64 lower, .int .i64 rods, .int .i64 t] 26)
  have hbN := hbM.alloc hbM.size (.cells #[.int .i64 id_, .string land, .int .i64 made, .int .i64 upper, .int .i64 lower, .int .i64 rods, .int .i64 t] 26)
  refine (HMG.out _ g hoN.rd c1).mono ?_
  rintro e w5 ⟨rfl, hb5⟩
  have ho5 := hoN.below hb5 (Nat.le_refl _)
  have hb6 := hbN.trans (hb5.mono hbN.size)
  cases hgm : goodB (mvL l k t)
  · have HR := Lib.hid (show mvB l id t = false from HB.out.trans hgm)
    clear hoN HMG
    go_wp2
    go_ret2
    rw [mvV_no HR.out, HR.out]
    exact ⟨_, 0, rfl, ownExhibit_empty w5 w.heap.size hb6.size, hb6.alloc hb6.size _⟩
  · have HR := Lib.hid (show mvB l id t = true from HB.out.trans hgm)
    have HR2 := Lib.hid (HV.out hgm)
    clear hoN HMG
    go_wp2
    go_ret2
    rw [HR.out, HR2.out]
    exact ⟨some ⟨g, 0, none⟩, c1, by rw [HML.out]; rfl, by rw [HML.out]; exact ho5, hb6⟩
end Go.Proofs.Ythoejiepaackhaa
