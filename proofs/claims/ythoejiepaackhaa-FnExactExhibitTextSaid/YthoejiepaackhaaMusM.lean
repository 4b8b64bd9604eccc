/-
  The text of an exhibit: contracts.
-/
import Derived.Test.YthoejiepaackhaaMusA
import Derived.Test.YthoejiepaackhaaNum
import Derived.Test.YthoejiepaackhaaBlk
namespace Go.Proofs.Ythoejiepaackhaa
open Go.RowKit

def RetStr (w : World) (s : ByteArray) (ok : Bool) (e : Ending) (w' : World) : Prop := e = .returned (.tuple #[.string s, .bool ok]) ∧ Below w.heap.size w w'
def etF (land : ByteArray) (made upper lower rods : Nat) : ByteArray := land ++ (⟨#[32]⟩ : ByteArray) ++ numV made ++ (⟨#[58, 32]⟩ : ByteArray) ++ numV upper ++ (⟨#[43]⟩ : ByteArray) ++ numV lower ++ (⟨#[32, 120, 32]⟩ : ByteArray) ++ numV rods
def etV (x : ExhibitV) : ByteArray := if exhB x = true then (if x.case_ = 0 then etF x.land x.made.toNat x.upper.toNat x.lower.toNat x.rods.toNat ++ (⟨#[32, 40, 115, 116, 111, 114, 101, 41]⟩ : ByteArray) else etF x.land x.made.toNat x.upper.toNat x.lower.toNat x.rods.toNat) else ByteArray.empty
theorem etV_no {x : ExhibitV} (h : exhB x = false) : etV x = ByteArray.empty := if_neg (by simp [h])
theorem etV_store {id_ : Int} {land : ByteArray} {made upper lower rods : Nat} {case_ : Int} (h : exhB ⟨id_, land, made, upper, lower, rods, case_⟩ = true) (hc : case_ = 0) : etV ⟨id_, land, made, upper, lower, rods, case_⟩ = etF land made upper lower rods ++ (⟨#[32, 40, 115, 116, 111, 114, 101, 41]⟩ : ByteArray) := by
  unfold etV
  rw [if_pos h, if_pos hc]
  simp only [Int.toNat_natCast]
theorem etV_case {id_ : Int} {land : ByteArray} {made upper lower rods : Nat} {case_ : Int} (h : exhB ⟨id_, land, made, upper, lower, rods, case_⟩ = true) (hc : ¬ case_ = 0) : etV ⟨id_, land, made, upper, lower, rods, case_⟩ = etF land made upper lower rods := by
  unfold etV
  rw [if_pos h, if_neg hc]
  simp only [Int.toNat_natCast]
theorem numV_size (n : Nat) : (numV n).size ≤ 5 := numF_size 4 n
theorem numV_eq (n : Nat) : numV n = numF 4 n := rfl

set_option maxRecDepth 100000 in
set_option maxHeartbeats 4000000 in
theorem etI_any (x : ExhibitV) (w : World) (hk : x.ok) : Calls Try.prog 19 #[.agg #[.int .i64 x.id_, .string x.land, .int .i64 x.made, .int .i64 x.upper, .int .i64 x.lower, .int .i64 x.rods, .int .i64 x.case_]] w (RetStr w (etV x) (exhB x)) := by
  have hE := fun W => isExhibit_any x W hk
  cases hg : exhB x
  · rw [etV_no hg]
    rw [hg] at hE
    go_enter Try.func19, Try.ntmps19
    go_wp2_with (go_at_call 15; refine (hE _).mono ?_; rintro e w1 ⟨rfl, hb1⟩)
    go_ret2
    exact ⟨rfl, ((Below.refl _ _).alloc (Nat.le_refl _) _).trans (hb1.mono (by simp))⟩
  obtain ⟨_, h1, h2, h3, h4, h5⟩ := exhB_iff hg
  obtain ⟨id_, land, made, upper, lower, rods, case_⟩ := x
  dsimp only at h1 h2 h3 h4 h5 hE
  obtain ⟨made, rfl⟩ : ∃ q : Nat, made = (q : Int) := ⟨made.toNat, by omega⟩
  obtain ⟨upper, rfl⟩ : ∃ q : Nat, upper = (q : Int) := ⟨upper.toNat, by omega⟩
  obtain ⟨lower, rfl⟩ : ∃ q : Nat, lower = (q : Int) := ⟨lower.toNat, by omega⟩
  obtain ⟨rods, rfl⟩ : ∃ q : Nat, rods = (q : Int) := ⟨rods.toNat, by omega⟩
  have hls : land.size ≤ 1048576 := hk
  have HVS := Lib.hid (fun hc => etV_store hg hc)
  have HVC := Lib.hid (fun hc => etV_case hg hc)
  rw [hg] at hE
  have HE := Lib.hid hE
  have Hmade := Lib.hid (fun W => text_any made W (by omega))
  have smade := numV_size made
  have Hupper := Lib.hid (fun W => text_any upper W (by omega))
  have supper := numV_size upper
  have Hlower := Lib.hid (fun W => text_any lower W (by omega))
  have slower := numV_size lower
  have Hrods := Lib.hid (fun W => text_any rods W (by omega))
  have srods := numV_size rods
  unfold etF at HVS HVC
  generalize hTmade : numV made = Tmade at *
  clear hTmade
  generalize hTupper : numV upper = Tupper at *
  clear hTupper
  generalize hTlower : numV lower = Tlower at *
  clear hTlower
  generalize hTrods : numV rods = Trods at *
  clear hTrods
  generalize etV ⟨id_, land, made, upper, lower, rods, case_⟩ = R at *
  clear hE hg hk
  obtain ⟨wb, hwb⟩ : ∃ wb : World, wb = w.alloc (.cells #[.int .i64 id_, .string land, .int .i64 made, .int .i64 upper, .int .i64 lower, .int .i64 rods, .int .i64 case_] 26) := ⟨_, rfl⟩
  have hbb : Below w.heap.size w wb := by rw [hwb]; exact (Below.refl _ _).alloc (Nat.le_refl _) _
  have BB : Blk wb w.heap.size 26 #[.int .i64 id_, .string land, .int .i64 made, .int .i64 upper, .int .i64 lower, .int .i64 rods, .int .i64 case_] := by rw [hwb]; exact Blk.new _ _ _
  have u0 : wb.cell? ⟨w.heap.size, 0, none⟩ = some (.int .i64 id_) := BB.cell 0
  have u1 : wb.cell? ⟨w.heap.size, 1, none⟩ = some (.string land) := BB.cell 1
  have u2 : wb.cell? ⟨w.heap.size, 2, none⟩ = some (.int .i64 made) := BB.cell 2
  have u3 : wb.cell? ⟨w.heap.size, 3, none⟩ = some (.int .i64 upper) := BB.cell 3
  have u4 : wb.cell? ⟨w.heap.size, 4, none⟩ = some (.int .i64 lower) := BB.cell 4
  have u5 : wb.cell? ⟨w.heap.size, 5, none⟩ = some (.int .i64 rods) := BB.cell 5
  have u6 : wb.cell? ⟨w.heap.size, 6, none⟩ = some (.int .i64 case_) := BB.cell 6
  have HWB := Lib.hid hwb
  clear hwb
  go_enter Try.func19, Try.ntmps19
  go_wp2_with fail
  rw [← HWB.out]
  clear HWB
  refine (HE.out _).mono ?_
  rintro e w1 ⟨rfl, hb1⟩
  have B1 := BB.below hb1 BB.lt
  have hb2 := hbb.trans (hb1.mono hbb.size)
  have v1 := cell_regrown (show w1.cell? ⟨w.heap.size, 1, none⟩ = some (.string land) from B1.cell 1)
  have v2 := cell_regrown (show w1.cell? ⟨w.heap.size, 2, none⟩ = some (.int .i64 made) from B1.cell 2)
  have v3 := cell_regrown (show w1.cell? ⟨w.heap.size, 3, none⟩ = some (.int .i64 upper) from B1.cell 3)
  have v4 := cell_regrown (show w1.cell? ⟨w.heap.size, 4, none⟩ = some (.int .i64 lower) from B1.cell 4)
  have v5 := cell_regrown (show w1.cell? ⟨w.heap.size, 5, none⟩ = some (.int .i64 rods) from B1.cell 5)
  clear hb1 hbb BB u0 u1 u2 u3 u4 u5 u6
  go_wp2_with fail
  refine wp_region_quiet_below (by kernel_rfl) (by kernel_rfl) ?_
  repeat (go_big_quiet_step (((first | (go_at_call 46; with_reducible exact Calls.regrown_of (Hmade.out _)) | (go_at_call 46; with_reducible exact Calls.regrown_of (Hupper.out _)) | (go_at_call 46; with_reducible exact Calls.regrown_of (Hlower.out _)) | (go_at_call 46; with_reducible exact Calls.regrown_of (Hrods.out _))))))
  refine wpQuiet_nil ?_
  intro w3 hw'
  have hb3 := below_of_class hw'
  clear hw'
  have B3 := B1.below hb3 B1.lt
  have v6 : w3.cell? ⟨w.heap.size, 6, none⟩ = some (.int .i64 case_) := B3.cell 6
  have hb4 := hb2.trans (hb3.mono hb2.size)
  clear v1 v2 v3 v4 v5 B1 B3 hb2 hb3
  by_cases hc : case_ = 0
  · have E := Lib.hid (HVS.out hc)
    have d1 : (case_ == 0) = true := by rw [beq_iff_eq]; exact hc
    clear HVS HVC hc
    go_wp2
    go_ret2
    exact ⟨by rw [E.out]; rfl, hb4⟩
  · have E := Lib.hid (HVC.out hc)
    have d1 : (case_ == 0) = false := by rw [beq_eq_false_iff_ne]; exact hc
    clear HVS HVC hc
    go_wp2
    go_ret2
    exact ⟨by rw [E.out]; rfl, hb4⟩
set_option maxRecDepth 100000 in
set_option maxHeartbeats 4000000 in
theorem etS_any (x : ExhibitV) (w : World) (hk : x.ok) : Calls Try.prog 18 #[.agg #[.int .i64 x.id_, .string x.land, .int .i64 x.made, .int .i64 x.upper, .int .i64 x.lower, .int .i64 x.rods, .int .i64 x.case_]] w (RetStr w (etV x) (exhB x)) := by
  have hE := fun W => l22One_any x W hk
  cases hg : exhB x
  · rw [etV_no hg]
    rw [hg] at hE
    go_enter Try.func18, Try.ntmps18
    go_wp2_with (go_at_call 40; refine (hE _).mono ?_; rintro e w1 ⟨rfl, hb1⟩)
    go_ret2
    exact ⟨rfl, ((Below.refl _ _).alloc (Nat.le_refl _) _).trans (hb1.mono (by simp))⟩
  obtain ⟨_, h1, h2, h3, h4, h5⟩ := exhB_iff hg
  obtain ⟨id_, land, made, upper, lower, rods, case_⟩ := x
  dsimp only at h1 h2 h3 h4 h5 hE
  obtain ⟨made, rfl⟩ : ∃ q : Nat, made = (q : Int) := ⟨made.toNat, by omega⟩
  obtain ⟨upper, rfl⟩ : ∃ q : Nat, upper = (q : Int) := ⟨upper.toNat, by omega⟩
  obtain ⟨lower, rfl⟩ : ∃ q : Nat, lower = (q : Int) := ⟨lower.toNat, by omega⟩
  obtain ⟨rods, rfl⟩ : ∃ q : Nat, rods = (q : Int) := ⟨rods.toNat, by omega⟩
  have hls : land.size ≤ 1048576 := hk
  have HVS := Lib.hid (fun hc => etV_store hg hc)
  have HVC := Lib.hid (fun hc => etV_case hg hc)
  rw [hg] at hE
  have HE := Lib.hid hE
  have Hmade := Lib.hid (fun W => numV_eq made ▸ l1Num_any 4 made W (by omega) (by omega))
  have smade := numV_size made
  have Hupper := Lib.hid (fun W => numV_eq upper ▸ l1Num_any 4 upper W (by omega) (by omega))
  have supper := numV_size upper
  have Hlower := Lib.hid (fun W => numV_eq lower ▸ l1Num_any 4 lower W (by omega) (by omega))
  have slower := numV_size lower
  have Hrods := Lib.hid (fun W => numV_eq rods ▸ l1Num_any 4 rods W (by omega) (by omega))
  have srods := numV_size rods
  unfold etF at HVS HVC
  generalize hTmade : numV made = Tmade at *
  clear hTmade
  generalize hTupper : numV upper = Tupper at *
  clear hTupper
  generalize hTlower : numV lower = Tlower at *
  clear hTlower
  generalize hTrods : numV rods = Trods at *
  clear hTrods
  generalize etV ⟨id_, land, made, upper, lower, rods, case_⟩ = R at *
  clear hE hg hk
  obtain ⟨wb, hwb⟩ : ∃ wb : World, wb = w.alloc (.cells #[.int .i64 id_, .string land, .int .i64 made, .int .i64 upper, .int .i64 lower, .int .i64 rods, .int .i64 case_] 26) := ⟨_, rfl⟩
  have hbb : Below w.heap.size w wb := by rw [hwb]; exact (Below.refl _ _).alloc (Nat.le_refl _) _
  have BB : Blk wb w.heap.size 26 #[.int .i64 id_, .string land, .int .i64 made, .int .i64 upper, .int .i64 lower, .int .i64 rods, .int .i64 case_] := by rw [hwb]; exact Blk.new _ _ _
  have u0 : wb.cell? ⟨w.heap.size, 0, none⟩ = some (.int .i64 id_) := BB.cell 0
  have u1 : wb.cell? ⟨w.heap.size, 1, none⟩ = some (.string land) := BB.cell 1
  have u2 : wb.cell? ⟨w.heap.size, 2, none⟩ = some (.int .i64 made) := BB.cell 2
  have u3 : wb.cell? ⟨w.heap.size, 3, none⟩ = some (.int .i64 upper) := BB.cell 3
  have u4 : wb.cell? ⟨w.heap.size, 4, none⟩ = some (.int .i64 lower) := BB.cell 4
  have u5 : wb.cell? ⟨w.heap.size, 5, none⟩ = some (.int .i64 rods) := BB.cell 5
  have u6 : wb.cell? ⟨w.heap.size, 6, none⟩ = some (.int .i64 case_) := BB.cell 6
  have HWB := Lib.hid hwb
  clear hwb
  go_enter Try.func18, Try.ntmps18
  go_wp2_with fail
  rw [← HWB.out]
  clear HWB
  refine (HE.out _).mono ?_
  rintro e w1 ⟨rfl, hb1⟩
  have B1 := BB.below hb1 BB.lt
  have hb2 := hbb.trans (hb1.mono hbb.size)
  have v1 := cell_regrown (show w1.cell? ⟨w.heap.size, 1, none⟩ = some (.string land) from B1.cell 1)
  have v2 := cell_regrown (show w1.cell? ⟨w.heap.size, 2, none⟩ = some (.int .i64 made) from B1.cell 2)
  have v3 := cell_regrown (show w1.cell? ⟨w.heap.size, 3, none⟩ = some (.int .i64 upper) from B1.cell 3)
  have v4 := cell_regrown (show w1.cell? ⟨w.heap.size, 4, none⟩ = some (.int .i64 lower) from B1.cell 4)
  have v5 := cell_regrown (show w1.cell? ⟨w.heap.size, 5, none⟩ = some (.int .i64 rods) from B1.cell 5)
  clear hb1 hbb BB u0 u1 u2 u3 u4 u5 u6
  go_wp2_with fail
  refine wp_region_quiet_below (by kernel_rfl) (by kernel_rfl) ?_
  repeat (go_big_quiet_step (((first | (go_at_call 45; with_reducible exact Calls.regrown_of (Hmade.out _)) | (go_at_call 45; with_reducible exact Calls.regrown_of (Hupper.out _)) | (go_at_call 45; with_reducible exact Calls.regrown_of (Hlower.out _)) | (go_at_call 45; with_reducible exact Calls.regrown_of (Hrods.out _))))))
  refine wpQuiet_nil ?_
  intro w3 hw'
  have hb3 := below_of_class hw'
  clear hw'
  have B3 := B1.below hb3 B1.lt
  have v6 : w3.cell? ⟨w.heap.size, 6, none⟩ = some (.int .i64 case_) := B3.cell 6
  have hb4 := hb2.trans (hb3.mono hb2.size)
  clear v1 v2 v3 v4 v5 B1 B3 hb2 hb3
  by_cases hc : case_ = 0
  · have E := Lib.hid (HVS.out hc)
    have d1 : (case_ == 0) = true := by rw [beq_iff_eq]; exact hc
    clear HVS HVC hc
    go_wp2
    go_ret2
    exact ⟨by rw [E.out]; rfl, hb4⟩
  · have E := Lib.hid (HVC.out hc)
    have d1 : (case_ == 0) = false := by rw [beq_eq_false_iff_ne]; exact hc
    clear HVS HVC hc
    go_wp2
    go_ret2
    exact ⟨by rw [E.out]; rfl, hb4⟩
end Go.Proofs.Ythoejiepaackhaa
