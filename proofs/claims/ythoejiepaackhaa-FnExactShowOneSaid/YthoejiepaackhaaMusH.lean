/-
  The oldest exhibit of a land; whether two are kin: contracts.
-/
import Derived.Test.YthoejiepaackhaaMusF
import Derived.Test.YthoejiepaackhaaMusG
namespace Go.Proofs.Ythoejiepaackhaa
open Go.RowKit

set_option maxHeartbeats 4000000 in
theorem oldestI_any (A : Option Addr) (c : Nat) (l : List ExhibitV) (s : ByteArray) (w : World) (_hs : s.size ≤ 16777216) (hn : l.length ≤ 16777216) (h : RdT exhibitT w A l) (hok : ∀ x ∈ l, x.ok) :
    Calls Try.prog 28 #[.slice A l.length c, .string s] w (RetN w (olV l s) (olB l s)) := by
  have hG := Lib.hid (fun W g => areExhibits_any A c l W hn g hok)
  cases gg : goodB l
  · rw [(ol_bad s gg).1, (ol_bad s gg).2]
    rw [gg] at hG
    go_enter Try.func28, Try.ntmps28
    go_wp2_with fail
    refine (hG.out _ h).mono ?_
    rintro e w1 ⟨rfl, hb1⟩
    go_wp2
    go_ret2
    exact ⟨rfl, hb1⟩
  rw [gg] at hG
  have h10 := (goodB_iff gg).1
  have HB := Lib.hid (fun W g => byAge_any A c l W (by omega) g)
  have HHIT := Lib.hid (fun k x (h1 : noneTo (agV l) s k = true) (hx : (agV l)[k]? = some x) (hh : (x.land.toList == s.toList) = true) => ol_hit gg h1 hx hh)
  have HNON := Lib.hid (fun h1 => ol_none (s := s) gg h1)
  have hOl : (agV l).length ≤ 10 := by rw [agV_len]; exact h10
  clear gg
  generalize olV l s = V at *
  generalize olB l s = T at *
  generalize agV l = O at *
  go_enter Try.func28, Try.ntmps28
  go_wp2_with fail
  refine (hG.out _ h).mono ?_
  rintro e w1 ⟨rfl, hb1⟩
  have hz1 := hb1.size
  go_wp2_with fail
  refine (HB.out _ (h.below hb1 (Nat.le_refl _))).mono ?_
  rintro e w2 ⟨AP, cP, rfl, hop, hb2⟩
  have hbA := hb1.trans (hb2.mono hz1)
  have hz2 := hbA.size
  clear hb1 hb2 HB hG
  go_wp2
  go_loopw [14] (fun i wr => ∃ k : Nat, k ≤ O.length ∧ i = .int .i64 k ∧ Hid (noneTo O s k = true) ∧ Below w2.heap.size w2 wr) (fun i _ => O.length - (intOf i).toNat)
  case atStart => exact ⟨0, by omega, rfl, Lib.hid (noneTo_zero O s), Below.refl _ _⟩
  case round =>
    obtain ⟨k, hk, rfl, HN, hb⟩ := hrel
    have hz := hb.size
    by_cases hlt : k < O.length
    · obtain ⟨b, off, id_, land, made, upper, lower, rods, case_, hA, hx, hlb, hc0, hc1, hc2, hc3, hc4, hc5, hc6⟩ := exhibitT_at (OwnT.rd (hop.below hb (Nat.le_refl _))) hlt
      subst hA
      cases hh : (land.toList == s.toList)
      · have HN2 := Lib.hid (noneTo_succ HN.out hx hh)
        clear hx HN
        go_wp2
        go_roundw
        case rel => exact ⟨k + 1, by omega, by go_num, HN2, hb.alloc hz _⟩
        case measure => simp [intOf]; omega
      · have HH := Lib.hid (HHIT.out k _ HN.out hx hh)
        clear hx HN
        go_wp2
        go_ret2
        exact ⟨by rw [HH.out.1, HH.out.2]; rfl, hbA.trans ((hb.alloc hz _).mono hz2)⟩
    · have HH := Lib.hid (HNON.out (show noneTo O s O.length = true by have := HN.out; rwa [show k = O.length by omega] at this))
      go_wp2
      go_ret2
      exact ⟨by rw [HH.out.1, HH.out.2]; rfl, hbA.trans (hb.mono hz2)⟩

set_option maxHeartbeats 4000000 in
theorem oldestS_any (A : Option Addr) (c : Nat) (l : List ExhibitV) (s : ByteArray) (w : World) (_hs : s.size ≤ 16777216) (hn : l.length ≤ 16777216) (h : RdT exhibitT w A l) (hok : ∀ x ∈ l, x.ok) :
    Calls Try.prog 27 #[.slice A l.length c, .string s] w (RetN w (olV l s) (olB l s)) := by
  have hG := Lib.hid (fun W g => l22Good_any A c l W hn g hok)
  cases gg : goodB l
  · rw [(ol_bad s gg).1, (ol_bad s gg).2]
    rw [gg] at hG
    go_enter Try.func27, Try.ntmps27
    go_wp2_with fail
    refine (hG.out _ h).mono ?_
    rintro e w1 ⟨rfl, hb1⟩
    go_wp2
    go_ret2
    exact ⟨rfl, hb1⟩
  rw [gg] at hG
  have h10 := (goodB_iff gg).1
  have HB := Lib.hid (fun W g => l22Order_any A c l W (by omega) g)
  have HHIT := Lib.hid (fun k x (h1 : noneTo (agV l) s k = true) (hx : (agV l)[k]? = some x) (hh : (x.land.toList == s.toList) = true) => ol_hit gg h1 hx hh)
  have HNON := Lib.hid (fun h1 => ol_none (s := s) gg h1)
  have hOl : (agV l).length ≤ 10 := by rw [agV_len]; exact h10
  clear gg
  generalize olV l s = V at *
  generalize olB l s = T at *
  generalize agV l = O at *
  go_enter Try.func27, Try.ntmps27
  go_wp2_with fail
  refine (hG.out _ h).mono ?_
  rintro e w1 ⟨rfl, hb1⟩
  have hz1 := hb1.size
  go_wp2_with fail
  refine (HB.out _ (h.below hb1 (Nat.le_refl _))).mono ?_
  rintro e w2 ⟨AP, cP, rfl, hop, hb2⟩
  have hbA := hb1.trans (hb2.mono hz1)
  have hopR := hop.rd
  clear hb1 hb2 HB hG hop
  go_wp2
  go_loop [7] (fun i => ∃ k : Nat, k ≤ O.length ∧ i = .int .i64 k ∧ Hid (noneTo O s k = true)) (fun i => O.length - (intOf i).toNat)
  case atStart => exact ⟨0, by omega, rfl, Lib.hid (noneTo_zero O s)⟩
  case round =>
    obtain ⟨k, hk, rfl, HN⟩ := hrel
    by_cases hlt : k < O.length
    · obtain ⟨b, off, id_, land, made, upper, lower, rods, case_, hA, hx, hlb, hc0, hc1, hc2, hc3, hc4, hc5, hc6⟩ := exhibitT_at hopR hlt
      subst hA
      cases hh : (land.toList == s.toList)
      · have HN2 := Lib.hid (noneTo_succ HN.out hx hh)
        clear hx HN
        go_wp2
        go_round
        case rel => exact ⟨k + 1, by omega, by go_num, HN2⟩
        case measure => simp [intOf]; omega
      · have HH := Lib.hid (HHIT.out k _ HN.out hx hh)
        clear hx HN
        go_wp2
        go_ret2
        exact ⟨by rw [HH.out.1, HH.out.2]; rfl, hbA⟩
    · have HH := Lib.hid (HNON.out (show noneTo O s O.length = true by have := HN.out; rwa [show k = O.length by omega] at this))
      go_wp2
      go_ret2
      exact ⟨by rw [HH.out.1, HH.out.2]; rfl, hbA⟩

/-! ### kin -/
def aggX (x : ExhibitV) : Value := .agg #[.int .i64 x.id_, .string x.land, .int .i64 x.made, .int .i64 x.upper, .int .i64 x.lower, .int .i64 x.rods, .int .i64 x.case_]
set_option maxHeartbeats 1600000 in
theorem isKin_at (i1 : Int) (l1 : ByteArray) (m1 u1 o1 r1 c1 i2 : Int) (l2 : ByteArray) (m2 u2 o2 r2 c2 : Int) (w : World) :
    Calls Try.prog 59 #[.agg #[.int .i64 i1, .string l1, .int .i64 m1, .int .i64 u1, .int .i64 o1, .int .i64 r1, .int .i64 c1], .agg #[.int .i64 i2, .string l2, .int .i64 m2, .int .i64 u2, .int .i64 o2, .int .i64 r2, .int .i64 c2]] w fun e w' => e = .returned (.bool (kinB ⟨i1, l1, m1, u1, o1, r1, c1⟩ ⟨i2, l2, m2, u2, o2, r2, c2⟩)) ∧ Below w.heap.size w w' := by
  have E := Lib.hid (show kinB ⟨i1, l1, m1, u1, o1, r1, c1⟩ ⟨i2, l2, m2, u2, o2, r2, c2⟩ = ((u1 == u2) && (o1 == o2)) from rfl)
  generalize kinB ⟨i1, l1, m1, u1, o1, r1, c1⟩ ⟨i2, l2, m2, u2, o2, r2, c2⟩ = K at *
  cases h1 : (u1 == u2)
  · go_enter Try.func59, Try.ntmps59
    go_wp2
    go_ret
    refine ⟨by rw [E.out, h1]; rfl, ?_⟩
    repeat (first | exact Below.refl _ _ | (refine Below.setCell ?_ (by first | omega | (simp; done) | (simp; omega)) _) | (refine Below.alloc ?_ (by first | omega | (simp; done) | (simp; omega)) _) | (refine below_drewN ?_ _))
  · cases h2 : (o1 == o2)
    all_goals
      go_enter Try.func59, Try.ntmps59
      go_wp2
      go_ret
      refine ⟨by rw [E.out, h1, h2]; rfl, ?_⟩
      repeat (first | exact Below.refl _ _ | (refine Below.setCell ?_ (by first | omega | (simp; done) | (simp; omega)) _) | (refine Below.alloc ?_ (by first | omega | (simp; done) | (simp; omega)) _) | (refine below_drewN ?_ _))
set_option maxHeartbeats 1600000 in
theorem l22Kin_at (i1 : Int) (l1 : ByteArray) (m1 u1 o1 r1 c1 i2 : Int) (l2 : ByteArray) (m2 u2 o2 r2 c2 : Int) (w : World) :
    Calls Try.prog 58 #[.agg #[.int .i64 i1, .string l1, .int .i64 m1, .int .i64 u1, .int .i64 o1, .int .i64 r1, .int .i64 c1], .agg #[.int .i64 i2, .string l2, .int .i64 m2, .int .i64 u2, .int .i64 o2, .int .i64 r2, .int .i64 c2]] w fun e w' => e = .returned (.bool (kinB ⟨i1, l1, m1, u1, o1, r1, c1⟩ ⟨i2, l2, m2, u2, o2, r2, c2⟩)) ∧ Below w.heap.size w w' := by
  have E := Lib.hid (show kinB ⟨i1, l1, m1, u1, o1, r1, c1⟩ ⟨i2, l2, m2, u2, o2, r2, c2⟩ = ((u1 == u2) && (o1 == o2)) from rfl)
  generalize kinB ⟨i1, l1, m1, u1, o1, r1, c1⟩ ⟨i2, l2, m2, u2, o2, r2, c2⟩ = K at *
  cases h1 : (u1 == u2)
  · go_enter Try.func58, Try.ntmps58
    go_wp2
    go_ret
    refine ⟨by rw [E.out, h1]; rfl, ?_⟩
    repeat (first | exact Below.refl _ _ | (refine Below.setCell ?_ (by first | omega | (simp; done) | (simp; omega)) _) | (refine Below.alloc ?_ (by first | omega | (simp; done) | (simp; omega)) _) | (refine below_drewN ?_ _))
  · cases h2 : (o1 == o2)
    all_goals
      go_enter Try.func58, Try.ntmps58
      go_wp2
      go_ret
      refine ⟨by rw [E.out, h1, h2]; rfl, ?_⟩
      repeat (first | exact Below.refl _ _ | (refine Below.setCell ?_ (by first | omega | (simp; done) | (simp; omega)) _) | (refine Below.alloc ?_ (by first | omega | (simp; done) | (simp; omega)) _) | (refine below_drewN ?_ _))
end Go.Proofs.Ythoejiepaackhaa
