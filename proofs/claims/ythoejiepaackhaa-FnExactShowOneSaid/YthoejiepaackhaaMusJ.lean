/-
  Exhibits of which no two are kin, of the reference: the contract.
-/
import Derived.Test.YthoejiepaackhaaMusI
namespace Go.Proofs.Ythoejiepaackhaa
open Go.RowKit

theorem RdT.apartG {w w' : World} {base n c base2 n2 c2 : Nat} {A A2 : Option Addr} {l l2 : List ExhibitV} (h : OwnT exhibitT w base (.slice A n c) l) (ha : ApartV (.slice A n c) (.slice A2 n2 c2)) (hg : w.grownBy w' (Value.slice A2 n2 c2).ownBlock) (_h2 : OwnT exhibitT w base2 (.slice A2 n2 c2) l2) : OwnT exhibitT w' base (.slice A n c) l := h.kept hg ha
theorem cellOf {w : World} {b off k : Nat} {l : List ExhibitV} {x : ExhibitV} (h : RdT exhibitT w (some ⟨b, off, none⟩) l) (hx : l[k]? = some x) : w.cell? ⟨b, off + k * 7, none⟩ = some (.int .i64 x.id_) := by
  obtain ⟨b', off', y, hA, hy, _, hc⟩ := h.at_ (List.getElem?_eq_some_iff.1 hx).1
  injection hA with hA
  injection hA with e1 e2 _
  subst e1 e2
  rw [hx] at hy
  injection hy with hy
  subst hy
  exact hc 0 _ rfl
set_option maxRecDepth 100000 in
set_option maxHeartbeats 8000000 in
theorem showS_any (A : Option Addr) (c : Nat) (l : List ExhibitV) (room : Int) (w : World) (hn : l.length ≤ 16777216) (h : RdT exhibitT w A l) (hok : ∀ x ∈ l, x.ok) :
    Calls Try.prog 38 #[.slice A l.length c, .int .i64 room] w (RetI w (shV l room) (shB l room)) := by
  have hG := Lib.hid (fun W g => l22Good_any A c l W hn g hok)
  have he := OwnI.empty w w.heap.size (Nat.le_refl _)
  have hb0 : Below w.heap.size w (w.alloc (.cells #[] 3)) := (Below.refl _ _).alloc (Nat.le_refl _) _
  obtain ⟨w0, hw0⟩ : ∃ w0 : World, w0 = w.alloc (.cells #[] 3) := ⟨_, rfl⟩
  rw [← hw0] at he hb0
  cases gg : goodB l
  · have e1 : shB l room = false := by simp [shB, gg]
    rw [shV_no e1, e1]
    rw [gg] at hG
    clear e1
    go_enter Try.func38, Try.ntmps38
    go_wp2_with fail
    rw [← hw0]
    clear hw0
    refine (hG.out _ (h.below hb0 (Nat.le_refl _))).mono ?_
    rintro e w1 ⟨rfl, hb1⟩
    have he := OwnI.below he hb1 (Nat.le_refl _)
    go_wp2
    go_ret2
    exact ⟨_, 0, rfl, he, hb0.trans (hb1.mono hb0.size)⟩
  rw [gg] at hG
  cases gr : inB room 0 500
  · have e1 : shB l room = false := by simp [shB, gr]
    have HW := Lib.hid (fun W => gr ▸ l1In_any room 0 500 W)
    rw [shV_no e1, e1]
    clear e1 gr
    go_enter Try.func38, Try.ntmps38
    go_wp2_with fail
    rw [← hw0]
    clear hw0
    refine (hG.out _ (h.below hb0 (Nat.le_refl _))).mono ?_
    rintro e w1 ⟨rfl, hb1⟩
    have he := OwnI.below he hb1 (Nat.le_refl _)
    go_wp2_with fail
    refine (HW.out _).mono ?_
    rintro e wz ⟨rfl, rfl⟩
    go_wp2
    go_ret2
    exact ⟨_, 0, rfl, he, hb0.trans (hb1.mono hb0.size)⟩
  have HW := Lib.hid (fun W => gr ▸ l1In_any room 0 500 W)
  obtain ⟨hr1, hr2⟩ := (inB_iff _ _ _).1 gr
  have e1 : shB l room = true := by simp [shB, gg, gr]
  rw [shV_yes e1, e1]
  have h10 := (goodB_iff gg).1
  have HB := Lib.hid (fun W g => l22Order_any A c l W (by omega) g)
  have hOl : (agV l).length ≤ 10 := by rw [agV_len]; exact h10
  have HEX := Lib.hid (fun k (y : ExhibitV) (hy : y ∈ shA (agV l) room k) => agV_exh gg y (shA_mem _ _ _ y hy))
  have HEO := Lib.hid (fun k (y : ExhibitV) (hy : (agV l)[k]? = some y) => agV_exh gg y (List.mem_of_getElem? hy))
  have HEL := Lib.hid (agV_len l)
  clear gg gr e1
  generalize agV l = O at *
  have H0 := Lib.hid (shA_zero O room)
  have HLN := Lib.hid (shA_len O room)
  have HY := Lib.hid (fun k (x : ExhibitV) (hx : O[k]? = some x) => shA_yes (room := room) hx)
  have HN := Lib.hid (fun k (x : ExhibitV) (hx : O[k]? = some x) => shA_no (room := room) hx)
  generalize shA O room = S at *
  go_enter Try.func38, Try.ntmps38
  go_wp2_with fail
  rw [← hw0]
  clear hw0
  refine (hG.out _ (h.below hb0 (Nat.le_refl _))).mono ?_
  rintro e w1 ⟨rfl, hb1⟩
  have he1 := OwnI.below he hb1 (Nat.le_refl _)
  have hbA := hb0.trans (hb1.mono hb0.size)
  have hzA := hbA.size
  clear he hb0 hb1
  go_wp2_with fail
  refine (HW.out _).mono ?_
  rintro e wz ⟨rfl, rfl⟩
  have hec := ownT_e0 exhibitT w1 w.heap.size hzA
  have hbc : Below w1.heap.size w1 (w1.alloc (.cells #[] 26)) := (Below.refl _ _).alloc (Nat.le_refl _) _
  obtain ⟨w2, hw2⟩ : ∃ w2 : World, w2 = w1.alloc (.cells #[] 26) := ⟨_, rfl⟩
  have hec2 : OwnT exhibitT w2 w.heap.size (.slice (some ⟨w1.heap.size, 0, none⟩) 0 0) [] := by rw [hw2]; exact hec
  rw [← hw2] at hbc
  have he2 := OwnI.below he1 hbc (Nat.le_refl _)
  have hbB := hbA.trans (hbc.mono hzA)
  have hzB := hbB.size
  have HW2 := Lib.hid hw2
  clear hec hw2 he1 hbA hbc
  go_wp2_with fail
  rw [← HW2.out]
  clear HW2
  refine (HB.out _ (h.below hbB (Nat.le_refl _))).mono ?_
  rintro e w3 ⟨AP, cP, rfl, hop, hb3⟩
  have hec3 := hec2.below hb3 (Nat.le_refl _)
  have he3 := OwnI.below he2 hb3 (Nat.le_refl _)
  have hbC := hbB.trans (hb3.mono hzB)
  have hap0 : ApartV (.slice AP O.length cP) (.slice (some ⟨w1.heap.size, 0, none⟩) 0 0) := apart_of' (B := w2.heap.size) (fun k hk => (hop.lt k hk).1) (fun k hk => (hec2.lt k hk).2)
  have hop3 := hop.mono hzB
  have HE3 := Lib.hid he3
  have HAP0 := Lib.hid hap0
  clear hec2 he2 hbB hb3 HB hG HW hop he3 hap0
  go_wp2
  go_loopw [6, 7, 9] (fun p o i wr => ∃ (k : Nat) (A1 A2 : Option Addr) (c1 c2 : Nat), k ≤ O.length ∧ i = .int .i64 k ∧ o = .slice A1 (S k).length c1 ∧ p = .slice A2 (idL (S k)).length c2 ∧ OwnT exhibitT wr w.heap.size (.slice A1 (S k).length c1) (S k) ∧ Hid (OwnI wr w.heap.size (.slice A2 (idL (S k)).length c2) (idL (S k))) ∧ OwnT exhibitT wr w.heap.size (.slice AP O.length cP) O ∧ Hid (ApartV (.slice AP O.length cP) (.slice A1 (S k).length c1)) ∧ Below w.heap.size w wr) (fun _ _ i _ => O.length - (intOf i).toNat)
  case atStart => exact ⟨0, _, _, 0, 0, by omega, rfl, by rw [H0.out]; rfl, by rw [H0.out]; rfl, by rw [H0.out]; exact hec3, by rw [H0.out]; exact HE3, hop3, by rw [H0.out]; exact HAP0, hbC⟩
  case round =>
    obtain ⟨k, A1, A2, c1, c2, hk, rfl, rfl, rfl, ho, HOI, hop, HAP, hb⟩ := hrel
    clear hec3 HE3 hop3 HAP0 hbC
    have hz := hb.size
    have hln := HLN.out k
    have hrb := rodA_bd (HEX.out k)
    have HEXk := Lib.hid (HEX.out k)
    by_cases hlt : k < O.length
    · obtain ⟨b, off, id_, land, made, upper, lower, rods, case_, hA, hx, hlb, hc0, hc1, hc2, hc3, hc4, hc5, hc6⟩ := exhibitT_at hop.rd hlt
      have hex := (exhB_iff (HEO.out k _ hx)).2.2.2.2.1
      have HYk := Lib.hid (HY.out k _ hx)
      have HNk := Lib.hid (HN.out k _ hx)
      dsimp only at hex
      have HX0 := Lib.hid hx
      clear hx
      subst hA
      obtain ⟨x, hxe⟩ : ∃ x : ExhibitV, x = ⟨id_, land, made, upper, lower, rods, case_⟩ := ⟨_, rfl⟩
      rw [← hxe] at HYk HNk
      have HXE := Lib.hid hxe
      clear hxe
      generalize S k = L at *
      have HKZ := Lib.hid (kinTo_zero L x)
      have HKS := Lib.hid (fun m y (hy : L[m]? = some y) => (kinTo_succ (x := x) hy).trans (by rw [kinB_symm]))
      have HRZ := Lib.hid (rodA_zero L)
      have HRD := Lib.hid (fun m y (hy : L[m]? = some y) => rodA_succ hy)
      have HRS := Lib.hid (rodA_snoc L x)
      have HFD := Lib.hid (fitB_def L room x)
      generalize kinTo L x = K at *
      generalize hDD : rodA L = D at *
      clear hDD
      have hil : (idL L).length ≤ 10 := by rw [idL_len]; omega
      have HRB := Lib.hid hrb
      have dk1 : decide (k < O.length) = true := decide_eq_true hlt
      have dk2 : decide ((k : Int) < (O.length : Int)) = true := decide_eq_true (by omega)
      clear hrb
      obtain ⟨wq, rfl⟩ : ∃ wq : World, wq = wr := ⟨_, rfl⟩
      go_wp2
      clear dk1 dk2
      go_loopw [10, 11, 12] (fun q f i wy => ∃ m : Nat, m ≤ L.length ∧ i = .int .i64 m ∧ q = .int .i64 (rods + D m) ∧ f = .bool (K m) ∧ Below wq.heap.size wq wy) (fun _ _ i _ => L.length - (intOf i).toNat)
      case atStart => exact ⟨0, by omega, rfl, by rw [HRZ.out]; simp, by rw [HKZ.out], Below.refl _ _⟩
      case round =>
        obtain ⟨m, hmm, rfl, rfl, rfl, hby⟩ := hrel
        have hzy := hby.size
        have hoY := ho.below hby (Nat.le_refl _)
        have hopY := hop.below hby (Nat.le_refl _)
        have hbY := hb.trans (hby.mono hz)
        have hzY := hbY.size
        have hrm := HRB.out m
        by_cases hlm : m < L.length
        · obtain ⟨b2, o2, yid, yland, ymade, yupper, ylower, yrods, ycase, hA2, hy, hlb2, hd0, hd1, hd2, hd3, hd4, hd5, hd6⟩ := exhibitT_at hoY.rd hlm
          have hey := (exhB_iff (HEXk.out _ (List.mem_of_getElem? hy))).2.2.2.2.1
          dsimp only at hey
          have HS := Lib.hid (HKS.out m _ hy)
          have HS2 := Lib.hid (HRD.out m _ hy)
          have hkin := fun W => l22Kin_at yid yland ymade yupper ylower yrods ycase id_ land made upper lower rods case_ W
          rw [← HXE.out] at hkin
          subst hA2
          clear hy
          obtain ⟨kb, hkb⟩ : ∃ kb : Bool, kinB ⟨yid, yland, ymade, yupper, ylower, yrods, ycase⟩ x = kb := ⟨_, rfl⟩
          rw [hkb] at hkin HS
          have HKin := Lib.hid hkin
          clear hkb hkin
          have i1 : IntKind.i64.wrap (rods + D m + yrods) = rods + D m + yrods := IntWalk.i64_in _ (by omega)
          have HV := Lib.hid (show rods + D m + yrods = rods + D (m + 1) by rw [HS2.out]; show _ = rods + (D m + yrods); omega)
          obtain ⟨km, hkm⟩ : ∃ km : Bool, K m = km := ⟨_, rfl⟩
          rw [hkm] at HS ⊢
          clear hkm
          cases km
          · have E := Lib.hid (show K (m + 1) = kb by rw [HS.out]; simp)
            have s0 := cell_regrown ((hby.cell (p := ⟨b, off + k * 7, none⟩) hlb).trans hc0)
            have s1 := cell_regrown ((hby.cell (p := ⟨b, off + k * 7 + 1, none⟩) hlb).trans hc1)
            have s2 := cell_regrown ((hby.cell (p := ⟨b, off + k * 7 + 2, none⟩) hlb).trans hc2)
            have s3 := cell_regrown ((hby.cell (p := ⟨b, off + k * 7 + 3, none⟩) hlb).trans hc3)
            have s4 := cell_regrown ((hby.cell (p := ⟨b, off + k * 7 + 4, none⟩) hlb).trans hc4)
            have s5 := cell_regrown ((hby.cell (p := ⟨b, off + k * 7 + 5, none⟩) hlb).trans hc5)
            have s6 := cell_regrown ((hby.cell (p := ⟨b, off + k * 7 + 6, none⟩) hlb).trans hc6)
            have z0 := cell_regrown hd0
            have z1 := cell_regrown hd1
            have z2 := cell_regrown hd2
            have z3 := cell_regrown hd3
            have z4 := cell_regrown hd4
            have z5 := cell_regrown hd5
            have z6 := cell_regrown hd6
            have bk : (k : Int) < (O.length : Int) := by omega
            clear HS HS2
            go_wp2_with fail
            refine wp_region_quiet_below (by kernel_rfl) (by kernel_rfl) ?_
            repeat (go_big_quiet_step (((go_at_call 58; exact Calls.regrown_of (HKin.out _)))))
            refine wpQuiet_nil ?_
            intro w5 hw'
            have hb5 := below_of_class hw'
            clear hw'
            go_wp2
            go_roundw
            case rel => exact ⟨m + 1, by omega, by go_num, by rw [← HV.out], by rw [E.out], hby.trans (hb5.mono hzy)⟩
            case measure => simp [intOf]; omega
          · have E := Lib.hid (show K (m + 1) = true by rw [HS.out]; simp)
            clear HS HS2 HKin
            go_wp2_with fail
            go_quiet (fail)
            go_wp2
            go_roundw
            case rel => exact ⟨m + 1, by omega, by go_num, by rw [← HV.out], by rw [E.out], below_drewN hby _⟩
            case measure => simp [intOf]; omega
        · obtain rfl : m = L.length := by omega
          obtain ⟨fb, hfb⟩ : ∃ fb : Bool, fitB L room x = fb := ⟨_, rfl⟩
          have HFIT := Lib.hid hfb
          have hfd := HFD.out
          rw [hfb] at hfd
          have hxr : x.rods = rods := by rw [HXE.out]
          rw [hxr] at hfd
          have HOIY := Lib.hid (OwnI.below HOI.out hby (Nat.le_refl _))
          clear hfb hxr HOI
          obtain ⟨km, hkm⟩ : ∃ km : Bool, K L.length = km := ⟨_, rfl⟩
          rw [hkm] at hfd ⊢
          clear hkm
          cases km
          · by_cases hro : rods + D L.length ≤ room
            · have dro : decide (rods + D L.length ≤ room) = true := decide_eq_true hro
              have hfb : fb = true := by rw [hfd, decide_eq_true (by omega)]; rfl
              subst hfb
              have E := Lib.hid (show S (k + 1) = L ++ [(⟨id_, land, made, upper, lower, rods, case_⟩ : ExhibitV)] by rw [HYk.out HFIT.out, HXE.out])
              have HLL := Lib.hid (show (S (k + 1)).length = L.length + 1 by rw [E.out]; simp)
              have HIL := Lib.hid (show idL (S (k + 1)) = idL L ++ [id_] by rw [E.out, idL_snoc])
              have HIN := Lib.hid (show (idL (S (k + 1))).length = (idL L).length + 1 by rw [HIL.out]; simp)
              have s0 := (hby.cell (p := ⟨b, off + k * 7, none⟩) hlb).trans hc0
              have s1 := (hby.cell (p := ⟨b, off + k * 7 + 1, none⟩) hlb).trans hc1
              have s2 := (hby.cell (p := ⟨b, off + k * 7 + 2, none⟩) hlb).trans hc2
              have s3 := (hby.cell (p := ⟨b, off + k * 7 + 3, none⟩) hlb).trans hc3
              have s4 := (hby.cell (p := ⟨b, off + k * 7 + 4, none⟩) hlb).trans hc4
              have s5 := (hby.cell (p := ⟨b, off + k * 7 + 5, none⟩) hlb).trans hc5
              have s6 := (hby.cell (p := ⟨b, off + k * 7 + 6, none⟩) hlb).trans hc6
              have cellO := fun {W : World} (hR : RdT exhibitT W (some ⟨b, off, none⟩) O) => cellOf hR HX0.out
              have bk : (k : Int) < (O.length : Int) := by omega
              clear HFIT hfd hro
              go_wp2_with (first
                | (at_builtin; refine wpList_appW exhibitT rfl _ _ rfl w.heap.size _ _ rfl hoY w.heap.size hbY ⟨id_, land, made, upper, lower, rods, case_⟩ _ rfl _ rfl rfl (by omega) hzY (Nat.le_refl _) ?_; intro A3 c3 w5 ho5 hb5 hgr5 hap5; have hop5 := (hopY.alloc (.cells #[.int .i64 id_, .string land, .int .i64 made, .int .i64 upper, .int .i64 lower, .int .i64 rods, .int .i64 case_] 26)).kept hgr5 HAP.out; have HAP5 := Lib.hid (hap5.out _ HAP.out (fun i hi => (hopY.lt i hi).2)); have p0 : w5.cell? ⟨b, off + k * 7, none⟩ = some (.int .i64 id_) := cellO hop5.rd; have HOI5 := Lib.hid (OwnI.kept (OwnI.alloc HOIY.out _) hgr5 (own_apart HOIY.out hoY (by decide))); have hz5 := hb5.size)
                | (at_builtin; refine wpList_app_int rfl _ _ rfl w.heap.size _ _ rfl HOI5.out w.heap.size w hb5 id_ 1 1 rfl rfl (by omega) hz5 (Nat.le_refl _) ?_; intro A4 c4 w6 ho6 hb6 hgr6; have ho56 := OwnT.kept (OwnT.alloc ho5 (.cells #[.int .i64 id_] 3)) hgr6 (own_apart ho5 HOI5.out (by decide)); have hop6 := OwnT.kept (OwnT.alloc hop5 (.cells #[.int .i64 id_] 3)) hgr6 (own_apart hop5 HOI5.out (by decide)); have HO6 := Lib.hid ho6; clear ho6))
              go_roundw
              case rel => exact ⟨k + 1, A3, A4, c3, c4, by omega, by go_num, by rw [HLL.out], by rw [HIN.out], by rw [HLL.out, E.out]; exact ho56, Lib.hid (by rw [HIN.out, HIL.out]; exact HO6.out), hop6, Lib.hid (by rw [HLL.out]; exact HAP5.out), hb6⟩
              case measure => simp [intOf]; omega
            · have dro : decide (rods + D L.length ≤ room) = false := decide_eq_false hro
              have hfb : fb = false := by rw [hfd, decide_eq_false (by omega)]; rfl
              subst hfb
              have E := Lib.hid (HNk.out HFIT.out)
              clear HFIT hfd hro
              go_wp2
              go_roundw
              case rel => exact ⟨k + 1, A1, A2, c1, c2, by omega, by go_num, by rw [E.out], by rw [E.out], by rw [E.out]; exact hoY, by rw [E.out]; exact HOIY, hopY, by rw [E.out]; exact HAP, hbY⟩
              case measure => simp [intOf]; omega
          · have hfb : fb = false := by rw [hfd]; simp
            subst hfb
            have E := Lib.hid (HNk.out HFIT.out)
            clear HFIT hfd
            go_wp2
            go_roundw
            case rel => exact ⟨k + 1, A1, A2, c1, c2, by omega, by go_num, by rw [E.out], by rw [E.out], by rw [E.out]; exact hoY, by rw [E.out]; exact HOIY, hopY, by rw [E.out]; exact HAP, hbY⟩
            case measure => simp [intOf]; omega
    · have HE := Lib.hid (show S k = S l.length by rw [show k = l.length by rw [← HEL.out]; omega])
      go_wp2
      go_ret2
      exact ⟨A2, c2, by rw [← HE.out]; rfl, by rw [← HE.out]; exact HOI.out, hb⟩
end Go.Proofs.Ythoejiepaackhaa
