/-
  The reference's Order by its contract over any calls and any order. Conditions: sizes.
-/
import Derived.Test.YtaecjabehbhpfaaDoorHist3
namespace Go.Proofs.YtaecjabehbhpfaaDoor
open Go.RowKit Go.Hd
/-- What the reference's Order answers. -/
def ROrdPost (r : Option (Nat × Int)) (w : World) (e : Ending) (w' : World) : Prop :=
  Below w.heap.size w w' ∧ e = .returned (.tuple #[.int .i64 ((r.map (fun p => (p.1 : Int))).getD 0), .int .i64 ((r.map (·.2)).getD 0)])
theorem Tryd.sizeInt' (w : World) : (sizeOf 3).run Tryd.prog w = .ok 1 w := by kernel_rfl
/-- The first places of a slice of whole numbers. -/
theorem reslice_ints_hi (a : Option Addr) (os : List Int) (c hi : Nat) (hhi : hi ≤ os.length) (hc : os.length ≤ c) (w : World) (h : IntsAt w a os) :
    ∃ A, (∀ W : World, (Instr.slice 23 (.slice a os.length c) none (some (.int .i64 hi)) none).run Tryd.prog W = .ok (.slice A (os.take hi).length c) W) ∧ IntsAt w A (os.take hi) := by
  refine ⟨_, fun W => by rw [run_reslice_hi Tryd.underlying23 Tryd.sizeInt' a os.length c hi (by omega) W, List.length_take, Nat.min_eq_left hhi]; rfl, ?_⟩
  rcases h with h | ⟨b, o, ha, hcell⟩
  · subst h; exact .inl (by simp)
  · refine .inr ⟨b, o, ?_, fun i x hx => hcell i x ?_⟩
    · rw [ha]; simp [Addr.add]
    · rw [List.getElem?_take] at hx
      split at hx
      · exact hx
      · cases hx
set_option maxRecDepth 100000 in
set_option maxHeartbeats 4000000 in
theorem ROrder_any (a a2 : Option Addr) (l : List C) (os : List Int) (c c2 : Nat) (w : World) (hl : CallsAt w a l) (ho : IntsAt w a2 os) (hln : l.length ≤ 1000) (hon : os.length ≤ 1000) (hc2 : os.length ≤ c2) :
    Calls Tryd.prog 7 #[.slice a l.length c, .slice a2 os.length c2] w (ROrdPost (ordErr l os) w) := by
  have HL := Lib.hid hl
  have HO := Lib.hid ho
  have HC2 := Lib.hid hc2
  obtain ⟨r, hr⟩ : ∃ r, r = ordErr l os := ⟨_, rfl⟩
  rw [← hr]
  have HR := Lib.hid hr
  clear hl ho hr hc2
  go_enter Tryd.func7, Tryd.ntmps7
  go_wp2_with fail
  go_loop [16] (fun v => ∃ i : Nat, i ≤ os.length ∧ v = .int .i64 i ∧ Hid (ph1 l.length [] os 0 = ph1 l.length (os.take i) (os.drop i) i)) (fun v => os.length - (intOf v).toNat)
  case atStart => exact ⟨0, by omega, rfl, rfl⟩
  case round =>
    obtain ⟨i, hi, rfl, HP⟩ := hrel
    by_cases hlt : i < os.length
    · obtain ⟨A, hsl, hA⟩ := reslice_ints_hi a2 os c2 i hi HC2.out w HO.out
      obtain ⟨b, o, rfl, hc⟩ := HO.out.at hlt
      obtain ⟨x, hx⟩ : ∃ x, x = os[i] := ⟨_, rfl⟩
      rw [← hx] at hc
      have HX := Lib.hid hx
      have hin := in_any A (os.take i) c2 x w hA (by rw [List.length_take]; omega)
      obtain ⟨q, hq⟩ : ∃ q, q = os.take i := ⟨_, rfl⟩
      rw [← hq] at hsl hin
      have HQ := Lib.hid hq
      have HIN := Lib.hid hin
      clear hx hA hq hin
      have hstep : ph1 l.length (os.take i) (os.drop i) i = if x < 0 ∨ (l.length : Int) ≤ x then some (i, 6) else if x ∈ os.take i then some (i, 9) else ph1 l.length (os.take (i + 1)) (os.drop (i + 1)) (i + 1) := by
        rw [List.drop_eq_getElem_cons hlt, ph1, List.take_succ_eq_append_getElem hlt, HX.out]
      have HST := Lib.hid hstep
      clear hstep
      by_cases hbad : x < 0 ∨ (l.length : Int) ≤ x
      · have HF : Hid (r = some (i, 6)) := by
          show r = _
          rw [HR.out, ordErr, HP.out, HST.out, if_pos hbad]
        have hdec : (x < 0) ∨ (0 ≤ x ∧ (l.length : Int) ≤ x) := by omega
        clear hbad
        rcases hdec with hb | ⟨hb, hb2⟩
        all_goals
          go_wp2
          go_ret2
          rw [HF.out]
          exact ⟨Below.refl _ _, rfl⟩
      · have HBAD := Lib.hid hbad
        have hx0 : 0 ≤ x := by omega
        have hxl : x < (l.length : Int) := by omega
        clear hbad
        by_cases hm : x ∈ q
        · have HF : Hid (r = some (i, 9)) := by
            show r = _
            rw [HR.out, ordErr, HP.out, HST.out, if_neg HBAD.out, if_pos (by rw [← HQ.out]; exact hm)]
          have HI2 : Hid (Calls Tryd.prog 19 #[.slice A q.length c2, .int .i64 x] w fun e w' => e = .returned (.bool true) ∧ w' = w) := by
            have := HIN.out; rw [decide_eq_true hm] at this; exact this
          clear hm
          go_wp2_with (go_at_call 19; refine (HI2.out).mono ?_; rintro e w' ⟨rfl, rfl⟩)
          go_ret2
          rw [HF.out]
          exact ⟨Below.refl _ _, rfl⟩
        · have HF : Hid (ph1 l.length [] os 0 = ph1 l.length (os.take (i + 1)) (os.drop (i + 1)) (i + 1)) := by
            show _ = _
            rw [HP.out, HST.out, if_neg HBAD.out, if_neg (by rw [← HQ.out]; exact hm)]
          have HI2 : Hid (Calls Tryd.prog 19 #[.slice A q.length c2, .int .i64 x] w fun e w' => e = .returned (.bool false) ∧ w' = w) := by
            have := HIN.out; rw [decide_eq_false hm] at this; exact this
          clear hm
          go_wp2_with (go_at_call 19; refine (HI2.out).mono ?_; rintro e w' ⟨rfl, rfl⟩)
          go_round
          case rel => exact ⟨i + 1, by omega, by go_num, HF.out⟩
          case measure => simp [intOf]; omega
    · obtain rfl : i = os.length := by omega
      have HF : Hid (ph1 l.length [] os 0 = none) := by
        show _ = _
        rw [HP.out]; simp [ph1]
      clear HP hlt hi
      go_wp2_with fail
      go_loopg [39] (l.length + 1) (fun k v wr => ∃ i : Nat, i ≤ l.length ∧ v = .int .i64 i ∧ k = l.length - i + 1 ∧ Hid (ph2 os l 0 = ph2 os (l.drop i) i) ∧ Hid (Below w.heap.size w wr))
      case atStart => exact ⟨0, by omega, rfl, rfl, rfl, Below.refl _ _⟩
      case round =>
        obtain ⟨i, hi, rfl, hk, HP, HB⟩ := hrel
        subst hk
        have hsz := (HB.out).size
        by_cases hlt : i < l.length
        · obtain ⟨b, o, rfl, hc0, hc1, hc2, hc3, hc4⟩ := (HL.out.below HB.out).at hlt
          obtain ⟨x, hx⟩ : ∃ x, x = l[i] := ⟨_, rfl⟩
          rw [← hx] at hc0 hc1 hc2 hc3 hc4
          have HX := Lib.hid hx
          have hstep : ph2 os (l.drop i) i = if 0 ≤ x.to ∧ (i : Int) ∉ os then some (i, 8) else ph2 os (l.drop (i + 1)) (i + 1) := by
            rw [List.drop_eq_getElem_cons hlt, ph2, hx]
          have HST := Lib.hid hstep
          have HBc := Lib.hid (below_of HB.out (.cells (cellsC x) 51))
          have HIN := Lib.hid (fun w => in_any a2 os c2 (i : Int) w)
          unfold cellsC at HBc
          clear hx hstep
          by_cases hto : x.to < 0
          · have hto2 : decide (0 ≤ x.to) = false := by simp; omega
            have HF2 : Hid (ph2 os l 0 = ph2 os (l.drop (i + 1)) (i + 1)) := by
              show _ = _
              rw [HP.out, HST.out, if_neg (by omega)]
            go_wp2_with fail
            go_roundg (l.length - i)
            case measure => omega
            case rel => exact ⟨i + 1, by omega, by go_num, by omega, HF2.out, HBc.out⟩
          · have hto2 : 0 ≤ x.to := by omega
            by_cases hin : (i : Int) ∈ os
            · have HF2 : Hid (ph2 os l 0 = ph2 os (l.drop (i + 1)) (i + 1)) := by
                show _ = _
                rw [HP.out, HST.out, if_neg (fun h => h.2 hin)]
              have HI2 := Lib.hid (HIN.out _ (HO.out.below HBc.out) hon)
              rw [decide_eq_true hin] at HI2
              clear hin
              go_wp2_with (go_at_call 19; refine (HI2.out).mono ?_; rintro e w' ⟨rfl, rfl⟩)
              go_roundg (l.length - i)
              case measure => omega
              case rel => exact ⟨i + 1, by omega, by go_num, by omega, HF2.out, HBc.out⟩
            · have HF2 : Hid (r = some (i, 8)) := by
                show r = _
                rw [HR.out, ordErr, HF.out]
                simp only
                rw [HP.out, HST.out, if_pos ⟨by omega, hin⟩]
              have HI2 := Lib.hid (HIN.out _ (HO.out.below HBc.out) hon)
              rw [decide_eq_false hin] at HI2
              clear hin
              go_wp2_with (go_at_call 19; refine (HI2.out).mono ?_; rintro e w' ⟨rfl, rfl⟩)
              go_ret2
              rw [HF2.out]
              exact ⟨HBc.out, rfl⟩
        · obtain rfl : i = l.length := by omega
          have HF2 : Hid (ph2 os l 0 = none) := by
            show _ = _
            rw [HP.out]; simp [ph2]
          clear HP hlt hi
          obtain ⟨wo2, rfl⟩ : ∃ wo2 : World, wo2 = wr := ⟨_, rfl⟩
          have HRNG := Lib.hid (ph1_none HF.out)
          have HR3 : Hid (r = ph3 l os 0) := by
            show r = _
            rw [HR.out, ordErr, HF.out]
            simp only
            rw [HF2.out]
          clear HR HF HF2 hsz
          go_wp2_with fail
          go_loopg [57] (os.length + 1) (fun k v wr => ∃ i : Nat, i ≤ os.length ∧ v = .int .i64 i ∧ k = os.length - i + 1 ∧ Hid (ph3 l os 0 = ph3 l (os.drop i) i) ∧ Hid (Below w.heap.size w wr))
          case atStart => exact ⟨0, by omega, rfl, rfl, rfl, HB.out⟩
          case round =>
            clear HB
            obtain ⟨i, hi, rfl, hk, HP, HB⟩ := hrel
            subst hk
            have hsz := (HB.out).size
            by_cases hlt : i < os.length
            · obtain ⟨A, hsl, hA⟩ := reslice_ints a2 os c2 (i + 1) hlt HC2.out w HO.out
              obtain ⟨b, o, rfl, hc⟩ := (HO.out.below HB.out).at hlt
              obtain ⟨x, hx⟩ : ∃ x, x = os[i] := ⟨_, rfl⟩
              rw [← hx] at hc
              have HX := Lib.hid hx
              have hrx := HRNG.out x (by rw [hx]; exact List.getElem_mem hlt)
              have hx0 := hrx.1
              have hxl := hrx.2
              obtain ⟨rs, hrs⟩ : ∃ rs, rs = os.drop (i + 1) := ⟨_, rfl⟩
              rw [← hrs] at hsl hA
              have hsl2 : ∀ W : World, (Instr.slice 23 (.slice (some ⟨b, o, none⟩) os.length c2) (some (.int .i64 ((i : Int) + 1))) none none).run Tryd.prog W = .ok (.slice A rs.length (c2 - (i + 1))) W := fun W => hsl W
              have hrl : rs.length ≤ 1000 := by rw [hrs, List.length_drop]; omega
              have HA := Lib.hid hA
              have hrr : ∀ y ∈ rs, 0 ≤ y ∧ y < (l.length : Int) := fun y hy => HRNG.out y (List.mem_of_mem_drop (by rw [hrs] at hy; exact hy))
              have HRR := Lib.hid hrr
              have hst : ph3 l (os.drop i) i = if rs.any (hitB l x) then some (i, 18) else ph3 l rs (i + 1) := by
                rw [List.drop_eq_getElem_cons hlt, ph3, hrs, hx]
              have HST := Lib.hid hst
              have HRS := Lib.hid hrs
              have hxn : x.toNat < l.length := by omega
              obtain ⟨cx, hcx⟩ : ∃ cx, cx = l[x.toNat]'hxn := ⟨_, rfl⟩
              have HCX := Lib.hid hcx
              clear hx hrx hsl hA hrs hrr hst hcx
              obtain ⟨wo3, rfl⟩ : ∃ wo3 : World, wo3 = wr := ⟨_, rfl⟩
              go_wp2_with fail
              go_loopg [67] (rs.length + 1) (fun k v wr => ∃ j : Nat, j ≤ rs.length ∧ v = .int .i64 j ∧ k = rs.length - j + 1 ∧ Hid ((rs.take j).any (hitB l x) = false) ∧ Hid (Below w.heap.size w wr))
              case atStart => exact ⟨0, by omega, rfl, rfl, rfl, HB.out⟩
              case round =>
                clear HB hsz hc
                obtain ⟨j, hj, rfl, hk, HN, HB⟩ := hrel
                subst hk
                have hsz := (HB.out).size
                by_cases hlj : j < rs.length
                · obtain ⟨b3, o3, rfl, hc3⟩ := (HA.out.below HB.out).at hlj
                  obtain ⟨y, hy⟩ : ∃ y, y = rs[j] := ⟨_, rfl⟩
                  rw [← hy] at hc3
                  have hyr := HRR.out y (by rw [hy]; exact List.getElem_mem hlj)
                  have hy0 := hyr.1
                  have hyl := hyr.2
                  have HY := Lib.hid hy
                  clear hy hyr
                  obtain ⟨bl, ol, rfl, p0, p1, p2, p3, p4⟩ := (HL.out.below HB.out).at (i := x.toNat) (by omega)
                  obtain ⟨bl', ol', hbl, q0, q1, q2, q3, q4⟩ := (HL.out.below HB.out).at (i := y.toNat) (by omega)
                  simp only [Option.some.injEq, Addr.mk.injEq, and_true] at hbl
                  obtain ⟨rfl, rfl⟩ := hbl
                  rw [← HCX.out] at p0 p1 p2 p3 p4
                  have hyn : y.toNat < l.length := by omega
                  obtain ⟨cy, hcy⟩ : ∃ cy, cy = l[y.toNat]'hyn := ⟨_, rfl⟩
                  rw [← hcy] at q0 q1 q2 q3 q4
                  have HCY := Lib.hid hcy
                  have hhit : hitB l x y = aheadB cy cx := by
                    unfold hitB
                    rw [List.getElem?_eq_getElem (show y.toNat < l.length by omega), List.getElem?_eq_getElem (show x.toNat < l.length by omega), HCX.out, hcy]
                  have HH := Lib.hid hhit
                  clear hcy hhit
                  have hA3 := fun w => Ahead_any cy cx w
                  have hBd : Below w.heap.size w ((wr.drew.alloc (.cells (cellsC cy) 51)).alloc (.cells (cellsC cx) 51)) := below_of (below_of (HB.out).drew _) _
                  have HBD := Lib.hid hBd
                  clear hBd
                  by_cases hh : aheadB cy cx = true
                  · rw [hh] at hA3 HH
                    have HF : Hid (r = some (i, 18)) := by
                      show r = _
                      rw [HR3.out, HP.out, HST.out, if_pos]
                      rw [List.any_eq_true]
                      exact ⟨y, by rw [HY.out]; exact List.getElem_mem hlj, HH.out⟩
                    unfold cellsC at hA3 HBD
                    clear hh
                    go_wp2_with fail
                    go_still_tail 8, (by kernel_rfl)
                    change wpList _ _ _ _ _ wr.drew
                    go_wp2_with (go_at_call 20; refine (hA3 _).mono ?_; rintro e w' ⟨rfl, rfl⟩)
                    go_ret2
                    rw [HF.out]
                    exact ⟨HBD.out, rfl⟩
                  · have hh' : aheadB cy cx = false := by simpa using hh
                    rw [hh'] at hA3 HH
                    have HF : Hid ((rs.take (j + 1)).any (hitB l x) = false) := by
                      show _ = _
                      rw [List.take_succ_eq_append_getElem hlj, List.any_append, HN.out, ← HY.out]
                      simp only [List.any_cons, List.any_nil, HH.out, Bool.or_false]
                    unfold cellsC at hA3 HBD
                    clear hh hh'
                    go_wp2_with fail
                    go_still_tail 8, (by kernel_rfl)
                    change wpList _ _ _ _ _ wr.drew
                    go_wp2_with (go_at_call 20; refine (hA3 _).mono ?_; rintro e w' ⟨rfl, rfl⟩)
                    go_roundg (rs.length - j)
                    case measure => omega
                    case rel => exact ⟨j + 1, by omega, by go_num, by omega, HF.out, HBD.out⟩
                · obtain rfl : j = rs.length := by omega
                  have HF : Hid (ph3 l os 0 = ph3 l (os.drop (i + 1)) (i + 1)) := by
                    show _ = _
                    have h1 := HN.out
                    rw [List.take_length] at h1
                    rw [HP.out, HST.out, if_neg (by rw [h1]; simp), HRS.out]
                  clear hj hlj HN
                  go_wp2
                  go_roundg (os.length - i)
                  case measure => omega
                  case rel => exact ⟨i + 1, by omega, by go_num, by omega, HF.out, HB.out⟩
            · obtain rfl : i = os.length := by omega
              have HF : Hid (r = none) := by
                show r = _
                rw [HR3.out, HP.out]; simp [ph3]
              go_wp2
              go_ret2
              rw [HF.out]
              exact ⟨HB.out, rfl⟩
end Go.Proofs.YtaecjabehbhpfaaDoor
