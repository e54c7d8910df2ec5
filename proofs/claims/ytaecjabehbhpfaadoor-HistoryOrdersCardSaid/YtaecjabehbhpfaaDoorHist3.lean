/-
  history.Order by its contract over any calls and any order. Conditions: sizes.
-/
import Derived.Test.YtaecjabehbhpfaaDoorHist2
namespace Go.Proofs.YtaecjabehbhpfaaDoor
open Go.RowKit Go.Hd
def sOrder : ByteArray := ⟨#[111, 114, 100, 101, 114]⟩
/-- What history.Order answers. -/
def OrdPost (r : Option (Nat × Int)) (w : World) (e : Ending) (w' : World) : Prop :=
  Below w.heap.size w w' ∧ match r with
  | none => e = .returned .nilIface
  | some (k, n) => ∃ v, e = .returned v ∧ ErrV w' v (.flt sOrder k (.num n))
theorem below_of {w w1 : World} (h : Below w.heap.size w w1) (o : Obj) : Below w.heap.size w (w1.alloc o) := h.alloc h.size o
theorem ordPost_err {w w1 : World} {k : Nat} {n : Int} (h : Below w.heap.size w w1) : OrdPost (some (k, n)) w (.returned (.iface 63 (.pointer (some ⟨w1.heap.size, 0, none⟩)))) (w1.alloc (.cells #[.string sOrder, .int .i64 k, .iface 33 (.int .i64 n)] 66)) :=
  ⟨below_of h _, _, rfl, w1.heap.size, _, rfl, heap_alloc_new _ _, rfl⟩
theorem ordPost_err' {w w1 : World} {k N : Nat} {n : Int} (h : Below w.heap.size w w1) (hN : N = w1.heap.size) : OrdPost (some (k, n)) w (.returned (.iface 63 (.pointer (some ⟨N, 0, none⟩)))) (w1.alloc (.cells #[.string sOrder, .int .i64 k, .iface 33 (.int .i64 n)] 66)) := by
  subst hN; exact ordPost_err h
theorem Tryd.zeroInt (w : World) : (zeroValue 3).run Tryd.prog w = .ok (.int .i64 0) w := by kernel_rfl
def KI : KeyK Tryd.prog 3 Int := intK Tryd.underlying3
theorem KI_key (x : Int) : KI.key x = .int .i64 x := rfl
/-- The map of places: its keys are these. -/
def Seen (w : World) (b : Nat) (ks : List Int) : Prop := ∃ m, MapAt KI w b m ∧ m.map (·.1) = ks ∧ ∀ p ∈ m, ∃ n, p.2 = .int .i64 n
theorem Seen.look {w : World} {b : Nat} {ks : List Int} (h : Seen w b ks) (x : Int) : ∃ m, MapAt KI w b m ∧ (lookV x m).isSome = decide (x ∈ ks) ∧ ∃ n, (lookV x m).getD (.int .i64 0) = .int .i64 n := by
  obtain ⟨m, hm, hk, hv⟩ := h
  refine ⟨m, hm, ?_, ?_⟩
  · cases hx : ix x m 0 with
    | none => have := ix_none.1 hx; rw [hk] at this; simp [lookV, hx, this]
    | some p =>
      have : x ∈ ks := by
        rw [← hk]
        exact Classical.byContradiction fun hn => by rw [ix_none.2 hn] at hx; cases hx
      simp [lookV, hx, this]
  · cases hx : ix x m 0 with
    | none => exact ⟨0, by simp [lookV, hx]⟩
    | some p =>
      obtain ⟨j, u⟩ := p
      obtain ⟨_, hj⟩ := ix_some hx
      obtain ⟨n, hn⟩ := hv _ (List.mem_iff_getElem?.2 ⟨_, hj⟩)
      exact ⟨n, by simp [lookV, hx]; exact hn⟩
theorem Seen.put {w' : World} {b : Nat} {ks : List Int} {m : List (Int × Value)} {x k : Int} (hk : m.map (·.1) = ks) (hv : ∀ p ∈ m, ∃ n, p.2 = .int .i64 n) (hx : x ∉ ks) (h : MapAt KI w' b (putV x (.int .i64 k) m)) : Seen w' b (ks ++ [x]) := by
  have hn : ix x m 0 = none := ix_none.2 (by rw [hk]; exact hx)
  have hp : putV x (.int .i64 k) m = m ++ [(x, .int .i64 k)] := by simp [putV, hn]
  rw [hp] at h
  refine ⟨_, h, by simp [hk], fun p hp => ?_⟩
  rcases List.mem_append.1 hp with hp | hp
  · exact hv p hp
  · simp at hp; exact ⟨k, by rw [hp]⟩
set_option maxRecDepth 100000 in
set_option maxHeartbeats 4000000 in
theorem Order_any (a a2 : Option Addr) (l : List C) (os : List Int) (c c2 : Nat) (w : World) (hl : CallsAt w a l) (ho : IntsAt w a2 os) (hln : l.length ≤ 1000) (hon : os.length ≤ 1000) (hc2 : os.length ≤ c2) :
    Calls Tryd.prog 6 #[.slice a l.length c, .slice a2 os.length c2] w (OrdPost (ordErr l os) w) := by
  have hmm := @run_makeMap Tryd.prog
  have HL := Lib.hid hl
  have HO := Lib.hid ho
  have HC2 := Lib.hid hc2
  obtain ⟨r, hr⟩ : ∃ r, r = ordErr l os := ⟨_, rfl⟩
  rw [← hr]
  have HR := Lib.hid hr
  clear hl ho hr hc2
  go_enter Tryd.func6, Tryd.ntmps6
  go_wp2_with fail
  go_loopg [21] (os.length + 1) (fun k v wr => ∃ i : Nat, i ≤ os.length ∧ v = .int .i64 i ∧ k = os.length - i + 1 ∧ Hid (ph1 l.length [] os 0 = ph1 l.length (os.take i) (os.drop i) i) ∧ Hid (Seen wr w.heap.size (os.take i)) ∧ Hid (Below w.heap.size w wr))
  case atStart => exact ⟨0, by omega, rfl, rfl, rfl, ⟨[], MapAt.new w, rfl, by simp⟩, (Below.refl _ _).alloc (Nat.le_refl _) _⟩
  case round =>
    obtain ⟨i, hi, rfl, hk, HP, HS, HB⟩ := hrel
    subst hk
    have hsz := (HB.out).size
    by_cases hlt : i < os.length
    · obtain ⟨b, o, rfl, hc⟩ := (HO.out.below HB.out).at hlt
      obtain ⟨x, hx⟩ : ∃ x, x = os[i] := ⟨_, rfl⟩
      rw [← hx] at hc
      have HX := Lib.hid hx
      clear hx
      have hstep : ph1 l.length (os.take i) (os.drop i) i = if x < 0 ∨ (l.length : Int) ≤ x then some (i, 6) else if x ∈ os.take i then some (i, 9) else ph1 l.length (os.take (i + 1)) (os.drop (i + 1)) (i + 1) := by
        rw [List.drop_eq_getElem_cons hlt, ph1, List.take_succ_eq_append_getElem hlt, HX.out]
      have HST := Lib.hid hstep
      clear hstep
      by_cases hbad : x < 0 ∨ (l.length : Int) ≤ x
      · have HF : Hid (r = some (i, 6)) := by
          show r = _
          rw [HR.out, ordErr, HP.out, HST.out, if_pos hbad]
        have hdec : (x < 0) ∨ (0 ≤ x ∧ (l.length : Int) ≤ x) := by omega
        clear hbad
        rcases hdec with hb | ⟨hb, hb2⟩
        all_goals
          go_wp2_with (go_at_call 16; refine (in_num _ _ _ _ (by decide)).mono ?_; rintro e w' ⟨rfl, rfl⟩)
          go_ret
          rw [HF.out]
          exact ordPost_err HB.out
      · have HBAD := Lib.hid hbad
        have hx0 : 0 ≤ x := by omega
        have hxl : x < (l.length : Int) := by omega
        clear hbad
        obtain ⟨m, hm, hsome, n, hn⟩ := (HS.out).look x
        have HM := Lib.hid hm
        have HN := Lib.hid hn
        clear hm hn
        by_cases hin : x ∈ os.take i
        · have HF : Hid (r = some (i, 9)) := by
            show r = _
            rw [HR.out, ordErr, HP.out, HST.out, if_neg HBAD.out, if_pos hin]
          have hs2 : (lookV x m).isSome = true := by rw [hsome]; simpa using hin
          clear hin hsome
          go_wp2_with (first | (at_lookup; refine wpList_lookup _ rfl _ _ 52 true rfl KI 3 Tryd.underlying52 (.int .i64 0) (Tryd.zeroInt _) w.heap.size m rfl HM.out x rfl ?_; rw [HN.out]; simp only [if_true]) | (go_at_call 16; refine (in_num _ _ _ _ (by decide)).mono ?_; rintro e w' ⟨rfl, rfl⟩))
          go_ret
          rw [HF.out]
          exact ordPost_err HB.out
        · have HF : Hid (ph1 l.length [] os 0 = ph1 l.length (os.take (i + 1)) (os.drop (i + 1)) (i + 1)) := by
            show _ = _
            rw [HP.out, HST.out, if_neg HBAD.out, if_neg hin]
          have hs2 : (lookV x m).isSome = false := by rw [hsome]; simpa using hin
          have HIN := Lib.hid hin
          obtain ⟨m2, hm2, hk2, hv2⟩ := (HS.out)
          have HM2 := Lib.hid hm2
          have HK2 := Lib.hid (And.intro hk2 hv2)
          clear hin hsome hm2 hk2 hv2
          go_wp2_with (first | (at_lookup; refine wpList_lookup _ rfl _ _ 52 true rfl KI 3 Tryd.underlying52 (.int .i64 0) (Tryd.zeroInt _) w.heap.size m rfl HM.out x rfl ?_; rw [HN.out]; simp only [if_true]) | (at_mapUpdate; refine wpList_update _ rfl _ _ _ 52 rfl KI 3 Tryd.underlying52 w.heap.size m2 rfl HM2.out x rfl _ rfl ?_; intro w1 hmw hgr; have HMW := Lib.hid hmw; have HGR := Lib.hid hgr; clear hmw hgr))
          go_roundg (os.length - i)
          case measure => omega
          case rel =>
            refine ⟨i + 1, by omega, by go_num, by omega, HF.out, ?_, ?_⟩
            · have := Seen.put (HK2.out.1) (HK2.out.2) (by exact HIN.out) HMW.out
              rw [List.take_succ_eq_append_getElem hlt, ← HX.out]; exact this
            · exact (HB.out).grown HGR.out hsz (fun k e => by cases e; exact Nat.le_refl _)
    · obtain rfl : i = os.length := by omega
      have HF : Hid (ph1 l.length [] os 0 = none) := by
        show _ = _
        rw [HP.out]; simp [ph1]
      clear HP hlt hi
      rw [List.take_length] at HS
      obtain ⟨wo, rfl⟩ : ∃ wo : World, wo = wr := ⟨_, rfl⟩
      go_wp2_with fail
      go_loopg [53] (l.length + 1) (fun k v wr => ∃ i : Nat, i ≤ l.length ∧ v = .int .i64 i ∧ k = l.length - i + 1 ∧ Hid (ph2 os l 0 = ph2 os (l.drop i) i) ∧ Hid (Seen wr w.heap.size os) ∧ Hid (Below w.heap.size w wr))
      case atStart => exact ⟨0, by omega, rfl, rfl, rfl, HS.out, HB.out⟩
      case round =>
        clear HS HB hsz
        obtain ⟨i, hi, rfl, hk, HP, HS, HB⟩ := hrel
        subst hk
        have hsz := (HB.out).size
        by_cases hlt : i < l.length
        · obtain ⟨b, o, rfl, hc0, hc1, hc2, hc3, hc4⟩ := (HL.out.below HB.out).at hlt
          obtain ⟨x, hx⟩ : ∃ x, x = l[i] := ⟨_, rfl⟩
          rw [← hx] at hc0 hc1 hc2 hc3 hc4
          have HX := Lib.hid hx
          have hstep : ph2 os (l.drop i) i = if 0 ≤ x.to ∧ (i : Int) ∉ os then some (i, 8) else ph2 os (l.drop (i + 1)) (i + 1) := by
            rw [List.drop_eq_getElem_cons hlt, ph2, hx]
          have HST := Lib.hid hstep
          clear hx hstep
          obtain ⟨m, hm, hsome, n, hn⟩ := (HS.out).look (i : Int)
          have HM := Lib.hid (hm.kept (heap_alloc_lt wr (.cells (cellsC x) 46) _ hm.lt))
          have HN := Lib.hid hn
          have hO := fun w => Open_any x w
          unfold cellsC at hO HM
          clear hm hn
          by_cases hin : (i : Int) ∈ os
          · have HF : Hid (ph2 os l 0 = ph2 os (l.drop (i + 1)) (i + 1)) := by
              show _ = _
              rw [HP.out, HST.out, if_neg (fun h => h.2 hin)]
            have hs2 : (lookV (i : Int) m).isSome = true := by rw [hsome]; simpa using hin
            clear hin hsome hO
            go_wp2_with (at_lookup; refine wpList_lookup _ rfl _ _ 52 true rfl KI 3 Tryd.underlying52 (.int .i64 0) (Tryd.zeroInt _) w.heap.size m rfl HM.out (i : Int) rfl ?_; rw [HN.out]; simp only [if_true])
            go_roundg (l.length - i)
            case measure => omega
            case rel =>
              refine ⟨i + 1, by omega, by go_num, by omega, HF.out, ?_, below_of HB.out _⟩
              obtain ⟨m2, h1, h2⟩ := HS.out
              exact ⟨m2, h1.kept (heap_alloc_lt _ _ _ h1.lt), h2⟩
          · have hs2 : (lookV (i : Int) m).isSome = false := by rw [hsome]; simpa using hin
            have HIN := Lib.hid hin
            clear hin hsome
            by_cases hto : x.to < 0
            · have HF : Hid (ph2 os l 0 = ph2 os (l.drop (i + 1)) (i + 1)) := by
                show _ = _
                rw [HP.out, HST.out, if_neg (by omega)]
              simp only [decide_eq_true hto] at hO
              go_wp2_with (first | (at_lookup; refine wpList_lookup _ rfl _ _ 52 true rfl KI 3 Tryd.underlying52 (.int .i64 0) (Tryd.zeroInt _) w.heap.size m rfl HM.out (i : Int) rfl ?_; rw [HN.out]; simp only [if_true]) | (go_at_call 17; refine (hO _).mono ?_; rintro e w' ⟨rfl, rfl⟩))
              go_roundg (l.length - i)
              case measure => omega
              case rel =>
                refine ⟨i + 1, by omega, by go_num, by omega, HF.out, ?_, below_of (below_of HB.out _) _⟩
                obtain ⟨m2, h1, h2⟩ := HS.out
                exact ⟨m2, (h1.kept (heap_alloc_lt _ _ _ h1.lt)).kept (heap_alloc_lt _ _ _ (by have := h1.lt; simp; omega)), h2⟩
            · have HF2 : Hid (r = some (i, 8)) := by
                show r = _
                rw [HR.out, ordErr, HF.out]
                simp only
                rw [HP.out, HST.out, if_pos ⟨by omega, HIN.out⟩]
              simp only [decide_eq_false hto] at hO
              go_wp2_with (first | (at_lookup; refine wpList_lookup _ rfl _ _ 52 true rfl KI 3 Tryd.underlying52 (.int .i64 0) (Tryd.zeroInt _) w.heap.size m rfl HM.out (i : Int) rfl ?_; rw [HN.out]; simp only [if_true]) | (go_at_call 17; refine (hO _).mono ?_; rintro e w' ⟨rfl, rfl⟩) | (go_at_call 16; refine (in_num _ _ _ _ (by decide)).mono ?_; rintro e w' ⟨rfl, rfl⟩))
              go_ret
              rw [HF2.out]
              exact ordPost_err' (below_of (below_of HB.out _) _) (by simp)
        · obtain rfl : i = l.length := by omega
          have HF2 : Hid (ph2 os l 0 = none) := by
            show _ = _
            rw [HP.out]; simp [ph2]
          clear HP hlt hi
          obtain ⟨wo2, rfl⟩ : ∃ wo2 : World, wo2 = wr := ⟨_, rfl⟩
          have HRNG := Lib.hid (ph1_none HF.out)
          have HR3 : Hid (r = ph3 l os 0) := by
            show r = _
            rw [HR.out, ordErr, HF.out]
            simp only
            rw [HF2.out]
          clear HR HF HF2 HS hsz
          go_wp2_with fail
          go_loopg [77] (os.length + 1) (fun k v wr => ∃ i : Nat, i ≤ os.length ∧ v = .int .i64 i ∧ k = os.length - i + 1 ∧ Hid (ph3 l os 0 = ph3 l (os.drop i) i) ∧ Hid (Below w.heap.size w wr))
          case atStart => exact ⟨0, by omega, rfl, rfl, rfl, HB.out⟩
          case round =>
            clear HB
            obtain ⟨i, hi, rfl, hk, HP, HB⟩ := hrel
            subst hk
            have hsz := (HB.out).size
            by_cases hlt : i < os.length
            · obtain ⟨A, hsl, hA⟩ := reslice_ints a2 os c2 (i + 1) hlt HC2.out w HO.out
              obtain ⟨b, o, rfl, hc⟩ := (HO.out.below HB.out).at hlt
              obtain ⟨x, hx⟩ : ∃ x, x = os[i] := ⟨_, rfl⟩
              rw [← hx] at hc
              have HX := Lib.hid hx
              have hrx := HRNG.out x (by rw [hx]; exact List.getElem_mem hlt)
              have hx0 := hrx.1
              have hxl := hrx.2
              obtain ⟨rs, hrs⟩ : ∃ rs, rs = os.drop (i + 1) := ⟨_, rfl⟩
              rw [← hrs] at hsl hA
              have hsl2 : ∀ W : World, (Instr.slice 23 (.slice (some ⟨b, o, none⟩) os.length c2) (some (.int .i64 ((i : Int) + 1))) none none).run Tryd.prog W = .ok (.slice A rs.length (c2 - (i + 1))) W := fun W => hsl W
              have hrl : rs.length ≤ 1000 := by rw [hrs, List.length_drop]; omega
              have HA := Lib.hid hA
              have hrr : ∀ y ∈ rs, 0 ≤ y ∧ y < (l.length : Int) := fun y hy => HRNG.out y (List.mem_of_mem_drop (by rw [hrs] at hy; exact hy))
              have HRR := Lib.hid hrr
              have hst : ph3 l (os.drop i) i = if rs.any (hitB l x) then some (i, 18) else ph3 l rs (i + 1) := by
                rw [List.drop_eq_getElem_cons hlt, ph3, hrs, hx]
              have HST := Lib.hid hst
              have HRS := Lib.hid hrs
              have hxn : x.toNat < l.length := by omega
              obtain ⟨cx, hcx⟩ : ∃ cx, cx = l[x.toNat]'hxn := ⟨_, rfl⟩
              have HCX := Lib.hid hcx
              clear hx hrx hsl hA hrs hrr hst hcx
              obtain ⟨wo3, rfl⟩ : ∃ wo3 : World, wo3 = wr := ⟨_, rfl⟩
              go_wp2_with fail
              go_loopg [87] (rs.length + 1) (fun k v wr => ∃ j : Nat, j ≤ rs.length ∧ v = .int .i64 j ∧ k = rs.length - j + 1 ∧ Hid ((rs.take j).any (hitB l x) = false) ∧ Hid (Below w.heap.size w wr))
              case atStart => exact ⟨0, by omega, rfl, rfl, rfl, HB.out⟩
              case round =>
                clear HB hsz hc
                obtain ⟨j, hj, rfl, hk, HN, HB⟩ := hrel
                subst hk
                have hsz := (HB.out).size
                by_cases hlj : j < rs.length
                · obtain ⟨b3, o3, rfl, hc3⟩ := (HA.out.below HB.out).at hlj
                  obtain ⟨y, hy⟩ : ∃ y, y = rs[j] := ⟨_, rfl⟩
                  rw [← hy] at hc3
                  have hyr := HRR.out y (by rw [hy]; exact List.getElem_mem hlj)
                  have hy0 := hyr.1
                  have hyl := hyr.2
                  have HY := Lib.hid hy
                  clear hy hyr
                  obtain ⟨bl, ol, rfl, p0, p1, p2, p3, p4⟩ := (HL.out.below HB.out).at (i := x.toNat) (by omega)
                  obtain ⟨bl', ol', hbl, q0, q1, q2, q3, q4⟩ := (HL.out.below HB.out).at (i := y.toNat) (by omega)
                  simp only [Option.some.injEq, Addr.mk.injEq, and_true] at hbl
                  obtain ⟨rfl, rfl⟩ := hbl
                  rw [← HCX.out] at p0 p1 p2 p3 p4
                  have hyn : y.toNat < l.length := by omega
                  obtain ⟨cy, hcy⟩ : ∃ cy, cy = l[y.toNat]'hyn := ⟨_, rfl⟩
                  rw [← hcy] at q0 q1 q2 q3 q4
                  have HCY := Lib.hid hcy
                  have hhit : hitB l x y = aheadB cy cx := by
                    unfold hitB
                    rw [List.getElem?_eq_getElem (show y.toNat < l.length by omega), List.getElem?_eq_getElem (show x.toNat < l.length by omega), HCX.out, hcy]
                  have HH := Lib.hid hhit
                  clear hcy hhit
                  have hA3 := fun w => ahead_any cy cx w
                  have hBd : Below w.heap.size w (((wr.drew.alloc (.cells (cellsC cy) 46)).alloc (.cells (cellsC cx) 46)).alloc (.cells (cellsC cy) 46)) := below_of (below_of (below_of (HB.out).drew _) _) _
                  have HBD := Lib.hid hBd
                  clear hBd
                  by_cases hh : aheadB cy cx = true
                  · rw [hh] at hA3 HH
                    have HF : Hid (r = some (i, 18)) := by
                      show r = _
                      rw [HR3.out, HP.out, HST.out, if_pos]
                      rw [List.any_eq_true]
                      exact ⟨y, by rw [HY.out]; exact List.getElem_mem hlj, HH.out⟩
                    unfold cellsC at hA3 HBD
                    clear hh
                    go_wp2_with fail
                    go_still_tail 8, (by kernel_rfl)
                    change wpList _ _ _ _ _ wr.drew
                    go_wp2_with (first | (go_at_call 18; refine (hA3 _).mono ?_; rintro e w' ⟨rfl, rfl⟩) | (go_at_call 16; refine (in_num _ _ _ _ (by decide)).mono ?_; rintro e w' ⟨rfl, rfl⟩))
                    go_ret
                    rw [HF.out]
                    exact ordPost_err' HBD.out (by simp)
                  · have hh' : aheadB cy cx = false := by simpa using hh
                    rw [hh'] at hA3 HH
                    have HF : Hid ((rs.take (j + 1)).any (hitB l x) = false) := by
                      show _ = _
                      rw [List.take_succ_eq_append_getElem hlj, List.any_append, HN.out, ← HY.out]
                      simp only [List.any_cons, List.any_nil, HH.out, Bool.or_false]
                    unfold cellsC at hA3 HBD
                    clear hh hh'
                    go_wp2_with fail
                    go_still_tail 8, (by kernel_rfl)
                    change wpList _ _ _ _ _ wr.drew
                    go_wp2_with (go_at_call 18; refine (hA3 _).mono ?_; rintro e w' ⟨rfl, rfl⟩)
                    go_roundg (rs.length - j)
                    case measure => omega
                    case rel => exact ⟨j + 1, by omega, by go_num, by omega, HF.out, HBD.out⟩
                · obtain rfl : j = rs.length := by omega
                  have HF : Hid (ph3 l os 0 = ph3 l (os.drop (i + 1)) (i + 1)) := by
                    show _ = _
                    have h1 := HN.out
                    rw [List.take_length] at h1
                    rw [HP.out, HST.out, if_neg (by rw [h1]; simp), HRS.out]
                  clear hj hlj HN
                  go_wp2
                  go_roundg (os.length - i)
                  case measure => omega
                  case rel => exact ⟨i + 1, by omega, by go_num, by omega, HF.out, HB.out⟩
            · obtain rfl : i = os.length := by omega
              have HF : Hid (r = none) := by
                show r = _
                rw [HR3.out, HP.out]; simp [ph3]
              go_wp2
              go_ret
              rw [HF.out]
              exact ⟨HB.out, rfl⟩
end Go.Proofs.YtaecjabehbhpfaaDoor
