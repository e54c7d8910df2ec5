/-
  The law over any calls and any order. Conditions: sizes, the errors package's cell.
-/
import Derived.Test.YtaecjabehbhpfaaDoorHist12
import Derived.Test.YtaecjabehbhpfaaDoorWithin
namespace Go.Proofs.YtaecjabehbhpfaaDoor
open Go.RowKit Go.Hd
theorem IntsAt.firsts {w : World} {a : Option Addr} {os : List Int} (h : IntsAt w a os) (n : Nat) : IntsAt w a (os.take n) := by
  rcases h with h | ⟨b, o, ha, hc⟩
  · subst h; exact .inl (by simp)
  · refine .inr ⟨b, o, ha, fun i x hx => hc i x ?_⟩
    rw [List.getElem?_take] at hx
    split at hx
    · exact hx
    · cases hx
set_option maxRecDepth 100000 in
set_option maxHeartbeats 1000000 in
theorem Where_nil (w : World) : Calls Tryd.prog 10 #[.nilIface] w fun x w' => x = .returned (.tuple #[.slice none 0 0, .int .i64 (-1)]) ∧ Below w.heap.size w w' := by
  have hA := As_nil
  go_enter Tryd.func10, Tryd.ntmps10
  go_wp2
  refine wp_loop_rounds 1 ?_
  rw [rounds_succ]
  go_wp2_with (go_at_call 21; refine (hA _ _).mono ?_; rintro e w1 ⟨rfl, rfl⟩)
  go_ret2
  exact ⟨rfl, below1 _ _⟩
theorem within_self (s : ByteArray) (k : Int) (e : Err) : (Err.flt s k e).within s = true := by simp [Err.within]
set_option maxRecDepth 100000 in
set_option maxHeartbeats 4000000 in
theorem law_any (a a2 : Option Addr) (l : List C) (os : List Int) (c c2 : Nat) (w : World) (hl : CallsAt w a l) (ho : IntsAt w a2 os) (hg : Glob w) (hsz : ∀ x ∈ l, x.ask.size ≤ maxLen ∧ x.ans.size ≤ maxLen) (hln : l.length ≤ maxLen) (hon : os.length ≤ maxLen) (hc2 : os.length ≤ c2) :
    Calls Tryd.prog 3 #[.slice a l.length c, .slice a2 os.length c2] w fun e w' => e = .returned (.bool true) ∧ Below w.heap.size w w' := by
  have HAW := Lib.hid (awake_any w hg)
  have HCA := Lib.hid (fun w' (hb : Below w.heap.size w w') => Calls_any a l c w' (CallsAt.below hl hb) hsz hln)
  have HG := Lib.hid hg
  have hw0 := hg.lt
  have HO := Lib.hid ho
  unfold maxLen at hon
  obtain ⟨fl, hfl⟩ : ∃ fl, fl = few l := ⟨_, rfl⟩
  have hf12 : fl.length ≤ 12 := by rw [hfl]; simp only [few, List.length_map, List.length_take]; omega
  rw [← hfl] at HCA
  clear hl hsz hln hfl hg ho
  by_cases h14 : os.length ≤ 14
  · go_enter Tryd.func3, Tryd.ntmps3
    go_wp2_with fail
    refine (HAW.out).mono ?_
    rintro e w1 ⟨rfl, hb1⟩
    have HB1 := Lib.hid hb1
    clear hb1
    go_wp2_with fail
    refine (HCA.out w1 HB1.out).mono ?_
    rintro e w2 ⟨v1, v2, rfl, ho1, ho2, hb2⟩
    have HB2 := Lib.hid ((HB1.out).trans (hb2.mono (HB1.out).size))
    obtain ⟨b1, k1, rfl, hca1⟩ := callsAt_of_own ho1
    obtain ⟨b2, k2, rfl, hca2⟩ := callsAt_of_own ho2
    have HV1 := Lib.hid hca1
    have HV2 := Lib.hid hca2
    have HI := Lib.hid (IntsAt.below HO.out HB2.out)
    clear hca1 hca2 ho1 ho2 hb2
    obtain ⟨ot, rfl⟩ : ∃ ot, ot = os := ⟨_, rfl⟩
    obtain ⟨A, rfl⟩ : ∃ A, A = a2 := ⟨_, rfl⟩
    go_wp2_with fail
    have HORD := Lib.hid (Order_any b1 A fl ot k1 c2 w2 HV1.out HI.out (by omega) (by omega) (by omega))
    have HROR := Lib.hid (fun w3 (hb : Below w2.heap.size w2 w3) => ROrder_any b2 A fl ot k2 c2 w3 (CallsAt.below HV2.out hb) (IntsAt.below HI.out hb) (by omega) (by omega) (by omega))
    have HREP := Lib.hid (fun w3 (hb : Below w2.heap.size w2 w3) => Replay_any ⟨#[]⟩ b1 A fl ot k1 c2 w3 (CallsAt.below HV1.out hb) (IntsAt.below HI.out hb) (by show 0 + ot.length ≤ 1000; omega) (by omega) (by omega))
    have HRRE := Lib.hid (fun w3 (hb : Below w2.heap.size w2 w3) (hr : ∀ i ∈ ot, 0 ≤ i ∧ i < fl.length) => RReplay_any ⟨#[]⟩ b2 A fl ot k2 c2 w3 (CallsAt.below HV2.out hb) (IntsAt.below HI.out hb) hr (by show 0 + ot.length ≤ 1000; omega))
    have hw2 := (HB2.out).size
    refine (HORD.out).mono ?_
    rintro e w3 ⟨hb3, hx3⟩
    have HD3 := Lib.hid hb3
    clear hb3 HORD
    cases hor : ordErr fl ot with
    | none =>
      rw [hor] at hx3
      obtain rfl := hx3
      have hro := HROR.out w3 HD3.out
      rw [hor] at hro
      have hph : ph1 fl.length [] ot 0 = none := by
        unfold ordErr at hor
        cases hx : ph1 fl.length [] ot 0 with
        | none => rfl
        | some e => rw [hx] at hor; cases hor
      have HPH := Lib.hid (ph1_none hph)
      have HRO := Lib.hid hro
      have HOR := Lib.hid hor
      clear hro hor HROR hph
      go_wp2_with fail
      refine (HRO.out).mono ?_
      rintro e w4 ⟨hb4, he4⟩
      simp only [Option.map_none, Option.getD_none] at he4
      obtain rfl := he4
      have HD4 := Lib.hid ((HD3.out).trans (hb4.mono (HD3.out).size))
      clear hb4 HRO
      go_wp2_with (go_at_call 8; refine (Of_nil _).mono ?_; rintro e w5 ⟨rfl, rfl⟩)
      refine (HREP.out _ HD4.out).mono ?_
      rintro e w6 ⟨hb6, hx6⟩
      rw [HOR.out] at hx6
      simp only at hx6
      have HD6 := Lib.hid ((HD4.out).trans (hb6.mono (HD4.out).size))
      clear hb6 HREP
      have hrr := HRRE.out w6 HD6.out HPH.out
      cases hr : repF fl ⟨#[]⟩ ot 0 with
      | none =>
        rw [hr] at hx6 hrr
        obtain rfl := hx6
        simp only [Option.getD_none, Option.isNone_none] at hrr
        have HRR := Lib.hid hrr
        clear hr hrr HRRE
        go_wp2_with fail
        refine (HRR.out).mono ?_
        rintro e w7 ⟨hb7, rfl⟩
        have HD7 := Lib.hid ((HD6.out).trans (hb7.mono (HD6.out).size))
        clear hb7
        go_wp2_with (go_at_call 10; refine (Where_nil _).mono ?_; rintro e w8 ⟨rfl, hb8⟩; have HD8 := Lib.hid ((HD7.out).trans (hb8.mono (HD7.out).size)); clear hb8)
        go_ret
        exact ⟨rfl, (HB2.out).trans ((HD8.out).mono hw2)⟩
      | some k =>
        rw [hr] at hx6 hrr
        obtain ⟨v6, rfl, hv6⟩ := hx6
        obtain ⟨T6, x6, rfl⟩ := ErrV.iface (e := .flt sReplay k (.num 12)) hv6
        simp only [Option.getD_some, Option.isNone_some] at hrr
        have HRR := Lib.hid hrr
        have HV6 := Lib.hid hv6
        clear hr hrr HRRE hv6
        go_wp2_with fail
        refine (HRR.out).mono ?_
        rintro e w7 ⟨hb7, rfl⟩
        have HD7 := Lib.hid ((HD6.out).trans (hb7.mono (HD6.out).size))
        have HV7 := Lib.hid (ErrV.keep (fun b hbb => hb7.block b hbb) HV6.out)
        have hw7 := (HD7.out).size
        have HG7 := Lib.hid ((HG.out).below ((HB2.out).trans ((HD7.out).mono hw2)) hw0)
        clear hb7
        go_wp2_with fail
        refine (Where_any (.flt sReplay k (.num 12)) _ w7 HG7.out HV7.out (by show 0 + 1 ≤ 1000; decide)).mono ?_
        rintro e w8 ⟨sv, rfl, _, hb8⟩
        have HD8 := Lib.hid ((HD7.out).trans (hb8.mono (HD7.out).size))
        have HOF := Lib.hid (Of_err (.flt sReplay k (.num 12)) _ w8 ((HG7.out).below hb8 (by omega)) (ErrV.keep (fun b hbb => hb8.block b hbb) HV7.out))
        simp only [Err.pos]
        clear hb8
        go_wp2_with (go_at_call 8; refine (HOF.out).mono ?_; simp only [Err.no]; rintro e w9 ⟨rfl, hb9⟩; have HD9 := Lib.hid ((HD8.out).trans (hb9.mono (HD8.out).size)); clear hb9)
        go_ret
        exact ⟨rfl, (HB2.out).trans ((HD9.out).mono hw2)⟩
    | some p =>
      obtain ⟨k, n⟩ := p
      have hn := ordErr_no hor
      have hn0 : n ≠ 0 := by omega
      rw [hor] at hx3
      obtain ⟨v3, rfl, hv3⟩ := hx3
      obtain ⟨T3, x3, rfl⟩ := ErrV.iface (e := .flt sOrder k (.num n)) hv3
      have HV3 := Lib.hid hv3
      have hro := HROR.out w3 HD3.out
      rw [hor] at hro
      have HRO := Lib.hid hro
      have HOR := Lib.hid hor
      clear hro hor HROR hv3 hn
      go_wp2_with fail
      refine (HRO.out).mono ?_
      rintro e w4 ⟨hb4, he4⟩
      simp only [Option.map_some, Option.getD_some] at he4
      obtain rfl := he4
      have HD4 := Lib.hid ((HD3.out).trans (hb4.mono (HD3.out).size))
      have hw4 := (HD4.out).size
      have HG4 := Lib.hid ((HG.out).below ((HB2.out).trans ((HD4.out).mono hw2)) hw0)
      have HV4 := Lib.hid (ErrV.keep (fun b hbb => hb4.block b hbb) HV3.out)
      clear hb4 HRO
      have HOF := Lib.hid (Of_err (.flt sOrder k (.num n)) _ w4 HG4.out HV4.out)
      go_wp2_with (go_at_call 8; refine (HOF.out).mono ?_; simp only [Err.no]; rintro e w5 ⟨rfl, hb5⟩; have HD5 := Lib.hid ((HD4.out).trans (hb5.mono (HD4.out).size)); have HV5 := Lib.hid (ErrV.keep (fun b hbb => hb5.block b hbb) HV4.out); clear hb5)
      refine (HREP.out _ HD5.out).mono ?_
      rintro e w6 ⟨hb6, hx6⟩
      rw [HOR.out] at hx6
      obtain ⟨v6, rfl, hv6⟩ := hx6
      obtain ⟨T6, x6, rfl⟩ := ErrV.iface (e := .flt sReplay ot.length (.flt sOrder k (.num n))) hv6
      have HD6 := Lib.hid ((HD5.out).trans (hb6.mono (HD5.out).size))
      have HV6 := Lib.hid hv6
      have HV36 := Lib.hid (ErrV.keep (fun b hbb => hb6.block b hbb) HV5.out)
      have hw6 := (HD6.out).size
      have HG6 := Lib.hid ((HG.out).below ((HB2.out).trans ((HD6.out).mono hw2)) hw0)
      clear hb6 hv6 HREP HRRE HOF
      go_wp2_with fail
      refine (Where_any (.flt sOrder k (.num n)) _ w6 HG6.out HV36.out (by show 0 + 1 ≤ 1000; decide)).mono ?_
      rintro e w7 ⟨sv, rfl, _, hb7⟩
      have HD7 := Lib.hid ((HD6.out).trans (hb7.mono (HD6.out).size))
      have HW1 := Lib.hid (Within_any (.flt sOrder k (.num n)) _ w7 sOrder (ErrV.keep (fun b hbb => hb7.block b hbb) HV36.out))
      have HV67 := Lib.hid (ErrV.keep (fun b hbb => hb7.block b hbb) HV6.out)
      simp only [Err.pos]
      clear hb7
      rw [within_self] at HW1
      unfold sOrder at HW1
      go_wp2_with fail
      refine (HW1.out).mono ?_
      rintro e w8 ⟨rfl, hb8⟩
      have HD8 := Lib.hid ((HD7.out).trans (hb8.mono (HD7.out).size))
      have HV8 := Lib.hid (ErrV.keep (fun b hbb => hb8.block b hbb) HV67.out)
      have HW2 := Lib.hid (Within_any (.flt sReplay ot.length (.flt sOrder k (.num n))) _ w8 sReplay HV8.out)
      rw [within_self] at HW2
      unfold sReplay at HW2
      clear hb8 HW1
      go_wp2_with fail
      refine (HW2.out).mono ?_
      rintro e w9 ⟨rfl, hb9⟩
      have HD9 := Lib.hid ((HD8.out).trans (hb9.mono (HD8.out).size))
      have hw9 := (HD9.out).size
      have HOF := Lib.hid (Of_err (.flt sReplay ot.length (.flt sOrder k (.num n))) _ w9 ((HG.out).below ((HB2.out).trans ((HD9.out).mono hw2)) hw0) (ErrV.keep (fun b hbb => hb9.block b hbb) HV8.out))
      clear hb9 HW2
      go_wp2_with (go_at_call 8; refine (HOF.out).mono ?_; simp only [Err.no]; rintro e w10 ⟨rfl, hb10⟩; have HD10 := Lib.hid ((HD9.out).trans (hb10.mono (HD9.out).size)); clear hb10)
      go_ret
      exact ⟨rfl, (HB2.out).trans ((HD10.out).mono hw2)⟩
  · have hl14 : (os.take 14).length = 14 := by simp; omega
    have hI0 := (HO.out).firsts 14
    obtain ⟨ot, hot⟩ : ∃ ot, ot = os.take 14 := ⟨_, rfl⟩
    rw [← hot] at hI0 hl14
    have HI0 := Lib.hid hI0
    clear hot hI0
    go_enter Tryd.func3, Tryd.ntmps3
    go_wp2_with fail
    refine (HAW.out).mono ?_
    rintro e w1 ⟨rfl, hb1⟩
    have HB1 := Lib.hid hb1
    clear hb1
    go_wp2_with fail
    refine (HCA.out w1 HB1.out).mono ?_
    rintro e w2 ⟨v1, v2, rfl, ho1, ho2, hb2⟩
    have HB2 := Lib.hid ((HB1.out).trans (hb2.mono (HB1.out).size))
    obtain ⟨b1, k1, rfl, hca1⟩ := callsAt_of_own ho1
    obtain ⟨b2, k2, rfl, hca2⟩ := callsAt_of_own ho2
    have HV1 := Lib.hid hca1
    have HV2 := Lib.hid hca2
    have HI := Lib.hid (IntsAt.below HI0.out HB2.out)
    clear hca1 hca2 ho1 ho2 hb2
    obtain ⟨A, rfl⟩ : ∃ A, A = a2 := ⟨_, rfl⟩
    go_wp2_with fail
    have HORD := Lib.hid (Order_any b1 A fl ot k1 c2 w2 HV1.out HI.out (by omega) (by omega) (by omega))
    have HROR := Lib.hid (fun w3 (hb : Below w2.heap.size w2 w3) => ROrder_any b2 A fl ot k2 c2 w3 (CallsAt.below HV2.out hb) (IntsAt.below HI.out hb) (by omega) (by omega) (by omega))
    have HREP := Lib.hid (fun w3 (hb : Below w2.heap.size w2 w3) => Replay_any ⟨#[]⟩ b1 A fl ot k1 c2 w3 (CallsAt.below HV1.out hb) (IntsAt.below HI.out hb) (by show 0 + ot.length ≤ 1000; omega) (by omega) (by omega))
    have HRRE := Lib.hid (fun w3 (hb : Below w2.heap.size w2 w3) (hr : ∀ i ∈ ot, 0 ≤ i ∧ i < fl.length) => RReplay_any ⟨#[]⟩ b2 A fl ot k2 c2 w3 (CallsAt.below HV2.out hb) (IntsAt.below HI.out hb) hr (by show 0 + ot.length ≤ 1000; omega))
    rw [hl14] at HORD HROR HREP HRRE
    have hw2 := (HB2.out).size
    refine (HORD.out).mono ?_
    rintro e w3 ⟨hb3, hx3⟩
    have HD3 := Lib.hid hb3
    clear hb3 HORD
    cases hor : ordErr fl ot with
    | none =>
      rw [hor] at hx3
      obtain rfl := hx3
      have hro := HROR.out w3 HD3.out
      rw [hor] at hro
      have hph : ph1 fl.length [] ot 0 = none := by
        unfold ordErr at hor
        cases hx : ph1 fl.length [] ot 0 with
        | none => rfl
        | some e => rw [hx] at hor; cases hor
      have HPH := Lib.hid (ph1_none hph)
      have HRO := Lib.hid hro
      have HOR := Lib.hid hor
      clear hro hor HROR hph
      go_wp2_with fail
      refine (HRO.out).mono ?_
      rintro e w4 ⟨hb4, he4⟩
      simp only [Option.map_none, Option.getD_none] at he4
      obtain rfl := he4
      have HD4 := Lib.hid ((HD3.out).trans (hb4.mono (HD3.out).size))
      clear hb4 HRO
      go_wp2_with (go_at_call 8; refine (Of_nil _).mono ?_; rintro e w5 ⟨rfl, rfl⟩)
      refine (HREP.out _ HD4.out).mono ?_
      rintro e w6 ⟨hb6, hx6⟩
      rw [HOR.out] at hx6
      simp only at hx6
      have HD6 := Lib.hid ((HD4.out).trans (hb6.mono (HD4.out).size))
      clear hb6 HREP
      have hrr := HRRE.out w6 HD6.out HPH.out
      cases hr : repF fl ⟨#[]⟩ ot 0 with
      | none =>
        rw [hr] at hx6 hrr
        obtain rfl := hx6
        simp only [Option.getD_none, Option.isNone_none] at hrr
        have HRR := Lib.hid hrr
        clear hr hrr HRRE
        go_wp2_with fail
        refine (HRR.out).mono ?_
        rintro e w7 ⟨hb7, rfl⟩
        have HD7 := Lib.hid ((HD6.out).trans (hb7.mono (HD6.out).size))
        clear hb7
        go_wp2_with (go_at_call 10; refine (Where_nil _).mono ?_; rintro e w8 ⟨rfl, hb8⟩; have HD8 := Lib.hid ((HD7.out).trans (hb8.mono (HD7.out).size)); clear hb8)
        go_ret
        exact ⟨rfl, (HB2.out).trans ((HD8.out).mono hw2)⟩
      | some k =>
        rw [hr] at hx6 hrr
        obtain ⟨v6, rfl, hv6⟩ := hx6
        obtain ⟨T6, x6, rfl⟩ := ErrV.iface (e := .flt sReplay k (.num 12)) hv6
        simp only [Option.getD_some, Option.isNone_some] at hrr
        have HRR := Lib.hid hrr
        have HV6 := Lib.hid hv6
        clear hr hrr HRRE hv6
        go_wp2_with fail
        refine (HRR.out).mono ?_
        rintro e w7 ⟨hb7, rfl⟩
        have HD7 := Lib.hid ((HD6.out).trans (hb7.mono (HD6.out).size))
        have HV7 := Lib.hid (ErrV.keep (fun b hbb => hb7.block b hbb) HV6.out)
        have hw7 := (HD7.out).size
        have HG7 := Lib.hid ((HG.out).below ((HB2.out).trans ((HD7.out).mono hw2)) hw0)
        clear hb7
        go_wp2_with fail
        refine (Where_any (.flt sReplay k (.num 12)) _ w7 HG7.out HV7.out (by show 0 + 1 ≤ 1000; decide)).mono ?_
        rintro e w8 ⟨sv, rfl, _, hb8⟩
        have HD8 := Lib.hid ((HD7.out).trans (hb8.mono (HD7.out).size))
        have HOF := Lib.hid (Of_err (.flt sReplay k (.num 12)) _ w8 ((HG7.out).below hb8 (by omega)) (ErrV.keep (fun b hbb => hb8.block b hbb) HV7.out))
        simp only [Err.pos]
        clear hb8
        go_wp2_with (go_at_call 8; refine (HOF.out).mono ?_; simp only [Err.no]; rintro e w9 ⟨rfl, hb9⟩; have HD9 := Lib.hid ((HD8.out).trans (hb9.mono (HD8.out).size)); clear hb9)
        go_ret
        exact ⟨rfl, (HB2.out).trans ((HD9.out).mono hw2)⟩
    | some p =>
      obtain ⟨k, n⟩ := p
      have hn := ordErr_no hor
      have hn0 : n ≠ 0 := by omega
      rw [hor] at hx3
      obtain ⟨v3, rfl, hv3⟩ := hx3
      obtain ⟨T3, x3, rfl⟩ := ErrV.iface (e := .flt sOrder k (.num n)) hv3
      have HV3 := Lib.hid hv3
      have hro := HROR.out w3 HD3.out
      rw [hor] at hro
      have HRO := Lib.hid hro
      have HOR := Lib.hid hor
      clear hro hor HROR hv3 hn
      go_wp2_with fail
      refine (HRO.out).mono ?_
      rintro e w4 ⟨hb4, he4⟩
      simp only [Option.map_some, Option.getD_some] at he4
      obtain rfl := he4
      have HD4 := Lib.hid ((HD3.out).trans (hb4.mono (HD3.out).size))
      have hw4 := (HD4.out).size
      have HG4 := Lib.hid ((HG.out).below ((HB2.out).trans ((HD4.out).mono hw2)) hw0)
      have HV4 := Lib.hid (ErrV.keep (fun b hbb => hb4.block b hbb) HV3.out)
      clear hb4 HRO
      have HOF := Lib.hid (Of_err (.flt sOrder k (.num n)) _ w4 HG4.out HV4.out)
      go_wp2_with (go_at_call 8; refine (HOF.out).mono ?_; simp only [Err.no]; rintro e w5 ⟨rfl, hb5⟩; have HD5 := Lib.hid ((HD4.out).trans (hb5.mono (HD4.out).size)); have HV5 := Lib.hid (ErrV.keep (fun b hbb => hb5.block b hbb) HV4.out); clear hb5)
      refine (HREP.out _ HD5.out).mono ?_
      rintro e w6 ⟨hb6, hx6⟩
      rw [HOR.out] at hx6
      obtain ⟨v6, rfl, hv6⟩ := hx6
      obtain ⟨T6, x6, rfl⟩ := ErrV.iface (e := .flt sReplay ot.length (.flt sOrder k (.num n))) hv6
      have HD6 := Lib.hid ((HD5.out).trans (hb6.mono (HD5.out).size))
      have HV6 := Lib.hid hv6
      have HV36 := Lib.hid (ErrV.keep (fun b hbb => hb6.block b hbb) HV5.out)
      have hw6 := (HD6.out).size
      have HG6 := Lib.hid ((HG.out).below ((HB2.out).trans ((HD6.out).mono hw2)) hw0)
      clear hb6 hv6 HREP HRRE HOF
      go_wp2_with fail
      refine (Where_any (.flt sOrder k (.num n)) _ w6 HG6.out HV36.out (by show 0 + 1 ≤ 1000; decide)).mono ?_
      rintro e w7 ⟨sv, rfl, _, hb7⟩
      have HD7 := Lib.hid ((HD6.out).trans (hb7.mono (HD6.out).size))
      have HW1 := Lib.hid (Within_any (.flt sOrder k (.num n)) _ w7 sOrder (ErrV.keep (fun b hbb => hb7.block b hbb) HV36.out))
      have HV67 := Lib.hid (ErrV.keep (fun b hbb => hb7.block b hbb) HV6.out)
      simp only [Err.pos]
      clear hb7
      rw [within_self] at HW1
      unfold sOrder at HW1
      go_wp2_with fail
      refine (HW1.out).mono ?_
      rintro e w8 ⟨rfl, hb8⟩
      have HD8 := Lib.hid ((HD7.out).trans (hb8.mono (HD7.out).size))
      have HV8 := Lib.hid (ErrV.keep (fun b hbb => hb8.block b hbb) HV67.out)
      have HW2 := Lib.hid (Within_any (.flt sReplay ot.length (.flt sOrder k (.num n))) _ w8 sReplay HV8.out)
      rw [within_self] at HW2
      unfold sReplay at HW2
      clear hb8 HW1
      go_wp2_with fail
      refine (HW2.out).mono ?_
      rintro e w9 ⟨rfl, hb9⟩
      have HD9 := Lib.hid ((HD8.out).trans (hb9.mono (HD8.out).size))
      have hw9 := (HD9.out).size
      have HOF := Lib.hid (Of_err (.flt sReplay ot.length (.flt sOrder k (.num n))) _ w9 ((HG.out).below ((HB2.out).trans ((HD9.out).mono hw2)) hw0) (ErrV.keep (fun b hbb => hb9.block b hbb) HV8.out))
      clear hb9 HW2
      go_wp2_with (go_at_call 8; refine (HOF.out).mono ?_; simp only [Err.no]; rintro e w10 ⟨rfl, hb10⟩; have HD10 := Lib.hid ((HD9.out).trans (hb10.mono (HD9.out).size)); clear hb10)
      go_ret
      exact ⟨rfl, (HB2.out).trans ((HD10.out).mono hw2)⟩
end Go.Proofs.YtaecjabehbhpfaaDoor
