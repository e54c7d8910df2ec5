/-
  The replays by contracts over any calls and any order that stands for calls. Conditions: sizes.
-/
import Derived.Test.YtaecjabehbhpfaaDoorHist5
import Derived.Test.YtaecjabehbhpfaaDoorAs4
import Derived.Deep.RegionHeld3
namespace Go.Proofs.YtaecjabehbhpfaaDoor
open Go.RowKit Go.Hd
/-- Where a replay parts from what was answered. -/
def repF (l : List C) : ByteArray → List Int → Nat → Option Nat
  | _, [], _ => none
  | s, i :: r, k => match l[i.toNat]? with
    | none => none
    | some c => if (decide (0 ≤ c.to) && !((cntA s).toList == c.ans.toList)) = true then some k else repF l (cntN s c.ask) r (k + 1)
theorem cntN_size (s ask : ByteArray) : (cntN s ask).size ≤ s.size + 1 := by
  unfold cntN
  split
  · rw [ByteArray.size_append]; exact Nat.le_refl _
  · omega
set_option maxRecDepth 100000 in
set_option maxHeartbeats 2000000 in
theorem RReplay_any (s : ByteArray) (a a2 : Option Addr) (l : List C) (os : List Int) (c c2 : Nat) (w : World) (hl : CallsAt w a l) (ho : IntsAt w a2 os) (hr : ∀ i ∈ os, 0 ≤ i ∧ i < l.length) (hs : s.size + os.length ≤ 1000) :
    Calls Tryd.prog 12 #[.string s, .slice a l.length c, .slice a2 os.length c2] w fun e w' => Below w.heap.size w w' ∧ e = .returned (.tuple #[.int .i64 ((((repF l s os 0).getD 0 : Nat)) : Int), .bool (repF l s os 0).isNone]) := by
  have HL := Lib.hid hl
  have HO := Lib.hid ho
  have HR := Lib.hid hr
  obtain ⟨r, hrr⟩ : ∃ r, r = repF l s os 0 := ⟨_, rfl⟩
  rw [← hrr]
  have HRR := Lib.hid hrr
  clear hl ho hr hrr
  go_enter Tryd.func12, Tryd.ntmps12
  go_wp2_with fail
  go_loopg [0, 14] (os.length + 1) (fun k v0 v wr => ∃ (i : Nat) (t : ByteArray), i ≤ os.length ∧ v = .int .i64 i ∧ v0 = .string t ∧ k = os.length - i + 1 ∧ t.size + (os.length - i) ≤ 1000 ∧ Hid (r = repF l t (os.drop i) i) ∧ Hid (Below w.heap.size w wr))
  case atStart => exact ⟨0, s, by omega, rfl, rfl, rfl, by omega, HRR.out, Below.refl _ _⟩
  case round =>
    obtain ⟨i, t, hi, rfl, rfl, hk, hts, HP, HB⟩ := hrel
    subst hk
    have hsz := (HB.out).size
    by_cases hlt : i < os.length
    · obtain ⟨b, o, rfl, hc⟩ := (HO.out.below HB.out).at hlt
      obtain ⟨x, hx⟩ : ∃ x, x = os[i] := ⟨_, rfl⟩
      rw [← hx] at hc
      have hrx := HR.out x (by rw [hx]; exact List.getElem_mem hlt)
      have hx0 := hrx.1
      have hxl := hrx.2
      have hxn : x.toNat < l.length := by omega
      obtain ⟨bl, ol, rfl, p0, p1, p2, p3, p4⟩ := (HL.out.below HB.out).at (i := x.toNat) hxn
      obtain ⟨cx, hcx⟩ : ∃ cx, cx = l[x.toNat]'hxn := ⟨_, rfl⟩
      rw [← hcx] at p0 p1 p2 p3 p4
      have hst : repF l t (os.drop i) i = if (decide (0 ≤ cx.to) && !((cntA t).toList == cx.ans.toList)) = true then some i else repF l (cntN t cx.ask) (os.drop (i + 1)) (i + 1) := by
        rw [List.drop_eq_getElem_cons hlt, repF, ← hx, List.getElem?_eq_getElem hxn, ← hcx]
      have HST := Lib.hid hst
      have HX := Lib.hid (And.intro hx hcx)
      have hC := fun W => Count_any t cx.ask W (by omega)
      have hns := cntN_size t cx.ask
      obtain ⟨tn, htn⟩ : ∃ tn, tn = cntN t cx.ask := ⟨_, rfl⟩
      obtain ⟨an, han⟩ : ∃ an, an = cntA t := ⟨_, rfl⟩
      rw [← htn] at hC hns
      rw [← han] at hC
      have HTN := Lib.hid htn
      have HAN := Lib.hid han
      have HC := Lib.hid hC
      clear hx hrx hcx hst hC htn han
      have hcell : ∀ W', Below wr.heap.size wr W' → W'.cell? ⟨bl, ol + x.toNat * 5 + 2, none⟩ = some (.int .i64 cx.to) ∧ W'.cell? ⟨bl, ol + x.toNat * 5 + 4, none⟩ = some (.string cx.ans) := fun W' hb => ⟨keep_below hb _ _ p2, keep_below hb _ _ p4⟩
      have HCELL := Lib.hid hcell
      clear hcell
      by_cases hto : cx.to < 0
      · have hd : decide (0 ≤ cx.to) = false := by simp; omega
        have HF : Hid (r = repF l tn (os.drop (i + 1)) (i + 1)) := by
          show r = _
          rw [HP.out, HST.out, hd, if_neg (by simp), HTN.out]
        go_wp2_with fail
        refine (HC.out _).mono ?_
        rintro e w' ⟨rfl, hb⟩
        obtain ⟨g2, g4⟩ := HCELL.out w' hb
        have HB2 := Lib.hid ((HB.out).trans (hb.mono hsz))
        clear hb
        go_wp2
        go_roundg (os.length - i)
        case measure => omega
        case rel => exact ⟨i + 1, tn, by omega, by go_num, rfl, by omega, by omega, HF.out, HB2.out⟩
      · have hto0 : 0 ≤ cx.to := by omega
        by_cases hq : (an.toList == cx.ans.toList) = true
        · have HF : Hid (r = repF l tn (os.drop (i + 1)) (i + 1)) := by
            show r = _
            rw [HP.out, HST.out, ← HAN.out, hq, if_neg (by simp), HTN.out]
          go_wp2_with fail
          refine (HC.out _).mono ?_
          rintro e w' ⟨rfl, hb⟩
          obtain ⟨g2, g4⟩ := HCELL.out w' hb
          have HB2 := Lib.hid ((HB.out).trans (hb.mono hsz))
          clear hb
          go_wp2
          go_roundg (os.length - i)
          case measure => omega
          case rel => exact ⟨i + 1, tn, by omega, by go_num, rfl, by omega, by omega, HF.out, HB2.out⟩
        · have hq' : (an.toList == cx.ans.toList) = false := by simpa using hq
          have HF : Hid (r = some i) := by
            show r = _
            rw [HP.out, HST.out, ← HAN.out, hq', if_pos (by simp; omega)]
          clear hq
          go_wp2_with fail
          refine (HC.out _).mono ?_
          rintro e w' ⟨rfl, hb⟩
          obtain ⟨g2, g4⟩ := HCELL.out w' hb
          have HB2 := Lib.hid ((HB.out).trans (hb.mono hsz))
          clear hb
          go_wp2
          go_ret2
          rw [HF.out]
          exact ⟨HB2.out, rfl⟩
    · obtain rfl : i = os.length := by omega
      have HF : Hid (r = none) := by
        show r = _
        rw [HP.out]; simp [repF]
      go_wp2
      go_ret2
      rw [HF.out]
      exact ⟨HB.out, rfl⟩
def sReplay : ByteArray := ⟨#[114, 101, 112, 108, 97, 121]⟩
/-- What history.Replay answers. -/
def RepPost (l : List C) (os : List Int) (s : ByteArray) (w : World) (e : Ending) (w' : World) : Prop :=
  Below w.heap.size w w' ∧ match ordErr l os with
  | some (k, n) => ∃ v, e = .returned v ∧ ErrV w' v (.flt sReplay os.length (.flt sOrder k (.num n)))
  | none => match repF l s os 0 with
    | none => e = .returned .nilIface
    | some k => ∃ v, e = .returned v ∧ ErrV w' v (.flt sReplay k (.num 12))
theorem ordErr_no {l : List C} {os : List Int} {k : Nat} {n : Int} (h : ordErr l os = some (k, n)) : n = 6 ∨ n = 9 ∨ n = 8 ∨ n = 18 := by
  have h1 : ∀ (seen os : List Int) (j : Nat), ph1 l.length seen os j = some (k, n) → n = 6 ∨ n = 9 ∨ n = 8 ∨ n = 18 := by
    intro seen os
    induction os generalizing seen with
    | nil => intro j h; simp [ph1] at h
    | cons x r ih =>
      intro j h
      unfold ph1 at h
      split at h
      · simp at h; omega
      · split at h
        · simp at h; omega
        · exact ih _ _ h
  have h2 : ∀ (l' : List C) (j : Nat), ph2 os l' j = some (k, n) → n = 6 ∨ n = 9 ∨ n = 8 ∨ n = 18 := by
    intro l'
    induction l' with
    | nil => intro j h; simp [ph2] at h
    | cons x r ih =>
      intro j h
      unfold ph2 at h
      split at h
      · simp at h; omega
      · exact ih _ h
  have h3 : ∀ (os : List Int) (j : Nat), ph3 l os j = some (k, n) → n = 6 ∨ n = 9 ∨ n = 8 ∨ n = 18 := by
    intro os
    induction os with
    | nil => intro j h; simp [ph3] at h
    | cons x r ih =>
      intro j h
      unfold ph3 at h
      split at h
      · simp at h; omega
      · exact ih _ h
  unfold ordErr at h
  cases hx : ph1 l.length [] os 0 with
  | some e => rw [hx] at h; exact h1 _ _ _ (hx.trans h)
  | none =>
    rw [hx] at h
    cases hy : ph2 os l 0 with
    | some e => rw [hy] at h; exact h2 _ _ (hy.trans h)
    | none => rw [hy] at h; exact h3 _ _ h
theorem Tryd.methodNext (w : World) : (Go.method 269 37 (.agg #[]) "Next").run Tryd.prog w = .ok (76, .agg #[]) w := by kernel_rfl
theorem Tryd.aheadNext (w : World) : (Go.nilAhead 269 37 (.agg #[]) "Next").run Tryd.prog w = .ok (some false) w := by kernel_rfl
theorem cell_more' {w : World} {b o : Nat} {v : Value} (ob : Obj) (hc : w.cell? ⟨b, o, none⟩ = some v) : (w.alloc ob).cell? ⟨b, o, none⟩ = some v :=
  (World.cell?_alloc_lt _ _ ⟨b, o, none⟩ (World.block_lt_of_cell? _ _ hc)).trans hc
theorem heap_alloc_at {w : World} (o : Obj) (n : Nat) (h : n = w.heap.size) : (w.alloc o).heap[n]? = some o := by
  subst h; exact heap_alloc_new _ _
set_option maxRecDepth 100000 in
set_option maxHeartbeats 2000000 in
theorem Replay_any (s : ByteArray) (a a2 : Option Addr) (l : List C) (os : List Int) (c c2 : Nat) (w : World) (hl : CallsAt w a l) (ho : IntsAt w a2 os) (hs : s.size + os.length ≤ 1000) (hln : l.length ≤ 1000) (hc2 : os.length ≤ c2) :
    Calls Tryd.prog 9 #[.iface 37 (.agg #[]), .string s, .slice a l.length c, .slice a2 os.length c2] w (RepPost l os s w) := by
  have HORD := Lib.hid (Order_any a a2 l os c c2 w hl ho hln (by omega) hc2)
  have HL := Lib.hid hl
  have HO := Lib.hid ho
  cases hor : ordErr l os with
  | some p =>
    obtain ⟨k, n⟩ := p
    have HE := Lib.hid hor
    have hn := ordErr_no hor
    clear hl ho hor
    go_enter Tryd.func9, Tryd.ntmps9
    go_wp2_with fail
    refine (HORD.out).mono ?_
    rintro e w1 ⟨hb, hx⟩
    rw [HE.out] at hx
    obtain ⟨v, rfl, hv⟩ := hx
    have HB := Lib.hid hb
    obtain ⟨T, x, rfl⟩ := ErrV.iface (e := .flt sOrder k (.num n)) hv
    have HV := Lib.hid hv
    have hn0 : ((Err.flt sOrder k (.num n)).no == 0) = false := by show (n == 0) = false; simp; omega
    have HN := Lib.hid hn0
    clear hb hv hn hn0
    go_wp2_with fail
    refine (in_err _ _ _ (.flt sOrder k (.num n)) w1 HV.out HN.out).mono ?_
    rintro e w2 ⟨v2, rfl, hv2, hb2⟩
    have H2 := Lib.hid (And.intro hv2 hb2)
    clear hv2 hb2
    go_wp2
    go_ret
    refine ⟨(HB.out).trans ((H2.out.2).mono (HB.out).size), ?_⟩
    rw [HE.out]
    exact ⟨_, rfl, H2.out.1⟩
  | none =>
    have HE := Lib.hid hor
    have hph : ph1 l.length [] os 0 = none := by
      unfold ordErr at hor
      cases hx : ph1 l.length [] os 0 with
      | none => rfl
      | some e => rw [hx] at hor; cases hor
    have HR := Lib.hid (ph1_none hph)
    obtain ⟨r, hrr⟩ : ∃ r, r = repF l s os 0 := ⟨_, rfl⟩
    have HRR := Lib.hid hrr
    have hM := Tryd.methodNext
    have hA := Tryd.aheadNext
    clear hl ho hor hph hrr
    go_enter Tryd.func9, Tryd.ntmps9
    go_wp2_with fail
    refine (HORD.out).mono ?_
    rintro e w1 ⟨hb, hx⟩
    rw [HE.out] at hx
    obtain rfl := hx
    have HB0 := Lib.hid hb
    clear hb
    go_wp2_with fail
    go_loopg [1, 25] (os.length + 1) (fun k v0 v wr => ∃ (i : Nat) (t : ByteArray), i ≤ os.length ∧ v = .int .i64 i ∧ v0 = .string t ∧ k = os.length - i + 1 ∧ t.size + (os.length - i) ≤ 1000 ∧ Hid (r = repF l t (os.drop i) i) ∧ Hid (Below w.heap.size w wr))
    case atStart => exact ⟨0, s, by omega, rfl, rfl, rfl, by omega, HRR.out, HB0.out⟩
    case round =>
      clear HB0
      obtain ⟨i, t, hi, rfl, rfl, hk, hts, HP, HB⟩ := hrel
      subst hk
      have hsz := (HB.out).size
      by_cases hlt : i < os.length
      · obtain ⟨b, o, rfl, hc⟩ := (HO.out.below HB.out).at hlt
        obtain ⟨x, hx⟩ : ∃ x, x = os[i] := ⟨_, rfl⟩
        rw [← hx] at hc
        have hrx := HR.out x (by rw [hx]; exact List.getElem_mem hlt)
        have hx0 := hrx.1
        have hxl := hrx.2
        have hxn : x.toNat < l.length := by omega
        obtain ⟨bl, ol, rfl, p0, p1, p2, p3, p4⟩ := (HL.out.below HB.out).at (i := x.toNat) hxn
        obtain ⟨cx, hcx⟩ : ∃ cx, cx = l[x.toNat]'hxn := ⟨_, rfl⟩
        rw [← hcx] at p0 p1 p2 p3 p4
        have hst : repF l t (os.drop i) i = if (decide (0 ≤ cx.to) && !((cntA t).toList == cx.ans.toList)) = true then some i else repF l (cntN t cx.ask) (os.drop (i + 1)) (i + 1) := by
          rw [List.drop_eq_getElem_cons hlt, repF, ← hx, List.getElem?_eq_getElem hxn, ← hcx]
        have HST := Lib.hid hst
        have hC := fun W => Next_any t cx.ask W (by omega)
        have hns := cntN_size t cx.ask
        obtain ⟨tn, htn⟩ : ∃ tn, tn = cntN t cx.ask := ⟨_, rfl⟩
        obtain ⟨an, han⟩ : ∃ an, an = cntA t := ⟨_, rfl⟩
        rw [← htn] at hC hns
        rw [← han] at hC
        have HTN := Lib.hid htn
        have HAN := Lib.hid han
        have HC := Lib.hid hC
        clear hx hrx hcx hst hC htn han
        go_wp2_with fail
        go_region_held3 (fun w' => w'.cell? ⟨bl, ol + x.toNat * 5 + 3, none⟩ = some (.string cx.ask)) (first | go_keep | exact keep_below hb _ _ p3) ((go_at_call 76; refine (HC.out _).mono ?_; rintro e w' ⟨rfl, hb⟩))
        have g2 : w'.cell? ⟨bl, ol + x.toNat * 5 + 2, none⟩ = some (.int .i64 cx.to) := keep_below hb _ _ p2
        have g4 : w'.cell? ⟨bl, ol + x.toNat * 5 + 4, none⟩ = some (.string cx.ans) := keep_below hb _ _ p4
        have g0 : w'.cell? ⟨bl, ol + x.toNat * 5, none⟩ = some (.int .i64 cx.who) := keep_below hb _ _ p0
        have g1 : w'.cell? ⟨bl, ol + x.toNat * 5 + 1, none⟩ = some (.int .i64 cx.fr) := keep_below hb _ _ p1
        have g3 : w'.cell? ⟨bl, ol + x.toNat * 5 + 3, none⟩ = some (.string cx.ask) := keep_below hb _ _ p3
        have HB2 := Lib.hid ((HB.out).trans (Below.trans ((Below.refl _ wr).drew) (hb.mono hsz)))
        have hO := fun w => Open_any cx w
        unfold cellsC at hO
        have HBc := Lib.hid (below_of HB2.out (.cells (cellsC cx) 46))
        unfold cellsC at HBc
        clear hb
        have hcell : ∀ o, (w'.alloc o).cell? ⟨bl, ol + x.toNat * 5 + 4, none⟩ = some (.string cx.ans) := fun o => cell_more' o g4
        have HCE := Lib.hid (hcell (.cells (cellsC cx) 46))
        unfold cellsC at HCE
        clear hcell
        have g4' := HCE.out
        by_cases hto : cx.to < 0
        · have hd : decide (0 ≤ cx.to) = false := by simp; omega
          have HF : Hid (r = repF l tn (os.drop (i + 1)) (i + 1)) := by
            show r = _
            rw [HP.out, HST.out, hd, if_neg (by simp), HTN.out]
          simp only [decide_eq_true hto] at hO
          go_wp2_with (go_at_call 17; refine (hO _).mono ?_; rintro e w' ⟨rfl, rfl⟩)
          go_roundg (os.length - i)
          case measure => omega
          case rel => exact ⟨i + 1, tn, by omega, by go_num, rfl, by omega, by omega, HF.out, HBc.out⟩
        · have hto0 : 0 ≤ cx.to := by omega
          simp only [decide_eq_false hto] at hO
          by_cases hq : (an.toList == cx.ans.toList) = true
          · have HF : Hid (r = repF l tn (os.drop (i + 1)) (i + 1)) := by
              show r = _
              rw [HP.out, HST.out, ← HAN.out, hq, if_neg (by simp), HTN.out]
            go_wp2_with (go_at_call 17; refine (hO _).mono ?_; rintro e w' ⟨rfl, rfl⟩)
            go_roundg (os.length - i)
            case measure => omega
            case rel => exact ⟨i + 1, tn, by omega, by go_num, rfl, by omega, by omega, HF.out, HBc.out⟩
          · have hq' : (an.toList == cx.ans.toList) = false := by simpa using hq
            have HF : Hid (r = some i) := by
              show r = _
              rw [HP.out, HST.out, ← HAN.out, hq', if_pos (by simp; omega)]
            clear hq
            go_wp2_with (first | (go_at_call 17; refine (hO _).mono ?_; rintro e w' ⟨rfl, rfl⟩) | (go_at_call 16; refine (in_num _ _ _ _ (by decide)).mono ?_; rintro e w' ⟨rfl, rfl⟩))
            go_ret
            refine ⟨below_of HBc.out _, ?_⟩
            rw [HE.out]
            simp only
            rw [← HRR.out, HF.out]
            exact ⟨_, rfl, _, _, rfl, heap_alloc_at _ _ (by simp), rfl⟩
      · obtain rfl : i = os.length := by omega
        have HF : Hid (r = none) := by
          show r = _
          rw [HP.out]; simp [repF]
        go_wp2
        go_ret
        refine ⟨HB.out, ?_⟩
        rw [HE.out]
        simp only
        rw [← HRR.out, HF.out]
        exact rfl
end Go.Proofs.YtaecjabehbhpfaaDoor
