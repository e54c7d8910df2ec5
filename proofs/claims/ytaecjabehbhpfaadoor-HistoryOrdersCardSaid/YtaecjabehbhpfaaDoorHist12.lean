/-
  Find and the law's head. Conditions: the errors package's cell.
-/
import Derived.Test.YtaecjabehbhpfaaDoorHist11
import Derived.Test.YtaecjabehbhpfaaDoorWhere
namespace Go.Proofs.YtaecjabehbhpfaaDoor
open Go.RowKit Go.Hd
theorem own_le {w : World} {B B' : Nat} {e : TypeId} {size : Nat} {v : Value} {n : Nat} {xs : List Value} (h : w.ownsRow B e size v n xs) (hb : B' ≤ B) : w.ownsRow B' e size v n xs :=
  ⟨h.1, h.2.imp id fun ⟨g, cap, cur, hv, hg, r⟩ => ⟨g, cap, cur, hv, Nat.le_trans hb hg, r⟩⟩
theorem Tryd.make2 (W : World) : (Instr.makeSlice 74 (.int .i64 2) (.int .i64 2)).run Tryd.prog W = .ok (.slice (some ⟨W.heap.size, 0, none⟩) 2 2) (W.alloc (.cells #[.bool false, .bool false] 4)) := by kernel_rfl
set_option maxRecDepth 100000 in
set_option maxHeartbeats 4000000 in
theorem Find_0 (w : World) (lb : Nat) (h : w.heap[lb]? = some (.cells lcells 46 (0, 0))) :
    Calls Tryd.prog 13 #[.iface 37 (.agg #[]), .string ⟨#[]⟩, .slice (some ⟨lb, 0, none⟩) 2 2] w fun e w' => (∃ v, e = .returned (.tuple #[v, .nilIface]) ∧ w'.ownsRow w.heap.size 3 1 v 2 [.int .i64 1, .int .i64 0]) ∧ Below w.heap.size w w' := by
  have HD := Lib.hid h
  have hm := @run_makeMap Tryd.prog
  have hms := Tryd.make2
  have hlb := lt_of_heap h
  have hsit : Sit (((w.alloc (.map #[] 0)).alloc (.cells #[.iface 37 (.agg #[]), .slice (some ⟨lb, 0, none⟩) 2 2, .map (some w.heap.size)] 71)).alloc (.cells #[.bool false, .bool false] 4)) lb (w.heap.size + 1) w.heap.size (w.heap.size + 1 + 1) false false := by
    refine ⟨?_, ?_, ?_, ?_⟩
    · rw [heap_alloc_lt _ _ _ (by simp; omega), heap_alloc_lt _ _ _ (by simp; omega), heap_alloc_lt _ _ _ hlb]; exact h
    · rw [heap_alloc_lt _ _ _ (by simp)]; exact heap_alloc_at _ _ (by simp)
    · exact heap_alloc_at _ _ (by simp)
    · exact ((MapAt.new w).kept (heap_alloc_lt _ _ _ (by simp))).kept (heap_alloc_lt _ _ _ (by simp <;> omega))
  have HF := Lib.hid (find_ff _ _ _ _ _ hsit)
  have HBB := Lib.hid (below_of (below_of (below1 w (.map #[] 0)) (.cells #[.iface 37 (.agg #[]), .slice (some ⟨lb, 0, none⟩) 2 2, .map (some w.heap.size)] 71)) (.cells #[.bool false, .bool false] 4))
  clear h hsit hlb
  go_enter Tryd.func13, Tryd.ntmps13
  go_wp2_with (go_at_call 24; refine (HF.out).mono ?_; rintro e w1 ⟨⟨v, rfl, hown⟩, hb⟩; have HO := Lib.hid (And.intro hown hb); clear hown hb)
  go_ret2
  exact ⟨⟨_, rfl, own_le HO.out.1 (HBB.out).size⟩, (HBB.out).trans ((HO.out.2).mono (HBB.out).size)⟩
theorem path_replay : (Err.flt sReplay 0 (.num 12)).path = ⟨#[114, 101, 112, 108, 97, 121, 47, 112, 114, 111, 111, 102]⟩ := by decide +kernel
theorem path_order : (Err.flt sOrder 1 (.num 8)).path = ⟨#[111, 114, 100, 101, 114, 47, 110, 111, 110, 101]⟩ := by decide +kernel
theorem ord_all : ordErr [c0, c1] [0, 1] = none := by decide +kernel
theorem ord_one : ordErr [c0, c1] [0] = some (1, 8) := by decide +kernel
theorem rep_all : repF [c0, c1] ⟨#[]⟩ [0, 1] 0 = some 0 := by decide +kernel
theorem callsAt_l {w : World} {lb : Nat} (h : w.heap[lb]? = some (.cells lcells 46 (0, 0))) : CallsAt w (some ⟨lb, 0, none⟩) [c0, c1] := by
  refine .inr ⟨lb, 0, rfl, fun i x hx => ?_⟩
  match i, hx with
  | 0, hx =>
    cases hx
    intro j u hj
    refine (cell_of_heap h _).trans ?_
    match j, hj with
    | 0, hj => exact hj
    | 1, hj => exact hj
    | 2, hj => exact hj
    | 3, hj => exact hj
    | 4, hj => exact hj
    | n + 5, hj => simp [cellsC, c0] at hj
  | 1, hx =>
    cases hx
    intro j u hj
    refine (cell_of_heap h _).trans ?_
    match j, hj with
    | 0, hj => exact hj
    | 1, hj => exact hj
    | 2, hj => exact hj
    | 3, hj => exact hj
    | 4, hj => exact hj
    | n + 5, hj => simp [cellsC, c1] at hj
  | n + 2, hx => simp at hx
theorem intsAt_new (w : World) (l : List Int) : IntsAt (w.alloc (.cells (l.map (Value.int .i64)).toArray 3 (0, 0))) (some ⟨w.heap.size, 0, none⟩) l := by
  refine .inr ⟨w.heap.size, 0, rfl, fun i x hx => ?_⟩
  rw [cell_of_heap (heap_alloc_new w _)]
  simp [hx]
set_option maxRecDepth 100000 in
set_option maxHeartbeats 4000000 in
theorem awake_any (w : World) (hg : Glob w) : Calls Tryd.prog 4 #[] w fun e w' => e = .returned (.bool true) ∧ Below w.heap.size w w' := by
  have HG := Lib.hid hg
  have h0 := hg.lt
  have HB1 := Lib.hid (below1 w (.cells lcells 46))
  have HL1 := Lib.hid (heap_alloc_new w (.cells lcells 46 (0, 0)))
  have HF := Lib.hid (Find_0 _ w.heap.size HL1.out)
  clear hg
  go_enter Tryd.func4, Tryd.ntmps4
  go_wp2_with fail
  refine (HF.out).mono ?_
  rintro e w2 ⟨⟨v, rfl, hown⟩, hb⟩
  have HB2 := Lib.hid ((HB1.out).trans (hb.mono (HB1.out).size))
  have HL2 := Lib.hid ((hb.block _ (by simp)).trans HL1.out)
  have HO := Lib.hid hown
  clear hb hown HF
  go_wp2_with fail
  have hL3 := (heap_alloc_lt w2 (.cells #[.int .i64 0, .int .i64 1] 3) _ (lt_of_heap HL2.out)).trans HL2.out
  refine (Replay_any ⟨#[]⟩ _ _ [c0, c1] [0, 1] 2 2 _ (callsAt_l hL3) (intsAt_new w2 [0, 1]) (by decide) (by decide) (by decide)).mono ?_
  rintro e w4 ⟨hb, hx⟩
  rw [ord_all] at hx
  simp only at hx
  rw [rep_all] at hx
  obtain ⟨v4, rfl, hv4⟩ := hx
  have hb3 := below_of HB2.out (.cells #[.int .i64 0, .int .i64 1] 3)
  have HB4 := Lib.hid (hb3.trans (hb.mono hb3.size))
  have HL4 := Lib.hid ((hb.block _ (lt_of_heap hL3)).trans hL3)
  have hb24 : Below w2.heap.size w2 w4 := (below1 w2 _).trans (hb.mono (by simp))
  have HB24 := Lib.hid hb24
  obtain ⟨T4, x4, rfl⟩ := ErrV.iface (e := .flt sReplay 0 (.num 12)) hv4
  have HV4 := Lib.hid hv4
  clear hb hb3 hL3 hb24 hv4
  go_wp2_with fail
  have hL5 := (heap_alloc_lt w4 (.cells #[.int .i64 0] 3) _ (lt_of_heap HL4.out)).trans HL4.out
  refine (Order_any _ _ [c0, c1] [0] 2 1 _ (callsAt_l hL5) (intsAt_new w4 [0]) (by decide) (by decide) (by decide)).mono ?_
  rintro e w6 ⟨hb, hx⟩
  rw [ord_one] at hx
  obtain ⟨v6, rfl, hv6⟩ := hx
  have hb5 := below_of HB4.out (.cells #[.int .i64 0] 3)
  have HB6 := Lib.hid (hb5.trans (hb.mono hb5.size))
  have hb46 : Below w4.heap.size w4 w6 := (below1 w4 _).trans (hb.mono (by simp))
  have hb26 := (HB24.out).trans (hb46.mono (HB24.out).size)
  obtain ⟨T6, x6, rfl⟩ := ErrV.iface (e := .flt sOrder 1 (.num 8)) hv6
  have HV4' := Lib.hid (ErrV.keep (fun b hbb => hb46.block b hbb) HV4.out)
  have HP1 := Lib.hid (Path_any (.flt sReplay 0 (.num 12)) _ w6 ((HG.out).below HB6.out h0) HV4'.out (by decide) (by decide +kernel))
  have HV6 := Lib.hid hv6
  have HG6 := Lib.hid ((HG.out).below HB6.out h0)
  rw [path_replay] at HP1
  obtain ⟨hlen, hc⟩ := HO.out
  obtain ⟨g, cap, cur, rfl, hbg, hgg, hcap, hcap2, hcur, htake⟩ := hc.resolve_left (fun h => absurd h.2 (by decide))
  have k0 : w6.cell? ⟨g, 0, none⟩ = some (.int .i64 1) := by
    have hgl := lt_of_heap hgg
    rw [cell_of_heap ((hb26.block _ hgl).trans hgg)]
    have h1 : (cur.toList.take (2 * 1))[0]? = some (.int .i64 1) := by rw [htake]; rfl
    simpa using h1
  clear hb hb5 hb46 hb26 hv6 hL5 hlen hc hbg hgg hcap hcur htake HO
  go_wp2_with fail
  refine (HP1.out).mono ?_
  rintro e w7 ⟨rfl, hb7⟩
  have HP2 := Lib.hid (Path_any (.flt sOrder 1 (.num 8)) _ w7 ((HG6.out).below hb7 (Nat.lt_of_lt_of_le h0 (HB6.out).size)) (ErrV.keep (fun b hbb => hb7.block b hbb) HV6.out) (by decide) (by decide +kernel))
  rw [path_order] at HP2
  have HB7 := Lib.hid ((HB6.out).trans (hb7.mono (HB6.out).size))
  clear hb7
  go_wp2_with (go_at_call 14; refine (HP2.out).mono ?_; rintro e w8 ⟨rfl, hb8⟩; have HB8 := Lib.hid ((HB7.out).trans (hb8.mono (HB7.out).size)); clear hb8)
  go_ret
  exact ⟨rfl, HB8.out⟩
end Go.Proofs.YtaecjabehbhpfaaDoor
