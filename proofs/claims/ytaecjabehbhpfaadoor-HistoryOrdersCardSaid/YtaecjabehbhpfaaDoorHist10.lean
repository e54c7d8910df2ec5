/-
  The search, one step before its end. No condition.
-/
import Derived.Test.YtaecjabehbhpfaaDoorHist9
namespace Go.Proofs.YtaecjabehbhpfaaDoor
open Go.RowKit Go.Hd
theorem Tryd.zeroIntS (w : World) : (zeroValue 3).run Tryd.prog w = .ok (.int .i64 0) w := by kernel_rfl
theorem fz_at {w : World} {lb sb mb db : Nat} {d0 d1 : Bool} (h : Sit w lb sb mb db d0 d1) (o : Nat) : w.frozen? ⟨db, o, none⟩ = false := free_of_heap h.d o
theorem app_nil (w6 : World) (db : Nat) : (Builtin.append_ #[23, 23] 23 #[.slice (some ⟨(w6.setCell ⟨db, 0, none⟩ (.bool false)).heap.size, 0, none⟩) 1 1, .slice none 0 0]).run Tryd.prog ((w6.setCell ⟨db, 0, none⟩ (.bool false)).alloc (.cells #[.int .i64 0] 3 (0, 0))) = .ok (.slice (some ⟨(w6.setCell ⟨db, 0, none⟩ (.bool false)).heap.size, 0, none⟩) 1 1) ((w6.setCell ⟨db, 0, none⟩ (.bool false)).alloc (.cells #[.int .i64 0] 3 (0, 0))) := by kernel_rfl
set_option maxRecDepth 100000 in
set_option maxHeartbeats 2000000 in
theorem find_ft (w : World) (lb sb mb db : Nat) (h : Sit w lb sb mb db false true) :
    Calls Tryd.prog 24 #[.pointer (some ⟨sb, 0, none⟩), .slice (some ⟨db, 0, none⟩) 2 2, .string ⟨#[120]⟩] w fun e w' => (∃ g, e = .returned (.tuple #[.slice (some ⟨g, 0, none⟩) 1 1, .bool true]) ∧ w'.heap[g]? = some (.cells #[.int .i64 0] 3 (0, 0)) ∧ w.heap.size ≤ g) ∧ Below w.heap.size w w' := by
  have HO := Lib.hid (over_f w lb sb mb db true h)
  have HD := Lib.hid h
  have hM := Tryd.methodNext
  have hA := Tryd.aheadNext
  have hdd := h.d
  clear h
  go_enter Tryd.func24, Tryd.ntmps24
  go_wp2_with fail
  refine (HO.out).mono ?_
  rintro e w1 ⟨rfl, hb1⟩
  have HS1 := Lib.hid ((HD.out).below hb1)
  have HB1 := Lib.hid hb1
  obtain ⟨⟨l0, l1, l2, l3, l4⟩, _, ⟨s0, s1, s2⟩, ⟨e0, e1⟩⟩ := (HS1.out).cells
  have hdb := lt_of_heap (HS1.out).d
  have hlb := lt_of_heap (HS1.out).l
  have hsb := lt_of_heap (HS1.out).s
  clear hb1
  go_wp2_with fail
  refine (key_ft db _ w1 e0 e1 (by decide)).mono ?_
  rintro e w2 ⟨rfl, rfl⟩
  go_wp2_with (at_lookup; refine wpList_lookup _ rfl _ _ 69 false rfl KS 3 Tryd.underlying69 (.int .i64 0) (Tryd.zeroIntS _) mb [] rfl (HS1.out).m (⟨#[50]⟩ ++ ⟨#[32]⟩ ++ ⟨#[120]⟩) rfl ?_; simp only [lookV, ix, Option.map_none, Option.getD_none])
  refine wp_loop_rounds 1 ?_
  rw [rounds_succ]
  go_wp2_with fail
  have hp0 := cell_of_heap (heap_alloc_new w2 (.cells (cellsC c0) 46)) 0
  have hp1 := cell_of_heap (heap_alloc_new w2 (.cells (cellsC c0) 46)) 1
  have hp2 := cell_of_heap (heap_alloc_new w2 (.cells (cellsC c0) 46)) 2
  have hp3 := cell_of_heap (heap_alloc_new w2 (.cells (cellsC c0) 46)) 3
  have hp4 := cell_of_heap (heap_alloc_new w2 (.cells (cellsC c0) 46)) 4
  refine (may_0_t _ lb sb mb db ((HS1.out).below (below1 _ _))).mono ?_
  rintro e w3 ⟨rfl, hb3⟩
  have HS3 := Lib.hid (((HS1.out).below (below1 _ _)).below hb3)
  have HB3 := Lib.hid (((HB1.out).trans ((below1 _ _).mono (HB1.out).size)).trans (hb3.mono ((HB1.out).trans ((below1 _ _).mono (HB1.out).size)).size))
  have p0 := keep_below hb3 _ _ hp0
  have p1 := keep_below hb3 _ _ hp1
  have p2 := keep_below hb3 _ _ hp2
  have p3 := keep_below hb3 _ _ hp3
  have p4 := keep_below hb3 _ _ hp4
  simp only [cellsC, c0] at p0 p1 p2 p3 p4
  have hs3 := hb3.size
  simp only [World.size_alloc] at hs3
  have S3 := (HS3.out).cells.2.2.1.1
  clear hb3 hp0 hp1 hp2 hp3 hp4 s0 s1 s2 e0 e1 l0 l1 l2 l3 l4
  go_wp2_with fail
  go_region_held3 (fun w' => w'.cell? ⟨sb, 0, none⟩ = some (.iface 37 (.agg #[])) ∧ w'.cell? ⟨w2.heap.size, 3, none⟩ = some (.string ⟨#[43]⟩)) (first | go_keep | (go_split_ands; refine ⟨?_, ?_⟩ <;> (refine keep_below hb _ _ ?_; assumption))) ((go_at_call 76; refine (Next_x _).mono ?_; rintro e w' ⟨rfl, hb⟩))
  have HS4 := Lib.hid ((HS3.out).below (Below.trans ((Below.refl _ w3).drew) (hb.mono (Nat.le_refl _))))
  have HB4 := Lib.hid ((HB3.out).trans ((Below.trans ((Below.refl _ w3).drew) (hb.mono (Nat.le_refl _))).mono (HB3.out).size))
  have q0 : w'.cell? ⟨w2.heap.size, 0, none⟩ = _ := keep_below hb _ _ p0
  have q1 : w'.cell? ⟨w2.heap.size, 1, none⟩ = _ := keep_below hb _ _ p1
  have q2 : w'.cell? ⟨w2.heap.size, 2, none⟩ = _ := keep_below hb _ _ p2
  have q3 : w'.cell? ⟨w2.heap.size, 3, none⟩ = _ := keep_below hb _ _ p3
  have q4 : w'.cell? ⟨w2.heap.size, 4, none⟩ = _ := keep_below hb _ _ p4
  have hs4 := hb.size
  simp only [World.size_drew] at hs4
  clear hb p0 p1 p2 p3 p4 S3
  have hO := fun w => Open_any c0 w
  unfold cellsC c0 at hO
  have q4' := cell_more' (.cells (cellsC c0) 46) q4
  simp only [cellsC, c0] at q4'
  have HS5 := Lib.hid ((HS4.out).below (below1 w' (.cells (cellsC c0) 46)))
  have HB5 := Lib.hid ((HB4.out).trans ((below1 w' (.cells (cellsC c0) 46)).mono (HB4.out).size))
  have e0 := (HS5.out).cells.2.2.2.1
  have f0 := fz_at HS5.out 0
  simp only [cellsC, c0] at e0 f0 HS5 HB5
  go_wp2_with ((go_at_call 17; refine (hO _).mono ?_; rintro e w5 ⟨rfl, rfl⟩))
  refine (find_tt _ lb sb mb db ⟨#[120, 120]⟩ ((HS5.out).set0 true)).mono ?_
  rintro e w6 ⟨rfl, hb6⟩
  have HS6 := Lib.hid (((HS5.out).set0 true).below hb6)
  have HS7 := Lib.hid ((HS6.out).set0 false)
  have HB7 := Lib.hid (below_back (v0 := .bool false) hdd HB5.out hb6 rfl)
  have e6 := (HS6.out).cells.2.2.2.1
  have f6 := fz_at HS6.out 0
  have hs6 := (HB7.out).size

  have hP := app_nil w6 db
  clear hb6 e0 f0
  go_wp2
  go_ret2
  refine ⟨⟨_, rfl, heap_alloc_at _ _ (World.size_setCell _ _ _).symm, (World.size_setCell w6 ⟨db, 0, none⟩ (.bool false)) ▸ hs6⟩, below_of HB7.out _⟩
end Go.Proofs.YtaecjabehbhpfaaDoor
