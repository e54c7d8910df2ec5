/-
  The search from its start. No condition.
-/
import Derived.Test.YtaecjabehbhpfaaDoorHist10
namespace Go.Proofs.YtaecjabehbhpfaaDoor
open Go.RowKit Go.Hd
theorem Tryd.infoInt : (Tryd.prog.info? 3).map (fun i => (i.zero, i.size, i.bytes)) = some (some (.int .i64 0), 1, 8) := by kernel_rfl
theorem heap_alloc_back {w : World} (o : Obj) (n : Nat) (x : Obj) (hx : x = o) (h : n = w.heap.size) : (w.alloc o).heap[n]? = some x := by
  subst hx; subst h; exact heap_alloc_new _ _
set_option maxRecDepth 100000 in
set_option maxHeartbeats 4000000 in
theorem find_ff (w : World) (lb sb mb db : Nat) (h : Sit w lb sb mb db false false) :
    Calls Tryd.prog 24 #[.pointer (some ⟨sb, 0, none⟩), .slice (some ⟨db, 0, none⟩) 2 2, .string ⟨#[]⟩] w fun e w' => (∃ v, e = .returned (.tuple #[v, .bool true]) ∧ w'.ownsRow w.heap.size 3 1 v 2 [.int .i64 1, .int .i64 0]) ∧ Below w.heap.size w w' := by
  obtain ⟨i0, hi, hz0, hz1, hz2⟩ := info_parts Tryd.infoInt
  have HI := Lib.hid (And.intro hi (And.intro hz0 (And.intro hz1 hz2)))
  have HO := Lib.hid (over_f w lb sb mb db false h)
  have HD := Lib.hid h
  have hM := Tryd.methodNext
  have hA := Tryd.aheadNext
  have hdd := h.d
  clear h hi hz0 hz1 hz2
  go_enter Tryd.func24, Tryd.ntmps24
  go_wp2_with fail
  refine (HO.out).mono ?_
  rintro e w1 ⟨rfl, hb1⟩
  have HS1 := Lib.hid ((HD.out).below hb1)
  have HB1 := Lib.hid hb1
  obtain ⟨⟨l0, l1, l2, l3, l4⟩, _, ⟨s0, s1, s2⟩, ⟨e0, e1⟩⟩ := (HS1.out).cells
  have hdb := lt_of_heap (HS1.out).d
  have hlb := lt_of_heap (HS1.out).l
  have hsb := lt_of_heap (HS1.out).s
  clear hb1
  go_wp2_with fail
  refine (key_ff db _ w1 e0 e1 (by decide)).mono ?_
  rintro e w2 ⟨rfl, rfl⟩
  go_wp2_with (at_lookup; refine wpList_lookup _ rfl _ _ 69 false rfl KS 3 Tryd.underlying69 (.int .i64 0) (Tryd.zeroIntS _) mb [] rfl (HS1.out).m (⟨#[48]⟩ ++ ⟨#[32]⟩ ++ ⟨#[]⟩) rfl ?_; simp only [lookV, ix, Option.map_none, Option.getD_none])
  refine wp_loop_rounds 2 ?_
  rw [rounds_succ]
  go_wp2_with fail
  have hp0 := cell_of_heap (heap_alloc_new w2 (.cells (cellsC c0) 46)) 0
  have hp1 := cell_of_heap (heap_alloc_new w2 (.cells (cellsC c0) 46)) 1
  have hp2 := cell_of_heap (heap_alloc_new w2 (.cells (cellsC c0) 46)) 2
  have hp3 := cell_of_heap (heap_alloc_new w2 (.cells (cellsC c0) 46)) 3
  have hp4 := cell_of_heap (heap_alloc_new w2 (.cells (cellsC c0) 46)) 4
  refine (may_0_f _ lb sb mb db ((HS1.out).below (below1 _ _))).mono ?_
  rintro e w3 ⟨rfl, hb3⟩
  have HS3 := Lib.hid (((HS1.out).below (below1 _ _)).below hb3)
  have HB3 := Lib.hid (((HB1.out).trans ((below1 _ _).mono (HB1.out).size)).trans (hb3.mono ((HB1.out).trans ((below1 _ _).mono (HB1.out).size)).size))
  have p0 := keep_below hb3 _ _ hp0
  have p1 := keep_below hb3 _ _ hp1
  have p2 := keep_below hb3 _ _ hp2
  have p3 := keep_below hb3 _ _ hp3
  have p4 := keep_below hb3 _ _ hp4
  simp only [cellsC, c0] at p0 p1 p2 p3 p4
  have hs3 := hb3.size
  simp only [World.size_alloc] at hs3
  have S3 := (HS3.out).cells.2.2.1.1
  clear hb3 hp0 hp1 hp2 hp3 hp4 s0 s1 s2 e0 e1 l0 l1 l2 l3 l4
  go_wp2_with fail
  go_region_held3 (fun w' => w'.cell? ⟨sb, 0, none⟩ = some (.iface 37 (.agg #[])) ∧ w'.cell? ⟨w2.heap.size, 3, none⟩ = some (.string ⟨#[43]⟩)) (first | go_keep | (go_split_ands; refine ⟨?_, ?_⟩ <;> (refine keep_below hb _ _ ?_; assumption))) ((go_at_call 76; refine (Next_0 _).mono ?_; rintro e w' ⟨rfl, hb⟩))
  have HS4 := Lib.hid ((HS3.out).below (Below.trans ((Below.refl _ w3).drew) (hb.mono (Nat.le_refl _))))
  have HB4 := Lib.hid ((HB3.out).trans ((Below.trans ((Below.refl _ w3).drew) (hb.mono (Nat.le_refl _))).mono (HB3.out).size))
  have q0 : w'.cell? ⟨w2.heap.size, 0, none⟩ = _ := keep_below hb _ _ p0
  have q1 : w'.cell? ⟨w2.heap.size, 1, none⟩ = _ := keep_below hb _ _ p1
  have q2 : w'.cell? ⟨w2.heap.size, 2, none⟩ = _ := keep_below hb _ _ p2
  have q3 : w'.cell? ⟨w2.heap.size, 3, none⟩ = _ := keep_below hb _ _ p3
  have q4 : w'.cell? ⟨w2.heap.size, 4, none⟩ = _ := keep_below hb _ _ p4
  have hs4 := hb.size
  simp only [World.size_drew] at hs4
  clear hb p0 p1 p2 p3 p4 S3
  have hO := fun w => Open_any c0 w
  unfold cellsC c0 at hO
  have q4' := cell_more' (.cells (cellsC c0) 46) q4
  have HS5 := Lib.hid ((HS4.out).below (below1 w' (.cells (cellsC c0) 46)))
  have HB5 := Lib.hid ((HB4.out).trans ((below1 w' (.cells (cellsC c0) 46)).mono (HB4.out).size))
  obtain ⟨w5, hw5⟩ : ∃ w5, w5 = w'.alloc (.cells (cellsC c0) 46) := ⟨_, rfl⟩
  rw [← hw5] at q4' HS5 HB5
  have hO' : Calls Tryd.prog 17 #[.agg #[.int .i64 1, .int .i64 0, .int .i64 1, .string ⟨#[43]⟩, .string ⟨#[49]⟩]] w' fun e w' => e = .returned (.bool false) ∧ w' = w5 := (hO w').mono (by rintro e w6 ⟨rfl, rfl⟩; exact ⟨rfl, hw5.symm⟩)
  have HO' := Lib.hid hO'
  have hs5 : w'.heap.size ≤ w5.heap.size := by rw [hw5]; simp
  have hdb5 := lt_of_heap (HS5.out).d
  have hlb5 := lt_of_heap (HS5.out).l
  have hsb5 := lt_of_heap (HS5.out).s
  clear hO hO' hw5
  obtain ⟨_, ⟨l5, l6, l7, l8, l9⟩, ⟨s0, s1, s2⟩, ⟨e0, e1⟩⟩ := (HS5.out).cells
  go_wp2_with (go_at_call 17; refine (HO'.out).mono ?_; rintro e w6 ⟨rfl, rfl⟩)
  rw [rounds_succ]
  go_wp2_with fail
  have hp0 := cell_of_heap (heap_alloc_new w6 (.cells (cellsC c1) 46)) 0
  have hp1 := cell_of_heap (heap_alloc_new w6 (.cells (cellsC c1) 46)) 1
  have hp2 := cell_of_heap (heap_alloc_new w6 (.cells (cellsC c1) 46)) 2
  have hp3 := cell_of_heap (heap_alloc_new w6 (.cells (cellsC c1) 46)) 3
  have hp4 := cell_of_heap (heap_alloc_new w6 (.cells (cellsC c1) 46)) 4
  clear q0 q1 q2 q3 q4 q4' hs3 hs4 hs5 hdb hlb hsb
  refine (may_1_f _ lb sb mb db ((HS5.out).below (below1 _ _))).mono ?_
  rintro e w7 ⟨rfl, hb3⟩
  have HS7 := Lib.hid (((HS5.out).below (below1 _ _)).below hb3)
  have HB7 := Lib.hid (((HB5.out).trans ((below1 _ _).mono (HB5.out).size)).trans (hb3.mono ((HB5.out).trans ((below1 _ _).mono (HB5.out).size)).size))
  have p0 := keep_below hb3 _ _ hp0
  have p1 := keep_below hb3 _ _ hp1
  have p2 := keep_below hb3 _ _ hp2
  have p3 := keep_below hb3 _ _ hp3
  have p4 := keep_below hb3 _ _ hp4
  simp only [cellsC, c1] at p0 p1 p2 p3 p4
  have hs3 := hb3.size
  simp only [World.size_alloc] at hs3
  have S3 := (HS7.out).cells.2.2.1.1
  clear hb3 hp0 hp1 hp2 hp3 hp4 s0 s1 s2 e0 e1 l5 l6 l7 l8 l9
  go_wp2_with fail
  go_region_held3 (fun w' => w'.cell? ⟨sb, 0, none⟩ = some (.iface 37 (.agg #[])) ∧ w'.cell? ⟨w6.heap.size, 3, none⟩ = some (.string ⟨#[43]⟩)) (first | go_keep | (go_split_ands; refine ⟨?_, ?_⟩ <;> (refine keep_below hb _ _ ?_; assumption))) ((go_at_call 76; refine (Next_0 _).mono ?_; rintro e w' ⟨rfl, hb⟩))
  have HS8 := Lib.hid ((HS7.out).below (Below.trans ((Below.refl _ w7).drew) (hb.mono (Nat.le_refl _))))
  have HB8 := Lib.hid ((HB7.out).trans ((Below.trans ((Below.refl _ w7).drew) (hb.mono (Nat.le_refl _))).mono (HB7.out).size))
  have q0 : w'.cell? ⟨w6.heap.size, 0, none⟩ = _ := keep_below hb _ _ p0
  have q1 : w'.cell? ⟨w6.heap.size, 1, none⟩ = _ := keep_below hb _ _ p1
  have q2 : w'.cell? ⟨w6.heap.size, 2, none⟩ = _ := keep_below hb _ _ p2
  have q3 : w'.cell? ⟨w6.heap.size, 3, none⟩ = _ := keep_below hb _ _ p3
  have q4 : w'.cell? ⟨w6.heap.size, 4, none⟩ = _ := keep_below hb _ _ p4
  have hs4 := hb.size
  simp only [World.size_drew] at hs4
  clear hb p0 p1 p2 p3 p4 S3
  have hO := fun w => Open_any c1 w
  unfold cellsC c1 at hO
  have q4' := cell_more' (.cells (cellsC c1) 46) q4
  have HS9 := Lib.hid ((HS8.out).below (below1 w' (.cells (cellsC c1) 46)))
  have HB9 := Lib.hid ((HB8.out).trans ((below1 w' (.cells (cellsC c1) 46)).mono (HB8.out).size))
  obtain ⟨w9, hw9⟩ : ∃ w9, w9 = w'.alloc (.cells (cellsC c1) 46) := ⟨_, rfl⟩
  rw [← hw9] at q4' HS9 HB9
  have hO' : Calls Tryd.prog 17 #[.agg #[.int .i64 2, .int .i64 0, .int .i64 1, .string ⟨#[43]⟩, .string ⟨#[48]⟩]] w' fun e w' => e = .returned (.bool false) ∧ w' = w9 := (hO w').mono (by rintro e w6 ⟨rfl, rfl⟩; exact ⟨rfl, hw9.symm⟩)
  have HO' := Lib.hid hO'
  have hs9 : w'.heap.size ≤ w9.heap.size := by rw [hw9]; simp
  have hdb9 := lt_of_heap (HS9.out).d
  clear hO hO' hw9
  have e1 := (HS9.out).cells.2.2.2.2
  have f1 := fz_at HS9.out 1
  go_wp2_with (go_at_call 17; refine (HO'.out).mono ?_; rintro e w10 ⟨rfl, rfl⟩)
  refine (find_ft _ lb sb mb db ((HS9.out).set1 true)).mono ?_
  rintro e w11 ⟨⟨g, rfl, hg, hgs⟩, hb11⟩
  have HS11 := Lib.hid (((HS9.out).set1 true).below hb11)
  have HB12 := Lib.hid (below_back (v0 := .bool false) hdd HB9.out hb11 rfl)
  have e6 := (HS11.out).cells.2.2.2.2
  have f6 := fz_at HS11.out 1
  have hs6 := (HB12.out).size
  have hs10 := (HB9.out).size
  have hgd : g ≠ db := by
    intro e
    rw [World.size_setCell] at hgs
    omega
  have hg2 : (w11.setCell ⟨db, 1, none⟩ (.bool false)).heap[g]? = some (.cells #[.int .i64 0] 3 (0, 0)) := (Below.heap_setCell _ _ _ _ hgd).trans hg
  obtain ⟨w12, hw12⟩ : ∃ w12, w12 = w11.setCell ⟨db, 1, none⟩ (.bool false) := ⟨_, rfl⟩
  rw [← hw12] at hg2 HB12 hs6
  clear hb11 e1 f1 hgd hg
  have HG2 := Lib.hid hg2
  have hgl := lt_of_heap hg2
  clear hg2
  have hz12 : w12.heap.size = w11.heap.size := by rw [hw12]; exact World.size_setCell _ _ _
  have hown0 : (w12.alloc (.cells #[.int .i64 1] 3)).ownsRow w.heap.size 3 1 (.slice (some ⟨w11.heap.size, 0, none⟩) 1 1) 1 [.int .i64 1] := by
    have := World.ownsRow_lit (base := w.heap.size) (e := 3) (size := 1) w12 #[.int .i64 1] 1 hs6 (by decide) rfl
    rw [hz12] at this
    exact this
  have hnews : ∀ j u, [Value.int .i64 0][j]? = some u → (w12.alloc (.cells #[.int .i64 1] 3)).cell? ((⟨g, 0, none⟩ : Addr).add j) = some u := by
    intro j u hj
    cases j with
    | zero =>
      simp at hj
      subst hj
      exact cell_of_heap ((heap_alloc_lt _ _ _ hgl).trans HG2.out) 0
    | succ j => simp at hj
  have hone : ∀ u ∈ [Value.int .i64 0], u.oneCell' = true := by intro u hu; simp at hu; subst hu; rfl
  have hbase : w.heap.size ≤ (w12.alloc (.cells #[.int .i64 1] 3)).heap.size := by simp; omega
  have hbf := below_of HB12.out (.cells #[.int .i64 1] 3)
  rw [hw12] at hown0 hnews hbase hbf
  have HBF := Lib.hid hbf
  have HOWN := Lib.hid hown0
  have HNEWS := Lib.hid hnews
  have HBASE := Lib.hid hbase
  have HONE := Lib.hid hone
  have hs11 : w.heap.size ≤ w11.heap.size := by omega
  clear hown0 hnews hbase hone hw12 hbf
  go_wp2_with (at_builtin; refine wpList_append_own_at _ rfl _ _ 23 rfl w.heap.size 3 i0 _ 1 8 Tryd.underlying23 HI.out.1 HI.out.2.1 HI.out.2.2.1 HI.out.2.2.2 rfl (by decide) _ _ _ rfl HOWN.out ⟨g, 0, none⟩ 1 1 [.int .i64 0] rfl rfl HNEWS.out HONE.out (by decide) (by decide) HBASE.out ?_; intro v13 w13 hown hgrow _ hloc; have HO13 := Lib.hid hown; have HG13 := Lib.hid hgrow; clear hown hgrow hloc)
  go_ret2
  refine ⟨⟨_, rfl, HO13.out⟩, ?_⟩
  exact (HBF.out).grown HG13.out HBASE.out (by intro k hk; cases (show some w11.heap.size = some k from hk); exact hs11)
end Go.Proofs.YtaecjabehbhpfaaDoor
