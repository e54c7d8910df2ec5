/-
  The search's parts, at the one search that the law's head makes. No condition.
-/
import Derived.Test.YtaecjabehbhpfaaDoorHist7
import Derived.BigQuiet
import Derived.Deep.QuietTactic
import Derived.Deep.RegionHeld3
namespace Go.Proofs.YtaecjabehbhpfaaDoor
open Go.RowKit Go.Hd
def c0 : C := ⟨1, 0, 1, ⟨#[43]⟩, ⟨#[49]⟩⟩
def c1 : C := ⟨2, 0, 1, ⟨#[43]⟩, ⟨#[48]⟩⟩
def KS : KeyK Tryd.prog 9 ByteArray := strK Tryd.underlying9
def lcells : Array Value := #[.int .i64 1, .int .i64 0, .int .i64 1, .string ⟨#[43]⟩, .string ⟨#[49]⟩, .int .i64 2, .int .i64 0, .int .i64 1, .string ⟨#[43]⟩, .string ⟨#[48]⟩]
/-- The search, as it lies in memory. -/
structure Sit (w : World) (lb sb mb db : Nat) (d0 d1 : Bool) : Prop where
  l : w.heap[lb]? = some (.cells lcells 46 (0, 0))
  s : w.heap[sb]? = some (.cells #[.iface 37 (.agg #[]), .slice (some ⟨lb, 0, none⟩) 2 2, .map (some mb)] 71 (0, 0))
  d : w.heap[db]? = some (.cells #[.bool d0, .bool d1] 4 (0, 0))
  m : MapAt KS w mb []
theorem Sit.below {w w' : World} {lb sb mb db : Nat} {d0 d1 : Bool} (h : Sit w lb sb mb db d0 d1) (hb : Below w.heap.size w w') : Sit w' lb sb mb db d0 d1 :=
  ⟨(hb.block _ (lt_of_heap h.l)).trans h.l, (hb.block _ (lt_of_heap h.s)).trans h.s, (hb.block _ (lt_of_heap h.d)).trans h.d, h.m.kept (hb.block _ h.m.lt)⟩
theorem Sit.cells {w : World} {lb sb mb db : Nat} {d0 d1 : Bool} (h : Sit w lb sb mb db d0 d1) :
    (w.cell? ⟨lb, 0, none⟩ = some (.int .i64 1) ∧ w.cell? ⟨lb, 1, none⟩ = some (.int .i64 0) ∧ w.cell? ⟨lb, 2, none⟩ = some (.int .i64 1) ∧ w.cell? ⟨lb, 3, none⟩ = some (.string ⟨#[43]⟩) ∧ w.cell? ⟨lb, 4, none⟩ = some (.string ⟨#[49]⟩)) ∧
    (w.cell? ⟨lb, 5, none⟩ = some (.int .i64 2) ∧ w.cell? ⟨lb, 6, none⟩ = some (.int .i64 0) ∧ w.cell? ⟨lb, 7, none⟩ = some (.int .i64 1) ∧ w.cell? ⟨lb, 8, none⟩ = some (.string ⟨#[43]⟩) ∧ w.cell? ⟨lb, 9, none⟩ = some (.string ⟨#[48]⟩)) ∧
    (w.cell? ⟨sb, 0, none⟩ = some (.iface 37 (.agg #[])) ∧ w.cell? ⟨sb, 1, none⟩ = some (.slice (some ⟨lb, 0, none⟩) 2 2) ∧ w.cell? ⟨sb, 2, none⟩ = some (.map (some mb))) ∧
    (w.cell? ⟨db, 0, none⟩ = some (.bool d0) ∧ w.cell? ⟨db, 1, none⟩ = some (.bool d1)) :=
  ⟨⟨cell_of_heap h.l _, cell_of_heap h.l _, cell_of_heap h.l _, cell_of_heap h.l _, cell_of_heap h.l _⟩, ⟨cell_of_heap h.l _, cell_of_heap h.l _, cell_of_heap h.l _, cell_of_heap h.l _, cell_of_heap h.l _⟩,
   ⟨cell_of_heap h.s _, cell_of_heap h.s _, cell_of_heap h.s _⟩, ⟨cell_of_heap h.d _, cell_of_heap h.d _⟩⟩
set_option maxRecDepth 100000 in
set_option maxHeartbeats 1000000 in
theorem Itoa_0 (w : World) : Calls Tryd.prog 41 #[.int .i64 0] w fun e w' => e = .returned (.string ⟨#[48]⟩) ∧ w' = w := by
  go_enter Tryd.func41, Tryd.ntmps41
  go_wp2
  go_ret
  exact ⟨rfl, rfl⟩
set_option maxRecDepth 100000 in
set_option maxHeartbeats 1000000 in
theorem Itoa_2 (w : World) : Calls Tryd.prog 41 #[.int .i64 2] w fun e w' => e = .returned (.string ⟨#[50]⟩) ∧ w' = w := by
  go_enter Tryd.func41, Tryd.ntmps41
  go_wp2
  go_ret
  exact ⟨rfl, rfl⟩
set_option maxRecDepth 100000 in
set_option maxHeartbeats 1000000 in
theorem key_ff (db : Nat) (s : ByteArray) (w : World) (h0 : w.cell? ⟨db, 0, none⟩ = some (.bool false)) (h1 : w.cell? ⟨db, 1, none⟩ = some (.bool false)) (hs : s.size ≤ 1000) :
    Calls Tryd.prog 34 #[.slice (some ⟨db, 0, none⟩) 2 2, .string s] w fun e w' => e = .returned (.string (⟨#[48]⟩ ++ ⟨#[32]⟩ ++ s)) ∧ w' = w := by
  have hi := Itoa_0
  go_enter Tryd.func34, Tryd.ntmps34
  go_wp2
  refine wp_loop_rounds 3 ?_
  rw [rounds_succ]
  go_wp2
  rw [rounds_succ]
  go_wp2
  rw [rounds_succ]
  go_wp2_with (go_at_call 41; refine (hi _).mono ?_; rintro e w' ⟨rfl, rfl⟩)
  go_ret
  exact ⟨rfl, rfl⟩
set_option maxRecDepth 100000 in
set_option maxHeartbeats 1000000 in
theorem key_ft (db : Nat) (s : ByteArray) (w : World) (h0 : w.cell? ⟨db, 0, none⟩ = some (.bool false)) (h1 : w.cell? ⟨db, 1, none⟩ = some (.bool true)) (hs : s.size ≤ 1000) :
    Calls Tryd.prog 34 #[.slice (some ⟨db, 0, none⟩) 2 2, .string s] w fun e w' => e = .returned (.string (⟨#[50]⟩ ++ ⟨#[32]⟩ ++ s)) ∧ w' = w := by
  have hi := Itoa_2
  go_enter Tryd.func34, Tryd.ntmps34
  go_wp2
  refine wp_loop_rounds 3 ?_
  rw [rounds_succ]
  go_wp2
  rw [rounds_succ]
  go_wp2
  rw [rounds_succ]
  go_wp2_with (go_at_call 41; refine (hi _).mono ?_; rintro e w' ⟨rfl, rfl⟩)
  go_ret
  exact ⟨rfl, rfl⟩
theorem heap_setCell' (w : World) (b : Nat) (cs : Array Value) (T : TypeId) (fz : Nat × Nat) (o : Nat) (v : Value) (h : w.heap[b]? = some (.cells cs T fz)) :
    (w.setCell ⟨b, o, none⟩ v).heap[b]? = some (.cells (cs.setIfInBounds o v) T fz) := by
  simp [World.setCell, Array.getElem?_modify, h]
theorem below1 (w : World) (o : Obj) : Below w.heap.size w (w.alloc o) := (Below.refl _ _).alloc (Nat.le_refl _) _
set_option maxRecDepth 100000 in
set_option maxHeartbeats 1000000 in
theorem over_f (w : World) (lb sb mb db : Nat) (d1 : Bool) (h : Sit w lb sb mb db false d1) :
    Calls Tryd.prog 33 #[.pointer (some ⟨sb, 0, none⟩), .slice (some ⟨db, 0, none⟩) 2 2] w fun e w' => e = .returned (.bool false) ∧ Below w.heap.size w w' := by
  obtain ⟨⟨l0, l1, l2, l3, l4⟩, _, ⟨s0, s1, s2⟩, ⟨e0, e1⟩⟩ := h.cells
  have hO := fun w => Open_any c0 w
  unfold cellsC c0 at hO
  have hdb := lt_of_heap h.d
  have hlb := lt_of_heap h.l
  have hsb := lt_of_heap h.s
  have HD := Lib.hid h
  clear h
  go_enter Tryd.func33, Tryd.ntmps33
  go_wp2
  refine wp_loop_rounds 1 ?_
  rw [rounds_succ]
  go_wp2_with (go_at_call 17; refine (hO _).mono ?_; rintro e w' ⟨rfl, rfl⟩)
  go_ret
  exact ⟨rfl, below_of (below1 _ _) _⟩
set_option maxRecDepth 100000 in
set_option maxHeartbeats 1000000 in
theorem over_tt (w : World) (lb sb mb db : Nat) (h : Sit w lb sb mb db true true) :
    Calls Tryd.prog 33 #[.pointer (some ⟨sb, 0, none⟩), .slice (some ⟨db, 0, none⟩) 2 2] w fun e w' => e = .returned (.bool true) ∧ Below w.heap.size w w' := by
  obtain ⟨⟨l0, l1, l2, l3, l4⟩, ⟨l5, l6, l7, l8, l9⟩, ⟨s0, s1, s2⟩, ⟨e0, e1⟩⟩ := h.cells
  have hdb := lt_of_heap h.d
  have hlb := lt_of_heap h.l
  have hsb := lt_of_heap h.s
  have HD := Lib.hid h
  clear h
  go_enter Tryd.func33, Tryd.ntmps33
  go_wp2
  refine wp_loop_rounds 3 ?_
  rw [rounds_succ]
  go_wp2
  rw [rounds_succ]
  go_wp2
  rw [rounds_succ]
  go_wp2
  go_ret
  exact ⟨rfl, below_of (below1 _ _) _⟩
theorem belowQ (w : World) (o : Obj) (n : Nat) : Below w.heap.size w ((w.alloc o).drewN n) := ⟨rfl, rfl, rfl, by simp, fun k hk => heap_alloc_lt _ _ _ hk⟩
theorem belowC {w w' : World} {o : Obj} (h : Below ((w.alloc o).drew).heap.size ((w.alloc o).drew) w') : Below w.heap.size w w' := Below.trans (⟨rfl, rfl, rfl, by simp, fun k hk => heap_alloc_lt _ _ _ hk⟩ : Below w.heap.size w ((w.alloc o).drew)) (h.mono (by simp))
set_option maxRecDepth 100000 in
set_option maxHeartbeats 2000000 in
theorem may_0_t (w : World) (lb sb mb db : Nat) (h : Sit w lb sb mb db false true) :
    Calls Tryd.prog 35 #[.pointer (some ⟨sb, 0, none⟩), .int .i64 0, .slice (some ⟨db, 0, none⟩) 2 2] w fun e w' => e = .returned (.bool true) ∧ Below w.heap.size w w' := by
  obtain ⟨_, _, ⟨s0, s1, s2⟩, ⟨e0, e1⟩⟩ := h.cells
  have hA2 : ∀ w, Calls Tryd.prog 18 #[.agg (cellsC c1), .agg (cellsC c0)] w fun e w' => e = .returned (.bool false) ∧ Below w.heap.size w w' := fun w => (ahead_any c1 c0 w).mono (by rintro e w' ⟨rfl, rfl⟩; exact ⟨rfl, below_of (below_of (below1 _ _) _) _⟩)
  unfold cellsC c0 c1 at hA2
  have HD := Lib.hid h
  have HA := Lib.hid hA2
  clear h hA2
  go_enter Tryd.func35, Tryd.ntmps35
  go_wp2
  clear s0 s1 s2 e0 e1
  go_loopg [18] 3 (fun k v wr => ∃ j : Nat, j ≤ 2 ∧ v = .int .i64 j ∧ k = 2 - j + 1 ∧ Hid (Sit wr lb sb mb db false true) ∧ Hid (Below w.heap.size w wr))
  case atStart => exact ⟨0, by omega, rfl, rfl, HD.out, Below.refl _ _⟩
  case round =>
    obtain ⟨j, hj, rfl, hk, HS, HB⟩ := hrel
    subst hk
    have hsz := (HB.out).size
    obtain ⟨⟨l0, l1, l2, l3, l4⟩, ⟨l5, l6, l7, l8, l9⟩, ⟨s0, s1, s2⟩, ⟨e0, e1⟩⟩ := (HS.out).cells
    have hdb := lt_of_heap (HS.out).d
    have hlb := lt_of_heap (HS.out).l
    have hsb := lt_of_heap (HS.out).s
    have hm := @run_makeMap Tryd.prog
    clear hm
    obtain rfl | rfl | rfl : j = 0 ∨ j = 1 ∨ j = 2 := by omega
    · go_wp2_with fail
      go_quiet (fail)
      go_wp2
      go_roundg 2
      case measure => omega
      case rel => exact ⟨1, by omega, rfl, by omega, (HS.out).below (belowQ _ _ _), (HB.out).trans ((belowQ _ _ _).mono hsz)⟩
    · go_wp2_with fail
      go_quiet (fail)
      go_wp2
      go_roundg 1
      case measure => omega
      case rel => exact ⟨2, by omega, rfl, by omega, (HS.out).below (belowQ _ _ _), (HB.out).trans ((belowQ _ _ _).mono hsz)⟩
    · go_wp2
      go_ret
      exact ⟨rfl, HB.out⟩
set_option maxRecDepth 100000 in
set_option maxHeartbeats 2000000 in
theorem may_0_f (w : World) (lb sb mb db : Nat) (h : Sit w lb sb mb db false false) :
    Calls Tryd.prog 35 #[.pointer (some ⟨sb, 0, none⟩), .int .i64 0, .slice (some ⟨db, 0, none⟩) 2 2] w fun e w' => e = .returned (.bool true) ∧ Below w.heap.size w w' := by
  obtain ⟨_, _, ⟨s0, s1, s2⟩, ⟨e0, e1⟩⟩ := h.cells
  have hA2 : ∀ w, Calls Tryd.prog 18 #[.agg (cellsC c1), .agg (cellsC c0)] w fun e w' => e = .returned (.bool false) ∧ Below w.heap.size w w' := fun w => (ahead_any c1 c0 w).mono (by rintro e w' ⟨rfl, rfl⟩; exact ⟨rfl, below_of (below_of (below1 _ _) _) _⟩)
  unfold cellsC c0 c1 at hA2
  have HD := Lib.hid h
  have HA := Lib.hid hA2
  clear h hA2
  go_enter Tryd.func35, Tryd.ntmps35
  go_wp2
  clear s0 s1 s2 e0 e1
  go_loopg [18] 3 (fun k v wr => ∃ j : Nat, j ≤ 2 ∧ v = .int .i64 j ∧ k = 2 - j + 1 ∧ Hid (Sit wr lb sb mb db false false) ∧ Hid (Below w.heap.size w wr))
  case atStart => exact ⟨0, by omega, rfl, rfl, HD.out, Below.refl _ _⟩
  case round =>
    obtain ⟨j, hj, rfl, hk, HS, HB⟩ := hrel
    subst hk
    have hsz := (HB.out).size
    obtain ⟨⟨l0, l1, l2, l3, l4⟩, ⟨l5, l6, l7, l8, l9⟩, ⟨s0, s1, s2⟩, ⟨e0, e1⟩⟩ := (HS.out).cells
    have hdb := lt_of_heap (HS.out).d
    have hlb := lt_of_heap (HS.out).l
    have hsb := lt_of_heap (HS.out).s
    have hm := @run_makeMap Tryd.prog
    clear hm
    obtain rfl | rfl | rfl : j = 0 ∨ j = 1 ∨ j = 2 := by omega
    · go_wp2_with fail
      go_quiet (fail)
      go_wp2
      go_roundg 2
      case measure => omega
      case rel => exact ⟨1, by omega, rfl, by omega, (HS.out).below (belowQ _ _ _), (HB.out).trans ((belowQ _ _ _).mono hsz)⟩
    · go_wp2_with fail
      go_region_held3 (fun w' => w'.cell? ⟨db, 1, none⟩ = some (.bool false) ∧ w'.cell? ⟨sb, 1, none⟩ = some (.slice (some ⟨lb, 0, none⟩) 2 2) ∧ w'.cell? ⟨lb, 0, none⟩ = some (.int .i64 1) ∧ w'.cell? ⟨lb, 1, none⟩ = some (.int .i64 0) ∧ w'.cell? ⟨lb, 2, none⟩ = some (.int .i64 1) ∧ w'.cell? ⟨lb, 3, none⟩ = some (.string ⟨#[43]⟩) ∧ w'.cell? ⟨lb, 4, none⟩ = some (.string ⟨#[49]⟩) ∧ w'.cell? ⟨wr.heap.size, 0, none⟩ = some (.int .i64 2) ∧ w'.cell? ⟨wr.heap.size, 1, none⟩ = some (.int .i64 0) ∧ w'.cell? ⟨wr.heap.size, 2, none⟩ = some (.int .i64 1) ∧ w'.cell? ⟨wr.heap.size, 3, none⟩ = some (.string ⟨#[43]⟩) ∧ w'.cell? ⟨wr.heap.size, 4, none⟩ = some (.string ⟨#[48]⟩)) (first | go_keep | (go_split_ands; refine ⟨?_, ?_, ?_, ?_, ?_, ?_, ?_, ?_, ?_, ?_, ?_, ?_⟩ <;> (refine keep_below hb _ _ ?_; assumption))) ((go_at_call 18; refine (HA.out _).mono ?_; rintro e w' ⟨rfl, hb⟩))
      go_wp2
      go_roundg 1
      case measure => omega
      case rel => exact ⟨2, by omega, rfl, by omega, (HS.out).below (belowC hb), (HB.out).trans ((belowC hb).mono hsz)⟩
    · go_wp2
      go_ret
      exact ⟨rfl, HB.out⟩
set_option maxRecDepth 100000 in
set_option maxHeartbeats 2000000 in
theorem may_1_f (w : World) (lb sb mb db : Nat) (h : Sit w lb sb mb db false false) :
    Calls Tryd.prog 35 #[.pointer (some ⟨sb, 0, none⟩), .int .i64 1, .slice (some ⟨db, 0, none⟩) 2 2] w fun e w' => e = .returned (.bool true) ∧ Below w.heap.size w w' := by
  obtain ⟨_, _, ⟨s0, s1, s2⟩, ⟨e0, e1⟩⟩ := h.cells
  have hA2 : ∀ w, Calls Tryd.prog 18 #[.agg (cellsC c0), .agg (cellsC c1)] w fun e w' => e = .returned (.bool false) ∧ Below w.heap.size w w' := fun w => (ahead_any c0 c1 w).mono (by rintro e w' ⟨rfl, rfl⟩; exact ⟨rfl, below_of (below_of (below1 _ _) _) _⟩)
  unfold cellsC c0 c1 at hA2
  have HD := Lib.hid h
  have HA := Lib.hid hA2
  clear h hA2
  go_enter Tryd.func35, Tryd.ntmps35
  go_wp2
  clear s0 s1 s2 e0 e1
  go_loopg [18] 3 (fun k v wr => ∃ j : Nat, j ≤ 2 ∧ v = .int .i64 j ∧ k = 2 - j + 1 ∧ Hid (Sit wr lb sb mb db false false) ∧ Hid (Below w.heap.size w wr))
  case atStart => exact ⟨0, by omega, rfl, rfl, HD.out, Below.refl _ _⟩
  case round =>
    obtain ⟨j, hj, rfl, hk, HS, HB⟩ := hrel
    subst hk
    have hsz := (HB.out).size
    obtain ⟨⟨l0, l1, l2, l3, l4⟩, ⟨l5, l6, l7, l8, l9⟩, ⟨s0, s1, s2⟩, ⟨e0, e1⟩⟩ := (HS.out).cells
    have hdb := lt_of_heap (HS.out).d
    have hlb := lt_of_heap (HS.out).l
    have hsb := lt_of_heap (HS.out).s
    have hm := @run_makeMap Tryd.prog
    clear hm
    obtain rfl | rfl | rfl : j = 0 ∨ j = 1 ∨ j = 2 := by omega
    · go_wp2_with fail
      go_region_held3 (fun w' => w'.cell? ⟨db, 0, none⟩ = some (.bool false) ∧ w'.cell? ⟨sb, 1, none⟩ = some (.slice (some ⟨lb, 0, none⟩) 2 2) ∧ w'.cell? ⟨lb, 5, none⟩ = some (.int .i64 2) ∧ w'.cell? ⟨lb, 6, none⟩ = some (.int .i64 0) ∧ w'.cell? ⟨lb, 7, none⟩ = some (.int .i64 1) ∧ w'.cell? ⟨lb, 8, none⟩ = some (.string ⟨#[43]⟩) ∧ w'.cell? ⟨lb, 9, none⟩ = some (.string ⟨#[48]⟩) ∧ w'.cell? ⟨wr.heap.size, 0, none⟩ = some (.int .i64 1) ∧ w'.cell? ⟨wr.heap.size, 1, none⟩ = some (.int .i64 0) ∧ w'.cell? ⟨wr.heap.size, 2, none⟩ = some (.int .i64 1) ∧ w'.cell? ⟨wr.heap.size, 3, none⟩ = some (.string ⟨#[43]⟩) ∧ w'.cell? ⟨wr.heap.size, 4, none⟩ = some (.string ⟨#[49]⟩)) (first | go_keep | (go_split_ands; refine ⟨?_, ?_, ?_, ?_, ?_, ?_, ?_, ?_, ?_, ?_, ?_, ?_⟩ <;> (refine keep_below hb _ _ ?_; assumption))) ((go_at_call 18; refine (HA.out _).mono ?_; rintro e w' ⟨rfl, hb⟩))
      go_wp2
      go_roundg 2
      case measure => omega
      case rel => exact ⟨1, by omega, rfl, by omega, (HS.out).below (belowC hb), (HB.out).trans ((belowC hb).mono hsz)⟩
    · go_wp2_with fail
      go_quiet (fail)
      go_wp2
      go_roundg 1
      case measure => omega
      case rel => exact ⟨2, by omega, rfl, by omega, (HS.out).below (belowQ _ _ _), (HB.out).trans ((belowQ _ _ _).mono hsz)⟩
    · go_wp2
      go_ret
      exact ⟨rfl, HB.out⟩
end Go.Proofs.YtaecjabehbhpfaaDoor
