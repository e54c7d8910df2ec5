/-
  Contracts of the small functions of package history and of its reference. Conditions: sizes.
-/
import Derived.Test.YtaecjabehbhpfaaDoorErr
import Derived.Test.YtaecjabehbhpfaaDoorHistP
namespace Go.Proofs.YtaecjabehbhpfaaDoor
open Go.RowKit Go.Hd
/-- A call's five cells. -/
def cellsC (c : C) : Array Value := #[.int .i64 c.who, .int .i64 c.fr, .int .i64 c.to, .string c.ask, .string c.ans]
set_option maxRecDepth 100000 in
set_option maxHeartbeats 400000 in
theorem Open_any (c : C) (w : World) : Calls Tryd.prog 17 #[.agg (cellsC c)] w fun e w' => e = .returned (.bool (decide (c.to < 0))) ∧ w' = w.alloc (.cells (cellsC c) 46) := by
  unfold cellsC
  go_enter Tryd.func17, Tryd.ntmps17
  go_wp2
  go_ret
  exact ⟨rfl, rfl⟩
set_option maxRecDepth 100000 in
set_option maxHeartbeats 400000 in
theorem ahead_any (a b : C) (w : World) : Calls Tryd.prog 18 #[.agg (cellsC a), .agg (cellsC b)] w fun e w' => e = .returned (.bool (aheadB a b)) ∧ w' = ((w.alloc (.cells (cellsC a) 46)).alloc (.cells (cellsC b) 46)).alloc (.cells (cellsC a) 46) := by
  by_cases h : a.to < 0
  · have hh : aheadB a b = false := by unfold aheadB; simp; omega
    rw [hh]
    have hO := fun w => Open_any a w
    simp only [decide_eq_true h] at hO
    unfold cellsC at hO ⊢
    go_enter Tryd.func18, Tryd.ntmps18
    go_wp2_with (go_at_call 17; refine (hO _).mono ?_; rintro e w' ⟨rfl, rfl⟩)
    go_ret
    exact ⟨rfl, rfl⟩
  · have hh : aheadB a b = decide (a.to < b.fr) := by unfold aheadB; simp; omega
    rw [hh]
    have hO := fun w => Open_any a w
    simp only [decide_eq_false h] at hO
    unfold cellsC at hO ⊢
    go_enter Tryd.func18, Tryd.ntmps18
    go_wp2_with (go_at_call 17; refine (hO _).mono ?_; rintro e w' ⟨rfl, rfl⟩)
    go_ret
    exact ⟨rfl, rfl⟩
set_option maxRecDepth 100000 in
set_option maxHeartbeats 400000 in
theorem Ahead_any (a b : C) (w : World) : Calls Tryd.prog 20 #[.agg (cellsC a), .agg (cellsC b)] w fun e w' => e = .returned (.bool (aheadB a b)) ∧ w' = (w.alloc (.cells (cellsC a) 51)).alloc (.cells (cellsC b) 51) := by
  by_cases h : a.to < 0
  · have hh : aheadB a b = false := by unfold aheadB; simp; omega
    have h0 : decide (0 ≤ a.to) = false := by simp; omega
    rw [hh]
    unfold cellsC
    go_enter Tryd.func20, Tryd.ntmps20
    go_wp2
    go_ret
    exact ⟨rfl, rfl⟩
  · have hh : aheadB a b = decide (a.to < b.fr) := by unfold aheadB; simp; omega
    have h0 : 0 ≤ a.to := by omega
    rw [hh]
    unfold cellsC
    go_enter Tryd.func20, Tryd.ntmps20
    go_wp2
    go_ret
    exact ⟨rfl, rfl⟩
/-- At most n bytes. -/
def cut (s : ByteArray) (n : Nat) : ByteArray := if n < s.size then s.extract 0 n else s
set_option maxRecDepth 100000 in
set_option maxHeartbeats 400000 in
theorem Cut_any (s : ByteArray) (n : Nat) (w : World) (hn : n ≤ 1000) (hs : s.size ≤ maxLen) : Calls Tryd.prog 15 #[.string s, .int .i64 n] w fun e w' => e = .returned (.string (cut s n)) ∧ w' = w := by
  have hs2 : s.size ≤ 9223372036854775807 := hs
  unfold cut
  by_cases h : n < s.size
  · rw [if_pos h]
    go_enter Tryd.func15, Tryd.ntmps15
    go_wp2
    go_ret
    exact ⟨rfl, rfl⟩
  · rw [if_neg h]
    go_enter Tryd.func15, Tryd.ntmps15
    go_wp2
    go_ret
    exact ⟨rfl, rfl⟩
end Go.Proofs.YtaecjabehbhpfaaDoor
