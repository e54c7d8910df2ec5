/-
  The counter and the replays by contracts. Conditions: sizes.
-/
import Derived.Test.YtaecjabehbhpfaaDoorHist4
namespace Go.Proofs.YtaecjabehbhpfaaDoor
open Go.RowKit Go.Hd
/-- The counter's answer, and what comes then. -/
def cntA (s : ByteArray) : ByteArray := ⟨#[UInt8.ofNat (48 + min s.size 9)]⟩
def cntN (s ask : ByteArray) : ByteArray := if (ask.toList == [43]) = true then s ++ ⟨#[120]⟩ else s
theorem run_byte_string (n : Int) (W : World) : (convert 91 9 (.slice (some ⟨W.heap.size, 0, none⟩) 1 1)).run Tryd.prog (W.alloc (.cells #[.int .u8 n] 5)) = .ok (.string ⟨#[UInt8.ofNat n.toNat]⟩) (W.alloc (.cells #[.int .u8 n] 5)) := by
  rw [run_convert_bytes_string _ _ _ _ _ _ _ Tryd.underlying91 Tryd.underlying5 Tryd.underlying9]
  rw [run_bytesToString _ _ _ _ [n] (show (loadCells ⟨W.heap.size, 0, none⟩ 1).run Tryd.prog _ = _ from run_loadCells_list (W.alloc (.cells #[.int .u8 n] 5)) ⟨W.heap.size, 0, none⟩ [.int .u8 n] (fun j v hj => by
    cases j with
    | zero => simp at hj; subst hj; simp [Addr.add]
    | succ j => simp at hj))]
  rfl
theorem cntA_lo {s : ByteArray} (h : s.size ≤ 9) : cntA s = ⟨#[UInt8.ofNat (48 + s.size)]⟩ := by
  unfold cntA
  rw [Nat.min_eq_left h]
theorem cntA_hi {s : ByteArray} (h : 9 ≤ s.size) : cntA s = ⟨#[57]⟩ := by
  unfold cntA
  rw [Nat.min_eq_right h]
  rfl
set_option maxRecDepth 100000 in
set_option maxHeartbeats 1000000 in
theorem Count_any (s ask : ByteArray) (w : World) (hs : s.size ≤ 1000) : Calls Tryd.prog 23 #[.string s, .string ask] w fun e w' => e = .returned (.tuple #[.string (cntA s), .string (cntN s ask)]) ∧ Below w.heap.size w w' := by
  have hc := run_byte_string
  by_cases h9 : s.size ≤ 9
  · have HA := Lib.hid (cntA_lo h9)
    by_cases hk : (ask.toList == [43]) = true
    · have HN : Hid (cntN s ask = s ++ ⟨#[120]⟩) := if_pos hk
      go_enter Tryd.func23, Tryd.ntmps23
      go_wp2
      go_ret2
      exact ⟨by rw [HA.out, HN.out]; rfl, (Below.refl _ _).alloc (Nat.le_refl _) _⟩
    · have hk' : (ask.toList == [43]) = false := by simpa using hk
      have HN : Hid (cntN s ask = s) := if_neg hk
      clear hk
      go_enter Tryd.func23, Tryd.ntmps23
      go_wp2
      go_ret2
      exact ⟨by rw [HA.out, HN.out]; rfl, (Below.refl _ _).alloc (Nat.le_refl _) _⟩
  · have hh : (9 : Int) < (s.size : Int) := by omega
    have HA := Lib.hid (cntA_hi (s := s) (by omega))
    by_cases hk : (ask.toList == [43]) = true
    · have HN : Hid (cntN s ask = s ++ ⟨#[120]⟩) := if_pos hk
      go_enter Tryd.func23, Tryd.ntmps23
      go_wp2
      go_ret2
      exact ⟨by rw [HA.out, HN.out]; rfl, (Below.refl _ _).alloc (Nat.le_refl _) _⟩
    · have hk' : (ask.toList == [43]) = false := by simpa using hk
      have HN : Hid (cntN s ask = s) := if_neg hk
      clear hk
      go_enter Tryd.func23, Tryd.ntmps23
      go_wp2
      go_ret2
      exact ⟨by rw [HA.out, HN.out]; rfl, (Below.refl _ _).alloc (Nat.le_refl _) _⟩
set_option maxRecDepth 100000 in
set_option maxHeartbeats 1000000 in
theorem Next_any (s ask : ByteArray) (w : World) (hs : s.size ≤ 1000) : Calls Tryd.prog 76 #[.agg #[], .string s, .string ask] w fun e w' => e = .returned (.tuple #[.string (cntA s), .string (cntN s ask)]) ∧ Below w.heap.size w w' := by
  have hC := fun w => Count_any s ask w hs
  go_enter Tryd.func76, Tryd.ntmps76
  go_wp2_with fail
  refine (hC _).mono ?_
  rintro e w' ⟨rfl, hb⟩
  have HB := Lib.hid hb
  clear hb
  go_wp2
  go_ret2
  exact ⟨rfl, ((Below.refl _ _).alloc (Nat.le_refl _) _).trans ((HB.out).mono (by simp))⟩
end Go.Proofs.YtaecjabehbhpfaaDoor
