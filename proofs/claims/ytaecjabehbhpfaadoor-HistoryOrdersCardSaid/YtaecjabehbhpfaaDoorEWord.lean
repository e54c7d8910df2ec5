/-
  (Errno).Error: the word of a number. No condition.
-/
import Derived.Test.YtaecjabehbhpfaaDoorErr
namespace Go.Proofs.YtaecjabehbhpfaaDoor
open Go.RowKit
def ewords : List ByteArray := [⟨#[101, 110, 100]⟩, ⟨#[102, 111, 114, 109]⟩, ⟨#[98, 105, 103]⟩, ⟨#[97, 114, 103]⟩, ⟨#[107, 105, 110, 100]⟩, ⟨#[114, 97, 110, 103, 101]⟩, ⟨#[102, 117, 108, 108]⟩, ⟨#[110, 111, 110, 101]⟩, ⟨#[116, 104, 101, 114, 101]⟩, ⟨#[111, 118, 101, 114, 102, 108, 111, 119]⟩, ⟨#[115, 104, 111, 114, 116]⟩, ⟨#[112, 114, 111, 111, 102]⟩, ⟨#[102, 117, 116, 117, 114, 101]⟩, ⟨#[112, 114, 117, 110, 101, 100]⟩, ⟨#[98, 114, 97, 110, 99, 104]⟩, ⟨#[117, 110, 100, 111, 110, 101]⟩, ⟨#[102, 105, 120, 101, 100]⟩, ⟨#[99, 111, 110, 102, 108, 105, 99, 116]⟩, ⟨#[100, 105, 118, 101, 114, 103, 101, 100]⟩, ⟨#[98, 117, 115, 121]⟩]
/-- The word of a number. -/
def ename (n : Int) : ByteArray := if 1 ≤ n ∧ n ≤ 20 then ewords.getD (n.toNat - 1) ⟨#[]⟩ else ⟨#[111, 107]⟩
def etab : Array Value := #[.int .i64 1, .string ⟨#[101, 110, 100]⟩, .int .i64 2, .string ⟨#[102, 111, 114, 109]⟩, .int .i64 3, .string ⟨#[98, 105, 103]⟩, .int .i64 4, .string ⟨#[97, 114, 103]⟩, .int .i64 5, .string ⟨#[107, 105, 110, 100]⟩, .int .i64 6, .string ⟨#[114, 97, 110, 103, 101]⟩, .int .i64 7, .string ⟨#[102, 117, 108, 108]⟩, .int .i64 8, .string ⟨#[110, 111, 110, 101]⟩, .int .i64 9, .string ⟨#[116, 104, 101, 114, 101]⟩, .int .i64 10, .string ⟨#[111, 118, 101, 114, 102, 108, 111, 119]⟩, .int .i64 11, .string ⟨#[115, 104, 111, 114, 116]⟩, .int .i64 12, .string ⟨#[112, 114, 111, 111, 102]⟩, .int .i64 13, .string ⟨#[102, 117, 116, 117, 114, 101]⟩, .int .i64 14, .string ⟨#[112, 114, 117, 110, 101, 100]⟩, .int .i64 15, .string ⟨#[98, 114, 97, 110, 99, 104]⟩, .int .i64 16, .string ⟨#[117, 110, 100, 111, 110, 101]⟩, .int .i64 17, .string ⟨#[102, 105, 120, 101, 100]⟩, .int .i64 18, .string ⟨#[99, 111, 110, 102, 108, 105, 99, 116]⟩, .int .i64 19, .string ⟨#[100, 105, 118, 101, 114, 103, 101, 100]⟩, .int .i64 20, .string ⟨#[98, 117, 115, 121]⟩]
theorem etab_e : ∀ i : Nat, i < 20 → etab[2 * i]? = some (.int .i64 ((i : Int) + 1)) := by
  intro i hi
  obtain rfl | rfl | rfl | rfl | rfl | rfl | rfl | rfl | rfl | rfl | rfl | rfl | rfl | rfl | rfl | rfl | rfl | rfl | rfl | rfl : i = 0 ∨ i = 1 ∨ i = 2 ∨ i = 3 ∨ i = 4 ∨ i = 5 ∨ i = 6 ∨ i = 7 ∨ i = 8 ∨ i = 9 ∨ i = 10 ∨ i = 11 ∨ i = 12 ∨ i = 13 ∨ i = 14 ∨ i = 15 ∨ i = 16 ∨ i = 17 ∨ i = 18 ∨ i = 19 := by omega
  all_goals rfl
theorem etab_s : ∀ i : Nat, i < 20 → etab[2 * i + 1]? = some (.string (ewords.getD i ⟨#[]⟩)) := by
  intro i hi
  obtain rfl | rfl | rfl | rfl | rfl | rfl | rfl | rfl | rfl | rfl | rfl | rfl | rfl | rfl | rfl | rfl | rfl | rfl | rfl | rfl : i = 0 ∨ i = 1 ∨ i = 2 ∨ i = 3 ∨ i = 4 ∨ i = 5 ∨ i = 6 ∨ i = 7 ∨ i = 8 ∨ i = 9 ∨ i = 10 ∨ i = 11 ∨ i = 12 ∨ i = 13 ∨ i = 14 ∨ i = 15 ∨ i = 16 ∨ i = 17 ∨ i = 18 ∨ i = 19 := by omega
  all_goals rfl
theorem Tryd.eb1 (w : World) : (Instr.build 101 #[(0, .int .i64 1), (1, .string ⟨#[101, 110, 100]⟩)]).run Tryd.prog w = .ok (.agg #[.int .i64 1, .string ⟨#[101, 110, 100]⟩]) w := by kernel_rfl
theorem Tryd.eb2 (w : World) : (Instr.build 101 #[(0, .int .i64 2), (1, .string ⟨#[102, 111, 114, 109]⟩)]).run Tryd.prog w = .ok (.agg #[.int .i64 2, .string ⟨#[102, 111, 114, 109]⟩]) w := by kernel_rfl
theorem Tryd.eb3 (w : World) : (Instr.build 101 #[(0, .int .i64 3), (1, .string ⟨#[98, 105, 103]⟩)]).run Tryd.prog w = .ok (.agg #[.int .i64 3, .string ⟨#[98, 105, 103]⟩]) w := by kernel_rfl
theorem Tryd.eb4 (w : World) : (Instr.build 101 #[(0, .int .i64 4), (1, .string ⟨#[97, 114, 103]⟩)]).run Tryd.prog w = .ok (.agg #[.int .i64 4, .string ⟨#[97, 114, 103]⟩]) w := by kernel_rfl
theorem Tryd.eb5 (w : World) : (Instr.build 101 #[(0, .int .i64 5), (1, .string ⟨#[107, 105, 110, 100]⟩)]).run Tryd.prog w = .ok (.agg #[.int .i64 5, .string ⟨#[107, 105, 110, 100]⟩]) w := by kernel_rfl
theorem Tryd.eb6 (w : World) : (Instr.build 101 #[(0, .int .i64 6), (1, .string ⟨#[114, 97, 110, 103, 101]⟩)]).run Tryd.prog w = .ok (.agg #[.int .i64 6, .string ⟨#[114, 97, 110, 103, 101]⟩]) w := by kernel_rfl
theorem Tryd.eb7 (w : World) : (Instr.build 101 #[(0, .int .i64 7), (1, .string ⟨#[102, 117, 108, 108]⟩)]).run Tryd.prog w = .ok (.agg #[.int .i64 7, .string ⟨#[102, 117, 108, 108]⟩]) w := by kernel_rfl
theorem Tryd.eb8 (w : World) : (Instr.build 101 #[(0, .int .i64 8), (1, .string ⟨#[110, 111, 110, 101]⟩)]).run Tryd.prog w = .ok (.agg #[.int .i64 8, .string ⟨#[110, 111, 110, 101]⟩]) w := by kernel_rfl
theorem Tryd.eb9 (w : World) : (Instr.build 101 #[(0, .int .i64 9), (1, .string ⟨#[116, 104, 101, 114, 101]⟩)]).run Tryd.prog w = .ok (.agg #[.int .i64 9, .string ⟨#[116, 104, 101, 114, 101]⟩]) w := by kernel_rfl
theorem Tryd.eb10 (w : World) : (Instr.build 101 #[(0, .int .i64 10), (1, .string ⟨#[111, 118, 101, 114, 102, 108, 111, 119]⟩)]).run Tryd.prog w = .ok (.agg #[.int .i64 10, .string ⟨#[111, 118, 101, 114, 102, 108, 111, 119]⟩]) w := by kernel_rfl
theorem Tryd.eb11 (w : World) : (Instr.build 101 #[(0, .int .i64 11), (1, .string ⟨#[115, 104, 111, 114, 116]⟩)]).run Tryd.prog w = .ok (.agg #[.int .i64 11, .string ⟨#[115, 104, 111, 114, 116]⟩]) w := by kernel_rfl
theorem Tryd.eb12 (w : World) : (Instr.build 101 #[(0, .int .i64 12), (1, .string ⟨#[112, 114, 111, 111, 102]⟩)]).run Tryd.prog w = .ok (.agg #[.int .i64 12, .string ⟨#[112, 114, 111, 111, 102]⟩]) w := by kernel_rfl
theorem Tryd.eb13 (w : World) : (Instr.build 101 #[(0, .int .i64 13), (1, .string ⟨#[102, 117, 116, 117, 114, 101]⟩)]).run Tryd.prog w = .ok (.agg #[.int .i64 13, .string ⟨#[102, 117, 116, 117, 114, 101]⟩]) w := by kernel_rfl
theorem Tryd.eb14 (w : World) : (Instr.build 101 #[(0, .int .i64 14), (1, .string ⟨#[112, 114, 117, 110, 101, 100]⟩)]).run Tryd.prog w = .ok (.agg #[.int .i64 14, .string ⟨#[112, 114, 117, 110, 101, 100]⟩]) w := by kernel_rfl
theorem Tryd.eb15 (w : World) : (Instr.build 101 #[(0, .int .i64 15), (1, .string ⟨#[98, 114, 97, 110, 99, 104]⟩)]).run Tryd.prog w = .ok (.agg #[.int .i64 15, .string ⟨#[98, 114, 97, 110, 99, 104]⟩]) w := by kernel_rfl
theorem Tryd.eb16 (w : World) : (Instr.build 101 #[(0, .int .i64 16), (1, .string ⟨#[117, 110, 100, 111, 110, 101]⟩)]).run Tryd.prog w = .ok (.agg #[.int .i64 16, .string ⟨#[117, 110, 100, 111, 110, 101]⟩]) w := by kernel_rfl
theorem Tryd.eb17 (w : World) : (Instr.build 101 #[(0, .int .i64 17), (1, .string ⟨#[102, 105, 120, 101, 100]⟩)]).run Tryd.prog w = .ok (.agg #[.int .i64 17, .string ⟨#[102, 105, 120, 101, 100]⟩]) w := by kernel_rfl
theorem Tryd.eb18 (w : World) : (Instr.build 101 #[(0, .int .i64 18), (1, .string ⟨#[99, 111, 110, 102, 108, 105, 99, 116]⟩)]).run Tryd.prog w = .ok (.agg #[.int .i64 18, .string ⟨#[99, 111, 110, 102, 108, 105, 99, 116]⟩]) w := by kernel_rfl
theorem Tryd.eb19 (w : World) : (Instr.build 101 #[(0, .int .i64 19), (1, .string ⟨#[100, 105, 118, 101, 114, 103, 101, 100]⟩)]).run Tryd.prog w = .ok (.agg #[.int .i64 19, .string ⟨#[100, 105, 118, 101, 114, 103, 101, 100]⟩]) w := by kernel_rfl
theorem Tryd.eb20 (w : World) : (Instr.build 101 #[(0, .int .i64 20), (1, .string ⟨#[98, 117, 115, 121]⟩)]).run Tryd.prog w = .ok (.agg #[.int .i64 20, .string ⟨#[98, 117, 115, 121]⟩]) w := by kernel_rfl
theorem Tryd.ebs (w : World) : (Instr.buildSlice 102 20 #[(0, .agg #[.int .i64 1, .string ⟨#[101, 110, 100]⟩]), (1, .agg #[.int .i64 2, .string ⟨#[102, 111, 114, 109]⟩]), (2, .agg #[.int .i64 3, .string ⟨#[98, 105, 103]⟩]), (3, .agg #[.int .i64 4, .string ⟨#[97, 114, 103]⟩]), (4, .agg #[.int .i64 5, .string ⟨#[107, 105, 110, 100]⟩]), (5, .agg #[.int .i64 6, .string ⟨#[114, 97, 110, 103, 101]⟩]), (6, .agg #[.int .i64 7, .string ⟨#[102, 117, 108, 108]⟩]), (7, .agg #[.int .i64 8, .string ⟨#[110, 111, 110, 101]⟩]), (8, .agg #[.int .i64 9, .string ⟨#[116, 104, 101, 114, 101]⟩]), (9, .agg #[.int .i64 10, .string ⟨#[111, 118, 101, 114, 102, 108, 111, 119]⟩]), (10, .agg #[.int .i64 11, .string ⟨#[115, 104, 111, 114, 116]⟩]), (11, .agg #[.int .i64 12, .string ⟨#[112, 114, 111, 111, 102]⟩]), (12, .agg #[.int .i64 13, .string ⟨#[102, 117, 116, 117, 114, 101]⟩]), (13, .agg #[.int .i64 14, .string ⟨#[112, 114, 117, 110, 101, 100]⟩]), (14, .agg #[.int .i64 15, .string ⟨#[98, 114, 97, 110, 99, 104]⟩]), (15, .agg #[.int .i64 16, .string ⟨#[117, 110, 100, 111, 110, 101]⟩]), (16, .agg #[.int .i64 17, .string ⟨#[102, 105, 120, 101, 100]⟩]), (17, .agg #[.int .i64 18, .string ⟨#[99, 111, 110, 102, 108, 105, 99, 116]⟩]), (18, .agg #[.int .i64 19, .string ⟨#[100, 105, 118, 101, 114, 103, 101, 100]⟩]), (19, .agg #[.int .i64 20, .string ⟨#[98, 117, 115, 121]⟩])]).run Tryd.prog w = .ok (.slice (some ⟨w.heap.size, 0, none⟩) 20 20) (w.alloc (.cells etab 101)) := by kernel_rfl
set_option maxRecDepth 100000 in
set_option maxHeartbeats 2000000 in
theorem Error_any (n : Int) (w : World) : Calls Tryd.prog 26 #[.int .i64 n] w fun e w' => e = .returned (.string (ename n)) ∧ Below w.heap.size w w' := by
  have hb1 := Tryd.eb1
  have hb2 := Tryd.eb2
  have hb3 := Tryd.eb3
  have hb4 := Tryd.eb4
  have hb5 := Tryd.eb5
  have hb6 := Tryd.eb6
  have hb7 := Tryd.eb7
  have hb8 := Tryd.eb8
  have hb9 := Tryd.eb9
  have hb10 := Tryd.eb10
  have hb11 := Tryd.eb11
  have hb12 := Tryd.eb12
  have hb13 := Tryd.eb13
  have hb14 := Tryd.eb14
  have hb15 := Tryd.eb15
  have hb16 := Tryd.eb16
  have hb17 := Tryd.eb17
  have hb18 := Tryd.eb18
  have hb19 := Tryd.eb19
  have hb20 := Tryd.eb20
  have hs := Tryd.ebs
  go_enter Tryd.func26, Tryd.ntmps26
  go_wp2_with fail
  go_loopg [27] 21 (fun k v wr => ∃ i : Nat, i ≤ 20 ∧ v = .int .i64 i ∧ k = 21 - i ∧ Hid (∀ j : Nat, j < i → n ≠ (j : Int) + 1) ∧ Hid (wr.heap[w.heap.size]? = some (.cells etab 101 (0, 0)) ∧ Below w.heap.size w wr))
  case atStart => exact ⟨0, by omega, rfl, rfl, fun j hj => by omega, heap_alloc_new _ _, (Below.refl _ _).alloc (Nat.le_refl _) _⟩
  case round =>
    obtain ⟨i, hi, rfl, hk, HN, HW⟩ := hrel
    subst hk
    have hlt0 := lt_of_heap HW.out.1
    by_cases hlt : i < 20
    · have c1 : wr.cell? ⟨w.heap.size, i * 2, none⟩ = some (.int .i64 ((i : Int) + 1)) := by rw [Nat.mul_comm, cell_of_heap HW.out.1]; exact etab_e i hlt
      have c2 : wr.cell? ⟨w.heap.size, i * 2 + 1, none⟩ = some (.string (ewords.getD i ⟨#[]⟩)) := by rw [Nat.mul_comm, cell_of_heap HW.out.1]; exact etab_s i hlt
      by_cases he : n = (i : Int) + 1
      · have hb : (((i : Int) + 1) == n) = true := by rw [beq_iff_eq]; exact he.symm
        have HE := Lib.hid he
        clear he
        have HF : Hid (ename n = ewords.getD i ⟨#[]⟩) := by
          have := HE.out
          show ename n = _
          unfold ename
          rw [if_pos (by omega)]
          congr 1
          omega
        go_wp2
        go_ret
        exact ⟨congrArg (fun s => Ending.returned (Value.string s)) HF.out.symm, (HW.out.2).alloc (by omega) _⟩
      · have hb : (((i : Int) + 1) == n) = false := by rw [beq_eq_false_iff_ne]; exact fun h => he h.symm
        have HE := Lib.hid he
        clear he
        go_wp2
        go_roundg (20 - i)
        case measure => omega
        case rel =>
          refine ⟨i + 1, by omega, by go_num, by omega, ?_, ?_, ?_⟩
          · intro j hj
            rcases Nat.lt_succ_iff_lt_or_eq.1 hj with h | h
            · exact HN.out j h
            · rw [h]; exact HE.out
          · rw [heap_alloc_lt _ _ _ hlt0]; exact HW.out.1
          · exact (HW.out.2).alloc (by omega) _
    · obtain rfl : i = 20 := by omega
      have HF : Hid (ename n = ⟨#[111, 107]⟩) := by
        show ename n = _
        unfold ename
        rw [if_neg]
        intro h
        exact HN.out (n.toNat - 1) (by omega) (by omega)
      go_wp2
      go_ret
      exact ⟨congrArg (fun s => Ending.returned (Value.string s)) HF.out.symm, HW.out.2⟩
end Go.Proofs.YtaecjabehbhpfaaDoor
