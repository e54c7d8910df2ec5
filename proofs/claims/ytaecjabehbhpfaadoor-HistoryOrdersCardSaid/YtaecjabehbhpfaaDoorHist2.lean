/-
  history.Order and its reference by contracts over any calls and any order. Conditions: sizes.
-/
import Derived.Test.YtaecjabehbhpfaaDoorHist1
import Derived.Test.YtaecjabehbhpfaaDoorMaps0
import Derived.StillTailTactics
namespace Go.Proofs.YtaecjabehbhpfaaDoor
open Go.RowKit Go.Hd
/-- The cells of a slice of whole numbers that is read. -/
def IntsAt (w : World) (a : Option Addr) (os : List Int) : Prop := os = [] ∨ ∃ b o, a = some ⟨b, o, none⟩ ∧ ∀ (i : Nat) x, os[i]? = some x → w.cell? ⟨b, o + i, none⟩ = some (.int .i64 x)
/-- The cells of a slice of calls that is read. -/
def CallsAt (w : World) (a : Option Addr) (l : List C) : Prop := l = [] ∨ ∃ b o, a = some ⟨b, o, none⟩ ∧ ∀ (i : Nat) c, l[i]? = some c → ∀ (j : Nat) u, (cellsC c)[j]? = some u → w.cell? ⟨b, o + i * 5 + j, none⟩ = some u
theorem IntsAt.keep {w w' : World} {a : Option Addr} {os : List Int} (h : IntsAt w a os) (hk : ∀ p v, w.cell? p = some v → w'.cell? p = some v) : IntsAt w' a os := by
  rcases h with h | ⟨b, o, ha, hc⟩
  · exact .inl h
  · exact .inr ⟨b, o, ha, fun i x hx => hk _ _ (hc i x hx)⟩
theorem CallsAt.keep {w w' : World} {a : Option Addr} {l : List C} (h : CallsAt w a l) (hk : ∀ p v, w.cell? p = some v → w'.cell? p = some v) : CallsAt w' a l := by
  rcases h with h | ⟨b, o, ha, hc⟩
  · exact .inl h
  · exact .inr ⟨b, o, ha, fun i c hx j u hu => hk _ _ (hc i c hx j u hu)⟩
theorem keep_below {w w' : World} (h : Below w.heap.size w w') : ∀ p v, w.cell? p = some v → w'.cell? p = some v :=
  fun _ _ hv => (h.cell (World.block_lt_of_cell? _ _ hv)).trans hv
theorem IntsAt.below {w w' : World} {a : Option Addr} {os : List Int} (h : IntsAt w a os) (hb : Below w.heap.size w w') : IntsAt w' a os := h.keep (keep_below hb)
theorem CallsAt.below {w w' : World} {a : Option Addr} {l : List C} (h : CallsAt w a l) (hb : Below w.heap.size w w') : CallsAt w' a l := h.keep (keep_below hb)
theorem IntsAt.at {w : World} {a : Option Addr} {os : List Int} (h : IntsAt w a os) {i : Nat} (hi : i < os.length) : ∃ b o, a = some ⟨b, o, none⟩ ∧ w.cell? ⟨b, o + i, none⟩ = some (.int .i64 os[i]) := by
  rcases h with h | ⟨b, o, ha, hc⟩
  · subst h; simp at hi
  · exact ⟨b, o, ha, hc i _ (List.getElem?_eq_getElem hi)⟩
theorem CallsAt.at {w : World} {a : Option Addr} {l : List C} (h : CallsAt w a l) {i : Nat} (hi : i < l.length) : ∃ b o, a = some ⟨b, o, none⟩ ∧ w.cell? ⟨b, o + i * 5, none⟩ = some (.int .i64 l[i].who) ∧ w.cell? ⟨b, o + i * 5 + 1, none⟩ = some (.int .i64 l[i].fr) ∧ w.cell? ⟨b, o + i * 5 + 2, none⟩ = some (.int .i64 l[i].to) ∧ w.cell? ⟨b, o + i * 5 + 3, none⟩ = some (.string l[i].ask) ∧ w.cell? ⟨b, o + i * 5 + 4, none⟩ = some (.string l[i].ans) := by
  rcases h with h | ⟨b, o, ha, hc⟩
  · subst h; simp at hi
  · have := hc i _ (List.getElem?_eq_getElem hi)
    exact ⟨b, o, ha, this 0 _ rfl, this 1 _ rfl, this 2 _ rfl, this 3 _ rfl, this 4 _ rfl⟩
theorem run_reslice {P : Program} {t e : TypeId} {sz : Nat} (ht : P.underlying t = some (.slice e)) (hs : ∀ W : World, (sizeOf e).run P W = .ok sz W) (a : Option Addr) (n c lo : Nat) (hlo : lo ≤ n) (w : World) :
    (Instr.slice t (.slice a n c) (some (.int .i64 lo)) none none).run P w = .ok (.slice (if c = lo then a else a.map (·.add (lo * sz))) (n - lo) (c - lo)) w := by
  have h1 : (0 : Int) ≤ lo ∧ (lo : Int) ≤ (n : Int) := ⟨by omega, by omega⟩
  simp [Instr.slice, run_underlying ht, Instr.sliceBounds, Instr.sliceBound, asIntOf, Result.andThen, hlo, hs]
theorem run_reslice_hi {P : Program} {t e : TypeId} {sz : Nat} (ht : P.underlying t = some (.slice e)) (hs : ∀ W : World, (sizeOf e).run P W = .ok sz W) (a : Option Addr) (n c hi : Nat) (hhi : hi ≤ c) (w : World) :
    (Instr.slice t (.slice a n c) none (some (.int .i64 hi)) none).run P w = .ok (.slice (if c = 0 then a else a.map (·.add (0 * sz))) (hi - 0) (c - 0)) w := by
  have h1 : (0 : Int) ≤ hi ∧ (hi : Int) ≤ (c : Int) := ⟨by omega, by omega⟩
  simp [Instr.slice, run_underlying ht, Instr.sliceBounds, Instr.sliceBound, asIntOf, Result.andThen, hhi, hs]
theorem Tryd.sizeInt (w : World) : (sizeOf 3).run Tryd.prog w = .ok 1 w := by kernel_rfl
/-- The rest of a slice of whole numbers. -/
theorem reslice_ints (a : Option Addr) (os : List Int) (c lo : Nat) (hlo : lo ≤ os.length) (hc : os.length ≤ c) (w : World) (h : IntsAt w a os) :
    ∃ A, (∀ W : World, (Instr.slice 23 (.slice a os.length c) (some (.int .i64 lo)) none none).run Tryd.prog W = .ok (.slice A (os.drop lo).length (c - lo)) W) ∧ IntsAt w A (os.drop lo) := by
  refine ⟨_, fun W => by rw [run_reslice Tryd.underlying23 Tryd.sizeInt a os.length c lo hlo W, List.length_drop], ?_⟩
  by_cases he : os.drop lo = []
  · exact .inl he
  · have hlt : lo < os.length := by
      rcases Nat.lt_or_ge lo os.length with h' | h'
      · exact h'
      · exact absurd (List.drop_eq_nil_of_le h') he
    rcases h with h | ⟨b, o, ha, hcell⟩
    · subst h; simp at hlt
    · refine .inr ⟨b, o + lo, ?_, fun i x hx => ?_⟩
      · rw [if_neg (by omega), ha]
        simp only [Option.map_some, Nat.mul_one, Addr.add]
        by_cases h0 : lo = 0
        · subst h0; rfl
        · rw [if_neg h0]
      · rw [List.getElem?_drop] at hx
        rw [Nat.add_assoc]
        exact hcell _ _ hx
set_option maxRecDepth 100000 in
set_option maxHeartbeats 400000 in
theorem in_any (a : Option Addr) (os : List Int) (c : Nat) (x : Int) (w : World) (ho : IntsAt w a os) (hn : os.length ≤ 1000) :
    Calls Tryd.prog 19 #[.slice a os.length c, .int .i64 x] w fun e w' => e = .returned (.bool (decide (x ∈ os))) ∧ w' = w := by
  have HO := Lib.hid ho
  clear ho
  obtain ⟨r, hr⟩ : ∃ r, r = decide (x ∈ os) := ⟨_, rfl⟩
  rw [← hr]
  have HR := Lib.hid hr
  clear hr
  go_enter Tryd.func19, Tryd.ntmps19
  go_wp2_with fail
  go_loop [9] (fun v => ∃ i : Nat, i ≤ os.length ∧ v = .int .i64 i ∧ Hid (∀ j : Nat, j < i → os[j]? ≠ some x)) (fun v => os.length - (intOf v).toNat)
  case atStart => exact ⟨0, by omega, rfl, fun j hj => by omega⟩
  case round =>
    obtain ⟨i, hi, rfl, HN⟩ := hrel
    by_cases hlt : i < os.length
    · obtain ⟨b, o, rfl, hc⟩ := HO.out.at hlt
      obtain ⟨y, hy⟩ : ∃ y, y = os[i] := ⟨_, rfl⟩
      rw [← hy] at hc
      have HY := Lib.hid hy
      clear hy
      by_cases he : y = x
      · have hb : (y == x) = true := by simpa using he
        have HE := Lib.hid he
        clear he
        have HF : Hid (true = r) := by
          show true = r
          rw [HR.out]
          symm
          rw [decide_eq_true_eq, ← HE.out, HY.out]
          exact List.getElem_mem hlt
        go_wp2
        go_ret
        exact ⟨congrArg (fun s => Ending.returned (Value.bool s)) HF.out, rfl⟩
      · have hb : (y == x) = false := by simpa using he
        have HE := Lib.hid he
        clear he
        go_wp2
        go_round
        case rel =>
          refine ⟨i + 1, by omega, by go_num, fun j hj => ?_⟩
          rcases Nat.lt_succ_iff_lt_or_eq.1 hj with h | rfl
          · exact HN.out j h
          · rw [List.getElem?_eq_getElem hlt, ← HY.out]; simpa using HE.out
        case measure => simp [intOf]; omega
    · obtain rfl : i = os.length := by omega
      have HF : Hid (false = r) := by
        show false = r
        rw [HR.out]
        symm
        rw [decide_eq_false_iff_not]
        intro hm
        obtain ⟨j, hj⟩ := List.mem_iff_getElem?.1 hm
        have hjl : j < os.length := by
          rcases Nat.lt_or_ge j os.length with h | h
          · exact h
          · simp [List.getElem?_eq_none h] at hj
        exact HN.out j hjl hj
      go_wp2
      go_ret
      exact ⟨congrArg (fun s => Ending.returned (Value.bool s)) HF.out, rfl⟩
end Go.Proofs.YtaecjabehbhpfaaDoor
