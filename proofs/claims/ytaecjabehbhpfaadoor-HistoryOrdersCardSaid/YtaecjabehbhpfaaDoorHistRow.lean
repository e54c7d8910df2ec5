/-
  The row: the arguments opened, the law's contract, the arguments shut; a world that meets the condition.
-/
import Derived.Test.YtaecjabehbhpfaaDoorRows
import Derived.Test.YtaecjabehbhpfaaDoorHist13
import Derived.WalkKit
import Derived.ProofKit
import Derived.OpenShut
import Derived.ShutString
import Derived.ChangeOld
import Derived.Below
import Derived.Carry
import Derived.SizedLaws
import Derived.ChangeSame
import Derived.ChangeVars
import Derived.JoinedOf
import Derived.RowKit
import Derived.RowKitTokens
import Derived.LaidLaws
import Derived.LaidHandle
import Derived.Stop.Joined
import Derived.Deep.Slices
namespace Go.Proofs.YtaecjabehbhpfaaDoor
open Go.ChangeShapes Go.WideShapes Go.ChangeAt Go.RowKit Go.Hd Go.Deep
theorem Tryd.own : ownKnob Tryd.prog.godebug = none := by kernel_rfl
theorem Tryd.et : Tryd.prog.globalNamed "errors.errorType" = some 0 := by kernel_rfl
theorem Tryd.rt : (Tryd.prog.cutTypes.find? (·.1 == "internal/reflectlite.rtype")).map (·.2) = some 104 := by kernel_rfl
theorem Tryd.tsize : Tryd.prog.types.size = 169 := by kernel_rfl
theorem Tryd.oneRow : ((List.range 169).filter fun t => Tryd.prog.rowNamed t [101, 114, 114, 111, 114]) = [29] := by kernel_rfl
theorem Tryd.cellsCall : Tryd.prog.cellsOf 46 = 5 := by kernel_rfl
theorem Tryd.cellsInt : Tryd.prog.cellsOf 3 = 1 := by kernel_rfl
theorem Tryd.cellsStr : Tryd.prog.cellsOf 9 = 1 := by kernel_rfl
theorem laidOut : laidOutB Tryd.prog = true := by kernel_rfl
/-- What the condition gives a walk: the errors package's cell. -/
theorem glob_of_laid {W : World} (h : laidMetH Tryd.prog Rows.historyOrdersRow.laid W) : Glob W := by
  have h' : laidMet Tryd.prog [("math/bits.deBruijn32tab", Rows.laid_math_bits_deBruijn32tab), ("math/bits.deBruijn64tab", Rows.laid_math_bits_deBruijn64tab), ("internal/strconv.uint64pow10", Rows.laid_internal_strconv_uint64pow10)] W ∧ handlesMet Tryd.prog [("errors.errorType", Rows.laid_errors_errorType)] W := h
  obtain ⟨name, u, ty, e1, e2, e3, e4, e5⟩ := h'.2 _ (List.mem_singleton.2 rfl)
  have en : name = [101, 114, 114, 111, 114] := (Option.some.inj e1).symm
  subst en
  obtain rfl := Option.some.inj (Tryd.rt.symm.trans e2)
  have hm : ty ∈ (List.range 169).filter fun t => Tryd.prog.rowNamed t [101, 114, 114, 111, 114] := List.mem_filter.2 ⟨List.mem_range.2 (by rw [← Tryd.tsize]; exact e3), e4⟩
  rw [Tryd.oneRow] at hm
  obtain rfl := List.mem_singleton.1 hm
  have hh : typeHandle Tryd.prog 29 = .pointer (some ⟨5, 29, none⟩) := by kernel_rfl
  rw [hh] at e5
  unfold Glob
  simpa using World.var?_cell Tryd.et e5 0
def pow10 : Array Value := #[.int .u64 1, .int .u64 10, .int .u64 100, .int .u64 1000, .int .u64 10000, .int .u64 100000, .int .u64 1000000, .int .u64 10000000, .int .u64 100000000, .int .u64 1000000000, .int .u64 10000000000, .int .u64 100000000000, .int .u64 1000000000000, .int .u64 10000000000000, .int .u64 100000000000000, .int .u64 1000000000000000, .int .u64 10000000000000000, .int .u64 100000000000000000, .int .u64 1000000000000000000, .int .u64 10000000000000000000]
def de32 : Array Value := #[0, 1, 28, 2, 29, 14, 24, 3, 30, 22, 20, 15, 25, 17, 4, 8, 31, 27, 13, 23, 21, 19, 16, 7, 26, 12, 18, 6, 11, 5, 10, 9].map (Value.int .u8)
def de64 : Array Value := #[0, 1, 56, 2, 57, 49, 28, 3, 61, 58, 42, 50, 38, 29, 17, 4, 62, 47, 59, 36, 45, 43, 51, 22, 53, 39, 33, 30, 24, 18, 12, 5, 63, 55, 48, 27, 60, 41, 37, 16, 46, 35, 44, 21, 52, 32, 23, 11, 54, 26, 40, 15, 34, 20, 31, 10, 25, 14, 19, 9, 13, 8, 7, 6].map (Value.int .u8)
/-- A world that meets the condition. -/
noncomputable def laidWorld (os : Os) : World :=
  let w0 := World.holding Tryd.prog os ⟨#[], #[], []⟩
  let lay (cs : Array Value) : Obj → Obj := fun | .cells _ t frozen => .cells cs t frozen | o => o
  { w0 with heap := (((w0.heap.modify 0 (lay #[.iface 104 (.agg #[.pointer (some ⟨5, 29, none⟩)])])).modify 2 (lay pow10)).modify 3 (lay de32)).modify 4 (lay de64) }
theorem laidWorld_met (os : Os) (args : Array Value) : laidMetH Tryd.prog Rows.historyOrdersRow.laid ((laidWorld os).forCall (fun _ _ => 0) ⟨#[], args, []⟩).memory :=
  laidMetH_of_parts (laidMet_of_run' 8 (by kernel_rfl) (by kernel_rfl)) (by kernel_rfl)
section
variable {H : Type} {enc : TypeId × Value → H}
theorem add_none (b o j : Nat) : (⟨b, o, none⟩ : Addr).add j = ⟨b, o + j, none⟩ := by
  unfold Addr.add; split <;> simp_all
theorem spot_none {W : World} {a : Addr} {v : Value} (h : W.cell? (a.add 0) = some v) : a = ⟨a.block, a.off, none⟩ := by
  obtain ⟨b, o, s⟩ := a
  cases s with
  | none => rfl
  | some s => simp [World.cell?, Addr.add] at h; split at h <;> simp_all
theorem open_ints' {W : World} {sp : Nat → Bool} {fuel : Nat} {cs : List Value} {x : DataW H × List MemPlace} (h : DataW.trod enc Tryd.prog W 0 sp true fuel 23 cs = some x) :
    ∃ (a : Option Addr) (os : List Int) (c : Nat), cs = [.slice a os.length c] ∧ IntsAt W a os ∧ os.length ≤ c ∧ os.length ≤ maxLen := by
  rcases open_slice1 Tryd.underlying23 Tryd.cellsInt h with ⟨rfl, _⟩ | ⟨a, len, cap, m, n, V, D, Pl, rfl, _, hl, hm, hmm, _, hx⟩
  · exact ⟨none, [], 0, rfl, .inl rfl, Nat.le_refl _, Nat.zero_le _⟩
  · have hlm : len ≤ m := by rw [hmm]; split <;> omega
    have each : ∀ i, i < len → ∃ q : Int, W.cell? (a.add i) = some (.int .i64 q) := fun i hi => by
      obtain ⟨h1, h2⟩ := hx i (by omega)
      obtain ⟨q, e0, _, _⟩ := DataW.trod_int Tryd.underlying3 h2
      simp only [List.cons.injEq, and_true] at e0
      exact ⟨q, e0 ▸ h1⟩
    obtain ⟨f, hf⟩ := choose_lt each
    refine ⟨some a, (List.range len).map f, cap, by simp, ?_, by simpa using hl, by simp; omega⟩
    rcases Nat.eq_zero_or_pos len with h0 | h0
    · subst h0; exact .inl rfl
    · have ha := spot_none (hf 0 h0)
      refine .inr ⟨a.block, a.off, by rw [← ha], fun i x hx' => ?_⟩
      rw [List.getElem?_map] at hx'
      obtain ⟨j, hj, rfl⟩ := Option.map_eq_some_iff.1 hx'
      have hj' := List.getElem?_eq_some_iff.1 hj
      obtain ⟨hlt, he⟩ := hj'
      simp at hlt he
      subst he
      have := hf _ hlt
      rw [ha, add_none] at this
      exact this
set_option maxRecDepth 100000 in
theorem open_calls' {W : World} {sp : Nat → Bool} {fuel : Nat} {cs : List Value} {x : DataW H × List MemPlace} (h : DataW.trod enc Tryd.prog W 0 sp true fuel 22 cs = some x) :
    ∃ (a : Option Addr) (l : List C) (c : Nat), cs = [.slice a l.length c] ∧ CallsAt W a l ∧ (∀ x ∈ l, x.ask.size ≤ maxLen ∧ x.ans.size ≤ maxLen) ∧ l.length ≤ maxLen := by
  rcases open_slice Tryd.underlying22 h with ⟨rfl, _⟩ | ⟨a, len, cap, m, n, D, Pl, rfl, _, hl, hm, hmm, _, hx⟩
  · exact ⟨none, [], 0, rfl, .inl rfl, by simp, Nat.zero_le _⟩
  · have hlm : len ≤ m := by rw [hmm]; split <;> omega
    have each : ∀ i, i < len → ∃ q : C, (∀ (j : Nat) u, (cellsC q)[j]? = some u → W.cell? (a.add (i * 5 + j)) = some u) ∧ q.ask.size ≤ maxLen ∧ q.ans.size ≤ maxLen := fun i hi => by
      obtain ⟨cs', h1, h2⟩ := hx i (by omega)
      rw [Tryd.cellsCall] at h1
      obtain ⟨_, hlen, hcell⟩ := World.cells?_some h1
      obtain ⟨xs, k, _, _, _, hxl, hf⟩ := DataW.trod_struct Tryd.underlying46 h2
      match xs, hxl, cs', hlen with
      | [y0, y1, y2, y3, y4], _, [v0, v1, v2, v3, v4], _ =>
        have g0 : DataW.trod enc Tryd.prog W 0 sp true k 3 (([v0, v1, v2, v3, v4].drop 0).take (Tryd.prog.cellsOf 3)) = some y0 := hf 0 _ rfl
        have g1 : DataW.trod enc Tryd.prog W 0 sp true k 3 (([v0, v1, v2, v3, v4].drop 1).take (Tryd.prog.cellsOf 3)) = some y1 := hf 1 _ rfl
        have g2 : DataW.trod enc Tryd.prog W 0 sp true k 3 (([v0, v1, v2, v3, v4].drop 2).take (Tryd.prog.cellsOf 3)) = some y2 := hf 2 _ rfl
        have g3 : DataW.trod enc Tryd.prog W 0 sp true k 9 (([v0, v1, v2, v3, v4].drop 3).take (Tryd.prog.cellsOf 9)) = some y3 := hf 3 _ rfl
        have g4 : DataW.trod enc Tryd.prog W 0 sp true k 9 (([v0, v1, v2, v3, v4].drop 4).take (Tryd.prog.cellsOf 9)) = some y4 := hf 4 _ rfl
        rw [Tryd.cellsInt] at g0 g1 g2
        rw [Tryd.cellsStr] at g3 g4
        simp only [List.drop, List.take] at g0 g1 g2 g3 g4
        obtain ⟨q0, e0, _, _⟩ := DataW.trod_int Tryd.underlying3 g0
        obtain ⟨q1, e1, _, _⟩ := DataW.trod_int Tryd.underlying3 g1
        obtain ⟨q2, e2, _, _⟩ := DataW.trod_int Tryd.underlying3 g2
        obtain ⟨q3, e3, _, z3⟩ := DataW.trod_string Tryd.underlying9 g3
        obtain ⟨q4, e4, _, z4⟩ := DataW.trod_string Tryd.underlying9 g4
        simp only [List.cons.injEq, and_true] at e0 e1 e2 e3 e4
        subst e0; subst e1; subst e2; subst e3; subst e4
        refine ⟨⟨q0, q1, q2, q3, q4⟩, fun j u hj => ?_, z3, z4⟩
        have hj5 : j < 5 := by
          rcases Nat.lt_or_ge j 5 with h | h
          · exact h
          · rw [Array.getElem?_eq_none (by simpa [cellsC] using h)] at hj; cases hj
        have hc := hcell j hj5
        rw [add_add] at hc
        rw [hc]
        simpa [cellsC] using hj
    haveI : Inhabited C := ⟨c0⟩
    obtain ⟨f, hf⟩ := choose_lt each
    refine ⟨some a, (List.range len).map f, cap, by simp, ?_, fun x hx' => ?_, by simp; omega⟩
    · rcases Nat.eq_zero_or_pos len with h0 | h0
      · subst h0; exact .inl rfl
      · have ha := spot_none ((hf 0 h0).1 0 _ rfl)
        refine .inr ⟨a.block, a.off, by rw [← ha], fun i x hx' j u hj => ?_⟩
        rw [List.getElem?_map] at hx'
        obtain ⟨i', hi', rfl⟩ := Option.map_eq_some_iff.1 hx'
        obtain ⟨hlt, he⟩ := List.getElem?_eq_some_iff.1 hi'
        simp at hlt he
        subst he
        have := (hf _ hlt).1 j u hj
        rw [ha, add_none, ← Nat.add_assoc] at this
        exact this
    · obtain ⟨i, hi, rfl⟩ := List.mem_map.1 hx'
      exact (hf i (List.mem_range.1 hi)).2
end
set_option maxRecDepth 100000 in
theorem law_lifted (os : Os) (started : os.Started) (H : Type) (enc : TypeId × Value → H) :
    ReturnsInHanded {} Tryd.checked os 3 .any (fun w args => (Rows.historyOrdersSpec.pre enc Tryd.prog Tryd.f3 [] false w args ∧ laidMetH Tryd.prog Rows.historyOrdersRow.laid w) ∧ sizedMet enc Tryd.prog Tryd.f3 (OpenSpec.ofChange Rows.historyOrdersSpec) false w args)
      (Rows.historyOrdersSpec.post enc Tryd.prog Tryd.f3 false true false false) := by
  refine returnsInHanded_of_change_and (C := Tryd.checked) (X := fun w _ => laidMetH Tryd.prog Rows.historyOrdersRow.laid w) (fun _ _ _ hh h => h.of_heap hh) Tryd.own started (by kernel_rfl) Tryd.func3
    (ChangeSpec.witness_at (enc := enc) (C := Tryd.checked) (os := os) (X := fun w _ => laidMetH Tryd.prog Rows.historyOrdersRow.laid w) false (laidWorld os) #[.slice none 0 0, .slice none 0 0] 8 rfl (by kernel_rfl) (by kernel_rfl) (by kernel_rfl) (by kernel_rfl) (by kernel_rfl) (laidWorld_met os _)) ?_
  intro W base args ds gs before hval0 hW _ _ hL _
  have hval : ∀ (j : Nat) t v, Tryd.f3.params[j]? = some t → args[j]? = some v → Value.okWide Tryd.prog W .any base t v := hval0
  have hW' := hW
  obtain ⟨p, q, hA0, hV0, rfl, hfz, hnd⟩ := hW
  have hA : DataW.TrodAll enc Tryd.prog W 0 (fun _ => true) true Tryd.f3.params.toList args.toList ds p := hA0
  have hV : DataW.TrodVars enc Tryd.prog W (fun _ => true) [] gs q := hV0
  rw [Tryd.params3] at hA hval
  obtain ⟨v0, vs0, d0, ds0, p0, q0, hargs, rfl, rfl, h0, r0⟩ := trodAll_cons hA
  obtain ⟨v1, vs1, d1, ds1, p1, q1, rfl, rfl, rfl, h1, r1⟩ := trodAll_cons r0
  obtain ⟨rfl, rfl, rfl⟩ := trodAll_nil r1
  obtain rfl : args = #[v0, v1] := by cases args; simp_all
  obtain ⟨rfl, rfl⟩ := trodVars_none hV
  obtain ⟨a0, len0, cap0, rfl⟩ := okWide_slice Tryd.underlying22 (hval 0 22 v0 rfl rfl)
  obtain ⟨a1, len1, cap1, rfl⟩ := okWide_slice Tryd.underlying23 (hval 1 23 v1 rfl rfl)
  have k0 := h0
  have k1 := h1
  have lt0 : ∀ x ∈ p0, x.block < W.heap.size := by obtain ⟨m, hm⟩ := k0; exact DataW.trod_lt m _ _ _ hm
  have lt1 : ∀ x ∈ p1, x.block < W.heap.size := by obtain ⟨m, hm⟩ := k1; exact DataW.trod_lt m _ _ _ hm
  obtain ⟨fuel0, hf0⟩ := h0
  obtain ⟨fuel1, hf1⟩ := h1
  obtain ⟨b0, l, c0', hc0, hl, hsz, hln⟩ := open_calls' hf0
  obtain ⟨b1, oss, c1', hc1, ho, hc2, hon⟩ := open_ints' hf1
  simp [Value.cells] at hc0 hc1
  obtain ⟨rfl, rfl, rfl⟩ := hc0
  obtain ⟨rfl, rfl, rfl⟩ := hc1
  have hg := glob_of_laid hL
  refine (law_any a0 a1 l oss cap0 cap1 W hl ho hg hsz hln hon hc2).mono fun e W' ⟨he, bel⟩ => ?_
  subst he
  exact ⟨_, rfl, _, _, _, [], _, [], hW', trodAll_mk1 (shut_bool Tryd.underlying4 _), (trodAll_cons_mk (Below.trod laidOut (by kernel_rfl) (of_decide_eq_true (by kernel_rfl)) k0 bel lt0) (trodAll_cons_mk (Below.trod laidOut (by kernel_rfl) (of_decide_eq_true (by kernel_rfl)) k1 bel lt1) trodAll_mk0)), rfl, bel.frame _, fun h => by cases h⟩
theorem said : Rows.HistoryOrdersSaid :=
  OpenClaim.holds_of_wide 3 Tryd.f3 rfl rfl rfl rfl rfl rfl rfl ⟨rfl, rfl, rfl, rfl, rfl⟩ rfl rfl rfl rfl rfl (by kernel_rfl) Tryd.func3 (by kernel_rfl)
    (of_decide_eq_true (by kernel_rfl)) (by unfold Func.isWrapper; rw [if_neg (of_decide_eq_false (by kernel_rfl))]; exact ⟨rfl, rfl⟩)
    (fun os started H enc _ => law_lifted os started H enc)
#print axioms said
end Go.Proofs.YtaecjabehbhpfaaDoor
