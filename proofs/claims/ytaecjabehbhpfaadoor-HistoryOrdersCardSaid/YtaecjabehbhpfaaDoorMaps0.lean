/-
  Maps as lists of pairs: laws for lookV-up, store, delete and len at a map whose keys are of one plain kind. No condition but that the block holds the map.
-/
import Derived.WalkKit
import Derived.MapKept
import Derived.Maps.OwnOps
import Derived.Maps.OwnSet
import Derived.Lib.Hide
namespace Go.Hd
open Go.RowKit

/-- Where a key stands first, and what stands there. -/
def ix {κ : Type} [DecidableEq κ] (x : κ) : List (κ × Value) → Nat → Option (Nat × Value)
  | [], _ => none
  | (k, v) :: r, i => if x = k then some (i, v) else ix x r (i + 1)

/-- A key's type: how its keys stand as values, and that a lookV goes by them. -/
structure KeyK (P : Program) (kt : TypeId) (κ : Type) [DecidableEq κ] where
  key : κ → Value
  check : ∀ (e : Bool) (x : κ) (w : World), (Instr.checkKey e 10000 kt (key x)).run P w = .ok () w
  find : ∀ (x : κ) (m : List (κ × Value)) (es : List MapEntry) (w : World), es.map (fun e => (e.key, e.val)) = m.map (fun p => (key p.1, p.2)) → (Instr.findKey kt (key x) es).run P w = .ok (ix x m 0) w
  stays : ∀ (x : κ) (w : World), (Instr.keyThatStays (key x) (key x)).run P w = .ok (key x) w

section
variable {κ : Type} [DecidableEq κ]
/-- A block holds a map: its pairs as they came in; the stamps are all below the clock, none twice. -/
def MapAt {P : Program} {kt : TypeId} (K : KeyK P kt κ) (w : World) (b : Nat) (m : List (κ × Value)) : Prop :=
  ∃ es clock, w.heap[b]? = some (.map es clock) ∧ es.toList.map (fun e => (e.key, e.val)) = m.map (fun p => (K.key p.1, p.2)) ∧ (es.toList.map (·.born)).Nodup ∧ (∀ e ∈ es.toList, e.born < clock) ∧ (m.map (·.1)).Nodup

theorem findNow_int (q : IntKind) (x : Int) : ∀ (m : List (Int × Value)) (es : List MapEntry) (i : Nat), es.map (fun e => (e.key, e.val)) = m.map (fun p => (Value.int q p.1, p.2)) → Instr.findNow (.int q) (.int q x) es i = some (ix x m i)
  | [], [], i, _ => rfl
  | [], _ :: _, i, h => by simp at h
  | _ :: _, [], i, h => by simp at h
  | (k, v) :: m, e :: es, i, h => by
    simp only [List.map_cons, List.cons.injEq, Prod.mk.injEq] at h
    obtain ⟨⟨h1, h2⟩, h3⟩ := h
    unfold Instr.findNow
    rw [h1]
    simp only [Instr.sameNow, if_true]
    by_cases hx : x = k
    · subst hx; simp [ix, h2]
    · have : (x == k) = false := by simpa using hx
      simp only [this, ix, if_neg hx]
      exact findNow_int q x m es (i + 1) h3
theorem bytes_beq_self (x : ByteArray) : (x == x) = true := by
  cases x with | mk d => show (d == d) = true; simp
theorem bytes_beq_ne {x k : ByteArray} (h : x ≠ k) : (x == k) = false := by
  cases x with | mk d => cases k with | mk e =>
    show (d == e) = false
    have : d ≠ e := fun he => h (by rw [he])
    simpa using this
theorem findNow_string (x : ByteArray) : ∀ (m : List (ByteArray × Value)) (es : List MapEntry) (i : Nat), es.map (fun e => (e.key, e.val)) = m.map (fun p => (Value.string p.1, p.2)) → Instr.findNow .string (.string x) es i = some (ix x m i)
  | [], [], i, _ => rfl
  | [], _ :: _, i, h => by simp at h
  | _ :: _, [], i, h => by simp at h
  | (k, v) :: m, e :: es, i, h => by
    simp only [List.map_cons, List.cons.injEq, Prod.mk.injEq] at h
    obtain ⟨⟨h1, h2⟩, h3⟩ := h
    unfold Instr.findNow
    rw [h1]
    simp only [Instr.sameNow]
    by_cases hx : x = k
    · subst hx; simp [ix, h2, bytes_beq_self]
    · have : (x == k) = false := bytes_beq_ne hx
      simp only [this, ix, if_neg hx]
      exact findNow_string x m es (i + 1) h3

def intK {P : Program} {kt : TypeId} {q : IntKind} (h : P.underlying kt = some (.int q)) : KeyK P kt Int where
  key x := .int q x
  check e x w := MapKept.run_checkKey h (by simp [MapKept.IsKey]) e 9999
  find x m es w hm := MapKept.run_findKey h (findNow_int q x m es 0 hm)
  stays x w := by simp [Instr.keyThatStays, Instr.sameBits]
def strK {P : Program} {kt : TypeId} (h : P.underlying kt = some .string) : KeyK P kt ByteArray where
  key x := .string x
  check e x w := MapKept.run_checkKey h (by simp [MapKept.IsKey]) e 9999
  find x m es w hm := MapKept.run_findKey h (findNow_string x m es 0 hm)
  stays x w := by simp [Instr.keyThatStays, Instr.sameBits, bytes_beq_self]

variable {P : Program} {kt : TypeId} {K : KeyK P kt κ} {w : World} {b : Nat} {m : List (κ × Value)}
theorem MapAt.lt (h : MapAt K w b m) : b < w.heap.size := by
  obtain ⟨es, clock, hb, _⟩ := h
  rcases Nat.lt_or_ge b w.heap.size with h' | h'
  · exact h'
  · simp [Array.getElem?_eq_none h'] at hb
theorem MapAt.kept {w' : World} (h : MapAt K w b m) (hk : w'.heap[b]? = w.heap[b]?) : MapAt K w' b m := by
  obtain ⟨es, clock, hb, hr⟩ := h
  exact ⟨es, clock, hk.trans hb, hr⟩
theorem MapAt.new (w : World) : MapAt K (w.alloc (.map #[] 0)) w.heap.size [] :=
  ⟨#[], 0, by show (w.heap.push _)[w.heap.size]? = _; simp, rfl, by simp, by simp, by simp⟩

theorem ix_none {x : κ} : ∀ {m : List (κ × Value)} {i : Nat}, ix x m i = none ↔ x ∉ m.map (·.1)
  | [], _ => by simp [ix]
  | (k, v) :: r, i => by
    by_cases h : x = k
    · simp [ix, h]
    · simp [ix, h, ix_none]
theorem ix_some {x : κ} : ∀ {m : List (κ × Value)} {i j : Nat} {v : Value}, ix x m i = some (j, v) → i ≤ j ∧ m[j - i]? = some (x, v)
  | [], _, _, _, h => by simp [ix] at h
  | (k, u) :: r, i, j, v, h => by
    by_cases hk : x = k
    · simp [ix, hk] at h
      obtain ⟨rfl, rfl⟩ := h
      simp [hk]
    · simp [ix, hk] at h
      obtain ⟨h1, h2⟩ := ix_some h
      refine ⟨by omega, ?_⟩
      obtain ⟨d, hd⟩ : ∃ d, j - i = d + 1 := ⟨j - i - 1, by omega⟩
      rw [hd, List.getElem?_cons_succ]
      have : j - (i + 1) = d := by omega
      rw [← this]; exact h2
/-- What a lookV-up answers: the value at the key. -/
def lookV (x : κ) (m : List (κ × Value)) : Option Value := (ix x m 0).map (·.2)

theorem run_lookup (h : MapAt K w b m) {t e : TypeId} (ht : P.underlying t = some (.map kt e)) {z : Value} (hz : (zeroValue e).run P w = .ok z w) (x : κ) (ok : Bool) :
    (Instr.lookup t (.map (some b)) (K.key x) ok).run P w = .ok (if ok then .tuple #[(lookV x m).getD z, .bool (lookV x m).isSome] else (lookV x m).getD z) w := by
  obtain ⟨es, clock, hb, hm, _⟩ := h
  have hf := K.find x m es.toList w hm
  unfold Instr.lookup
  simp only [Sem.run_bind, run_underlying ht, Result.andThen]
  have hg : (getObj b).run P w = .ok (.map es clock) w := by simp [getObj, Sem.run, hb]
  simp only [hg, Sem.run_bind, Result.andThen, Sem.run_pure, K.check, hf]
  cases hx : ix x m 0 with
  | none => simp [lookV, hx, hz]
  | some p => simp [lookV, hx]
/-- The list behind a store. -/
def putV (x : κ) (v : Value) (m : List (κ × Value)) : List (κ × Value) :=
  match ix x m 0 with
  | some (j, _) => m.modify j (fun p => (p.1, v))
  | none => m ++ [(x, v)]
theorem run_update (h : MapAt K w b m) {t e : TypeId} (ht : P.underlying t = some (.map kt e)) (x : κ) (v : Value) :
    ∃ w', (Instr.mapUpdate t (.map (some b)) (K.key x) v).run P w = .ok () w' ∧ MapAt K w' b (putV x v m) ∧ w.grownBy w' (some b) := by
  obtain ⟨es, clock, hb, hm, hn, hc, hk⟩ := h
  have hlt : b < w.heap.size := by
    rcases Nat.lt_or_ge b w.heap.size with h' | h'
    · exact h'
    · simp [Array.getElem?_eq_none h'] at hb
  have hf := K.find x m es.toList w hm
  have hg : (getObj b).run P w = .ok (.map es clock) w := by simp [getObj, Sem.run, hb]
  have hso : ∀ (W : World) (o o' : Obj), W.heap[b]? = some o → (∀ c t f, o ≠ .cells c t f) → (setObj b o').run P W = .ok () { W with heap := W.heap.setIfInBounds b o' } := fun W o o' hW ho => by
    unfold setObj
    simp only [Sem.run, hW]
    all_goals (cases o <;> first | rfl | exact absurd rfl (ho _ _ _))
  have hgrow : ∀ o', w.grownBy { w with heap := w.heap.setIfInBounds b o' } (some b) := fun o' => ⟨rfl, rfl, rfl, by simp, fun k _ hk2 => by
    show (w.heap.setIfInBounds b o')[k]? = _
    rw [Array.getElem?_setIfInBounds, if_neg (fun e => hk2 (by rw [e]))]⟩
  have hat : ∀ o' : Obj, (w.heap.setIfInBounds b o')[b]? = some o' := fun o' => by rw [Array.getElem?_setIfInBounds, if_pos rfl, if_pos hlt]
  unfold Instr.mapUpdate
  simp only [Sem.run_bind, run_underlying ht, Result.andThen, hg, K.check, hf]
  have hsz : es.size = m.length := by have := congrArg List.length hm; simpa using this
  cases hx : ix x m 0 with
  | none =>
    have hx' := ix_none.1 hx
    refine ⟨_, by simpa using hso w _ _ hb (by intro _ _ _ h; cases h), ⟨es.push { key := K.key x, val := v, born := clock }, clock + 1, hat _, ?_, ?_, ?_, ?_⟩, hgrow _⟩
    · simp [putV, hx, hm]
    · simp only [Array.toList_push, List.map_append, List.map_cons, List.map_nil]
      rw [List.nodup_append]
      refine ⟨hn, by simp, ?_⟩
      intro a ha b' hb' hab
      simp at hb'
      subst hb'
      obtain ⟨e', he', rfl⟩ := List.mem_map.1 ha
      have := hc e' he'
      omega
    · intro e he
      simp at he
      rcases he with he | rfl
      · have := hc e (by simpa using he); omega
      · simp
    · simp only [putV, hx, List.map_append, List.map_cons, List.map_nil]
      rw [List.nodup_append]
      refine ⟨hk, by simp, ?_⟩
      intro a ha b' hb' hab
      simp at hb'
      subst hb'; subst hab
      exact hx' ha
  | some p =>
    obtain ⟨j, u⟩ := p
    obtain ⟨_, hj⟩ := ix_some hx
    simp only [Nat.sub_zero] at hj
    have hjm : j < m.length := by
      rcases Nat.lt_or_ge j m.length with h' | h'
      · exact h'
      · simp [List.getElem?_eq_none h'] at hj
    have hj' : j < es.size := by omega
    have hek : es[j].key = K.key x := by
      have h1 : (es.toList.map (fun e => (e.key, e.val)))[j]? = some (K.key x, u) := by rw [hm, List.getElem?_map, hj]; rfl
      rw [List.getElem?_map, Array.getElem?_toList, Array.getElem?_eq_getElem hj'] at h1
      simp at h1
      exact h1.1
    have hst : ∀ W : World, (Instr.keyThatStays ((Option.map (fun x => x.key) es[j]?).getD (K.key x)) (K.key x)).run P W = .ok (K.key x) W := fun W => by
      rw [Array.getElem?_eq_getElem hj']
      simp only [Option.map_some, Option.getD_some, hek]
      exact K.stays x W
    have hrun := hso w _ (.map (es.modify j fun e => { e with key := K.key x, val := v }) clock) hb (by intro _ _ _ h; cases h)
    refine ⟨_, by simp only [hst, Sem.run_bind, Result.andThen]; exact hrun, ⟨es.modify j fun e => { e with key := K.key x, val := v }, clock, hat _, ?_, ?_, ?_, ?_⟩, hgrow _⟩
    · rw [Array.toList_modify]
      apply List.ext_getElem?
      intro i
      have hi : (es.toList.map (fun e => (e.key, e.val)))[i]? = (m.map (fun p => (K.key p.1, p.2)))[i]? := by rw [hm]
      simp only [List.getElem?_map, putV, hx, List.getElem?_modify] at hi ⊢
      by_cases hij : j = i
      · subst hij
        simp only [if_true] at hi ⊢
        rw [hj]
        have hes : es.toList[j]? = some es[j] := by rw [Array.getElem?_toList, Array.getElem?_eq_getElem hj']
        rw [hes]
        rfl
      · simp only [if_neg hij] at hi ⊢
        simpa using hi
    · have : (es.modify j fun e => { e with key := K.key x, val := v }).toList.map (·.born) = es.toList.map (·.born) := by
        rw [Array.toList_modify]
        apply List.ext_getElem?
        intro i
        simp only [List.getElem?_map, List.getElem?_modify]
        cases es.toList[i]? <;> by_cases hij : j = i <;> simp [hij]
      rw [this]; exact hn
    · intro e he
      rw [Array.toList_modify] at he
      obtain ⟨i, hi⟩ := List.mem_iff_getElem?.1 he
      rw [List.getElem?_modify] at hi
      cases he' : es.toList[i]? with
      | none => rw [he'] at hi; simp at hi
      | some e0 =>
        rw [he'] at hi
        have := hc e0 (List.mem_iff_getElem?.2 ⟨i, he'⟩)
        by_cases hij : j = i
        · simp [hij] at hi; subst hi; exact this
        · simp [hij] at hi; subst hi; exact this
    · have : (putV x v m).map (·.1) = m.map (·.1) := by
        simp only [putV, hx]
        apply List.ext_getElem?
        intro i
        simp only [List.getElem?_map, List.getElem?_modify]
        cases m[i]? <;> by_cases hij : j = i <;> simp [hij]
      rw [this]; exact hk
theorem wpList_lookup {P : Program} {kt : TypeId} {κ : Type} [DecidableEq κ] (w : World) {ops : Array Oper} {rest : List Oper} {o : Oper} {a : Act} {Q : Exit → Act → World → Prop}
    (hg : o.guard = none) (mo xo : Operand) (t : TypeId) (ok : Bool) (hop : o.op = Op.lookup t mo xo ok) (K : KeyK P kt κ) (e : TypeId) (ht : P.underlying t = some (.map kt e)) (z : Value) (hz : (zeroValue e).run P w = .ok z w)
    (b : Nat) (m : List (κ × Value)) (hm : a.eval mo = .map (some b)) (h : MapAt K w b m) (x : κ) (hx : a.eval xo = K.key x)
    (hK : wpList P ops Q rest (a.put o.dst (if ok then .tuple #[(lookV x m).getD z, .bool (lookV x m).isSome] else (lookV x m).getD z)) w) :
    wpList P ops Q (o :: rest) a w := by
  refine wpList_plain hg fun K' hK' => ?_
  unfold Oper.wp
  simp [execOp, hop, hm, hx, run_lookup h ht hz, Result.andThen]
  exact hK' _ _ hK
theorem wpList_update {P : Program} {kt : TypeId} {κ : Type} [DecidableEq κ] (w : World) {ops : Array Oper} {rest : List Oper} {o : Oper} {a : Act} {Q : Exit → Act → World → Prop}
    (hg : o.guard = none) (mo xo vo : Operand) (t : TypeId) (hop : o.op = Op.mapUpdate t mo xo vo) (K : KeyK P kt κ) (e : TypeId) (ht : P.underlying t = some (.map kt e))
    (b : Nat) (m : List (κ × Value)) (hm : a.eval mo = .map (some b)) (h : MapAt K w b m) (x : κ) (hx : a.eval xo = K.key x) (v : Value) (hv : a.eval vo = v)
    (hK : ∀ w', MapAt K w' b (putV x v m) → w.grownBy w' (some b) → wpList P ops Q rest (a.put o.dst undef) w') :
    wpList P ops Q (o :: rest) a w := by
  refine wpList_plain hg fun K' hK' => ?_
  obtain ⟨w', hrun, r1, r2⟩ := run_update h ht x v
  unfold Oper.wp
  simp [execOp, hop, hm, hx, hv, hrun, Result.andThen]
  exact hK' _ _ (hK w' r1 r2)
end
end Go.Hd
