/-
  The errors of package fault as a plain inductive type; errors.As, errors.Is and the functions of package fault by contracts over whatever chain of faults. Conditions: the variable errors.errorType reads as it is laid.
-/
import Derived.Test.YtaecjabehbhpfaaDoorProg
import Derived.WalkKit
import Derived.WalkSpells
import Derived.WalkLawsBesides
import Derived.LaidEql
import Derived.Stop.Asserts
import Derived.RowKitTokens
import Derived.Deep.LoopGhost
import Derived.Lib.Hide
namespace Go
section
variable {P : Program} (w : World)
theorem run_equalIn_iface_int (d : Nat) {ti tn : TypeId} {ms : Array (String × TypeId)} {i : TypeInfo} {k : IntKind} (a b : Int)
    (hi : P.underlying ti = some (.interface ms)) (hn : P.underlying tn = some (.int k)) (hinfo : P.info? tn = some i) (hcomp : i.comparable = true) :
    (Op.equalIn (d + 2) ti (.iface tn (.int k a)) (.iface tn (.int k b))).run P w = .ok (a == b) w := by
  simp [Op.equalIn, run_underlying hi, run_underlying hn, typeInfo, hinfo, hcomp]
/-- 'x == y', both interface values of ONE integer type: as the numbers are. -/
theorem run_eql_iface_int {ti tn : TypeId} {ms : Array (String × TypeId)} {i : TypeInfo} {k : IntKind} (a b : Int)
    (hi : P.underlying ti = some (.interface ms)) (hn : P.underlying tn = some (.int k)) (hinfo : P.info? tn = some i) (hcomp : i.comparable = true) :
    (binOp .eql ti (.iface tn (.int k a)) (.iface tn (.int k b))).run P w = .ok (.bool (a == b)) w := by
  simp only [binOp]
  simp [Op.equal, Op.maxDepth, run_equalIn_iface_int w 9998 a b hi hn hinfo hcomp]
end
end Go
namespace Go.Proofs.YtaecjabehbhpfaaDoor
open Go.RowKit Go.Extern.Stop Go.Stop Go.Extern

/-- A plain error: a number, or a fault in a step, at a place, with another one behind it. -/
inductive Err where
  | num (n : Int)
  | flt (s : ByteArray) (p : Int) (e : Err)
namespace Err
def no : Err → Int | num n => n | .flt _ _ e => e.no
def depth : Err → Nat | num _ => 0 | .flt _ _ e => e.depth + 1
def steps : Err → List ByteArray | num _ => [] | .flt s _ e => s :: e.steps
def pos (d : Int) : Err → Int | num _ => d | .flt _ p e => e.pos p
end Err
/-- An interface value that holds an error, in a world. -/
def ErrV (w : World) : Value → Err → Prop
  | v, .num n => v = .iface 33 (.int .i64 n)
  | v, .flt s p e => ∃ b ve, v = .iface 63 (.pointer (some ⟨b, 0, none⟩)) ∧ w.heap[b]? = some (.cells #[.string s, .int .i64 p, ve] 66 (0, 0)) ∧ ErrV w ve e
theorem ErrV.keep {w w' : World} (h : ∀ b, b < w.heap.size → w'.heap[b]? = w.heap[b]?) : ∀ {e : Err} {v : Value}, ErrV w v e → ErrV w' v e
  | .num _, _, hv => hv
  | .flt _ _ _, _, ⟨b, ve, hv, hb, he⟩ => ⟨b, ve, hv, (h b (by rcases Nat.lt_or_ge b w.heap.size with h | h; exact h; simp [Array.getElem?_eq_none h] at hb)).trans hb, ErrV.keep h he⟩
theorem ErrV.below {w w' : World} {e : Err} {v : Value} (h : ErrV w v e) (hb : Below w.heap.size w w') : ErrV w' v e := h.keep hb.block

theorem cell_of_heap {w : World} {b : Nat} {cs : Array Value} {t : TypeId} {fz : Nat × Nat} (h : w.heap[b]? = some (.cells cs t fz)) (o : Nat) : w.cell? ⟨b, o, none⟩ = cs[o]? := by
  simp [World.cell?, h]
theorem free_of_heap {w : World} {b : Nat} {cs : Array Value} {t : TypeId} (h : w.heap[b]? = some (.cells cs t (0, 0))) (o : Nat) : w.frozen? ⟨b, o, none⟩ = false := by
  simp [World.frozen?, h]
theorem lt_of_heap {w : World} {b : Nat} {o : Obj} (h : w.heap[b]? = some o) : b < w.heap.size := by
  rcases Nat.lt_or_ge b w.heap.size with h' | h'
  · exact h'
  · simp [Array.getElem?_eq_none h'] at h

theorem heap_alloc_lt (w : World) (o : Obj) (b : Nat) (h : b < w.heap.size) : (w.alloc o).heap[b]? = w.heap[b]? := Below.heap_alloc w o b h
theorem heap_alloc_new (w : World) (o : Obj) : (w.alloc o).heap[w.heap.size]? = some o := by
  show (w.heap.push o)[w.heap.size]? = _
  simp

/-! ### closed facts -/
theorem Tryd.eql_errno (w : World) (a b : Int) : (binOp .eql 29 (.iface 33 (.int .i64 a)) (.iface 33 (.int .i64 b))).run Tryd.prog w = .ok (.bool (a == b)) w := by kernel_rfl

set_option maxRecDepth 100000 in
set_option maxHeartbeats 400000 in
theorem in_num (s : ByteArray) (p n : Int) (w : World) (h : (n == 0) = false) :
    Calls Tryd.prog 16 #[.string s, .int .i64 p, .iface 33 (.int .i64 n)] w fun e w' => e = .returned (.iface 63 (.pointer (some ⟨w.heap.size, 0, none⟩))) ∧ w' = w.alloc (.cells #[.string s, .int .i64 p, .iface 33 (.int .i64 n)] 66) := by
  have he := fun w => Tryd.eql_errno w n 0
  go_enter Tryd.func16, Tryd.ntmps16
  go_wp2
  go_ret
  exact ⟨rfl, rfl⟩
set_option maxRecDepth 100000 in
set_option maxHeartbeats 400000 in
theorem in_nil (s : ByteArray) (p : Int) (w : World) :
    Calls Tryd.prog 16 #[.string s, .int .i64 p, .nilIface] w fun e w' => e = .returned .nilIface ∧ w' = w := by
  go_enter Tryd.func16, Tryd.ntmps16
  go_wp2
  go_ret
  exact ⟨rfl, rfl⟩
set_option maxRecDepth 100000 in
set_option maxHeartbeats 400000 in
theorem in_fault (s : ByteArray) (p : Int) (v : Value) (w : World) :
    Calls Tryd.prog 16 #[.string s, .int .i64 p, .iface 63 v] w fun e w' => e = .returned (.iface 63 (.pointer (some ⟨w.heap.size, 0, none⟩))) ∧ w' = w.alloc (.cells #[.string s, .int .i64 p, .iface 63 v] 66) := by
  have he := fun w => run_eql_iface_types (P := Tryd.prog) (tx := 63) (ty := 33) v (.int .i64 0) Tryd.underlying29 (by decide) w
  go_enter Tryd.func16, Tryd.ntmps16
  go_wp2
  go_ret
  exact ⟨rfl, rfl⟩
/-- fault.In of an error that is there. -/
theorem in_err (s : ByteArray) (p : Int) (v : Value) (e : Err) (w : World) (hv : ErrV w v e) (h : (e.no == 0) = false) :
    Calls Tryd.prog 16 #[.string s, .int .i64 p, v] w fun x w' => ∃ v', x = .returned v' ∧ ErrV w' v' (.flt s p e) ∧ Below w.heap.size w w' := by
  cases e with
  | num n =>
    obtain rfl := hv
    refine (in_num s p n w h).mono ?_
    rintro x w' ⟨rfl, rfl⟩
    exact ⟨_, rfl, ⟨_, _, rfl, heap_alloc_new _ _, rfl⟩, (Below.refl _ _).alloc (Nat.le_refl _) _⟩
  | flt s' p' e =>
    obtain ⟨b, ve, rfl, hb, he⟩ := hv
    refine (in_fault s p _ w).mono ?_
    rintro x w' ⟨rfl, rfl⟩
    have hB : Below w.heap.size w (w.alloc (.cells #[.string s, .int .i64 p, .iface 63 (.pointer (some ⟨b, 0, none⟩))] 66)) := (Below.refl _ _).alloc (Nat.le_refl _) _
    exact ⟨_, rfl, ⟨_, _, rfl, heap_alloc_new _ _, ErrV.below (e := .flt s' p' e) ⟨b, ve, rfl, hb, he⟩ hB⟩, hB⟩
end Go.Proofs.YtaecjabehbhpfaaDoor
