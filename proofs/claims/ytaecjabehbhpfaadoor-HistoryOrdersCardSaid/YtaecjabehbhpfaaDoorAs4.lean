/-
  errors.As at a **Fault; fault.Of; fault.Where. Conditions: the variable errors.errorType reads as it is laid.
-/
import Derived.Test.YtaecjabehbhpfaaDoorAs3
namespace Go.Proofs.YtaecjabehbhpfaaDoor
open Go.RowKit Go.Extern.Stop Go.Stop Go.Extern
set_option maxRecDepth 100000 in
set_option maxHeartbeats 1000000 in
/-- errors.As(err, &f), f a *Fault, of a fault. -/
theorem As_flt (b : Nat) (w : World) (t : Nat) (old : Value) (hg : Glob w) (ht : w.heap[t]? = some (.cells #[old] 63 (0, 0))) :
    Calls Tryd.prog 21 #[.iface 63 (.pointer (some ⟨b, 0, none⟩)), .iface 64 (.pointer (some ⟨t, 0, none⟩))] w fun x w' => x = .returned (.bool true) ∧ Took w w' t (.cells #[.pointer (some ⟨b, 0, none⟩)] 63 (0, 0)) := by
  have h1 := @run_callFunc_extern Tryd.prog 27 _ (fun args => ReflectliteValue.unpack (args.getD 0 (.tuple #[]))) Tryd.func27 (by kernel_rfl) (by kernel_rfl) (by kernel_rfl) (by kernel_rfl)
  have h2 := @run_callFunc_extern Tryd.prog 28 _ (ReflectliteValue.methodAny (ReflectliteValue.valueError "reflectlite.Value.Type" 0) (fun t _ _ _ => ReflectliteType.toType t)) Tryd.func28 (by kernel_rfl) (by kernel_rfl) (by kernel_rfl) (by kernel_rfl)
  have h3 := @run_callFunc_extern Tryd.prog 29 _ (ReflectliteValue.method (ReflectliteValue.valueError "reflectlite.Value.IsNil" 0) ReflectliteValue.isNil) Tryd.func29 (by kernel_rfl) (by kernel_rfl) (by kernel_rfl) (by kernel_rfl)
  have h4 := @run_callFunc_extern Tryd.prog 73 _ (ReflectliteType.abiMethod fun t => do pure (.int .u8 (← Rtype.kind t))) Tryd.func73 (by kernel_rfl) (by kernel_rfl) (by kernel_rfl) (by kernel_rfl)
  have h5 := @run_callFunc_extern Tryd.prog 87 _ (ReflectliteType.method ReflectliteType.elem) Tryd.func87 (by kernel_rfl) (by kernel_rfl) (by kernel_rfl) (by kernel_rfl)
  have h6 := @run_callFunc_extern Tryd.prog 88 _ (ReflectliteType.relation "Implements" ReflectliteType.implements_) Tryd.func88 (by kernel_rfl) (by kernel_rfl) (by kernel_rfl) (by kernel_rfl)
  have f1 := Tryd.valueOfPF
  have f2 := Tryd.typePF
  have f3 := Tryd.methodKind
  have f4 := Tryd.methodElem
  have f5 := Tryd.methodImplements
  have f6 := Tryd.kindPF
  have f7 := Tryd.kindF
  have f8 := Tryd.telemPF
  have f9 := Tryd.implF
  have htt := lt_of_heap ht
  have h0 := hg.lt
  let W1 := (w.alloc (.cells #[.pointer (some ⟨t, 0, none⟩)] 64)).alloc (.cells #[.pointer (some ⟨5, 64, none⟩), .pointer (some ⟨w.heap.size, 0, none⟩), .int .u64 150] 80)
  have hsz : W1.heap.size = w.heap.size + 2 := by simp [W1]
  have hb1 : ∀ b, b < w.heap.size → W1.heap[b]? = w.heap[b]? := fun b hb => by
    show (World.alloc (World.alloc _ _) _).heap[b]? = _
    rw [heap_alloc_lt _ _ _ (by simp; omega), heap_alloc_lt _ _ _ hb]
  have n8 := Tryd.isNilPF ⟨w.heap.size, 0, none⟩ ⟨t, 0, none⟩ W1 (by simp [W1])
  have hg2 : W1.cell? ⟨0, 0, none⟩ = _ := (World.cell?_of_block (w := w) (a := ⟨0, 0, none⟩) (hb1 0 h0)).trans hg
  have ht2 : W1.heap[t]? = _ := (hb1 t htt).trans ht
  clear hg ht
  have HT := Lib.hid ht2
  have HB := Lib.hid hb1
  have HS := Lib.hid hsz
  clear ht2 hb1 hsz
  dsimp only [W1] at n8 hg2
  go_enter Tryd.func21, Tryd.ntmps21
  go_wp2_with fail
  refine (as_fault_flt b W1 ⟨t, 0, none⟩ ⟨w.heap.size, 0, none⟩ old (by simp [W1]) (by rw [cell_of_heap HT.out]; rfl) (free_of_heap HT.out 0)).mono ?_
  rintro y w' ⟨rfl, rfl⟩
  go_wp2
  go_ret
  refine ⟨rfl, rfl, rfl, rfl, ?_, ?_, ?_⟩
  · have := HS.out; simp; omega
  · intro b' hb hbt
    have := HS.out
    rw [Below.heap_setCell _ _ _ _ hbt, heap_alloc_lt _ _ _ (by simp; omega), heap_alloc_lt _ _ _ (by omega)]
    exact HB.out b' hb
  · have := HS.out
    rw [heap_setCell _ t #[old] 63 (0, 0) 0 _ (by rw [heap_alloc_lt _ _ _ (by simp; omega), heap_alloc_lt _ _ _ (by omega)]; exact HT.out)]
    rfl
set_option maxRecDepth 100000 in
set_option maxHeartbeats 1000000 in
/-- errors.As(err, &f), f a *Fault, of a bare number. -/
theorem As_flt_num (n : Int) (w : World) (t : Nat) (hg : Glob w) :
    Calls Tryd.prog 21 #[.iface 33 (.int .i64 n), .iface 64 (.pointer (some ⟨t, 0, none⟩))] w fun x w' => x = .returned (.bool false) ∧ Below w.heap.size w w' := by
  have h1 := @run_callFunc_extern Tryd.prog 27 _ (fun args => ReflectliteValue.unpack (args.getD 0 (.tuple #[]))) Tryd.func27 (by kernel_rfl) (by kernel_rfl) (by kernel_rfl) (by kernel_rfl)
  have h2 := @run_callFunc_extern Tryd.prog 28 _ (ReflectliteValue.methodAny (ReflectliteValue.valueError "reflectlite.Value.Type" 0) (fun t _ _ _ => ReflectliteType.toType t)) Tryd.func28 (by kernel_rfl) (by kernel_rfl) (by kernel_rfl) (by kernel_rfl)
  have h3 := @run_callFunc_extern Tryd.prog 29 _ (ReflectliteValue.method (ReflectliteValue.valueError "reflectlite.Value.IsNil" 0) ReflectliteValue.isNil) Tryd.func29 (by kernel_rfl) (by kernel_rfl) (by kernel_rfl) (by kernel_rfl)
  have h4 := @run_callFunc_extern Tryd.prog 73 _ (ReflectliteType.abiMethod fun t => do pure (.int .u8 (← Rtype.kind t))) Tryd.func73 (by kernel_rfl) (by kernel_rfl) (by kernel_rfl) (by kernel_rfl)
  have h5 := @run_callFunc_extern Tryd.prog 87 _ (ReflectliteType.method ReflectliteType.elem) Tryd.func87 (by kernel_rfl) (by kernel_rfl) (by kernel_rfl) (by kernel_rfl)
  have h6 := @run_callFunc_extern Tryd.prog 88 _ (ReflectliteType.relation "Implements" ReflectliteType.implements_) Tryd.func88 (by kernel_rfl) (by kernel_rfl) (by kernel_rfl) (by kernel_rfl)
  have f1 := Tryd.valueOfPF
  have f2 := Tryd.typePF
  have f3 := Tryd.methodKind
  have f4 := Tryd.methodElem
  have f5 := Tryd.methodImplements
  have f6 := Tryd.kindPF
  have f7 := Tryd.kindF
  have f8 := Tryd.telemPF
  have f9 := Tryd.implF
  have h0 := hg.lt
  let W1 := (w.alloc (.cells #[.pointer (some ⟨t, 0, none⟩)] 64)).alloc (.cells #[.pointer (some ⟨5, 64, none⟩), .pointer (some ⟨w.heap.size, 0, none⟩), .int .u64 150] 80)
  have hsz : W1.heap.size = w.heap.size + 2 := by simp [W1]
  have hb1 : ∀ b, b < w.heap.size → W1.heap[b]? = w.heap[b]? := fun b hb => by
    show (World.alloc (World.alloc _ _) _).heap[b]? = _
    rw [heap_alloc_lt _ _ _ (by simp; omega), heap_alloc_lt _ _ _ hb]
  have n8 := Tryd.isNilPF ⟨w.heap.size, 0, none⟩ ⟨t, 0, none⟩ W1 (by simp [W1])
  have hg2 : W1.cell? ⟨0, 0, none⟩ = _ := (World.cell?_of_block (w := w) (a := ⟨0, 0, none⟩) (hb1 0 h0)).trans hg
  clear hg
  have HB := Lib.hid hb1
  have HS := Lib.hid hsz
  clear hb1 hsz
  dsimp only [W1] at n8 hg2
  go_enter Tryd.func21, Tryd.ntmps21
  go_wp2_with fail
  refine (as_fault_num n W1 ⟨t, 0, none⟩ ⟨w.heap.size, 0, none⟩).mono ?_
  rintro y w' ⟨rfl, rfl⟩
  go_wp2
  go_ret
  have hB : Below w.heap.size w W1 := ((Below.refl _ _).alloc (Nat.le_refl _) _).alloc (by simp) _
  exact ⟨rfl, hB.alloc (by have := HS.out; omega) _⟩
theorem Took.below {w w' : World} {T : TypeId} {cs : Array Value} {o : Obj} (h : Took (w.alloc (.cells cs T)) w' w.heap.size o) : Below w.heap.size w w' := by
  refine ⟨h.os, h.tape, h.output, ?_, fun k hk => ?_⟩
  · have := h.size; simp at this; omega
  · rw [h.block k (by simp; omega) (by omega), heap_alloc_lt _ _ _ hk]
set_option maxRecDepth 100000 in
theorem Of_nil (w : World) : Calls Tryd.prog 8 #[.nilIface] w fun e w' => e = .returned (.int .i64 0) ∧ w' = w := by
  go_enter Tryd.func8, Tryd.ntmps8
  go_wp2
  go_ret
  exact ⟨rfl, rfl⟩
theorem ErrV.iface {w : World} {v : Value} {e : Err} (h : ErrV w v e) : ∃ T x, v = .iface T x := by
  cases e with
  | num m => exact ⟨_, _, h⟩
  | flt s' p' e3 => obtain ⟨b', ve', h', _⟩ := h; exact ⟨_, _, h'⟩
set_option maxRecDepth 100000 in
set_option maxHeartbeats 1000000 in
theorem Of_err (e : Err) (v : Value) (w : World) (hg : Glob w) (hv : ErrV w v e) :
    Calls Tryd.prog 8 #[v] w fun x w' => x = .returned (.int .i64 e.no) ∧ Below w.heap.size w w' := by
  have h0 := hg.lt
  have hB : Below w.heap.size w (w.alloc (.cells #[.int .i64 0] 33)) := (Below.refl _ _).alloc (Nat.le_refl _) _
  have HG := Lib.hid (hg.below hB h0)
  have HV := Lib.hid (hv.below hB)
  have HT := Lib.hid (heap_alloc_new w (.cells #[.int .i64 0] 33))
  obtain ⟨T, x, rfl⟩ := hv.iface
  clear hg hv hB
  go_enter Tryd.func8, Tryd.ntmps8
  go_wp2_with fail
  refine (As_num e _ _ w.heap.size _ HG.out HV.out HT.out).mono ?_
  rintro y w' ⟨rfl, ht⟩
  have hc : w'.cell? ⟨w.heap.size, 0, none⟩ = some (.int .i64 e.no) := by rw [cell_of_heap ht.at_]; rfl
  have HK := Lib.hid ht
  clear ht
  go_wp2
  go_ret
  exact ⟨rfl, HK.out.below⟩
end Go.Proofs.YtaecjabehbhpfaaDoor
