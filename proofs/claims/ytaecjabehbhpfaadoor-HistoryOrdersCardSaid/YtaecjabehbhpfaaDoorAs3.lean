/-
  errors.as at a **Fault; errors.As at both; fault.Of. Conditions: the variable errors.errorType reads as it is laid.
-/
import Derived.Test.YtaecjabehbhpfaaDoorAs2
namespace Go.Proofs.YtaecjabehbhpfaaDoor
open Go.RowKit Go.Extern.Stop Go.Stop Go.Extern
set_option maxRecDepth 100000 in
set_option maxHeartbeats 1000000 in
/-- errors.as of a bare number at a **Fault: false. -/
theorem as_fault_num (n : Int) (w : World) (t a : Addr) :
    Calls Tryd.prog 30 #[.iface 33 (.int .i64 n), .iface 64 (.pointer (some t)), .agg #[.pointer (some ⟨5, 64, none⟩), .pointer (some a), .int .u64 150], .iface 104 (.agg #[.pointer (some ⟨5, 63, none⟩)])] w
      fun x w' => x = .returned (.bool false) ∧ w' = w.alloc (.cells #[.pointer (some ⟨5, 64, none⟩), .pointer (some a), .int .u64 150] 80) := by
  have h1 := @run_callFunc_extern Tryd.prog 31 _ ReflectliteType.typeOf Tryd.func31 (by kernel_rfl) (by kernel_rfl) (by kernel_rfl) (by kernel_rfl)
  have h2 := @run_callFunc_extern Tryd.prog 85 _ (ReflectliteType.relation "AssignableTo" ReflectliteType.assignableTo) Tryd.func85 (by kernel_rfl) (by kernel_rfl) (by kernel_rfl) (by kernel_rfl)
  have tE := Tryd.typeOfE
  have mA := Tryd.methodAssignableTo
  have aE := Tryd.assEF
  have nE := Tryd.noAsE
  have uE := Tryd.noUnE
  have sE := Tryd.noUnsE
  go_enter Tryd.func30, Tryd.ntmps30
  go_wp2
  refine wp_loop_rounds 1 ?_
  rw [rounds_succ]
  go_wp2
  go_ret
  exact ⟨rfl, rfl⟩
set_option maxRecDepth 100000 in
set_option maxHeartbeats 1000000 in
/-- errors.as of a fault at a **Fault: the fault itself. -/
theorem as_fault_flt (b : Nat) (w : World) (t a : Addr) (old : Value) (ha : w.cell? a = some (.pointer (some t))) (ht : w.cell? t = some old) (hf : w.frozen? t = false) :
    Calls Tryd.prog 30 #[.iface 63 (.pointer (some ⟨b, 0, none⟩)), .iface 64 (.pointer (some t)), .agg #[.pointer (some ⟨5, 64, none⟩), .pointer (some a), .int .u64 150], .iface 104 (.agg #[.pointer (some ⟨5, 63, none⟩)])] w
      fun x w' => x = .returned (.bool true) ∧ w' = ((w.alloc (.cells #[.pointer (some ⟨5, 64, none⟩), .pointer (some a), .int .u64 150] 80)).alloc (.cells #[.pointer (some ⟨b, 0, none⟩)] 63)).setCell t (.pointer (some ⟨b, 0, none⟩)) := by
  have h1 := @run_callFunc_extern Tryd.prog 31 _ ReflectliteType.typeOf Tryd.func31 (by kernel_rfl) (by kernel_rfl) (by kernel_rfl) (by kernel_rfl)
  have h2 := @run_callFunc_extern Tryd.prog 85 _ (ReflectliteType.relation "AssignableTo" ReflectliteType.assignableTo) Tryd.func85 (by kernel_rfl) (by kernel_rfl) (by kernel_rfl) (by kernel_rfl)
  have h3 := @run_callFunc_extern Tryd.prog 39 _ (ReflectliteValue.method (ReflectliteValue.valueError "reflectlite.Value.Elem" 0) ReflectliteValue.elem) Tryd.func39 (by kernel_rfl) (by kernel_rfl) (by kernel_rfl) (by kernel_rfl)
  have h4 := @run_callFunc_extern Tryd.prog 40 _ ReflectliteValue.set Tryd.func40 (by kernel_rfl) (by kernel_rfl) (by kernel_rfl) (by kernel_rfl)
  have h5 := @run_callFunc_extern Tryd.prog 27 _ (fun args => ReflectliteValue.unpack (args.getD 0 (.tuple #[]))) Tryd.func27 (by kernel_rfl) (by kernel_rfl) (by kernel_rfl) (by kernel_rfl)
  have tF := Tryd.typeOfF
  have mA := Tryd.methodAssignableTo
  have aF := Tryd.assFF
  have vF := Tryd.valueOfF
  have hat : a.block < w.heap.size := World.block_lt_of_cell? _ _ ha
  have htt : t.block < w.heap.size := World.block_lt_of_cell? _ _ ht
  have el := Tryd.elemVPF a t (w.alloc (.cells #[.pointer (some ⟨5, 64, none⟩), .pointer (some a), .int .u64 150] 80)) (by rw [World.cell?_alloc_lt _ _ _ hat]; exact ha)
  have st := Tryd.setF t ⟨w.heap.size + 1, 0, none⟩ ⟨b, 0, none⟩ old ((w.alloc (.cells #[.pointer (some ⟨5, 64, none⟩), .pointer (some a), .int .u64 150] 80)).alloc (.cells #[.pointer (some ⟨b, 0, none⟩)] 63)) (by rw [World.cell?_alloc_at _ _ _ _ (by simp)]; rfl)
    (by rw [World.cell?_alloc_lt _ _ t (by simp; omega), World.cell?_alloc_lt _ _ t htt]; exact ht)
    (by rw [World.frozen?_alloc_old _ _ t (by simp; omega), World.frozen?_alloc_old _ _ t (Nat.ne_of_lt htt)]; exact hf)
  clear ha ht hf
  go_enter Tryd.func30, Tryd.ntmps30
  go_wp2
  refine wp_loop_rounds 1 ?_
  rw [rounds_succ]
  go_wp2
  go_ret
  exact ⟨rfl, rfl⟩

/-! ### errors.As: the preamble at both targets -/
theorem Tryd.valueOfPE (t : Addr) (w : World) : (ReflectliteValue.unpack (.iface 58 (.pointer (some t)))).run Tryd.prog w
    = .ok (.agg #[.pointer (some ⟨5, 58, none⟩), .pointer (some ⟨w.heap.size, 0, none⟩), .int .u64 150]) (w.alloc (.cells #[.pointer (some t)] 58)) := by kernel_rfl
theorem Tryd.typePE (a : Addr) (w : World) : (ReflectliteValue.methodAny (ReflectliteValue.valueError "reflectlite.Value.Type" 0) (fun t _ _ _ => ReflectliteType.toType t) #[.agg #[.pointer (some ⟨5, 58, none⟩), .pointer (some a), .int .u64 150]]).run Tryd.prog w
    = .ok (.iface 104 (.agg #[.pointer (some ⟨5, 58, none⟩)])) w := by kernel_rfl
theorem Tryd.kindPE (w : World) : ((ReflectliteType.abiMethod fun t => (fun a : Nat => Value.int IntKind.u8 (a : Int)) <$> Rtype.kind t) #[.pointer (some ⟨5, 58, none⟩)]).run Tryd.prog w = .ok (.int .u8 22) w := by kernel_rfl
theorem Tryd.kindE (w : World) : ((ReflectliteType.abiMethod fun t => (fun a : Nat => Value.int IntKind.u8 (a : Int)) <$> Rtype.kind t) #[.pointer (some ⟨5, 33, none⟩)]).run Tryd.prog w = .ok (.int .u8 2) w := by kernel_rfl
theorem Tryd.isNilPE (a p : Addr) (W : World) (ha : W.cell? a = some (.pointer (some p))) :
    (ReflectliteValue.method (ReflectliteValue.valueError "reflectlite.Value.IsNil" 0) ReflectliteValue.isNil #[.agg #[.pointer (some ⟨5, 58, none⟩), .pointer (some a), .int .u64 150]]).run Tryd.prog W = .ok (.bool false) W := by
  rw [rlm]
  simp only [Sem.run_bind, Tryd.partsPE, Result.andThen]
  simp [ReflectliteValue.isNil, loadVar, isAgg, underlying, Tryd.underlying58, ha, Result.andThen]
theorem Tryd.telemPE (w : World) : (ReflectliteType.method ReflectliteType.elem #[.agg #[.pointer (some ⟨5, 58, none⟩)]]).run Tryd.prog w = .ok (.iface 104 (.agg #[.pointer (some ⟨5, 33, none⟩)])) w := by kernel_rfl
theorem Tryd.implE (w : World) : (ReflectliteType.relation "Implements" ReflectliteType.implements_ #[.agg #[.pointer (some ⟨5, 33, none⟩)], .iface 104 (.agg #[.pointer (some ⟨5, 29, none⟩)])]).run Tryd.prog w = .ok (.bool true) w := by kernel_rfl
theorem Tryd.valueOfPF (t : Addr) (w : World) : (ReflectliteValue.unpack (.iface 64 (.pointer (some t)))).run Tryd.prog w
    = .ok (.agg #[.pointer (some ⟨5, 64, none⟩), .pointer (some ⟨w.heap.size, 0, none⟩), .int .u64 150]) (w.alloc (.cells #[.pointer (some t)] 64)) := by kernel_rfl
theorem Tryd.typePF (a : Addr) (w : World) : (ReflectliteValue.methodAny (ReflectliteValue.valueError "reflectlite.Value.Type" 0) (fun t _ _ _ => ReflectliteType.toType t) #[.agg #[.pointer (some ⟨5, 64, none⟩), .pointer (some a), .int .u64 150]]).run Tryd.prog w
    = .ok (.iface 104 (.agg #[.pointer (some ⟨5, 64, none⟩)])) w := by kernel_rfl
theorem Tryd.kindPF (w : World) : ((ReflectliteType.abiMethod fun t => (fun a : Nat => Value.int IntKind.u8 (a : Int)) <$> Rtype.kind t) #[.pointer (some ⟨5, 64, none⟩)]).run Tryd.prog w = .ok (.int .u8 22) w := by kernel_rfl
theorem Tryd.kindF (w : World) : ((ReflectliteType.abiMethod fun t => (fun a : Nat => Value.int IntKind.u8 (a : Int)) <$> Rtype.kind t) #[.pointer (some ⟨5, 63, none⟩)]).run Tryd.prog w = .ok (.int .u8 22) w := by kernel_rfl
theorem Tryd.isNilPF (a p : Addr) (W : World) (ha : W.cell? a = some (.pointer (some p))) :
    (ReflectliteValue.method (ReflectliteValue.valueError "reflectlite.Value.IsNil" 0) ReflectliteValue.isNil #[.agg #[.pointer (some ⟨5, 64, none⟩), .pointer (some a), .int .u64 150]]).run Tryd.prog W = .ok (.bool false) W := by
  rw [rlm]
  simp only [Sem.run_bind, Tryd.partsPF, Result.andThen]
  simp [ReflectliteValue.isNil, loadVar, isAgg, underlying, Tryd.underlying64, ha, Result.andThen]
theorem Tryd.telemPF (w : World) : (ReflectliteType.method ReflectliteType.elem #[.agg #[.pointer (some ⟨5, 64, none⟩)]]).run Tryd.prog w = .ok (.iface 104 (.agg #[.pointer (some ⟨5, 63, none⟩)])) w := by kernel_rfl
theorem Tryd.implF (w : World) : (ReflectliteType.relation "Implements" ReflectliteType.implements_ #[.agg #[.pointer (some ⟨5, 63, none⟩)], .iface 104 (.agg #[.pointer (some ⟨5, 29, none⟩)])]).run Tryd.prog w = .ok (.bool true) w := by kernel_rfl
set_option maxRecDepth 100000 in
theorem As_nil (t : Value) (w : World) :
    Calls Tryd.prog 21 #[.nilIface, t] w fun e w' => e = .returned (.bool false) ∧ w' = w := by
  go_enter Tryd.func21, Tryd.ntmps21
  go_wp2
  go_ret
  exact ⟨rfl, rfl⟩
/-- What errors.As leaves behind: the target's block holds the answer, all older blocks are as they were. -/
structure Took (w w' : World) (t : Nat) (o : Obj) : Prop where
  tape : w'.tape = w.tape
  os : w'.os = w.os
  output : w'.output = w.output
  size : w.heap.size ≤ w'.heap.size
  block : ∀ b, b < w.heap.size → b ≠ t → w'.heap[b]? = w.heap[b]?
  at_ : w'.heap[t]? = some o
theorem heap_setCell (w : World) (b : Nat) (cs : Array Value) (T : TypeId) (fz : Nat × Nat) (o : Nat) (v : Value) (h : w.heap[b]? = some (.cells cs T fz)) :
    (w.setCell ⟨b, o, none⟩ v).heap[b]? = some (.cells (cs.setIfInBounds o v) T fz) := by
  simp [World.setCell, Array.getElem?_modify, h]
set_option maxRecDepth 100000 in
set_option maxHeartbeats 1000000 in
/-- errors.As(err, &e), e an Errno. -/
theorem As_num (e : Err) (v : Value) (w : World) (t : Nat) (old : Value) (hg : Glob w) (hv : ErrV w v e) (ht : w.heap[t]? = some (.cells #[old] 33 (0, 0))) :
    Calls Tryd.prog 21 #[v, .iface 58 (.pointer (some ⟨t, 0, none⟩))] w fun x w' => x = .returned (.bool true) ∧ Took w w' t (.cells #[.int .i64 e.no] 33 (0, 0)) := by
  have h1 := @run_callFunc_extern Tryd.prog 27 _ (fun args => ReflectliteValue.unpack (args.getD 0 (.tuple #[]))) Tryd.func27 (by kernel_rfl) (by kernel_rfl) (by kernel_rfl) (by kernel_rfl)
  have h2 := @run_callFunc_extern Tryd.prog 28 _ (ReflectliteValue.methodAny (ReflectliteValue.valueError "reflectlite.Value.Type" 0) (fun t _ _ _ => ReflectliteType.toType t)) Tryd.func28 (by kernel_rfl) (by kernel_rfl) (by kernel_rfl) (by kernel_rfl)
  have h3 := @run_callFunc_extern Tryd.prog 29 _ (ReflectliteValue.method (ReflectliteValue.valueError "reflectlite.Value.IsNil" 0) ReflectliteValue.isNil) Tryd.func29 (by kernel_rfl) (by kernel_rfl) (by kernel_rfl) (by kernel_rfl)
  have h4 := @run_callFunc_extern Tryd.prog 73 _ (ReflectliteType.abiMethod fun t => do pure (.int .u8 (← Rtype.kind t))) Tryd.func73 (by kernel_rfl) (by kernel_rfl) (by kernel_rfl) (by kernel_rfl)
  have h5 := @run_callFunc_extern Tryd.prog 87 _ (ReflectliteType.method ReflectliteType.elem) Tryd.func87 (by kernel_rfl) (by kernel_rfl) (by kernel_rfl) (by kernel_rfl)
  have h6 := @run_callFunc_extern Tryd.prog 88 _ (ReflectliteType.relation "Implements" ReflectliteType.implements_) Tryd.func88 (by kernel_rfl) (by kernel_rfl) (by kernel_rfl) (by kernel_rfl)
  have f1 := Tryd.valueOfPE
  have f2 := Tryd.typePE
  have f3 := Tryd.methodKind
  have f4 := Tryd.methodElem
  have f5 := Tryd.methodImplements
  have f6 := Tryd.kindPE
  have f7 := Tryd.kindE
  have f8 := Tryd.telemPE
  have f9 := Tryd.implE
  have htt := lt_of_heap ht
  have h0 := hg.lt
  let W1 := (w.alloc (.cells #[.pointer (some ⟨t, 0, none⟩)] 58)).alloc (.cells #[.pointer (some ⟨5, 58, none⟩), .pointer (some ⟨w.heap.size, 0, none⟩), .int .u64 150] 80)
  have hsz : W1.heap.size = w.heap.size + 2 := by simp [W1]
  have hb1 : ∀ b, b < w.heap.size → W1.heap[b]? = w.heap[b]? := fun b hb => by
    show (World.alloc (World.alloc _ _) _).heap[b]? = _
    rw [heap_alloc_lt _ _ _ (by simp; omega), heap_alloc_lt _ _ _ hb]
  have n8 := Tryd.isNilPE ⟨w.heap.size, 0, none⟩ ⟨t, 0, none⟩ W1 (by simp [W1])
  have hg2 : W1.cell? ⟨0, 0, none⟩ = _ := (World.cell?_of_block (w := w) (a := ⟨0, 0, none⟩) (hb1 0 h0)).trans hg
  have hv2 : ErrV W1 v e := hv.keep hb1
  have ht2 : W1.heap[t]? = _ := (hb1 t htt).trans ht
  obtain ⟨T, x, rfl⟩ : ∃ T x, v = .iface T x := by
    cases e with
    | num m => exact ⟨_, _, hv⟩
    | flt s' p' e3 => obtain ⟨b', ve', h', _⟩ := hv; exact ⟨_, _, h'⟩
  clear hg hv ht
  have HV := Lib.hid hv2
  have HT := Lib.hid ht2
  have HB := Lib.hid hb1
  have HS := Lib.hid hsz
  clear hv2 ht2 hb1 hsz
  dsimp only [W1] at n8 hg2
  go_enter Tryd.func21, Tryd.ntmps21
  go_wp2_with fail
  refine (as_num e _ W1 ⟨t, 0, none⟩ ⟨w.heap.size, 0, none⟩ old HV.out (by simp [W1]) (by rw [cell_of_heap HT.out]; rfl) (free_of_heap HT.out 0)).mono ?_
  rintro y w' ⟨rfl, rfl⟩
  go_wp2
  go_ret
  refine ⟨rfl, rfl, rfl, rfl, ?_, ?_, ?_⟩
  · have := HS.out; simp; omega
  · intro b hb hbt
    have := HS.out
    rw [Below.heap_setCell _ _ _ _ hbt, heap_alloc_lt _ _ _ (by simp; omega), heap_alloc_lt _ _ _ (by omega)]
    exact HB.out b hb
  · have := HS.out
    rw [heap_setCell _ t #[old] 33 (0, 0) 0 _ (by rw [heap_alloc_lt _ _ _ (by simp; omega), heap_alloc_lt _ _ _ (by omega)]; exact HT.out)]
    rfl
end Go.Proofs.YtaecjabehbhpfaaDoor
