/-
  errors.As at a *Errno and at a **Fault, and fault.Of, over whatever chain of faults that ends in a number. Conditions: the variable errors.errorType reads as it is laid.
-/
import Derived.Test.YtaecjabehbhpfaaDoorAs
namespace Go.Proofs.YtaecjabehbhpfaaDoor
open Go.RowKit Go.Extern.Stop Go.Stop Go.Extern
/-- errors.errorType reads as it is laid. -/
def Glob (w : World) : Prop := w.cell? ⟨0, 0, none⟩ = some (.iface 104 (.agg #[.pointer (some ⟨5, 29, none⟩)]))
theorem Glob.lt {w : World} (h : Glob w) : 0 < w.heap.size := by
  rcases Nat.eq_zero_or_pos w.heap.size with h0 | h'
  · simp [Glob, World.cell?, h0] at h
  · exact h'
theorem Glob.below {B : Nat} {w w' : World} (h : Glob w) (hb : Below B w w') (h0 : 0 < B) : Glob w' := (hb.cell (p := ⟨0, 0, none⟩) h0).trans h

set_option maxRecDepth 100000 in
set_option maxHeartbeats 1000000 in
/-- errors.as at a *Errno: the number at the chain's end. -/
theorem as_num (e : Err) (v : Value) (w : World) (t a : Addr) (old : Value) (hv : ErrV w v e) (ha : w.cell? a = some (.pointer (some t))) (ht : w.cell? t = some old) (hf : w.frozen? t = false) :
    Calls Tryd.prog 30 #[v, .iface 58 (.pointer (some t)), .agg #[.pointer (some ⟨5, 58, none⟩), .pointer (some a), .int .u64 150], .iface 104 (.agg #[.pointer (some ⟨5, 33, none⟩)])] w
      fun x w' => x = .returned (.bool true) ∧ w' = ((w.alloc (.cells #[.pointer (some ⟨5, 58, none⟩), .pointer (some a), .int .u64 150] 80)).alloc (.cells #[.int .i64 e.no] 33)).setCell t (.int .i64 e.no) := by
  have h1 := @run_callFunc_extern Tryd.prog 31 _ ReflectliteType.typeOf Tryd.func31 (by kernel_rfl) (by kernel_rfl) (by kernel_rfl) (by kernel_rfl)
  have h2 := @run_callFunc_extern Tryd.prog 85 _ (ReflectliteType.relation "AssignableTo" ReflectliteType.assignableTo) Tryd.func85 (by kernel_rfl) (by kernel_rfl) (by kernel_rfl) (by kernel_rfl)
  have h3 := @run_callFunc_extern Tryd.prog 39 _ (ReflectliteValue.method (ReflectliteValue.valueError "reflectlite.Value.Elem" 0) ReflectliteValue.elem) Tryd.func39 (by kernel_rfl) (by kernel_rfl) (by kernel_rfl) (by kernel_rfl)
  have h4 := @run_callFunc_extern Tryd.prog 40 _ ReflectliteValue.set Tryd.func40 (by kernel_rfl) (by kernel_rfl) (by kernel_rfl) (by kernel_rfl)
  have h5 := @run_callFunc_extern Tryd.prog 27 _ (fun args => ReflectliteValue.unpack (args.getD 0 (.tuple #[]))) Tryd.func27 (by kernel_rfl) (by kernel_rfl) (by kernel_rfl) (by kernel_rfl)
  have tE := Tryd.typeOfE
  have tF := Tryd.typeOfF
  have mA := Tryd.methodAssignableTo
  have mU := Tryd.methodUnwrap
  have aE := Tryd.assEE
  have aF := Tryd.assFE
  have vE := Tryd.valueOfE
  have nF := Tryd.noAsF
  have uF := Tryd.hasUnF
  have hat : a.block < w.heap.size := World.block_lt_of_cell? _ _ ha
  have htt : t.block < w.heap.size := World.block_lt_of_cell? _ _ ht
  have el := Tryd.elemVPE a t (w.alloc (.cells #[.pointer (some ⟨5, 58, none⟩), .pointer (some a), .int .u64 150] 80)) (by rw [World.cell?_alloc_lt _ _ _ hat]; exact ha)
  have st := fun n => Tryd.setE t ⟨w.heap.size + 1, 0, none⟩ n old ((w.alloc (.cells #[.pointer (some ⟨5, 58, none⟩), .pointer (some a), .int .u64 150] 80)).alloc (.cells #[.int .i64 n] 33)) (by rw [World.cell?_alloc_at _ _ _ _ (by simp)]; rfl)
    (by rw [World.cell?_alloc_lt _ _ t (by simp; omega), World.cell?_alloc_lt _ _ t htt]; exact ht)
    (by rw [World.frozen?_alloc_old _ _ t (by simp; omega), World.frozen?_alloc_old _ _ t (Nat.ne_of_lt htt)]; exact hf)
  have HV := Lib.hid hv
  clear hv ha ht hf
  obtain ⟨n, hn⟩ : ∃ n, n = e.no := ⟨_, rfl⟩
  rw [← hn]
  have HN := Lib.hid hn
  clear hn
  go_enter Tryd.func30, Tryd.ntmps30
  go_wp2
  go_loopg [0] (e.depth + 1) (fun k v' wr => ∃ e' : Err, Hid (ErrV w v' e' ∧ e'.no = n) ∧ k = e'.depth + 1 ∧ wr = w.alloc (.cells #[.pointer (some ⟨5, 58, none⟩), .pointer (some a), .int .u64 150] 80))
  case atStart => exact ⟨e, Lib.hid ⟨HV.out, HN.out.symm⟩, rfl, rfl⟩
  case round =>
    obtain ⟨e', HE, hk, rfl⟩ := hrel
    subst hk
    cases e' with
    | num m =>
      obtain ⟨hv', hm⟩ := HE.out
      obtain rfl := hv'
      obtain rfl : m = n := hm
      clear HE
      go_wp2
      go_ret
      exact ⟨rfl, rfl⟩
    | flt s p e'' =>
      obtain ⟨⟨b, ve, rfl, hb, he⟩, hm⟩ := HE.out
      clear HE
      have hbl := lt_of_heap hb
      have hc : (w.alloc (.cells #[.pointer (some ⟨5, 58, none⟩), .pointer (some a), .int .u64 150] 80)).cell? ⟨b, 2, none⟩ = some ve := by
        rw [World.cell?_alloc_lt _ _ ⟨b, 2, none⟩ hbl, cell_of_heap hb]; rfl
      have hd : ∃ T x, ve = .iface T x := by
        cases e'' with
        | num m => exact ⟨_, _, he⟩
        | flt s' p' e3 => obtain ⟨b', ve', h', _⟩ := he; exact ⟨_, _, h'⟩
      obtain ⟨T, x, rfl⟩ := hd
      have HE := Lib.hid (And.intro he hm)
      clear hb he hm
      go_wp2_with (go_at_call 79; refine (unwrap_any b _ _ hc).mono ?_; rintro e w' ⟨rfl, rfl⟩)
      go_roundg (e''.depth + 1)
      case measure => simp [Err.depth]
      case rel => exact ⟨e'', HE, rfl, rfl⟩
end Go.Proofs.YtaecjabehbhpfaaDoor
