/-
  errors.Is at a bare fault, and fault.Within, over whatever chain of faults that ends in a number. Conditions: errors.errorType reads as it is laid.
-/
import Derived.Test.YtaecjabehbhpfaaDoorAs4
import Derived.BigQuiet
import Derived.Deep.QuietTactic
namespace Go.Proofs.YtaecjabehbhpfaaDoor
open Go.RowKit Go.Extern.Stop Go.Stop Go.Extern
def Err.within (st : ByteArray) : Err → Bool | .num _ => false | .flt s _ e => st.toList == s.toList || e.within st
theorem Tryd.comparableF (w : World) : (Extern.ReflectliteType.method (fun t => do Extern.Rtype.noPackHeld "Comparable" t; (fun a => Value.bool a.comparable) <$> typeInfo t) #[.agg #[.pointer (some ⟨5, 63, none⟩)]]).run Tryd.prog w = .ok (.bool true) w := by kernel_rfl
theorem Tryd.methodComparable (v : Value) (w : World) : (Go.method 269 104 v "Comparable").run Tryd.prog w = .ok (86, v) w := by kernel_rfl
theorem Tryd.methodIs (v : Value) (w : World) : (Go.method 269 63 v "Is").run Tryd.prog w = .ok (78, v) w := by kernel_rfl
theorem Tryd.isCompF : (Tryd.prog.info? 63).map (·.comparable) = some true := by kernel_rfl
theorem Tryd.sizeFault : (Tryd.prog.info? 66).map (·.size) = some 3 := by kernel_rfl
theorem Tryd.noIsE (v : Value) (xT : TypeId) (w : World) : (Instr.typeAssert (.iface 33 v) xT 116 true).run Tryd.prog w = .ok (.tuple #[.nilIface, .bool false]) w := run_typeAssert_lacksB Tryd.underlying116 (by kernel_rfl) (by kernel_rfl) v xT w
theorem Tryd.hasIsF (v : Value) (xT : TypeId) (w : World) : (Instr.typeAssert (.iface 63 v) xT 116 true).run Tryd.prog w = .ok (.tuple #[.iface 63 v, .bool true]) w := run_typeAssert_hasB Tryd.underlying116 (by kernel_rfl) v xT w
theorem Tryd.toFault (v : Value) (w : World) : (Instr.typeAssert (.iface 63 v) 29 63 true).run Tryd.prog w = .ok (.tuple #[v, .bool true]) w := by kernel_rfl
set_option maxRecDepth 100000 in
set_option maxHeartbeats 1000000 in
theorem Is_any (b t : Nat) (s st : ByteArray) (w : World) (hs : w.cell? ⟨b, 0, none⟩ = some (.string s)) (ht0 : w.cell? ⟨t, 0, none⟩ = some (.string st)) (ht2 : w.cell? ⟨t, 2, none⟩ = some .nilIface) :
    Calls Tryd.prog 78 #[.pointer (some ⟨b, 0, none⟩), .iface 63 (.pointer (some ⟨t, 0, none⟩))] w fun e w' => e = .returned (.bool (st.toList == s.toList)) ∧ ∃ n, w' = w.drewN n := by
  have tF := Tryd.toFault
  go_enter Tryd.func78, Tryd.ntmps78
  go_wp2_with fail
  go_quiet (fail)
  go_wp2
  go_ret
  exact ⟨rfl, _, rfl⟩
set_option maxRecDepth 100000 in
set_option maxHeartbeats 2000000 in
/-- errors.is at a bare fault of a step, made behind the chain. -/
theorem is_any (e : Err) (v : Value) (w0 w : World) (t : Nat) (st : ByteArray) (hv : ErrV w0 v e) (hb0 : Below w0.heap.size w0 w) (hlt : w0.heap.size ≤ t) (ht : w.heap[t]? = some (.cells #[.string st, .int .i64 0, .nilIface] 66 (0, 0))) :
    Calls Tryd.prog 32 #[v, .iface 63 (.pointer (some ⟨t, 0, none⟩)), .bool true] w fun x w' => x = .returned (.bool (e.within st)) ∧ ∃ n, w' = w.drewN n := by
  obtain ⟨i, hi, hcmp⟩ := Option.map_eq_some_iff.1 Tryd.isCompF
  obtain ⟨j, hj, hjs⟩ := Option.map_eq_some_iff.1 Tryd.sizeFault
  have nE := Tryd.noIsE
  have uE := Tryd.noUnE
  have vE := Tryd.noUnsE
  have nF := Tryd.hasIsF
  have uF := Tryd.hasUnF
  have mU := Tryd.methodUnwrap
  have mI := Tryd.methodIs
  have hqe : ∀ (n : Int) (W : World), (binOp .eql 29 (.iface 33 (.int .i64 n)) (.iface 63 (.pointer (some ⟨t, 0, none⟩)))).run Tryd.prog W = .ok (.bool false) W := fun n W => run_eql_iface_types (P := Tryd.prog) (tx := 33) (ty := 63) (.int .i64 n) (.pointer (some ⟨t, 0, none⟩)) Tryd.underlying29 (by decide) W
  have hqf : ∀ (b : Nat) (cs : Array Value) (T : TypeId) (m : Nat), b < w0.heap.size → w.heap[b]? = some (.cells cs T (0, 0)) → (binOp .eql 29 (.iface 63 (.pointer (some ⟨b, 0, none⟩))) (.iface 63 (.pointer (some ⟨t, 0, none⟩)))).run Tryd.prog (w.drewN m) = .ok (.bool false) (w.drewN m) := fun b cs T m hb hbc =>
    run_eql_iface_ptr_other (P := Tryd.prog) (w.drewN m) Tryd.underlying29 Tryd.underlying63 hi hcmp hj (by rw [hjs]; decide) (a := ⟨b, 0, none⟩) (b := ⟨t, 0, none⟩) (ca := cs) (cb := #[.string st, .int .i64 0, .nilIface]) (ta := T) (tb := 66) (by intro h; have := congrArg Addr.block h; simp at this; omega) hbc ht
  have HQ := Lib.hid hqf
  have HV := Lib.hid hv
  have HB := Lib.hid hb0
  have HT := Lib.hid ht
  have HE := Lib.hid (show ∃ r, r = e.within st from ⟨_, rfl⟩)
  obtain ⟨r, hr⟩ := HE.out
  rw [← hr]
  have HR := Lib.hid hr
  clear hqf hv hb0 ht hr HE hi hcmp hj hjs
  go_enter Tryd.func32, Tryd.ntmps32
  go_wp2_with fail
  go_loopg [0] (e.depth + 1) (fun k v' wr => ∃ (e' : Err) (m : Nat), k = e'.depth + 1 ∧ Hid (ErrV w0 v' e' ∧ e'.within st = r) ∧ wr = w.drewN m)
  case atStart => exact ⟨e, 0, rfl, ⟨HV.out, HR.out.symm⟩, rfl⟩
  case round =>
    obtain ⟨e', m, hk, HX, rfl⟩ := hrel
    subst hk
    cases e' with
    | num n =>
      obtain ⟨hv', hw⟩ := HX.out
      obtain rfl := hv'
      obtain rfl : false = r := hw
      clear HX
      go_wp2
      go_ret
      exact ⟨rfl, _, rfl⟩
    | flt s p e'' =>
      obtain ⟨⟨b, ve, rfl, hb, he⟩, hw⟩ := HX.out
      clear HX
      have hbl := lt_of_heap hb
      have hbw : w.heap[b]? = _ := (HB.out.block b hbl).trans hb
      have hq := HQ.out b _ _ m hbl hbw
      have c0 : (w.drewN m).cell? ⟨b, 0, none⟩ = some (.string s) := by rw [cell_of_heap (w := w.drewN m) hbw]; rfl
      have t0 : (w.drewN m).cell? ⟨t, 0, none⟩ = some (.string st) := by rw [cell_of_heap (w := w.drewN m) HT.out]; rfl
      have t2 : (w.drewN m).cell? ⟨t, 2, none⟩ = some .nilIface := by rw [cell_of_heap (w := w.drewN m) HT.out]; rfl
      have HI := Lib.hid (Is_any b t s st (w.drewN m) c0 t0 t2)
      have HBW := Lib.hid hbw
      have HX := Lib.hid (And.intro he hw)
      obtain ⟨T, x, rfl⟩ := he.iface
      clear c0 t0 t2 hbw hb he hw
      by_cases hs : (st.toList == s.toList) = true
      · have HS := Lib.hid hs
        rw [hs] at HI
        clear hs
        go_wp2_with (go_at_call 78; refine (HI.out).mono ?_; rintro y w' ⟨rfl, n, rfl⟩)
        go_ret
        have hr : true = r := by rw [← HX.out.2, Err.within, HS.out]; rfl
        exact ⟨by rw [← hr]; rfl, _, rfl⟩
      · have hs' : (st.toList == s.toList) = false := by simpa using hs
        have HS := Lib.hid hs'
        rw [hs'] at HI
        clear hs hs'
        have hc2 : ∀ n, (w.drewN n).cell? ⟨b, 2, none⟩ = some (.iface T x) := fun n => by rw [cell_of_heap (w := w.drewN n) HBW.out]; rfl
        have HC := Lib.hid hc2
        clear hc2
        go_wp2_with (first | (go_at_call 78; refine (HI.out).mono ?_; rintro y w' ⟨rfl, n, rfl⟩) | (go_at_call 79; refine (unwrap_any b _ _ (HC.out _)).mono ?_; rintro y w' ⟨rfl, rfl⟩))
        go_roundg (e''.depth + 1)
        case measure => simp [Err.depth]
        case rel => exact ⟨e'', _, rfl, ⟨HX.out.1, by rw [← HX.out.2, Err.within, HS.out]; rfl⟩, rfl⟩
set_option maxRecDepth 100000 in
set_option maxHeartbeats 2000000 in
theorem Within_any (e : Err) (v : Value) (w : World) (st : ByteArray) (hv : ErrV w v e) :
    Calls Tryd.prog 11 #[v, .string st] w fun x w' => x = .returned (.bool (e.within st)) ∧ Below w.heap.size w w' := by
  have h8 := @run_callFunc_extern Tryd.prog 31 _ Extern.ReflectliteType.typeOf Tryd.func31 (by kernel_rfl) (by kernel_rfl) (by kernel_rfl) (by kernel_rfl)
  have h32 := @run_callFunc_extern Tryd.prog 86 _ (Extern.ReflectliteType.method fun t => do Extern.Rtype.noPackHeld "Comparable" t; pure (.bool (← typeInfo t).comparable)) Tryd.func86 (by kernel_rfl) (by kernel_rfl) (by kernel_rfl) (by kernel_rfl)
  have tF := Tryd.typeOfF
  have cF := Tryd.comparableF
  have mC := Tryd.methodComparable
  have hB : Below w.heap.size w (w.alloc (.cells #[.string st, .int .i64 0, .nilIface] 66)) := (Below.refl _ _).alloc (Nat.le_refl _) _
  have HI := Lib.hid (is_any e v w _ w.heap.size st hv hB (Nat.le_refl _) (heap_alloc_new _ _))
  have HB := Lib.hid hB
  obtain ⟨T, x, rfl⟩ := hv.iface
  clear hv hB
  go_enter Tryd.func11, Tryd.ntmps11
  go_wp2_with (first | (go_at_call 32; refine (HI.out).mono ?_; rintro y w' ⟨rfl, n, rfl⟩) | go_in)
  go_ret
  exact ⟨rfl, HB.out.trans ⟨rfl, rfl, rfl, Nat.le_refl _, fun _ _ => rfl⟩⟩
end Go.Proofs.YtaecjabehbhpfaaDoor
