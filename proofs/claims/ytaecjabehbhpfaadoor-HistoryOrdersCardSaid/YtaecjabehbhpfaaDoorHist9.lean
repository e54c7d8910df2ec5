/-
  The search, at the one search that the law's head makes. No condition.
-/
import Derived.Test.YtaecjabehbhpfaaDoorHist8
namespace Go.Proofs.YtaecjabehbhpfaaDoor
open Go.RowKit Go.Hd
set_option maxRecDepth 100000 in
set_option maxHeartbeats 1000000 in
theorem find_tt (w : World) (lb sb mb db : Nat) (s : ByteArray) (h : Sit w lb sb mb db true true) :
    Calls Tryd.prog 24 #[.pointer (some ⟨sb, 0, none⟩), .slice (some ⟨db, 0, none⟩) 2 2, .string s] w fun e w' => e = .returned (.tuple #[.slice none 0 0, .bool true]) ∧ Below w.heap.size w w' := by
  have HO := Lib.hid (over_tt w lb sb mb db h)
  clear h
  go_enter Tryd.func24, Tryd.ntmps24
  go_wp2_with fail
  refine (HO.out).mono ?_
  rintro e w' ⟨rfl, hb⟩
  have HB := Lib.hid hb
  clear hb
  go_wp2
  go_ret2
  exact ⟨rfl, HB.out⟩
theorem below_back {w wa wb : World} {db o : Nat} {v v0 : Value} {cs : Array Value} {T : TypeId} {fz : Nat × Nat} (h0 : w.heap[db]? = some (.cells cs T fz)) (h1 : Below w.heap.size w wa) (h2 : Below (wa.setCell ⟨db, o, none⟩ v).heap.size (wa.setCell ⟨db, o, none⟩ v) wb)
    (hcs : (cs.setIfInBounds o v).setIfInBounds o v0 = cs) : Below w.heap.size w (wb.setCell ⟨db, o, none⟩ v0) := by
  have hs1 := h1.size
  have hs2 := h2.size
  simp only [World.size_setCell] at hs2
  refine ⟨(show (wb.setCell _ _).os = _ from rfl).trans (h2.os.trans h1.os), (show (wb.setCell _ _).tape = _ from rfl).trans (h2.tape.trans h1.tape), (show (wb.setCell _ _).output = _ from rfl).trans (h2.output.trans h1.output), by simp; omega, fun k hk => ?_⟩
  have hdb := lt_of_heap h0
  by_cases hkd : k = db
  · subst hkd
    have ha : wa.heap[k]? = some (.cells cs T fz) := (h1.block k hk).trans h0
    have hb : wb.heap[k]? = some (.cells (cs.setIfInBounds o v) T fz) := (h2.block k (by simp; omega)).trans (heap_setCell' _ _ _ _ _ _ _ ha)
    rw [heap_setCell' _ _ _ _ _ _ _ hb, hcs, h0]
  · rw [Below.heap_setCell _ _ _ _ hkd, h2.block k (by simp; omega), Below.heap_setCell _ _ _ _ hkd]
    exact h1.block k hk
theorem Sit.set0 {w : World} {lb sb mb db : Nat} {d0 d1 : Bool} (h : Sit w lb sb mb db d0 d1) (b : Bool) : Sit (w.setCell ⟨db, 0, none⟩ (.bool b)) lb sb mb db b d1 := by
  have n1 : lb ≠ db := fun e => by have h1 := h.l; rw [e, h.d] at h1; simp [lcells] at h1
  have n2 : sb ≠ db := fun e => by have h1 := h.s; rw [e, h.d] at h1; simp at h1
  have n3 : mb ≠ db := fun e => by obtain ⟨es, ck, h1, _⟩ := h.m; rw [e, h.d] at h1; cases h1
  refine ⟨(Below.heap_setCell _ _ _ _ n1).trans h.l, (Below.heap_setCell _ _ _ _ n2).trans h.s, ?_, h.m.kept (Below.heap_setCell _ _ _ _ n3)⟩
  rw [heap_setCell' _ _ _ _ _ _ _ h.d]; rfl
theorem Sit.set1 {w : World} {lb sb mb db : Nat} {d0 d1 : Bool} (h : Sit w lb sb mb db d0 d1) (b : Bool) : Sit (w.setCell ⟨db, 1, none⟩ (.bool b)) lb sb mb db d0 b := by
  have n1 : lb ≠ db := fun e => by have h1 := h.l; rw [e, h.d] at h1; simp [lcells] at h1
  have n2 : sb ≠ db := fun e => by have h1 := h.s; rw [e, h.d] at h1; simp at h1
  have n3 : mb ≠ db := fun e => by obtain ⟨es, ck, h1, _⟩ := h.m; rw [e, h.d] at h1; cases h1
  refine ⟨(Below.heap_setCell _ _ _ _ n1).trans h.l, (Below.heap_setCell _ _ _ _ n2).trans h.s, ?_, h.m.kept (Below.heap_setCell _ _ _ _ n3)⟩
  rw [heap_setCell' _ _ _ _ _ _ _ h.d]; rfl
theorem Next_x (w : World) : Calls Tryd.prog 76 #[.agg #[], .string ⟨#[120]⟩, .string ⟨#[43]⟩] w fun e w' => e = .returned (.tuple #[.string ⟨#[49]⟩, .string ⟨#[120, 120]⟩]) ∧ Below w.heap.size w w' :=
  (Next_any ⟨#[120]⟩ ⟨#[43]⟩ w (by decide)).mono fun _ _ ⟨h, hb⟩ => ⟨h.trans (by kernel_rfl), hb⟩
theorem Next_0 (w : World) : Calls Tryd.prog 76 #[.agg #[], .string ⟨#[]⟩, .string ⟨#[43]⟩] w fun e w' => e = .returned (.tuple #[.string ⟨#[48]⟩, .string ⟨#[120]⟩]) ∧ Below w.heap.size w w' :=
  (Next_any ⟨#[]⟩ ⟨#[43]⟩ w (by decide)).mono fun _ _ ⟨h, hb⟩ => ⟨h.trans (by kernel_rfl), hb⟩
end Go.Proofs.YtaecjabehbhpfaaDoor
