/-
  fault.Where, fault.Path over whatever chain of faults that ends in a number. Conditions: errors.errorType reads as it is laid; the chain has at most 1000 faults, and the path's text fits.
-/
import Derived.Test.YtaecjabehbhpfaaDoorAs4
import Derived.Test.YtaecjabehbhpfaaDoorEWord
import Derived.Test.YtaecjabehbhpfaaDoorLib
namespace Go.Proofs.YtaecjabehbhpfaaDoor
open Go.RowKit
theorem Tryd.infoStr : (Tryd.prog.info? 9).map (fun i => (i.zero, i.size, i.bytes)) = some (some (.string ⟨#[]⟩), 1, 16) := by kernel_rfl
theorem strs_oneCell (l : List ByteArray) : ∀ u ∈ l.map Value.string, u.oneCell' = true := by
  intro u hu
  obtain ⟨s, _, rfl⟩ := List.mem_map.1 hu
  rfl
theorem cell_keep {w w' : World} {row : Option Nat} {b o : Nat} {v : Value} (h : w.grownBy w' row) (hne : row ≠ some b) (hc : w.cell? ⟨b, o, none⟩ = some v) : w'.cell? ⟨b, o, none⟩ = some v :=
  (World.cell?_of_block (a := ⟨b, o, none⟩) (h.block b (World.block_lt_of_cell? _ _ hc) (fun e => hne e.symm))).trans hc
theorem cell_more {w : World} {b o : Nat} {v : Value} (ob : Obj) (hc : w.cell? ⟨b, o, none⟩ = some v) : (w.alloc ob).cell? ⟨b, o, none⟩ = some v :=
  (World.cell?_alloc_lt _ _ ⟨b, o, none⟩ (World.block_lt_of_cell? _ _ hc)).trans hc
set_option maxRecDepth 100000 in
set_option maxHeartbeats 2000000 in
theorem Where_any (e : Err) (v : Value) (w : World) (hg : Glob w) (hv : ErrV w v e) (hd : e.depth ≤ 1000) :
    Calls Tryd.prog 10 #[v] w fun x w' => ∃ sv, x = .returned (.tuple #[sv, .int .i64 (e.pos (-1))]) ∧ w'.ownsRow w.heap.size 9 1 sv e.steps.length (e.steps.map Value.string) ∧ Below w.heap.size w w' := by
  obtain ⟨i0, hi, hz0, hz1, hz2⟩ := info_parts Tryd.infoStr
  have h0 := hg.lt
  have hsl : ∀ e : Err, e.steps.length = e.depth := fun e => by induction e with | num n => rfl | flt s p e ih => simp [Err.steps, Err.depth, ih]
  have HSL := Lib.hid hsl
  have HG := Lib.hid hg
  have HV := Lib.hid hv
  have HI := Lib.hid (And.intro hi (And.intro hz0 (And.intro hz1 hz2)))
  obtain ⟨q, hq⟩ : ∃ q, q = e.pos (-1) := ⟨_, rfl⟩
  rw [← hq]
  have HQ := Lib.hid hq
  clear hsl hg hv hi hz0 hz1 hz2 hq
  go_enter Tryd.func10, Tryd.ntmps10
  go_wp2_with fail
  go_loopg [0, 4, 5] (e.depth + 1) (fun k v0 v4 v5 wr => ∃ (e' : Err) (done : List ByteArray) (p : Int), v5 = .int .i64 p ∧ k = e'.depth + 1 ∧ Hid (ErrV w v0 e' ∧ done ++ e'.steps = e.steps ∧ e'.pos p = q) ∧ Hid (wr.ownsRow w.heap.size 9 1 v4 done.length (done.map Value.string)) ∧ Hid (Below w.heap.size w wr))
  case atStart => exact ⟨e, [], -1, rfl, rfl, ⟨HV.out, rfl, HQ.out.symm⟩, World.ownsRow_nil _ _ _ _, Below.refl _ _⟩
  case round =>
    obtain ⟨e', done, p, rfl, hk, HE, HO, HB⟩ := hrel
    subst hk
    have hB1 : Below w.heap.size w (wr.alloc (.cells #[.pointer none] 63)) := (HB.out).alloc (HB.out).size _
    have HG1 := Lib.hid (HG.out.below hB1 h0)
    have HT := Lib.hid (heap_alloc_new wr (.cells #[.pointer none] 63))
    cases e' with
    | num m =>
      obtain ⟨hv', hs, hp⟩ := HE.out
      obtain rfl := hv'
      obtain rfl : p = q := hp
      have HS := Lib.hid hs
      clear hs HE hB1
      go_wp2_with fail
      refine (As_flt_num m _ wr.heap.size HG1.out).mono ?_
      rintro y w' ⟨rfl, hb⟩
      have HB2 := Lib.hid hb
      clear hb
      go_wp2
      go_ret2
      have hs2 : done = e.steps := by have := HS.out; simpa [Err.steps] using this
      have hg1 : wr.grownBy w' none := by
        have hb := HB2.out
        refine ⟨hb.os, hb.tape, hb.output, ?_, fun k hk _ => ?_⟩
        · have := hb.size; simp at this; omega
        · rw [hb.block k (by simp; omega), heap_alloc_lt _ _ _ hk]
      refine ⟨u4, rfl, ?_, ?_⟩
      · rw [← hs2]; exact (HO.out).kept hg1 (by cases h : u4.ownBlock with | none => exact .inl rfl | some b => exact .inr (by simp))
      · exact ((HB.out).alloc (HB.out).size _).trans ((HB2.out).mono (by have := (HB.out).size; simp; omega))
    | flt s p' e'' =>
      obtain ⟨⟨b, ve, hv0, hb, he⟩, hs, hp⟩ := HE.out
      subst hv0
      have hbl0 := lt_of_heap hb
      have hbl : b < wr.heap.size := Nat.lt_of_lt_of_le hbl0 (HB.out).size
      have HX := Lib.hid (And.intro hb (And.intro he (And.intro hs hp)))
      clear hb he hs hp HE hB1
      go_wp2_with fail
      refine (As_flt b _ wr.heap.size _ HG1.out HT.out).mono ?_
      rintro y w' ⟨rfl, hk⟩
      have hbk : w'.heap[b]? = some (.cells #[.string s, .int .i64 p', ve] 66 (0, 0)) := by
        rw [hk.block b (by simp; omega) (by omega), heap_alloc_lt _ _ _ hbl, (HB.out).block b hbl0]; exact HX.out.1
      have c0 : w'.cell? ⟨wr.heap.size, 0, none⟩ = some (.pointer (some ⟨b, 0, none⟩)) := by rw [cell_of_heap hk.at_]; rfl
      have c1 : w'.cell? ⟨b, 0, none⟩ = some (.string s) := by rw [cell_of_heap hbk]; rfl
      have c2 : w'.cell? ⟨b, 1, none⟩ = some (.int .i64 p') := by rw [cell_of_heap hbk]; rfl
      have c3 : w'.cell? ⟨b, 2, none⟩ = some ve := by rw [cell_of_heap hbk]; rfl
      have hlt1 : wr.heap.size < w'.heap.size := lt_of_heap hk.at_
      have HK := Lib.hid hk
      have hg1 : wr.grownBy w' none := by
        refine ⟨hk.os, hk.tape, hk.output, by omega, fun k hk2 _ => ?_⟩
        rw [hk.block k (by simp; omega) (by omega), heap_alloc_lt _ _ _ hk2]
      have HO1 := Lib.hid ((HO.out).kept hg1 (by cases h : u4.ownBlock with | none => exact .inl rfl | some b => exact .inr (by simp)))
      have HB1 := Lib.hid ((HB.out).grown hg1 (HB.out).size (by simp))
      have hdl : done.length + 1 ≤ 1000 := by
        have h1 := HX.out.2.2.1; have h2 := HSL.out e
        have h3 := congrArg List.length h1; simp [Err.steps] at h3; omega
      clear hbk hk hg1
      have k1 : done.length + 1 ≤ maxLen := by unfold maxLen; omega
      have k2 : (done.length + 1) * 16 ≤ 140737488355328 := by omega
      have k3 : w.heap.size ≤ (w'.alloc (.cells #[.string s] 9)).heap.size := by have := (HB1.out).size; simp; omega
      have k4 : ∀ u ∈ [Value.string s], u.oneCell' = true := by simp [Value.oneCell']
      have hlt := (HO.out).lt
      have n0 : u4.ownBlock ≠ some wr.heap.size := fun e => by have := (hlt _ e).2; omega
      have n1 : u4.ownBlock ≠ some b := fun e => by have := (hlt _ e).1; omega
      have HN := Lib.hid hlt
      clear hlt
      go_wp2_with (at_builtin; refine wpList_append_own _ rfl _ _ 38 rfl w.heap.size 9 i0 (.string ⟨#[]⟩) 1 16 Tryd.underlying38 HI.out.1 HI.out.2.1 HI.out.2.2.1 HI.out.2.2.2 rfl (by decide) _ _ _ rfl ((HO1.out).alloc _) ⟨w'.heap.size, 0, none⟩ 1 1 [.string s] rfl rfl (cell_one_new _ _ _) k4 k1 k2 k3 ?_; intro v' w2 hown hgrow _; have d0 : w2.cell? ⟨wr.heap.size, 0, none⟩ = some (.pointer (some ⟨b, 0, none⟩)) := cell_keep hgrow n0 (cell_more _ c0); have d2 : w2.cell? ⟨b, 1, none⟩ = some (.int .i64 p') := cell_keep hgrow n1 (cell_more _ c2); have d3 : w2.cell? ⟨b, 2, none⟩ = some ve := cell_keep hgrow n1 (cell_more _ c3); have HO2 := Lib.hid hown; have HG2 := Lib.hid hgrow; clear hown hgrow)
      go_roundg (e''.depth + 1)
      case measure => simp [Err.depth]
      case rel =>
        refine ⟨e'', done ++ [s], p', rfl, rfl, ⟨HX.out.2.1, ?_, HX.out.2.2.2⟩, ?_, ?_⟩
        · have := HX.out.2.2.1; simpa [Err.steps] using this
        · have := HO2.out; show World.ownsRow _ _ _ _ _ _ _; simpa using this
        · exact ((HB1.out).alloc (HB1.out).size _).grown HG2.out (by have := (HB1.out).size; simp; omega) (fun k e => (HN.out k e).1)
theorem ownsRow_strs {w : World} {B : Nat} {v : Value} {n : Nat} {l : List ByteArray} (h : w.ownsRow B 9 1 v n (l.map Value.string)) (hn : n ≠ 0) :
    ∃ g c, v = .slice (some ⟨g, 0, none⟩) n c ∧ B ≤ g ∧ g < w.heap.size ∧ n ≤ c ∧ ∀ (j : Nat) x, l[j]? = some x → w.cell? ⟨g, 0 + j, none⟩ = some (.string x) := by
  obtain ⟨hl, h⟩ := h
  rcases h with ⟨_, h0⟩ | ⟨g, cap, cur, hv, hB, hg, hnc, _, hsz, hcur⟩
  · exact absurd h0 hn
  · refine ⟨g, cap, hv, hB, lt_of_heap hg, hnc, fun j x hx => ?_⟩
    rw [cell_of_heap hg, Nat.zero_add]
    have h1 : (l.map Value.string)[j]? = some (.string x) := by rw [List.getElem?_map, hx]; rfl
    rw [← hcur, List.getElem?_take] at h1
    split at h1
    · rw [← Array.getElem?_toList]; exact h1
    · cases h1
/-- The text of fault.Path. -/
def Err.path (e : Err) : ByteArray := ⟨(Lib.join ((e.steps ++ [ename e.no]).map (·.data.toList)) [47]).toArray⟩
set_option maxRecDepth 100000 in
set_option maxHeartbeats 2000000 in
theorem Path_any (e : Err) (v : Value) (w : World) (hg : Glob w) (hv : ErrV w v e) (hd : e.depth ≤ 1000) (hj : (Lib.join ((e.steps ++ [ename e.no]).map (·.data.toList)) [47]).length ≤ 140737488355328) :
    Calls Tryd.prog 14 #[v] w fun x w' => x = .returned (.string e.path) ∧ Below w.heap.size w w' := by
  obtain ⟨i0, hi, hz0, hz1, hz2⟩ := info_parts Tryd.infoStr
  have h0 := hg.lt
  have hsl : ∀ e : Err, e.steps.length = e.depth := fun e => by induction e with | num n => rfl | flt s p e ih => simp [Err.steps, Err.depth, ih]
  have k1 : e.steps.length + 1 ≤ maxLen := by unfold maxLen; rw [hsl]; omega
  have k2 : (e.steps.length + 1) * 16 ≤ 140737488355328 := by rw [hsl]; omega
  have hNN : (e.steps ++ [ename e.no]).length ≤ 140737488355328 := by simp; rw [hsl]; omega
  have HNN := Lib.hid hNN
  have HJ := Lib.hid hj
  have HG := Lib.hid hg
  have HV := Lib.hid hv
  have HI := Lib.hid (And.intro hi (And.intro hz0 (And.intro hz1 hz2)))
  obtain ⟨pt, hpt⟩ : ∃ pt, pt = e.path := ⟨_, rfl⟩
  rw [← hpt]
  have HP := Lib.hid hpt
  obtain ⟨nm, hnm⟩ : ∃ nm, nm = ename e.no := ⟨_, rfl⟩
  have HM := Lib.hid hnm
  have k4 : ∀ u ∈ [Value.string nm], u.oneCell' = true := by simp [Value.oneCell']
  clear hsl hg hv hi hz0 hz1 hz2 hpt hnm hj hNN
  go_enter Tryd.func14, Tryd.ntmps14
  go_wp2_with fail
  refine (Where_any e v w HG.out HV.out hd).mono ?_
  rintro y w1 ⟨sv, rfl, ho, hb⟩
  have HO := Lib.hid ho
  have HB := Lib.hid hb
  clear ho hb
  go_wp2_with fail
  refine (Of_err e v w1 (HG.out.below HB.out h0) (HV.out.below HB.out)).mono ?_
  rintro y w2 ⟨rfl, hb⟩
  have HB2 := Lib.hid hb
  clear hb
  go_wp2_with fail
  refine (Error_any _ w2).mono ?_
  rintro y w3 ⟨rfl, hb⟩
  have hg13 : w1.grownBy w3 none := by
    have h1 := HB2.out
    refine ⟨hb.os.trans h1.os, hb.tape.trans h1.tape, hb.output.trans h1.output, Nat.le_trans h1.size hb.size, fun k hk _ => ?_⟩
    rw [hb.block k (Nat.lt_of_lt_of_le hk h1.size), h1.block k hk]
  have HO3 := Lib.hid ((HO.out).kept hg13 (by cases h : sv.ownBlock with | none => exact .inl rfl | some b => exact .inr (by simp)))
  have HB3 := Lib.hid ((HB.out).grown hg13 (HB.out).size (by simp))
  rw [← HM.out]
  clear hb hg13
  have k3 : w.heap.size ≤ (w3.alloc (.cells #[.string nm] 9)).heap.size := by have := (HB3.out).size; simp; omega
  go_wp2_with (at_builtin; refine wpList_append_own _ rfl _ _ 38 rfl w.heap.size 9 i0 (.string ⟨#[]⟩) 1 16 Tryd.underlying38 HI.out.1 HI.out.2.1 HI.out.2.2.1 HI.out.2.2.2 rfl (by decide) _ _ _ rfl ((HO3.out).alloc _) ⟨w3.heap.size, 0, none⟩ 1 1 [.string nm] rfl rfl (cell_one_new _ _ _) k4 k1 k2 k3 ?_; intro v' w4 hown hgrow _; have HO4 := Lib.hid hown; have HG4 := Lib.hid hgrow; clear hown hgrow)
  obtain ⟨g, c, hv', hBg, hgl, hnc, hcells⟩ := ownsRow_strs (l := e.steps ++ [nm]) (by have := HO4.out; simpa using this) (by omega)
  rw [hv']
  have hlen : e.steps.length + 1 = (e.steps ++ [nm]).length := by simp
  rw [hlen] at hnc ⊢
  have HC := Lib.hid hcells
  have HE := Lib.hid (And.intro hv' hlen)
  clear hcells hv' hlen
  go_wp2_with fail
  refine (Go.Proofs.Tryd.strings_Join g 0 c (e.steps ++ [nm]) ⟨#[47]⟩ w4 HC.out hgl (by rw [HM.out]; exact HNN.out) hnc (by rw [HM.out]; exact HJ.out)).mono ?_
  rintro y w5 ⟨rfl, hb⟩
  have HB5 := Lib.hid hb
  clear hb
  go_wp2
  go_ret
  refine ⟨?_, ?_⟩
  · rw [HP.out, Err.path, ← HM.out]; simp
  · have h4 : Below w.heap.size w w4 := ((HB3.out).alloc (HB3.out).size _).grown HG4.out (by have := (HB3.out).size; simp; omega) (fun k e => ((HO3.out).lt k e).1)
    exact h4.trans ((HB5.out).mono h4.size)
end Go.Proofs.YtaecjabehbhpfaaDoor
