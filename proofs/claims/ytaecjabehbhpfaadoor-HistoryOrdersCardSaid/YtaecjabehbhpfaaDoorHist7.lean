/-
  The law's own cut of the calls by its contract. Conditions: sizes.
-/
import Derived.Test.YtaecjabehbhpfaaDoorHist6
import Derived.Deep.RegionWith
import Derived.Maps.AppendAt
namespace Go.Proofs.YtaecjabehbhpfaaDoor
open Go.RowKit Go.Hd
/-- A call with short texts. -/
def cutC (c : C) : C := { c with ask := cut c.ask 3, ans := cut c.ans 3 }
/-- The calls that the law looks at. -/
def few (l : List C) : List C := (l.take 12).map cutC
theorem Tryd.infoCall : (Tryd.prog.info? 46).map (fun i => (i.zero, i.size, i.bytes)) = some (some (.agg #[.int .i64 0, .int .i64 0, .int .i64 0, .string ⟨#[]⟩, .string ⟨#[]⟩]), 5, 56) := by kernel_rfl
theorem Tryd.infoRCall : (Tryd.prog.info? 51).map (fun i => (i.zero, i.size, i.bytes)) = some (some (.agg #[.int .i64 0, .int .i64 0, .int .i64 0, .string ⟨#[]⟩, .string ⟨#[]⟩]), 5, 56) := by kernel_rfl
def rowC (l : List C) : List Value := (l.map (fun c => (cellsC c).toList)).flatten
theorem rowC_length (l : List C) : (rowC l).length = l.length * 5 := by
  induction l with
  | nil => rfl
  | cons c r ih => simp [rowC, cellsC] at ih ⊢; omega
theorem rowC_append (l : List C) (c : C) : rowC (l ++ [c]) = rowC l ++ (cellsC c).toList := by simp [rowC]
theorem rowC_get (l : List C) : ∀ (i : Nat) c, l[i]? = some c → ∀ (j : Nat) u, (cellsC c)[j]? = some u → (rowC l)[i * 5 + j]? = some u := by
  induction l with
  | nil => intro i c h; simp at h
  | cons d r ih =>
    intro i c hi j u hj
    have hj5 : j < 5 := by
      rcases Nat.lt_or_ge j 5 with h | h
      · exact h
      · rw [Array.getElem?_eq_none (by simpa [cellsC] using h)] at hj; cases hj
    have hr : rowC (d :: r) = (cellsC d).toList ++ rowC r := by simp [rowC]
    rw [hr]
    cases i with
    | zero =>
      simp at hi; subst hi
      rw [List.getElem?_append_left (by simpa [cellsC] using hj5)]
      simpa using hj
    | succ i =>
      rw [List.getElem?_append_right (by simp [cellsC]; omega)]
      have : (i + 1) * 5 + j - (cellsC d).toList.length = i * 5 + j := by simp [cellsC]; omega
      rw [this]
      exact ih i c (by simpa using hi) j u hj
/-- What the call owns as a row of calls reads as calls. -/
theorem callsAt_of_own {w : World} {B : Nat} {E : TypeId} {v : Value} {l : List C} (h : w.ownsRow B E 5 v l.length (rowC l)) : ∃ a c, v = .slice a l.length c ∧ CallsAt w a l := by
  obtain ⟨_, h⟩ := h
  rcases h with ⟨rfl, h0⟩ | ⟨g, cap, cur, hv, _, hg, _, _, _, hcur⟩
  · exact ⟨none, 0, by rw [h0], .inl (List.length_eq_zero_iff.1 h0)⟩
  · refine ⟨_, cap, hv, .inr ⟨g, 0, rfl, fun i c hi j u hj => ?_⟩⟩
    have h1 := rowC_get l i c hi j u hj
    rw [cell_of_heap hg]
    rw [← hcur, List.getElem?_take] at h1
    split at h1
    · rw [← Array.getElem?_toList, Nat.zero_add]; exact h1
    · cases h1
theorem news5 {w : World} {cs : Array Value} {T : TypeId} {n : Nat} (hn : n = w.heap.size) : ∀ (j : Nat) u, cs.toList[j]? = some u → (w.alloc (.cells cs T)).cell? (Addr.add ⟨n, 0, none⟩ j) = some u := by
  intro j u hu
  subst hn
  have : (Addr.add ⟨w.heap.size, 0, none⟩ j) = ⟨w.heap.size, j, none⟩ := by unfold Addr.add; split <;> simp_all
  rw [this, World.cell?_alloc_new, ← Array.getElem?_toList]; exact hu
theorem news5d {w : World} {cs : Array Value} {T : TypeId} {n : Nat} (hn : n = w.heap.size) : ∀ (j : Nat) u, cs.toList[j]? = some u → ((w.alloc (.cells cs T)).drew).cell? (Addr.add ⟨n, 0, none⟩ j) = some u := news5 hn
theorem heap_second (w : World) (o o2 : Obj) : ((w.alloc o).alloc o2).heap[w.heap.size]? = some o := by
  rw [heap_alloc_lt _ _ _ (by simp)]; exact heap_alloc_new _ _
theorem few_step {l : List C} {i : Nat} {x : C} (hlt : i < l.length) (h12 : i < 12) (hx : x = l[i]) : rowC (few (l.take (i + 1))) = rowC (few (l.take i)) ++ [.int .i64 x.who, .int .i64 x.fr, .int .i64 x.to, .string (cut x.ask 3), .string (cut x.ans 3)] := by
  have h1 : few (l.take (i + 1)) = few (l.take i) ++ [cutC x] := by
    unfold few
    rw [List.take_take, List.take_take, Nat.min_eq_right (by omega), Nat.min_eq_right (by omega), List.take_succ_eq_append_getElem hlt, List.map_append, hx]
    rfl
  rw [h1, rowC_append]
  rfl
set_option maxRecDepth 100000 in
set_option maxHeartbeats 4000000 in
theorem Calls_any (a : Option Addr) (l : List C) (c : Nat) (w : World) (hl : CallsAt w a l) (hsz : ∀ x ∈ l, x.ask.size ≤ maxLen ∧ x.ans.size ≤ maxLen) (hln : l.length ≤ maxLen) :
    Calls Tryd.prog 5 #[.slice a l.length c, .int .i64 12] w fun e w' => ∃ v1 v2, e = .returned (.tuple #[v1, v2]) ∧ w'.ownsRow w.heap.size 46 5 v1 (few l).length (rowC (few l)) ∧ w'.ownsRow w.heap.size 51 5 v2 (few l).length (rowC (few l)) ∧ Below w.heap.size w w' := by
  obtain ⟨i0, hi, hz0, hz1, hz2⟩ := info_parts Tryd.infoCall
  obtain ⟨i1, ki, kz0, kz1, kz2⟩ := info_parts Tryd.infoRCall
  have HI := Lib.hid (And.intro hi (And.intro hz0 (And.intro hz1 hz2)))
  have HK := Lib.hid (And.intro ki (And.intro kz0 (And.intro kz1 kz2)))
  have HL := Lib.hid hl
  have HS := Lib.hid hsz
  unfold maxLen at hln
  clear hl hsz hi hz0 hz1 hz2 ki kz0 kz1 kz2
  go_enter Tryd.func5, Tryd.ntmps5
  go_wp2_with fail
  go_loopg [6, 7, 8] (l.length + 1) (fun k v6 v7 v wr => ∃ i : Nat, i ≤ 12 ∧ i ≤ l.length ∧ v = .int .i64 i ∧ k = l.length - i + 1 ∧ Hid (wr.ownsRow w.heap.size 46 5 v6 i (rowC (few (l.take i)))) ∧ Hid (wr.ownsRow w.heap.size 51 5 v7 i (rowC (few (l.take i)))) ∧ Hid (v6.ownBlock ≠ v7.ownBlock) ∧ Hid (Below w.heap.size w wr))
  case atStart =>
    refine ⟨0, by omega, by omega, rfl, rfl, ?_, ?_, ?_, ?_⟩
    · exact ((World.ownsRow_lit (size := 5) w #[] 0 (Nat.le_refl _) (by unfold maxLen; omega) rfl)).alloc _
    · have h := World.ownsRow_lit (base := w.heap.size) (e := 51) (size := 5) (w.alloc (.cells #[] 46)) #[] 0 (by simp) (by unfold maxLen; omega) rfl
      rw [World.size_alloc] at h
      exact h
    · show (some w.heap.size : Option Nat) ≠ some (w.heap.size + 1)
      simp
    · exact below_of (below_of (Below.refl _ _) _) _
  case round =>
    obtain ⟨i, hi12, hi, rfl, hk, H6, H7, HNE, HB⟩ := hrel
    subst hk
    have hsz := (HB.out).size
    by_cases hlt : i < l.length
    · by_cases h12 : i < 12
      · obtain ⟨b, o, rfl, p0, p1, p2, p3, p4⟩ := (HL.out.below HB.out).at hlt
        obtain ⟨x, hx⟩ : ∃ x, x = l[i] := ⟨_, rfl⟩
        rw [← hx] at p0 p1 p2 p3 p4
        have hss := HS.out x (by rw [hx]; exact List.getElem_mem hlt)
        have hC1 := fun W => Cut_any x.ask 3 W (by omega) hss.1
        have hC2 := fun W => Cut_any x.ans 3 W (by omega) hss.2
        have HX := Lib.hid hx
        have HC1 := Lib.hid hC1
        have HC2 := Lib.hid hC2
        clear hx hss hC1 hC2
        go_wp2_with fail
        go_region_with (first | (go_at_call_of 15 (x.ask); refine (HC1.out _).mono ?_; rintro e w' ⟨rfl, rfl⟩) | (go_at_call_of 15 (x.ans); refine (HC2.out _).mono ?_; rintro e w' ⟨rfl, rfl⟩))
        all_goals
          have k1 : i + 1 ≤ maxLen := by unfold maxLen; omega
          have k2 : (i + 1) * 56 ≤ 140737488355328 := by omega
          have HN := Lib.hid (And.intro (H6.out).lt (H7.out).lt)
          have c5 : ∀ u ∈ [Value.int .i64 x.who, .int .i64 x.fr, .int .i64 x.to, .string (cut x.ask 3), .string (cut x.ans 3)], u.oneCell' = true := by simp [Value.oneCell']
          have HB1 := Lib.hid (below_of (below_of (HB.out).drew (.cells (cellsC (cutC x)) 46)) (.cells (cellsC (cutC x)) 46))
          unfold cellsC cutC at HB1
          have n7 : u7.ownBlock ≠ some wr.heap.size := fun e => by have := (HN.out.2 _ e).2; omega
          have n6 : u6.ownBlock ≠ some wr.heap.size := fun e => by have := (HN.out.1 _ e).2; omega
          have N67 := Lib.hid (And.intro n6 n7)
          clear n6 n7
          go_wp2_with (first | (at_builtin; refine wpList_append_own_at _ rfl _ _ 22 rfl w.heap.size 46 i0 _ 5 56 Tryd.underlying22 HI.out.1 HI.out.2.1 HI.out.2.2.1 HI.out.2.2.2 rfl (by decide) _ _ _ rfl (((H6.out).alloc _).alloc _).drew ⟨wr.heap.size + 1, 0, none⟩ 1 1 [.int .i64 x.who, .int .i64 x.fr, .int .i64 x.to, .string (cut x.ask 3), .string (cut x.ans 3)] rfl rfl (news5d (by simp)) c5 k1 k2 (by simp <;> omega) ?_; intro v6' w1 hown1 hgrow1 _ hloc1; have hbk : w1.heap[wr.heap.size]? = some (.cells #[.int .i64 x.who, .int .i64 x.fr, .int .i64 x.to, .string (cut x.ask 3), .string (cut x.ans 3)] 46 (0, 0)) := (hgrow1.block _ (by simp <;> omega) (fun e => N67.out.1 e.symm)).trans (heap_second _ _ _); have q0 : w1.cell? ⟨wr.heap.size, 0, none⟩ = some (.int .i64 x.who) := (cell_of_heap hbk _); have q1 : w1.cell? ⟨wr.heap.size, 1, none⟩ = some (.int .i64 x.fr) := (cell_of_heap hbk _); have q2 : w1.cell? ⟨wr.heap.size, 2, none⟩ = some (.int .i64 x.to) := (cell_of_heap hbk _); have q3 : w1.cell? ⟨wr.heap.size, 3, none⟩ = some (.string (cut x.ask 3)) := (cell_of_heap hbk _); have q4 : w1.cell? ⟨wr.heap.size, 4, none⟩ = some (.string (cut x.ans 3)) := (cell_of_heap hbk _); have HO1 := Lib.hid hown1; have HG1 := Lib.hid hgrow1; have HL1 := Lib.hid hloc1; have HO7 := Lib.hid (World.ownsRow.kept ((((H7.out).alloc _).alloc _).drew) hgrow1 (.inr (fun e => HNE.out e.symm))); have hsz1 := hgrow1.size; clear hown1 hgrow1 hloc1 hbk) | (at_builtin; refine wpList_append_own_at _ rfl _ _ 25 rfl w.heap.size 51 i1 _ 5 56 Tryd.underlying25 HK.out.1 HK.out.2.1 HK.out.2.2.1 HK.out.2.2.2 rfl (by decide) _ _ _ rfl ((HO7.out).alloc _) ⟨w1.heap.size, 0, none⟩ 1 1 [.int .i64 x.who, .int .i64 x.fr, .int .i64 x.to, .string (cut x.ask 3), .string (cut x.ans 3)] rfl rfl (news5 (by simp)) c5 k1 k2 (by simp at hsz1; simp <;> omega) ?_; intro v7' w2 hown2 hgrow2 _ hloc2; have HO2 := Lib.hid hown2; have HG2 := Lib.hid hgrow2; have HL2 := Lib.hid hloc2; clear hown2 hgrow2 hloc2))
          go_roundg (l.length - i)
          case measure => omega
          case rel =>
            have hs1 := hsz1
            simp at hs1
            have hne : v6'.ownBlock ≠ u7.ownBlock := by
              rcases HL1.out with h | h
              · rw [h]; exact HNE.out
              · rw [h]; intro e; have := (HN.out.2 _ e.symm).2; simp at this; omega
            refine ⟨i + 1, by omega, by omega, by go_num, by omega, ?_, ?_, ?_, ?_⟩
            · have h1 := (HO1.out).alloc (.cells #[.int .i64 x.who, .int .i64 x.fr, .int .i64 x.to, .string (cut x.ask 3), .string (cut x.ans 3)] 51)
              have h2 := h1.kept HG2.out (.inr hne)
              have h3 : rowC (few (l.take (i + 1))) = rowC (few (l.take i)) ++ [.int .i64 x.who, .int .i64 x.fr, .int .i64 x.to, .string (cut x.ask 3), .string (cut x.ans 3)] := few_step hlt h12 HX.out
              rw [h3]; exact h2
            · have h3 : rowC (few (l.take (i + 1))) = rowC (few (l.take i)) ++ [.int .i64 x.who, .int .i64 x.fr, .int .i64 x.to, .string (cut x.ask 3), .string (cut x.ans 3)] := few_step hlt h12 HX.out
              rw [h3]; exact HO2.out
            · show v6'.ownBlock ≠ v7'.ownBlock
              rcases HL2.out with h | h
              · rw [h]; exact hne
              · rw [h]; intro e
                rcases HL1.out with h' | h'
                · rw [h'] at e; have := (HN.out.1 _ e).2; simp at this; omega
                · rw [h'] at e; simp at e; omega
            · have hb1 : Below w.heap.size w w1 := (HB1.out).grown HG1.out (by simp; omega) (fun k e => (HN.out.1 k e).1)
              exact (below_of hb1 _).grown HG2.out (by simp; omega) (fun k e => (HN.out.2 k e).1)
      · obtain rfl : i = 12 := by omega
        have HF : Hid (few (l.take 12) = few l) := by
          show _ = _
          unfold few; rw [List.take_take]; rfl
        have HFL : Hid ((few l).length = 12) := by
          show _ = _
          unfold few; rw [List.length_map, List.length_take]; omega
        go_wp2
        go_ret2
        refine ⟨_, _, rfl, ?_, ?_, HB.out⟩
        · rw [HFL.out, ← HF.out]; exact H6.out
        · rw [HFL.out, ← HF.out]; exact H7.out
    · obtain rfl : i = l.length := by omega
      have HF : Hid (few (l.take l.length) = few l) := by
        show _ = _
        rw [List.take_length]
      have HFL : Hid ((few l).length = l.length) := by
        show _ = _
        unfold few; rw [List.length_map, List.length_take]; omega
      go_wp2
      go_ret2
      refine ⟨_, _, rfl, ?_, ?_, HB.out⟩
      · rw [HFL.out, ← HF.out]; exact H6.out
      · rw [HFL.out, ← HF.out]; exact H7.out
end Go.Proofs.YtaecjabehbhpfaaDoor
