/-
  The card of HistoryOrders: the row, its listed variables tied to the program's text.
-/
import Derived.Test.YtaecjabehbhpfaaDoorHistRow
import Derived.Test.YtaecjabehbhpfaaDoorTie
import Derived.Test.YtaecjabehbhpfaaDoorCards
import Derived.SevenTiedAt
namespace Go.Proofs.YtaecjabehbhpfaaDoor
open Go
theorem historyOrders_card : Rows.HistoryOrdersCardSaid :=
  Claim7.holds_tied_plain_at .later [] [.data, .data, .data, .handle] true (true, "b1335a9fb9f79814cb3e213ee5844ce157c2a71debae2d1b36361158dc09c815") true
    said (fun _ h => by cases h) (by kernel_rfl) (fun _ h => by cases h) historyOrders_row_tie rfl ⟨rfl, rfl⟩ (by kernel_rfl) rfl
    (fun f fn hf hfn => by
      obtain rfl : f = 3 := Option.some.inj ((show Tryd.prog.funcNamed "hindsight/hindsightlaw19.HistoryOrders" = some 3 by kernel_rfl).symm.trans hf) |>.symm
      obtain rfl : fn = Tryd.f3 := (Option.some.inj (Tryd.func3.symm.trans hfn)).symm
      exact ⟨by kernel_rfl, fun j t ht => by
        rw [Tryd.params3] at ht
        have h3 : t = 22 ∨ t = 23 := by
          rcases j with _ | _ | j
          · exact .inl (by simpa using ht.symm)
          · exact .inr (by simpa using ht.symm)
          · simp at ht
        rcases h3 with rfl | rfl
        · exact (show Tryd.prog.wantsStandIn 22 = false by kernel_rfl)
        · exact (show Tryd.prog.wantsStandIn 23 = false by kernel_rfl)⟩)
    (by kernel_rfl)
#print axioms historyOrders_card
end Go.Proofs.YtaecjabehbhpfaaDoor
