/-
  The plain side of HistoryOrders: calls, orders, what is wrong with an order, and a counter's replay. No program in sight.
-/
namespace Go.Hd
/-- A call, as plain data. -/
structure C where
  who : Int
  fr : Int
  to : Int
  ask : ByteArray
  ans : ByteArray
/-- Is a call answered ahead of another one's beginning? -/
def aheadB (a b : C) : Bool := decide (0 ≤ a.to) && decide (a.to < b.fr)
/-- The first place of an order that stands for no call, or for one again. -/
def ph1 (n : Nat) : List Int → List Int → Nat → Option (Nat × Int)
  | _, [], _ => none
  | seen, i :: r, k => if i < 0 ∨ (n : Int) ≤ i then some (k, 6) else if i ∈ seen then some (k, 9) else ph1 n (seen ++ [i]) r (k + 1)
/-- The first call that is answered and stands in no place. -/
def ph2 (os : List Int) : List C → Nat → Option (Nat × Int)
  | [], _ => none
  | c :: r, k => if 0 ≤ c.to ∧ (k : Int) ∉ os then some (k, 8) else ph2 os r (k + 1)
/-- Is the call at j answered ahead of the beginning of the one at i? -/
def hitB (l : List C) (i j : Int) : Bool := match l[j.toNat]?, l[i.toNat]? with | some a, some b => aheadB a b | _, _ => false
/-- The first place whose call begins behind a later one's answer. -/
def ph3 (l : List C) : List Int → Nat → Option (Nat × Int)
  | [], _ => none
  | i :: r, k => if r.any (hitB l i) then some (k, 18) else ph3 l r (k + 1)
def ordErr (l : List C) (os : List Int) : Option (Nat × Int) :=
  match ph1 l.length [] os 0 with
  | some e => some e
  | none => match ph2 os l 0 with
    | some e => some e
    | none => ph3 l os 0
theorem ph1_none {n : Nat} : ∀ {seen os : List Int} {k : Nat}, ph1 n seen os k = none → ∀ i ∈ os, 0 ≤ i ∧ i < n
  | _, [], _, _, i, hi => by simp at hi
  | seen, j :: r, k, h, i, hi => by
    unfold ph1 at h
    split at h
    · cases h
    · split at h
      · cases h
      · rename_i h1 h2
        rcases List.mem_cons.1 hi with rfl | hi
        · omega
        · exact ph1_none h i hi
end Go.Hd
