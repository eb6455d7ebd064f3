/-
  The machine at the values of coupons: what the accounts are held against.
-/
import Derived.Test.YteffefjkcappbaaDoorWq
namespace Go.Proofs.YteffefjkcappbaaDoor.Dm
open Go
set_option linter.unusedSimpArgs false

theorem set_last {α : Type} {l : List α} {x y : α} : (l ++ [x]).set l.length y = l ++ [y] := by simp
theorem get_last {α : Type} {l : List α} {x : α} : (l ++ [x])[l.length]? = some x := by simp
structure Cpn where
  w1 : ByteArray
  w2 : Int
  w3 : Int
  w4 : ByteArray
  w5 : ByteArray
  w6 : Int
  w7 : Int
  w8 : ByteArray
  w9 : ByteArray
  st : Int
  v : Int
def Cpn.enc (c : Cpn) : List D := [.str c.w1, .int .i64 c.w2, .int .i64 c.w3, .str c.w4, .str c.w5, .int .i64 c.w6, .int .i64 c.w7, .str c.w8, .str c.w9, .int .i64 c.st, .int .i64 c.v]
structure Tkt where
  n : Int
  l : ByteArray
  a : ByteArray
  b : ByteArray
  c : ByteArray
  cs : D
  f : Int
  tx : D
  tot : Int
  iss : Int
  cps : List Cpn
  hx : tx = .nils ∨ ∃ sz es y, tx = .sl sz es y
  hc : (cs = .nils ∧ cps = []) ∨ ∃ x, cs = .sl 11 (cps.map Cpn.enc) x
def Tkt.enc (t : Tkt) : List D := [.int .i64 t.n, .str t.l, .str t.a, .str t.b, .str t.c, t.cs, .int .i64 t.f, t.tx, .int .i64 t.tot, .int .i64 t.iss]
def badV (c : Cpn) : Prop := c.v < 0 ∨ 1099511627776 < c.v
instance (c : Cpn) : Decidable (badV c) := inferInstanceAs (Decidable (_ ∨ _))
def addV (s : Int) (c : Cpn) : Int := if 1 ≤ c.st ∧ c.st ≤ 4 then IntKind.i64.wrap (s + c.v) else s
def valC (s : Int) : List Cpn → Option Int
  | [] => some s
  | c :: l => if badV c then none else valC (addV s c) l
def Tkt.six (t : Tkt) : List Cpn := t.cps.take (min t.cps.length 6)
def valT (s : Int) : List Tkt → Option Int
  | [] => some s
  | t :: l => match valC s t.six with
    | none => none
    | some s' => valT s' l
def valD : Option Int → D
  | none => .tup [.int .i64 0, .bool false]
  | some s => .tup [.int .i64 s, .bool true]
theorem drop_at {α : Type} {l : List α} {i : Nat} {x : α} (h : l[i]? = some x) : l.drop i = x :: l.drop (i + 1) := by
  obtain ⟨hl, hx⟩ := List.getElem?_eq_some_iff.1 h
  rw [← hx]
  exact List.drop_eq_getElem_cons hl
end Go.Proofs.YteffefjkcappbaaDoor.Dm
