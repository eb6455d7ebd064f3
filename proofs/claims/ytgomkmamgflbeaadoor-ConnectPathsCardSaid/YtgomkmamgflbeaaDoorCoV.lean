/-
  The machine at the check of a journey: Valid, the program's and the reference's.
-/
import Derived.Test.YtgomkmamgflbeaaDoorPlA
import Derived.Test.YtgomkmamgflbeaaDoorCoE
namespace Go.Proofs.YtgomkmamgflbeaaDoor.Dm
open Go Gw
set_option linter.unusedSimpArgs false

def isF (p : Plc) (s : ByteArray) : Bool := (p.aps.find? fun a => a.code.toList == s.toList).isSome
/-- The error of a segment behind another one. -/
def stepE (p : Plc) (l : List Cnn) (a b : Sgm) : Int :=
  if (a.t.toList == b.f.toList) = true then (if b.dep - a.arr < minL a.t a.c b.c l then 13 else 0)
  else if ((cityS p a.t).toList == (cityS p b.f).toList) = true then (if b.dep - a.arr < 240 then 13 else 0) else 15
/-- The error of a segment with the one ahead of it. -/
def vstep (p : Plc) (l : List Cnn) (pr : Option Sgm) (s : Sgm) : Int :=
  if isF p s.f = false ∨ isF p s.t = false then 14 else if s.arr ≤ s.dep then 13 else match pr with
  | none => 0
  | some a => stepE p l a s
def validF (p : Plc) (l : List Cnn) : Option Sgm → List Sgm → Int
  | _, [] => 0
  | pr, s :: r => if vstep p l pr s = 0 then validF p l (some s) r else vstep p l pr s
def validE (p : Plc) (l : List Cnn) (segs : List Sgm) : Int := if segs.length < 1 ∨ 6 < segs.length then 4 else validF p l none segs
def prv (segs : List Sgm) : Nat → Option Sgm
  | 0 => none
  | i + 1 => segs[i]?
end Go.Proofs.YtgomkmamgflbeaaDoor.Dm
