/-
  Places as plain data.
-/
import Derived.Test.YtgomkmamgflbeaaDoorGw
namespace Go.Proofs.YtgomkmamgflbeaaDoor.Dm
open Go Gw
set_option linter.unusedSimpArgs false

structure Shf where
  tm : Int
  off : Int
def Shf.enc (r : Shf) : List D := [.int .i64 r.tm, .int .i64 r.off]
structure Apt where
  code : ByteArray
  city : ByteArray
  ctry : ByteArray
  off : Int
  sh : List Shf
  shx : Bool
def Apt.enc (r : Apt) : List D := [.str r.code, .str r.city, .str r.ctry, .int .i64 r.off, .sl 2 (r.sh.map Shf.enc) r.shx]
structure Dst where
  fr : ByteArray
  to : ByteArray
  mi : Int
def Dst.enc (r : Dst) : List D := [.str r.fr, .str r.to, .int .i64 r.mi]
structure Plc where
  aps : List Apt
  apsx : Bool
  dts : List Dst
  dtsx : Bool
def Plc.enc (r : Plc) : List D := [.sl 5 (r.aps.map Apt.enc) r.apsx, .sl 3 (r.dts.map Dst.enc) r.dtsx]
/-- What is said of data of this type. -/
def Shf.Ok (r : Shf) : Prop := (-9223372036854775808 ≤ r.tm ∧ r.tm ≤ 9223372036854775807) ∧ (-9223372036854775808 ≤ r.off ∧ r.off ≤ 9223372036854775807) ∧ True
/-- What is said of data of this type. -/
def Apt.Ok (r : Apt) : Prop := r.code.size ≤ 9223372036854775807 ∧ r.city.size ≤ 9223372036854775807 ∧ r.ctry.size ≤ 9223372036854775807 ∧ (-9223372036854775808 ≤ r.off ∧ r.off ≤ 9223372036854775807) ∧ ((∀ e ∈ r.sh, e.Ok) ∧ r.sh.length ≤ 9223372036854775807) ∧ True
/-- What is said of data of this type. -/
def Dst.Ok (r : Dst) : Prop := r.fr.size ≤ 9223372036854775807 ∧ r.to.size ≤ 9223372036854775807 ∧ (-9223372036854775808 ≤ r.mi ∧ r.mi ≤ 9223372036854775807) ∧ True
/-- What is said of data of this type. -/
def Plc.Ok (r : Plc) : Prop := ((∀ e ∈ r.aps, e.Ok) ∧ r.aps.length ≤ 9223372036854775807) ∧ ((∀ e ∈ r.dts, e.Ok) ∧ r.dts.length ≤ 9223372036854775807) ∧ True
end Go.Proofs.YtgomkmamgflbeaaDoor.Dm
