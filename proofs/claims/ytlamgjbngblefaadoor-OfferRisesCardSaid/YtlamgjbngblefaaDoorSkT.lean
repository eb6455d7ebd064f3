/-
  Configurations, identifiers of legs, and calls as plain data.
-/
import Derived.Test.YtlamgjbngblefaaDoorGl
namespace Go.Proofs.YtlamgjbngblefaaDoor.Dm
open Go Gw
set_option linter.unusedSimpArgs false

structure Cls where
  code : ByteArray
  prot : Int
def Cls.enc (r : Cls) : List D := [.str r.code, .int .i64 r.prot]
structure Cab where
  name : ByteArray
  seats : Int
  over : Int
  cls : List Cls
  clsx : Bool
def Cab.enc (r : Cab) : List D := [.str r.name, .int .i64 r.seats, .int .i64 r.over, .sl 2 (r.cls.map Cls.enc) r.clsx]
structure Cfg where
  equip : ByteArray
  cabs : List Cab
  cabsx : Bool
def Cfg.enc (r : Cfg) : List D := [.str r.equip, .sl 4 (r.cabs.map Cab.enc) r.cabsx]
structure Lid where
  c : ByteArray
  n : Int
  d : Int
  f : ByteArray
  deriving DecidableEq
def Lid.enc (r : Lid) : List D := [.str r.c, .int .i64 r.n, .int .i64 r.d, .str r.f]
structure Axn where
  kind : Int
  leg : Int
  more : Int
  eq : Int
  cl : Int
  n : Int
def Axn.enc (r : Axn) : List D := [.int .u8 r.kind, .int .u8 r.leg, .int .u8 r.more, .int .u8 r.eq, .int .u8 r.cl, .int .i8 r.n]
theorem Cls_pure (r : Cls) : pureL r.enc = true := by
  simp only [D.pure, pureL_cons, pureL_nil, Bool.and_true, Bool.and_self, Cls.enc]
theorem Clss_pure (l : List Cls) : pureLL (l.map Cls.enc) = true := by
  induction l with
  | nil => rfl
  | cons f fs ih => rw [List.map_cons, pureLL_cons, ih, Cls_pure]; rfl
theorem Cab_pure (r : Cab) : pureL r.enc = true := by
  simp only [D.pure, pureL_cons, pureL_nil, Bool.and_true, Bool.and_self, Cab.enc, Clss_pure]
theorem Cabs_pure (l : List Cab) : pureLL (l.map Cab.enc) = true := by
  induction l with
  | nil => rfl
  | cons f fs ih => rw [List.map_cons, pureLL_cons, ih, Cab_pure]; rfl
theorem Cfg_pure (r : Cfg) : pureL r.enc = true := by
  simp only [D.pure, pureL_cons, pureL_nil, Bool.and_true, Bool.and_self, Cfg.enc, Cabs_pure]
theorem Cfgs_pure (l : List Cfg) : pureLL (l.map Cfg.enc) = true := by
  induction l with
  | nil => rfl
  | cons f fs ih => rw [List.map_cons, pureLL_cons, ih, Cfg_pure]; rfl
theorem Lid_pure (r : Lid) : pureL r.enc = true := by
  simp only [D.pure, pureL_cons, pureL_nil, Bool.and_true, Bool.and_self, Lid.enc]
theorem Lids_pure (l : List Lid) : pureLL (l.map Lid.enc) = true := by
  induction l with
  | nil => rfl
  | cons f fs ih => rw [List.map_cons, pureLL_cons, ih, Lid_pure]; rfl
/-- What is said of data of this type. -/
def Cls.Ok (r : Cls) : Prop := r.code.size ≤ 9223372036854775807 ∧ (-9223372036854775808 ≤ r.prot ∧ r.prot ≤ 9223372036854775807) ∧ True
/-- What is said of data of this type. -/
def Cab.Ok (r : Cab) : Prop := r.name.size ≤ 9223372036854775807 ∧ (-9223372036854775808 ≤ r.seats ∧ r.seats ≤ 9223372036854775807) ∧ (-9223372036854775808 ≤ r.over ∧ r.over ≤ 9223372036854775807) ∧ ((∀ e ∈ r.cls, e.Ok) ∧ r.cls.length ≤ 9223372036854775807) ∧ True
/-- What is said of data of this type. -/
def Cfg.Ok (r : Cfg) : Prop := r.equip.size ≤ 9223372036854775807 ∧ ((∀ e ∈ r.cabs, e.Ok) ∧ r.cabs.length ≤ 9223372036854775807) ∧ True
/-- What is said of data of this type. -/
def Lid.Ok (r : Lid) : Prop := r.c.size ≤ 9223372036854775807 ∧ (-9223372036854775808 ≤ r.n ∧ r.n ≤ 9223372036854775807) ∧ (-9223372036854775808 ≤ r.d ∧ r.d ≤ 9223372036854775807) ∧ r.f.size ≤ 9223372036854775807 ∧ True
/-- What is said of data of this type. -/
def Axn.Ok (r : Axn) : Prop := (0 ≤ r.kind ∧ r.kind ≤ 255) ∧ (0 ≤ r.leg ∧ r.leg ≤ 255) ∧ (0 ≤ r.more ∧ r.more ≤ 255) ∧ (0 ≤ r.eq ∧ r.eq ≤ 255) ∧ (0 ≤ r.cl ∧ r.cl ≤ 255) ∧ (-128 ≤ r.n ∧ r.n ≤ 127) ∧ True
end Go.Proofs.YtlamgjbngblefaaDoor.Dm
