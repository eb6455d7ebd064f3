/-
  The inventory of seats as plain data: configurations, what is left in a class, calls.
-/
import Derived.Test.YtlamgjbngblefaaDoorSkT
namespace Go.Proofs.YtlamgjbngblefaaDoor.Dm
open Go Gw

theorem ba_eq_iff (x y : ByteArray) : x.data.toList = y.data.toList ↔ x = y := by
  constructor
  · intro h
    cases x; cases y
    simpa using h
  · rintro rfl; rfl
/-- Texts are equal where their bytes are. -/
theorem str_eq (x y : ByteArray) : (x.toList == y.toList) = decide (x = y) := by
  rw [Bool.eq_iff_iff, beq_iff_eq, decide_eq_true_eq, ByteArray.toList_eq, ByteArray.toList_eq, ba_eq_iff]
theorem str_eq' (x y : ByteArray) : (x == y) = decide (x = y) := by
  obtain ⟨x⟩ := x
  obtain ⟨y⟩ := y
  rw [Bool.eq_iff_iff, decide_eq_true_eq]
  show ((x == y) = true) ↔ _
  rw [beq_iff_eq, ByteArray.mk.injEq]

/-! ### Configurations -/
def rankF (cl : ByteArray) : Nat → List Cls → Option Nat
  | _, [] => none
  | k, z :: l => if z.code = cl then some k else rankF cl (k + 1) l
def placeF (cl : ByteArray) : Nat → List Cab → Option (Nat × Nat)
  | _, [] => none
  | i, y :: l => match rankF cl 0 y.cls with
    | some k => some (i, k)
    | none => placeF cl (i + 1) l
def findF (l : List Cfg) (e : ByteArray) : Option Cfg := l.find? fun x => decide (x.equip = e)
def autF (c : Cab) : Int := c.seats + c.over
/-- The booking limit of class i. -/
def limF (c : Cab) (i : Nat) : Int := match i with
  | 0 => autF c
  | i + 1 => autF c - ((c.cls[i]?).map (·.prot)).getD 0
/-- What is left below a limit, its class alone. -/
def spF (c : Cab) (sold : List Int) (i : Nat) : Int := limF c i - (sold.drop i).sum
/-- The least of what is left in the classes up to i. -/
def avF (c : Cab) (sold : List Int) : Nat → Int
  | 0 => spF c sold 0
  | i + 1 => min (avF c sold i) (spF c sold (i + 1))
def excF (c : Cab) (sold : List Int) : Nat → Int
  | 0 => 0
  | i + 1 => max (excF c sold i) (-(spF c sold i))
/-- The class that takes the place of a class. -/
def likeF (a b : List Cab) (cl : ByteArray) : Option ByteArray :=
  match placeF cl 0 a with
  | none => none
  | some (i, _) => match placeF cl 0 b with
    | some _ => some cl
    | none => match b[min i (b.length - 1)]? with
      | none => none
      | some y => (y.cls.getLast?).map (·.code)

/-! ### Legs -/
structure Leg where
  cfg : Cfg
  closed : Bool
  sold : List (List Int)
structure Stk where
  l : List Cfg
  x : Bool
  legs : List (Lid × Leg)
def getL (legs : List (Lid × Leg)) (id : Lid) : Option Leg := (legs.find? fun p => decide (p.1 = id)).map (·.2)
def updL (legs : List (Lid × Leg)) (id : Lid) (f : Leg → Leg) : List (Lid × Leg) := legs.map fun p => if p.1 = id then (p.1, f p.2) else p
def addAt (t : List (List Int)) (i k : Nat) (n : Int) : List (List Int) := t.modify i fun r => r.modify k (· + n)
def soldAt (t : List (List Int)) (i k : Nat) : Int := ((t[i]?).bind (·[k]?)).getD 0
def emptyF (c : Cfg) : List (List Int) := c.cabs.map fun y => List.replicate y.cls.length 0
def leftF (x : Leg) (cl : ByteArray) : Int := match placeF cl 0 x.cfg.cabs with
  | none => 0
  | some (i, k) => match x.cfg.cabs[i]?, x.sold[i]? with
    | some y, some r => max 0 (avF y r k)
    | _, _ => 0
def Stk.get (s : Stk) (id : Lid) : Option Leg := getL s.legs id
def Stk.left (s : Stk) (id : Lid) (cl : ByteArray) : Int := match s.get id with
  | none => 0
  | some x => if x.closed then 0 else leftF x cl
def freeF (x : Leg) (cl : ByteArray) : Int := match placeF cl 0 x.cfg.cabs with
  | none => 0
  | some (i, _) => match x.cfg.cabs[i]?, x.sold[i]? with
    | some y, some r => max (autF y - r.sum) 0
    | _, _ => 0
def Stk.free (s : Stk) (id : Lid) (cl : ByteArray) : Int := match s.get id with
  | none => 0
  | some x => freeF x cl
/-- The errors that sales and cancellations have in common. -/
def Stk.named (s : Stk) (ids : List Lid) (cl : ByteArray) (n : Int) (sale : Bool) : Int :=
  if n < 1 ∨ ids = [] then 2
  else if ¬ ids.Nodup then 6
  else if ids.any (fun id => (s.get id).isNone) then 7
  else if sale && ids.any (fun id => ((s.get id).map (·.closed)).getD false) then 10
  else if ids.any (fun id => ((s.get id).bind fun x => placeF cl 0 x.cfg.cabs).isNone) then 16
  else 0
def addL (cl : ByteArray) (n : Int) (x : Leg) : Leg := match placeF cl 0 x.cfg.cabs with
  | none => x
  | some (i, k) => { x with sold := addAt x.sold i k n }
def addIds (cl : ByteArray) (n : Int) : List Lid → List (Lid × Leg) → List (Lid × Leg)
  | [], legs => legs
  | id :: ids, legs => addIds cl n ids (updL legs id (addL cl n))
def Stk.sell (s : Stk) (ids : List Lid) (cl : ByteArray) (n : Int) : Int × Stk :=
  if s.named ids cl n true ≠ 0 then (s.named ids cl n true, s)
  else if ids.any (fun id => decide (((s.get id).map (leftF · cl)).getD 0 < n)) then (17, s)
  else (0, { s with legs := addIds cl n ids s.legs })
def soldF (x : Leg) (cl : ByteArray) : Int := match placeF cl 0 x.cfg.cabs with
  | none => 0
  | some (i, k) => soldAt x.sold i k
def Stk.cancel (s : Stk) (ids : List Lid) (cl : ByteArray) (n : Int) : Int × Stk :=
  if s.named ids cl n false ≠ 0 then (s.named ids cl n false, s)
  else if ids.any (fun id => decide (((s.get id).map (soldF · cl)).getD 0 < n)) then (2, s)
  else (0, { s with legs := addIds cl (-n) ids s.legs })
def Stk.open (s : Stk) (id : Lid) (e : ByteArray) : Int × Stk :=
  if (s.get id).isSome then (6, s) else match findF s.l e with
    | none => (7, s)
    | some c => (0, { s with legs := s.legs ++ [(id, ⟨c, false, emptyF c⟩)] })
def Stk.close (s : Stk) (id : Lid) : Int × Stk :=
  match s.get id with
  | none => (7, s)
  | some x => if x.closed then (10, s) else (0, { s with legs := updL s.legs id fun x => { x with closed := true } })
/-- The classes of a cabin, up to a rank; of a configuration, up to a cabin: by cabin and rank. -/
def slJ (c : Nat) (y : Cab) : Nat → List (Nat × Nat × Cls)
  | 0 => []
  | j + 1 => slJ c y j ++ match y.cls[j]? with
    | some z => [(c, j, z)]
    | none => []
def slC (cabs : List Cab) : Nat → List (Nat × Nat × Cls)
  | 0 => []
  | c + 1 => slC cabs c ++ match cabs[c]? with
    | some y => slJ c y y.cls.length
    | none => []
def slotsF (c : Cfg) : List (Nat × Nat × Cls) := slC c.cabs c.cabs.length
/-- Where the seats of a class go. -/
def toF (a b : Cfg) (cl : ByteArray) : Nat × Nat := (placeF ((likeF a.cabs b.cabs cl).getD (ByteArray.mk #[])) 0 b.cabs).getD (0, 0)
def moveF (a b : Cfg) (old : List (List Int)) (t : List (List Int)) (q : Nat × Nat × Cls) : List (List Int) := addAt t (toF a b q.2.2.code).1 (toF a b q.2.2.code).2 (soldAt old q.1 q.2.1)
def resizeF (x : Leg) (b : Cfg) : Leg := { x with cfg := b, sold := (slotsF x.cfg).foldl (moveF x.cfg b x.sold) (emptyF b) }
def Stk.resize (s : Stk) (id : Lid) (e : ByteArray) : Int × Stk :=
  match s.get id, findF s.l e with
  | some _, some b => (0, { s with legs := updL s.legs id (resizeF · b) })
  | _, _ => (7, s)
def countsF (x : Leg) : List (ByteArray × Int) := (slotsF x.cfg).map fun q => (q.2.2.code, soldAt x.sold q.1 q.2.1)
def Stk.counts (s : Stk) (id : Lid) : List (ByteArray × Int) := match s.get id with
  | none => []
  | some x => countsF x
def excL (x : Leg) : Int := (x.cfg.cabs.zip x.sold).foldl (fun m p => max m (excF p.1 p.2 p.2.length)) 0
def Stk.excess (s : Stk) (id : Lid) : Int := match s.get id with
  | none => 0
  | some x => excL x
def Stk.equip (s : Stk) (id : Lid) : Option ByteArray := (s.get id).map (·.cfg.equip)
end Go.Proofs.YtlamgjbngblefaaDoor.Dm
