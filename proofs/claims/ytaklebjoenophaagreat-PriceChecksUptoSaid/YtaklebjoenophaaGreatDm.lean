/-
  A machine on plain data: values without addresses, a store of the call's own rows and maps, and a run of the program's code over them, for all orders alike. No program in sight.
-/
import Derived.WalkKit
set_option linter.unusedSimpArgs false
set_option linter.unusedVariables false
namespace Go.Proofs.YtaklebjoenophaaGreat.Dm
open Go
theorem Kr:type_of% @List.getElem?_eq_some_iff:=@List.getElem?_eq_some_iff
theorem Ks:type_of% @Option.map_eq_some_iff:=@Option.map_eq_some_iff
theorem Kt:type_of% @List.getElem?_set_ne:=@List.getElem?_set_ne
theorem Ku:type_of% @List.length_append:=@List.length_append
theorem Kv:type_of% @Bool.and_eq_true:=@Bool.and_eq_true
theorem Kw:type_of% @Nat.lt_or_eq_of_le:=@Nat.lt_or_eq_of_le
theorem Kx:type_of% @List.mem_of_getElem?:=@List.mem_of_getElem?
theorem Ky:type_of% @List.getElem?_cons_succ:=@List.getElem?_cons_succ
theorem Kz:type_of% @Option.some.inj:=@Option.some.inj
theorem Ua:type_of% @Bool.and_true:=@Bool.and_true
theorem Ub:type_of% @List.getElem?_toArray:=@List.getElem?_toArray
theorem Uc:type_of% @List.getElem?_cons_zero:=@List.getElem?_cons_zero
theorem Ud:type_of% @decide_eq_false:=@decide_eq_false
theorem Ue:type_of% @decide_eq_true:=@decide_eq_true
theorem Uf:type_of% @List.getElem?_set_self:=@List.getElem?_set_self
theorem Ug:type_of% @List.eq_nil_of_length_eq_zero:=@List.eq_nil_of_length_eq_zero
theorem Uh:type_of% @List.getElem?_eq_getElem:=@List.getElem?_eq_getElem
theorem Ui:type_of% @Bool.false_eq_true:=@Bool.false_eq_true
theorem Uj:type_of% @Array.getD_eq_getD_getElem?:=@Array.getD_eq_getD_getElem?
theorem Uk:type_of% @Nat.le_refl:=@Nat.le_refl
theorem Ul:type_of% @Array.getElem?_toList:=@Array.getElem?_toList
theorem Um:type_of% @List.mem_cons_of_mem:=@List.mem_cons_of_mem
theorem Un:type_of% @List.filterMap_cons:=@List.filterMap_cons
theorem Uo:type_of% @List.mem_cons_self:=@List.mem_cons_self
theorem Up:type_of% @decide_eq_true_eq:=@decide_eq_true_eq
theorem Uq:type_of% @List.length_map:=@List.length_map
theorem Ur:type_of% @List.append_nil:=@List.append_nil
theorem Us:type_of% @List.filterMap_nil:=@List.filterMap_nil
theorem Ut:type_of% @List.getElem?_append_left:=@List.getElem?_append_left
theorem Uu:type_of% @List.length_cons:=@List.length_cons
theorem Uv:type_of% @List.cons_append:=@List.cons_append
theorem Uw:type_of% @Option.some.injEq:=@Option.some.injEq
theorem Ux:type_of% @List.length_set:=@List.length_set
theorem Uy:type_of% @List.map_cons:=@List.map_cons
theorem Uz:type_of% @Array.getElem?_eq_getElem:=@Array.getElem?_eq_getElem
theorem Va:type_of% @Nat.mul_le_mul_right:=@Nat.mul_le_mul_right
theorem Vb:type_of% @of_decide_eq_true:=@of_decide_eq_true
theorem Vc:type_of% @of_decide_eq_false:=@of_decide_eq_false
theorem Vd:type_of% @List.getElem?_map:=@List.getElem?_map
theorem Ve:type_of% @List.length_take:=@List.length_take
theorem Vf:type_of% @List.length_drop:=@List.length_drop
theorem Vg:type_of% @List.append_assoc:=@List.append_assoc
theorem Vh:type_of% @List.getElem?_append_right:=@List.getElem?_append_right
theorem Vi:type_of% @List.take_length:=@List.take_length
theorem Vj:type_of% @List.drop_length:=@List.drop_length
theorem Vk:type_of% @Nat.le_trans:=@Nat.le_trans
theorem Vl:type_of% @Nat.lt_irrefl:=@Nat.lt_irrefl
theorem Vm:type_of% @Option.map_some:=@Option.map_some
theorem Vn:type_of% @gt_iff_lt:=@gt_iff_lt
theorem Vo:type_of% @not_false_eq_true:=@not_false_eq_true
theorem Vp:type_of% @not_true_eq_false:=@not_true_eq_false
theorem Vq:type_of% @List.mem_map:=@List.mem_map
theorem Vr:type_of% @List.nil_append:=@List.nil_append
theorem Vs:type_of% @List.length_nil:=@List.length_nil
theorem Vt:type_of% @Nat.zero_le:=@Nat.zero_le
theorem Vu:type_of% @Nat.succ_le_succ:=@Nat.succ_le_succ
theorem Vv:type_of% @List.mem_iff_getElem?:=@List.mem_iff_getElem?
theorem Vw:type_of% @Nat.not_lt_zero:=@Nat.not_lt_zero
theorem Vx:type_of% @ge_iff_le:=@ge_iff_le
theorem Vy:type_of% @List.set_set:=@List.set_set
inductive D where
 |undef
 |bool (b:Bool)
 |int (k:IntKind) (n:Int)
 |str (s:ByteArray)
 |nilp
 |ref (cs:List D) (o:Nat)
 |loc (k i o:Nat)
 |nils
 |sl (sz:Nat) (es:List (List D)) (x:Bool)
 |os (k i len:Nat) (x:Bool)
 |osc (k i len cap:Nat)
 |nilm
 |map (k:Nat)
 |it0
 |itE (k:Nat)
 |nilf
 |func (f:FuncId) (first cap:List D)
 |nili
 |iface (t:TypeId) (d:D)
 |agg (cs:List D)
 |tup (ds:List D)
 deriving Inhabited
def D.cells:D->List D
 | .agg cs=>cs
 |d=>[d]
def D.one:D->Bool
 | .agg _ | .tup _ | .undef=>false
 |_=>true
inductive Ob where
 |dead
 |row (sz:Nat) (es:List (List D))
 |map (kt:TypeId) (l:List (D×D))
 deriving Inhabited
def fromCell:Value->Option D
 | .bool b=>some (.bool b)
 | .int k n=>some (.int k n)
 | .string s=>some (.str s)
 | .pointer none=>some .nilp
 | .slice none 0 0=>some .nils
 | .map none=>some .nilm
 | .nilFunc=>some .nilf
 | .func (.func f) a b=>if a.size=0/\b.size=0 then some (.func f [] []) else none
 | .nilIface=>some .nili
 |_=>none
def fromCells:List Value->Option (List D)
 | []=>some []
 |v::l=>match fromCell v,fromCells l with
  |some d,some ds=>some (d::ds)
  |_,_=>none
def fromVal:Value->Option D
 | .agg cs=>(fromCells cs.toList).map .agg
 |v=>fromCell v
def Yw (P:Program) (t:TypeId):Option Nat:=(P.info? t).map (·.size)
def aggT (P:Program) (t:TypeId):Option Bool:=(P.underlying t).map λd=>match d with | .struct _ | .array .. =>true |_=>false
def Ji (P:Program) (t:TypeId):Option D:=((P.info? t).bind (·.zero)).bind fromVal
def Ki (P:Program) (t:TypeId):Option TypeId:=match P.underlying t with |some (.slice e)=>some e |_=>none
def Yh (P:Program) (t:TypeId) (f:Nat):Option (TypeId×Nat):=match P.underlying t with |some (.struct fs)=>(fs[f]?).map λfd=>(fd.type,fd.offset) |_=>none
def takeC (g:Bool) (n o:Nat) (cs:List D):Option D:=
 match g with
 |true=>if o+n<=cs.length then some (.agg ((cs.drop o).take n)) else none
 |false=>cs[o]?
def setFrom:List D->Nat->List D->List D
 |cs,_,[]=>cs
 |cs,o,v::vs=>setFrom (cs.set o v) (o+1) vs
def dPart (P:Program) (t:TypeId) (cs:List D) (o:Nat):Option D:=
 match Yw P t,aggT P t with
 |some n,some g=>takeC g n o cs
 |_,_=>none
def behind (S:List Ob):D->Option (List D×Nat)
 | .ref cs o=>some (cs,o)
 | .loc k i o=>match S[k]? with
  |some (.row _ es)=>match es[i]? with
   |some cs=>some (cs,o)
   |none=>none
  |_=>none
 |_=>none
def dLoad (P:Program) (S:List Ob) (t:TypeId) (x:D):Option D:=
 match behind S x with
 |some (cs,o)=>dPart P t cs o
 |none=>none
def dStore (P:Program) (S:List Ob) (t:TypeId) (x v:D):Option (List Ob):=
 match x with
 | .loc k i o=>match S[k]? with
  |some (.row sz es)=>match es[i]? with
   |some cs=>if Yw P t=some v.cells.length/\v.cells.all D.one=true/\o+v.cells.length<=cs.length then some (S.set k (.row sz (es.set i (setFrom cs o v.cells)))) else none
   |none=>none
  |_=>none
 |_=>none
def dFieldAddr (P:Program) (s:TypeId) (x:D) (f:Nat):Option D:=
 match Yh P s f with
 |some (ft,off)=>match Yw P ft with
  |some (_+1)=>match x with
   | .ref cs o=>some (.ref cs (o+off))
   | .loc k i o=>some (.loc k i (o+off))
   |_=>none
  |_=>none
 |none=>none
def dField (P:Program) (t:TypeId) (x:D) (f:Nat):Option D:=
 match Yh P t f,x with
 |some (ft,off),.agg cs=>dPart P ft cs off
 |_,_=>none
def dIndexAddr (P:Program) (S:List Ob) (t:TypeId) (x:D) (n:Int):Option D:=
 match P.underlying t,x with
 |some (.slice e),.sl sz es _=>if 0<=n/\Yw P e=some sz then (es[n.toNat]?).map (D.ref · 0) else none
 |some (.slice e),.os k i len _=>if 0<=n/\n<len then match S[k]? with
   |some (.row sz _)=>if Yw P e=some sz then some (.loc k (i+n.toNat) 0) else none
   |_=>none
  else none
 |some (.array len e),.ref cs o=>if 0<=n/\n<len then (Yw P e).map λz=>.ref cs (o+n.toNat*z) else none
 |some (.array len e),.loc k i o=>if 0<=n/\n<len then (Yw P e).map λz=>.loc k i (o+n.toNat*z) else none
 |_,_=>none
def dIndex (P:Program) (t:TypeId) (x:D) (n:Int):Option D:=
 match P.underlying t,x with
 |some (.array len e),.agg cs=>if 0<=n/\n<len then match Yw P e with
   |some z=>dPart P e cs (n.toNat*z)
   |none=>none
  else none
 |some .string,.str s=>if 0<=n then (s[n.toNat]?).map λb=>.int .u8 b.toNat else none
 |_,_=>none
def Kf (d0:Nat):Option D->Option Nat
 |none=>some d0
 |some (.int _ n)=>if 0<=n then some n.toNat else none
 |_=>none
def Kc (len:Nat) (x:Bool) (lo hi mx:Option D):Option (Nat×Nat×Bool):=
 match Kf 0 lo,Kf len hi with
 |some l,some h=>if l<=h/\h<=len then match mx with
   |none=>some (l,h,x && decide (h=len))
   |some (.int _ n)=>if hi.isSome/\n=(h:Int) then some (l,h,true) else none
   |_=>none
  else none
 |_,_=>none
def dCut3 (len:Nat) (lo hi mx:Option D):Bool:=
 match lo,hi,mx with
 |some (.int _ l),some (.int _ h),some (.int _ m)=>decide (0<=l) && decide (l<=h) && decide (h<=m) && decide (m<=len)
 |_,_,_=>false
def dSlice (P:Program) (S:List Ob) (t:TypeId) (x:D) (lo hi mx:Option D):Option D:=
 match P.underlying t,x with
 |some .string,.str s=>match mx with
  |none=>match Kc s.size true lo hi none with
   |some (l,h,_)=>some (.str (s.extract l h))
   |none=>none
  |some _=>none
 |some (.slice e),.nils=>match Yw P e,Kc 0 true lo hi mx with
  |some _,some _=>some .nils
  |_,_=>none
 |some (.slice e),.sl sz es x=>if Yw P e=some sz then match Kc es.length x lo hi mx with
   |some (l,h,x')=>some (.sl sz ((es.drop l).take (h-l)) x')
   |none=>none
  else none
 |some (.slice e),.os k i len x=>match S[k]? with
  |some (.row sz es)=>if Yw P e=some sz then match Kc len x lo hi mx with
    |some (l,h,x')=>if h=l/\0<l then some (.sl sz [] x') else if x' || !x then some (.os k (i+l) (h-l) x') else none
    |none=>if x=false/\0<sz/\mx.isNone=true/\hi.isSome=true/\i<=es.length then match Kc (es.length-i) false lo hi none with
      |some (l,h,_)=>if l<h then some (.os k (i+l) (h-l) false) else none
      |none=>none
     else if dCut3 len lo hi mx=true then some .undef else none
   else none
  |_=>none
 |some (.slice e),.osc k i len cap=>match S[k]? with
  |some (.row sz _)=>if Yw P e=some sz/\mx.isNone=true then match Kc (if hi.isSome then cap else len) false lo hi none with
    |some (l,h,_)=>if l<cap then some (.osc k (i+l) (h-l) (cap-l)) else none
    |none=>none
   else none
  |_=>none
 |_,_=>none
def dInt (op:BinOp) (k:IntKind) (a b:Int):Option D:=
 match op with
 | .add=>some (.int k (k.wrap (a+b)))
 | .sub=>some (.int k (k.wrap (a-b)))
 | .mul=>some (.int k (k.wrap (a*b)))
 | .quo=>if b=0 then none else some (.int k (k.wrap (a.tdiv b)))
 | .rem=>if b=0 then none else some (.int k (a.tmod b))
 | .and=>some (.int k (k.wrap (BitVec.ofInt k.bits a &&& BitVec.ofInt k.bits b).toNat))
 | .or=>some (.int k (k.wrap (BitVec.ofInt k.bits a ||| BitVec.ofInt k.bits b).toNat))
 | .xor=>some (.int k (k.wrap (BitVec.ofInt k.bits a ^^^ BitVec.ofInt k.bits b).toNat))
 | .andNot=>some (.int k (k.wrap (BitVec.ofInt k.bits a &&& ~~~ (BitVec.ofInt k.bits b)).toNat))
 | .eql=>some (.bool (a == b))
 | .neq=>some (.bool (a != b))
 | .lss=>some (.bool (decide (a<b)))
 | .leq=>some (.bool (decide (a<=b)))
 | .gtr=>some (.bool (decide (a>b)))
 | .geq=>some (.bool (decide (a>=b)))
 |_=>none
def dShift (op:BinOp) (k:IntKind) (a b:Int):Option D:=
 if b<0 then none else match op with
 | .shl=>some (.int k (k.wrap (a*2 ^ (min b.toNat k.bits))))
 | .shr=>some (.int k (a.fdiv (2 ^ (min b.toNat k.bits))))
 |_=>none
def dStr (op:BinOp) (x y:ByteArray):Option D:=
 match op with
 | .add=>if ((x.size+y.size:Nat):Int)>IntKind.i64.max then none else some (.str (x++y))
 | .eql=>some (.bool (x.toList == y.toList))
 | .neq=>some (.bool (!(x.toList == y.toList)))
 | .lss=>some (.bool (Op.bytesLess x.toList y.toList))
 | .leq=>some (.bool (Op.bytesLess x.toList y.toList || x.toList == y.toList))
 | .gtr=>some (.bool (!(Op.bytesLess x.toList y.toList || x.toList == y.toList)))
 | .geq=>some (.bool (!(Op.bytesLess x.toList y.toList)))
 |_=>none
def dEqs (P:Program) (eq:TypeId->D->D->Option Bool):List Field->List D->List D->Option Bool
 | [],_,_=>some true
 |f::fs,xs,ys=>if f.name= "_" then dEqs P eq fs xs ys else match dPart P f.type xs f.offset,dPart P f.type ys f.offset with
  |some a,some b=>match eq f.type a b with
   |some true=>dEqs P eq fs xs ys
   |some false=>some false
   |none=>none
  |_,_=>none
def dEqA (P:Program) (eq:TypeId->D->D->Option Bool) (e:TypeId) (c:Nat) (xs ys:List D):List Nat->Option Bool
 | []=>some true
 |i::is=>match dPart P e xs (i*c),dPart P e ys (i*c) with
  |some a,some b=>match eq e a b with
   |some true=>dEqA P eq e c xs ys is
   |some false=>some false
   |none=>none
  |_,_=>none
def dEq (P:Program):Nat->TypeId->D->D->Option Bool
 |0,_,_,_=>none
 |d+1,t,x,y=>match P.underlying t,x,y with
  |some .bool,.bool a,.bool b=>some (a == b)
  |some (.int _),.int k a,.int k' b=>if k=k' then some (a == b) else none
  |some .string,.str a,.str b=>some (a == b)
  |some (.pointer _),.nilp,.nilp=>some true
  |some (.pointer _),.nilp,.ref _ _=>some false
  |some (.pointer _),.nilp,.loc _ _ _=>some false
  |some (.pointer _),.ref _ _,.nilp=>some false
  |some (.pointer _),.loc _ _ _,.nilp=>some false
  |some (.interface _),.nili,.iface _ _=>some false
  |some (.interface _),.iface _ _,.nili=>some false
  |some (.slice _),.nils,.nils=>some true
  |some (.slice _),.os _ _ _ _,.nils=>some false
  |some (.slice _),.sl _ (_::_) _,.nils=>some false
  |some (.map _ _),.nilm,.nilm=>some true
  |some (.map _ _),.map _,.nilm=>some false
  |some (.func _ _ _),.nilf,.nilf=>some true
  |some (.func _ _ _),.func _ _ _,.nilf=>some false
  |some (.struct fs),.agg xs,.agg ys=>if P.stoodInHeld t then none else dEqs P (dEq P d) fs.toList xs ys
  |some (.array n e),.agg xs,.agg ys=>match Yw P e with
   |some z=>dEqA P (dEq P d) e z xs ys (List.range n)
   |none=>none
  |_,_,_=>none
def plainEqT (P:Program) (t:TypeId):Bool:= !P.eqGuardType P.depth t
def dBin (P:Program) (op:BinOp) (t:TypeId) (x y:D):Option D:=
 match op,x,y with
 | .shl,.int k a,.int _ b=>dShift .shl k a b
 | .shr,.int k a,.int _ b=>dShift .shr k a b
 |op,.int k a,.int k' b=>if k=k' then dInt op k a b else none
 |op,.str a,.str b=>dStr op a b
 | .eql,.agg xs,.agg ys=>if plainEqT P t then (dEq P 10000 t (.agg xs) (.agg ys)).map .bool else none
 | .neq,.agg xs,.agg ys=>if plainEqT P t then (dEq P 10000 t (.agg xs) (.agg ys)).map (.bool !·) else none
 | .eql,x,y=>(dEq P 10000 t x y).map .bool
 | .neq,x,y=>(dEq P 10000 t x y).map (.bool !·)
 |_,_,_=>none
def dUn (op:UnOp) (x:D):Option D:=
 match op,x with
 | .neg,.int k n=>some (.int k (k.wrap (0-n)))
 | .xor,.int k n=>dInt .xor k (if k.signed then -1 else k.max) n
 | .not,.bool b=>some (.bool !b)
 |_,_=>none
def bytesOf:List (List D)->Option (List Int)
 | []=>some []
 | [.int .u8 n]::es=>(bytesOf es).map (n:: ·)
 |_=>none
def bytesStr (ns:List Int):ByteArray:=ns.foldl (λr n=>r.push (UInt8.ofNat n.toNat)) ByteArray.empty
def dConv (P:Program) (src dst:TypeId) (x:D):Option D:=
 match P.underlying src,P.underlying dst,x with
 |some _,some (.int k),.int _ n=>some (.int k (k.wrap n))
 |some _,some .string,.str s=>some (.str s)
 |some (.slice e),some .string,.sl 1 (c::es) _=>match P.underlying e with
  |some (.int .u8)=>(bytesOf (c::es)).map λns=>.str (bytesStr ns)
  |_=>none
 |_,_,_=>none
/-! ### Composite literals -/
def dFill (place:Nat->Option (Nat×Nat)):List D->List (Nat×D)->Option (List D)
 |cs,[]=>some cs
 |cs,(i,v)::rest=>match place i with
  |none=>none
  |some (off,size)=>if v.cells.length=size/\off+size<=cs.length/\v.cells.all D.one=true then dFill place (setFrom cs off v.cells) rest else none
def placesT (P:Program) (t:TypeId):Option (List (Nat×Nat)):=
 match P.underlying t with
 |some (.struct fs)=>if fs.toList.all (λf=>(Yw P f.type).isSome) then some (fs.toList.map λf=>(f.offset,(Yw P f.type).getD 0)) else none
 |some (.array n e)=>match Yw P e with
  |some z=>some ((List.range n).map λi=>(i*z,z))
  |none=>none
 |_=>none
def dBuild (P:Program) (t:TypeId) (parts:List (Nat×D)):Option D:=
 match Ji P t,placesT P t with
 |some z,some ps=>(dFill (λi=>ps[i]?) z.cells parts).map .agg
 |_,_=>none
def chunks (n:Nat):Nat->List D->List (List D)
 |0,_=>[]
 |k+1,l=>l.take n::chunks n k (l.drop n)
def reps (z:List D):Nat->List D
 |0=>[]
 |n+1=>z++reps z n
def dBuildSlice (P:Program) (t:TypeId) (len:Nat) (parts:List (Nat×D)):Option D:=
 match Ki P t with
 |some e=>match Yw P e,Ji P e with
  |some (n+1),some z=>if len*(n+1)<=2 ^ 24/\z.cells.length=n+1/\z.cells.all D.one=true then (dFill (λi=>some (i*(n+1),n+1)) (reps z.cells len) parts).map λcs=>.sl (n+1) (chunks (n+1) len cs) true else none
  |_,_=>none
 |none=>none
/-! ### Maps: keys are numbers, texts, truth values and structs of these -/
def kBeq:D->D->Bool
 | .bool a,.bool b=>a == b
 | .int k a,.int k' b=>decide (k=k') && a == b
 | .str a,.str b=>decide (a=b)
 |_,_=>false
def kBeqs:List D->List D->Bool
 | [],[]=>true
 |a::x,b::y=>kBeq a b && kBeqs x y
 |_,_=>false
def Yz:D->D->Bool
 | .agg x,.agg y=>kBeqs x y
 | .agg _,_=>false
 |_,.agg _=>false
 |x,y=>kBeq x y
def litC:D->Option Value
 | .bool b=>some (.bool b)
 | .int k n=>some (.int k n)
 | .str s=>some (.string s)
 |_=>none
def litCs:List D->Option (List Value)
 | []=>some []
 |d::l=>match litC d,litCs l with
  |some v,some vs=>some (v::vs)
  |_,_=>none
def litV:D->Option Value
 | .agg cs=>(litCs cs).map λl=>.agg l.toArray
 |d=>litC d
def keyOk (P:Program) (kt:TypeId) (d:D):Bool:=
 match litV d with
 |some v=>(keyOf P kt v).isSome
 |none=>false
def Jp (l:List (D×D)) (k:D):Option D:=(l.find? λp=>Yz p.1 k).map (·.2)
def putM:List (D×D)->D->D->List (D×D)
 | [],k,v=>[(k,v)]
 | (a,b)::l,k,v=>if Yz a k then (a,v)::l else (a,b)::putM l k v
def delM (l:List (D×D)) (k:D):List (D×D):=l.eraseP λp=>Yz p.1 k
/-! ### The builtins -/
def Jw (S:List Ob) (sz:Nat):D->Option (List (List D))
 | .nils=>some []
 | .sl z es _=>if z=sz then some es else none
 | .os k i len _=>match S[k]? with
  |some (.row z es)=>if z=sz/\i+len<=es.length then some ((es.drop i).take len) else none
  |_=>none
 |_=>none
def Kl (P:Program) (t:TypeId):Nat:=((P.info? t).map (·.bytes)).getD 0
def Zb (P:Program) (S:List Ob) (t u:TypeId) (s x:D):Option (D×List Ob):=
 if t=u then match Ki P t with
 |some e=>match Yw P e,Ji P e with
  |some (n+1),some z=>if z.cells.length=n+1 then match Jw S (n+1) s,Jw S (n+1) x with
   |some old,some new=>if new.length=0 then some (s,S) else
    if old.length+new.length<=maxLen/\(old.length+new.length)*Kl P e<=140737488355328 then match s with
     | .nils=>some (.os S.length 0 new.length false,S++[.row (n+1) new])
     | .sl _ _ true=>some (.os S.length 0 (old.length+new.length) false,S++[.row (n+1) (old++new)])
     | .os _ _ _ true=>some (.os S.length 0 (old.length+new.length) false,S++[.row (n+1) (old++new)])
     | .os k 0 len false=>match S[k]? with
      |some (.row _ es)=>if len=es.length then some (.os S.length 0 (len+new.length) false,(S.set k .dead)++[.row (n+1) (es++new)])
       else if len+new.length<=es.length then some (.os k 0 (len+new.length) false,S.set k (.row (n+1) (es.take len++new++es.drop (len+new.length)))) else none
      |_=>none
     |_=>none
    else none
   |_,_=>none
   else none
  |_,_=>none
 |none=>none
 else none
def dAppendMake (P:Program) (S:List Ob) (t u:TypeId) (s x:D):Option (D×List Ob):=
 match P.underlying u,Ki P t with
 |some (.int _),some e=>match Yw P e,Ji P e with
  |some (n+1),some z=>if z.cells.length=n+1/\z.cells.all D.one=true then match s,x with
   | .osc k 0 len cap,.int _ m=>match S[k]? with
    |some (.row sz es)=>if sz=n+1/\0<m/\len<=es.length/\cap<len+m.toNat/\len+m.toNat<=maxLen/\(len+m.toNat)*Kl P e<=140737488355328 then some (.os S.length 0 (len+m.toNat) false,S++[.row (n+1) (es.take len++List.replicate m.toNat z.cells)]) else none
    |_=>none
   |_,_=>none
   else none
  |_,_=>none
 |_,_=>none
def dLen (P:Program) (S:List Ob) (t:TypeId) (x:D):Option D:=
 match P.underlying t,x with
 |some .string,.str s=>some (.int .i64 s.size)
 |some (.slice _),.nils=>some (.int .i64 0)
 |some (.slice _),.sl _ es _=>some (.int .i64 es.length)
 |some (.slice _),.os _ _ len _=>some (.int .i64 len)
 |some (.slice _),.osc _ _ len _=>some (.int .i64 len)
 |some (.map _ _),.nilm=>some (.int .i64 0)
 |some (.map _ _),.map k=>match S[k]? with
  |some (.map _ l)=>some (.int .i64 l.length)
  |_=>none
 |some (.array n _),_=>some (.int .i64 n)
 |_,_=>none
def dMin2 (mx:Bool):D->D->Option D
 | .int k a,.int _ b=>some (.int k (if mx then (if a<b then b else a) else (if b<a then b else a)))
 |_,_=>none
def dMins (mx:Bool):D->List D->Option D
 |a,[]=>some a
 |a,b::l=>match dMin2 mx a b with
  |some c=>dMins mx c l
  |none=>none
def dCopy (P:Program) (S:List Ob) (t:TypeId) (d s:D):Option (D×List Ob):=
 match Ki P t with
 |some e=>match Yw P e with
  |some sz=>match Jw S sz s with
   |some src=>match d with
    | .nils=>some (.int .i64 0,S)
    | .os k i len _=>match S[k]? with
     |some (.row z es)=>let n:=min src.length len
      if z=sz/\i+len<=es.length then some (.int .i64 n,S.set k (.row sz (es.take i++src.take n++es.drop (i+n)))) else none
     |_=>none
    |_=>none
   |none=>none
  |none=>none
 |none=>none
def lenS:D->Option Nat
 | .nils=>some 0
 | .sl _ es _=>some es.length
 | .os _ _ len _=>some len
 | .osc _ _ len _=>some len
 |_=>none
def headOf (S:List Ob) (sz n:Nat) (x:D):Option (List (List D)):=
 match x with
 | .osc k i len _=>match S[k]? with
  |some (.row z es)=>if z=sz/\n<=len/\i+n<=es.length then some ((es.drop i).take n) else none
  |_=>none
 |x=>match Jw S sz x with
  |some es=>if n<=es.length then some (es.take n) else none
  |none=>none
def dCopyC (P:Program) (S:List Ob) (t:TypeId) (k i len:Nat) (s:D):Option (D×List Ob):=
 match Ki P t with
 |some e=>match Yw P e with
  |some sz=>match lenS s with
   |some m=>match headOf S sz (min m len) s with
    |some src=>match S[k]? with
     |some (.row z es)=>if z=sz/\i<=es.length then some (.int .i64 (min m len:Nat),S.set k (.row sz (es.take i++src++es.drop (i+min m len)))) else none
     |_=>none
    |none=>none
   |none=>none
  |none=>none
 |none=>none
def dCopyA (P:Program) (S:List Ob) (t:TypeId) (d s:D):Option (D×List Ob):=
 match d,s with
 | .osc k i len _,s=>dCopyC P S t k i len s
 |d,.osc k i len _=>dCopy P S t d (.os k i len false)
 |d,s=>dCopy P S t d s
def dCap (P:Program) (t:TypeId) (x:D):Option D:=
 match P.underlying t,x with
 |some (.slice _),.nils=>some (.int .i64 0)
 |some (.slice _),.osc _ _ _ c=>some (.int .i64 c)
 |_,_=>none
def dClear (P:Program) (S:List Ob) (t:TypeId) (x:D):Option (List Ob):=
 match Ki P t with
 |some e=>match Yw P e,Ji P e with
  |some (n+1),some z=>if z.cells.length=n+1/\z.cells.all D.one=true then match x with
   | .os k i len _=>match S[k]? with
    |some (.row sz es)=>if sz=n+1/\0<len/\i+len<=es.length then some (S.set k (.row (n+1) (es.take i++List.replicate len z.cells++es.drop (i+len)))) else none
    |_=>none
   |_=>none
   else none
  |_,_=>none
 |none=>none
def dBuiltin (P:Program) (keys:TypeId->Bool) (S:List Ob) (b:Builtin) (ts:List TypeId) (args:List D):Option (D×List Ob):=
 match b,ts,args with
 | .len,t::_,x::_=>(dLen P S t x).map (·,S)
 | .append,[t,u],[s,x]=>if t=u then Zb P S t u s x else dAppendMake P S t u s x
 | .copy,t::_,[d,s]=>dCopyA P S t d s
 | .min,_,x::l=>(dMins false x l).map (·,S)
 | .max,_,x::l=>(dMins true x l).map (·,S)
 | .delete,t::_,[m,k]=>match P.underlying t,m with
  |some (.map kt _),.map r=>match S[r]? with
   |some (.map kt' l)=>if kt'=kt/\keyOk P kt k=true/\keys kt=true then some (.tup [],S.set r (.map kt (delM l k))) else none
   |_=>none
  |_,_=>none
 | .cap,t::_,x::_=>(dCap P t x).map (·,S)
 | .clear,t::_,[x]=>(dClear P S t x).map (.tup [],·)
 |_,_,_=>none
/-! ### What a call hands on -/
mutual
def D.pure:D->Bool
 | .undef=>true
 | .bool _=>true
 | .int _ _=>true
 | .str _=>true
 | .nilp=>true
 | .ref cs _=>Yp cs
 | .loc _ _ _=>false
 | .nils=>true
 | .sl _ es _=>Zc es
 | .os _ _ _ _=>false
 | .osc _ _ _ _=>false
 | .nilm=>true
 | .it0=>true
 | .itE _=>false
 | .map _=>false
 | .nilf=>true
 | .func _ a b=>Yp a && Yp b
 | .nili=>true
 | .iface _ d=>d.pure
 | .agg cs=>Yp cs
 | .tup ds=>Yp ds
def Yp:List D->Bool
 | []=>true
 |d::l=>d.pure && Yp l
def Zc:List (List D)->Bool
 | []=>true
 |d::l=>Yp d && Zc l
end
def mapO {α β:Type} (f:α->Option β):List α->Option (List β)
 | []=>some []
 |a::l=>match f a,mapO f l with
  |some b,some m=>some (b::m)
  |_,_=>none
def Xp (T:List Ob):Nat->D->Option D
 |0,_=>none
 |n+1,d=>if d.pure then some d else match d with
  | .ref cs o=>(mapO (Xp T n) cs).map (.ref · o)
  | .loc k i o=>match T[k]? with
   |some (.row _ es)=>match es[i]? with
    |some cs=>(mapO (Xp T n) cs).map (.ref · o)
    |none=>none
   |_=>none
  | .sl sz es x=>(mapO (mapO (Xp T n)) es).map (.sl sz · x)
  | .os k i len x=>match T[k]? with
   |some (.row sz es)=>if i+len<=es.length then (mapO (mapO (Xp T n)) ((es.drop i).take len)).map (.sl sz · x) else none
   |_=>none
  | .func f a b=>match mapO (Xp T n) a,mapO (Xp T n) b with
   |some a,some b=>some (.func f a b)
   |_,_=>none
  | .iface t d=>(Xp T n d).map (.iface t ·)
  | .agg cs=>(mapO (Xp T n) cs).map .agg
  | .tup ds=>(mapO (Xp T n) ds).map .tup
  |_=>none
mutual
def beqD:D->D->Bool
 | .undef,.undef=>true
 | .bool a,.bool b=>a == b
 | .int k a,.int l b=>decide (k=l) && a == b
 | .str a,.str b=>decide (a=b)
 | .nilp,.nilp=>true
 | .ref a o,.ref b p=>decide (o=p) && beqL a b
 | .loc k i o,.loc l j p=>decide (k=l) && decide (i=j) && decide (o=p)
 | .nils,.nils=>true
 | .sl z a x,.sl y b w=>decide (z=y) && x == w && beqLL a b
 | .os k i n x,.os l j m y=>decide (k=l) && decide (i=j) && decide (n=m) && x == y
 | .osc k i n c,.osc l j m e=>decide (k=l) && decide (i=j) && decide (n=m) && decide (c=e)
 | .itE k,.itE l=>decide (k=l)
 | .nilm,.nilm=>true
 | .it0,.it0=>true
 | .map k,.map l=>decide (k=l)
 | .nilf,.nilf=>true
 | .func f a b,.func g c d=>decide (f=g) && beqL a c && beqL b d
 | .nili,.nili=>true
 | .iface t a,.iface u b=>decide (t=u) && beqD a b
 | .agg a,.agg b=>beqL a b
 | .tup a,.tup b=>beqL a b
 |_,_=>false
def beqL:List D->List D->Bool
 | [],[]=>true
 |a::l,b::m=>beqD a b && beqL l m
 |_,_=>false
def beqLL:List (List D)->List (List D)->Bool
 | [],[]=>true
 |a::l,b::m=>beqL a b && beqLL l m
 |_,_=>false
end
def beqP:List (D×D)->List (D×D)->Bool
 | [],[]=>true
 | (a,b)::l,(c,d)::m=>beqD a c && beqD b d && beqP l m
 |_,_=>false
def beqOb:Ob->Ob->Bool
 | .dead,.dead=>true
 | .row z a,.row y b=>decide (z=y) && beqLL a b
 | .map k a,.map l b=>decide (k=l) && beqP a b
 |_,_=>false
def keptS:List Ob->List Ob->Bool
 | [],_=>true
 |a::l,b::m=>beqOb a b && keptS l m
 |_,_=>false
inductive Mode where
 |no |gen |pure |obs |ext
 deriving DecidableEq
abbrev Call:=FuncId->List D->List Ob->Option (D×List Ob)
inductive Plan where
 |done
 |step (i:Nat) (p:Plan)
 |both (p q:Plan)
 deriving Inhabited
structure Env where
 P:Program
 G:Nat->Option (List D)
 mode:FuncId->Mode
 keys:TypeId->Bool
 prim:FuncId->Option (List D->List Ob->Option (D×List Ob))
 ext:FuncId->Option (List Ob->List D->Option (D×List Ob))
 plan:Nat->Array Oper->Option (List Nat×Plan)
def isIface (P:Program) (t:TypeId):Option Bool:=(P.underlying t).map λd=>match d with | .interface _=>true |_=>false
def dClone (S:List Ob) (args:List D):Option (D×List Ob):=
 match args with
 | [.iface t (.map k)]=>match S[k]? with
  |some (.map kt l)=>some (.iface t (.map S.length),S++[.map kt l])
  |_=>none
 |_=>none
def dOverlaps (P:Program) (S:List Ob) (t:TypeId) (args:List D):Option D:=
 match Ki P t,args with
 |some e,[.sl sz (_::_) _,.osc k _ _ _]=>match S[k]?,Yw P e with
  |some (.row _ _),some z=>if z=sz then some (.bool false) else none
  |_,_=>none
 |_,_=>none
def Yi (E:Env) (call:Call) (draw:Bool) (S:List Ob) (f:FuncId) (args:List D):Option (D×List Ob):=
 match E.mode f with
 | .no=>none
 | .gen=>call f args S
 | .pure=>if Yp args then match call f args [] with
   |some (d,T)=>(Xp T 40 d).map (·,S)
   |none=>none
  else if draw then none else call f args S
 | .obs=>if Yp args then match call f args [] with
   |some (d,T)=>(Xp T 40 d).map (·,S)
   |none=>none
  else match call f args S with
   |some (d,T)=>if d.pure && keptS S T then some (d,S) else none
   |none=>none
 | .ext=>match call f args S with
  |some (d,T)=>if keptS S T then some (d,T) else none
  |none=>none
def evD (E:Env) (a:List D):Operand->D
 | .tmp t=>(a[t]?).getD .undef
 | .const v=>(fromVal v).getD .undef
 | .global g=>match E.G g with
  |some cs=>.ref cs 0
  |none=>.undef
 | .func f=>.func f [] []
def dMakeSlice (P:Program) (S:List Ob) (t:TypeId) (len cap:Int):Option (D×List Ob):=
 match Ki P t with
 |some e=>match Yw P e,Ji P e with
  |some (n+1),some z=>if 0<=len/\len<=cap/\Kl P e*cap<=140737488355328/\cap<=9223372036854775807/\z.cells.length=n+1/\z.cells.all D.one=true then some (.os S.length 0 len.toNat false,S++[.row (n+1) (List.replicate cap.toNat z.cells)]) else none
  |_,_=>none
 |none=>none
def dOp (E:Env) (call:Call) (draw:Bool) (ev:Operand->D) (S:List Ob) (op:Op):Option (D×List Ob):=
 match op with
 | .move x | .assign x=>some (ev x,S)
 | .pick c x y=>match ev c with
  | .bool b=>some (if b then ev x else ev y,S)
  |_=>none
 | .alloc t=>match Ji E.P t with
  |some z=>if z.cells.all D.one then some (.loc S.length 0 0,S++[.row z.cells.length [z.cells]]) else none
  |none=>none
 | .box _ x=>if (ev x).cells.all D.one then some (.loc S.length 0 0,S++[.row (ev x).cells.length [(ev x).cells]]) else none
 | .build t parts=>(dBuild E.P t (parts.toList.map λp=>(p.1,ev p.2))).map (·,S)
 | .buildSlice t len parts=>(dBuildSlice E.P t len (parts.toList.map λp=>(p.1,ev p.2))).map (·,S)
 | .load t x=>(dLoad E.P S t (ev x)).map (·,S)
 | .store t x v=>(dStore E.P S t (ev x) (ev v)).map (.tup [],·)
 | .nilCheck x=>match ev x with
  | .ref cs o=>some (.ref cs o,S)
  | .loc k i o=>some (.loc k i o,S)
  | .func f x y=>some (.func f x y,S)
  |_=>none
 | .binOp op t x y _=>(dBin E.P op t (ev x) (ev y)).map (·,S)
 | .unOp op _ x=>(dUn op (ev x)).map (·,S)
 | .convert s d x=>(dConv E.P s d (ev x)).map (·,S)
 | .makeFunc (.func f) x y=>some (.func f (x.toList.map ev) (y.toList.map ev),S)
 | .makeMap t none=>match E.P.underlying t with
  |some (.map kt _)=>some (.map S.length,S++[.map kt []])
  |_=>none
 | .makeSlice t l c=>match ev l,ev c with
  | .int .i64 l,.int .i64 c=>dMakeSlice E.P S t l c
  |_,_=>none
 | .slice t x lo hi mx=>(dSlice E.P S t (ev x) (lo.map ev) (hi.map ev) (mx.map ev)).map (·,S)
 | .fieldAddr t x f=>(dFieldAddr E.P t (ev x) f).map (·,S)
 | .field t x f=>(dField E.P t (ev x) f).map (·,S)
 | .indexAddr t x i=>match ev i with
  | .int _ n=>(dIndexAddr E.P S t (ev x) n).map (·,S)
  |_=>none
 | .index t x i=>match ev i with
  | .int _ n=>(dIndex E.P t (ev x) n).map (·,S)
  |_=>none
 | .lookup t x k ok=>match E.P.underlying t,ev x with
  |some (.map kt e),.nilm=>match Ji E.P e with
   |some z=>if keyOk E.P kt (ev k) && E.keys kt then some (if ok then .tup [z,.bool false] else z,S) else none
   |none=>none
  |some (.map kt e),.map r=>match S[r]?,Ji E.P e with
   |some (.map kt' l),some z=>if kt'=kt/\keyOk E.P kt (ev k)=true/\E.keys kt=true then some (match Jp l (ev k) with
    |some v=>if ok then .tup [v,.bool true] else v
    |none=>if ok then .tup [z,.bool false] else z,S) else none
   |_,_=>none
  |_,_=>none
 | .mapUpdate t m k v | .insert t m k v=>match E.P.underlying t,ev m with
  |some (.map kt _),.map r=>match S[r]? with
   |some (.map kt' l)=>if kt'=kt/\keyOk E.P kt (ev k)=true/\E.keys kt=true then some (.tup [],S.set r (.map kt (putM l (ev k) (ev v)))) else none
   |_=>none
  |_,_=>none
 | .extract t i=>match ev t with
  | .tup ds=>(ds[i]?).map (·,S)
  |_=>none
 | .makeInterface t x=>match E.P.underlying t with
  |some (.interface _)=>none
  |some _=>some (.iface t (ev x),S)
  |none=>none
 | .call { callee:=.builtin b,args,argTypes }=>dBuiltin E.P E.keys S b argTypes.toList (args.toList.map ev)
 | .call { callee:=.value (.func g),args,.. }=>match E.ext g with
  |some p=>p S (args.toList.map ev)
  |none=>Yi E call draw S g (args.toList.map ev)
 | .call { callee:=.value f,args,.. }=>match ev f with
  | .func g first cap=>if draw && !(decide (E.mode g=.pure) || decide (E.mode g=.obs)) then none else Yi E call draw S g (first++args.toList.map ev++cap)
  |_=>none
 | .range t x=>match E.P.underlying t,ev x with
  |some (.map _ _),.nilm=>some (.it0,S)
  |some (.map _ _),.map r=>match S[r]? with
   |some (.map _ [])=>some (.itE r,S)
   |_=>none
  |_,_=>none
 | .next x false=>match ev x with
  | .it0=>some (.tup [.bool false],S)
  | .itE r=>match S[r]? with
   |some (.map _ [])=>some (.tup [.bool false],S)
   |_=>none
  |_=>none
 | .typeAssert x _ asserted ok=>match isIface E.P asserted,ev x with
  |some false,.iface t d=>if t=asserted then some (if ok then .tup [d,.bool true] else d,S) else none
  |_,_=>none
 |_=>none
/-! ### Regions and code -/
inductive Cl where
 |N |R |O |A |W
 deriving DecidableEq
def clO (E:Env) (strict:Bool):Op->Cl
 | .move _ | .assign _ | .pick .. | .build .. | .buildSlice .. | .nilCheck _ | .binOp .. | .unOp .. | .convert .. | .makeFunc .. | .fieldAddr .. | .field .. | .index .. | .extract .. | .makeInterface .. | .typeAssert .. =>.N
 | .load .. | .indexAddr .. | .slice .. | .lookup .. | .range .. | .next .. =>.R
 | .alloc _ | .box .. | .makeSlice .. | .makeMap .. =>.A
 | .call { callee:=.builtin .len,.. }=>.R
 | .call { callee:=.builtin .min,.. } | .call { callee:=.builtin .max,.. }=>.N
 | .call { callee:=.value (.func f),.. }=>if (E.ext f).isSome then .W else if decide (E.mode f=.obs) then .O else if decide (E.mode f=.ext) then .A else if strict && decide (E.mode f=.pure) then .N else .W
 | .call { callee:=.value _,.. }=>if strict then .O else .W
 |_=>.W
def okPair:Cl->Cl->Bool
 | .N,_=>true
 |_,.N=>true
 | .R,.R=>true
 | .R,.O=>true
 | .O,.R=>true
 | .O,.O=>true
 | .R,.A=>true
 |_,_=>false
def aheadOk (ops:Array Oper) (b:Array Nat):Bool:=
 (List.range ops.size).all λj=>(List.range ops.size).all λi=> !(b.getD j 0).testBit i || ((ops[j]?).map (·.after.any λe=>Region.binds .any e && (e.on == i || (decide (e.on<j) && (b.getD e.on 0).testBit i)))).getD false
def linWith (E:Env) (strict:Bool) (ops:Array Oper) (b:Array Nat):Bool:=
 ops.zipIdx.toList.all λ(y,j)=>ops.zipIdx.toList.all λ(x,i)=> !decide (i<j) || (b.getD j 0).testBit i || (okPair (clO E strict x.op) (clO E strict y.op) && x.apart ops y)
def backOk (ops:Array Oper):Bool:=ops.zipIdx.toList.all λ(o,j)=>o.after.all λe=> !Region.binds .any e || decide (e.on<j)
def linR (E:Env) (strict:Bool) (ops:Array Oper):Bool:=backOk ops && aheadOk ops (Region.before ops) && linWith E strict ops (Region.before ops)
def strictR (E:Env) (ops:Array Oper):Bool:= !linR E false ops
def slotN:List Nat->Nat->Option Nat
 | [],_=>none
 |j::l,i=>if j=i then some 0 else (slotN l i).map (· +1)
def Plan.heads:Plan->List Nat
 | .done=>[]
 | .step i _=>[i]
 | .both p q=>p.heads++q.heads
def freeAt (E:Env) (ops:Array Oper) (bf:Array Nat) (L:List Nat) (listed:Array Bool) (i:Nat):Bool:=
 (slotN L i).isNone && (List.range ops.size).all λj=>j == i || listed.getD j true || (bf.getD j 0).testBit i || (match ops[i]?,ops[j]? with
  |some x,some y=>okPair (clO E true x.op) (clO E true y.op) && x.apart ops y
  |_,_=>false)
def Kg (E:Env) (ops:Array Oper) (bf:Array Nat) (L:List Nat):Bool->Nat->Array Bool->Plan->Bool
 |false,0,listed,.done=>(Region.ready .any ops listed).isEmpty
 |inB,n+1,listed,.step i p=>(Region.ready .any ops listed).contains i && (inB || Region.ready .any ops listed == [i] || freeAt E ops bf L listed i) && Kg E ops bf L false n (listed.setIfInBounds i true) p
 |inB,n+1,listed,.both p q=>(inB || (!(Region.ready .any ops listed).isEmpty && (Region.ready .any ops listed).all λi=>(p.heads++q.heads).contains i)) && Kg E ops bf L true (n+1) listed p && Kg E ops bf L true (n+1) listed q
 |_,_,_,_=>false
def planR (E:Env) (ops:Array Oper) (L:List Nat) (p:Plan):Bool:=aheadOk ops (Region.before ops) && Kg E ops (Region.before ops) L false ops.size (Array.replicate ops.size false) p
def linC (E:Env):Code->Bool
 | .region id ops draw=> !draw || (match E.plan id ops with
  |none=>linR E (strictR E ops) ops
  |some (L,p)=>planR E ops L p)
 | .seq x y=>linC E x && linC E y
 | .cond _ x y=>linC E x && linC E y
 | .block _ c=>linC E c
 | .loop c=>linC E c
 | .scope c=>linC E c
 |_=>true
def putD (a:List D) (dst:Option Tmp) (d:D):List D:=
 match dst with
 |some t=>a.set t d
 |none=>a
def ylD (ops:Array Oper) (a:List D) (j:Nat):Option (Option Bool):=
 match (ops[j]?).bind (·.dst) with
 |none=>some none
 |some t=>match a[t]? with
  |none=>some none
  |some (.bool b)=>some (some b)
  |some .undef=>none
  |some _=>some none
def wantD (ops:Array Oper) (a:List D) (o:Oper):Option Bool:=
 match o.guard with
 |none=>some true
 |some (j,want)=>(ylD ops a j).map (· == some want)
def stepD (E:Env) (call:Call) (draw:Bool) (ops:Array Oper) (o:Oper) (a:List D) (S:List Ob):Option (List D×List Ob):=
 match wantD ops a o with
 |none=>none
 |some false=>some (putD a o.dst (.tup []),S)
 |some true=>match dOp E call draw (evD E a) S o.op with
  |some (d,S')=>some (putD a o.dst d,S')
  |none=>none
def runD (E:Env) (call:Call) (draw:Bool) (ops:Array Oper):List Oper->List D->List Ob->Option (List D×List Ob)
 | [],a,S=>some (a,S)
 |o::l,a,S=>match stepD E call draw ops o a S with
  |some (a',S')=>runD E call draw ops l a' S'
  |none=>none
def dMade (E:Env) (ev:Operand->D) (op:Op):Option ((Nat->D)×Ob):=
 match op with
 | .alloc t=>match Ji E.P t with
  |some z=>if z.cells.all D.one then some (λk=>.loc k 0 0,.row z.cells.length [z.cells]) else none
  |none=>none
 | .box _ x=>if (ev x).cells.all D.one then some (λk=>.loc k 0 0,.row (ev x).cells.length [(ev x).cells]) else none
 | .makeMap t none=>match E.P.underlying t with
  |some (.map kt _)=>some (λk=>.map k,.map kt [])
  |_=>none
 | .makeSlice t x y=>match ev x,ev y with
  | .int .i64 l,.int .i64 c=>match dMakeSlice E.P [] t l c with
   |some (_,ob::_)=>some (λk=>.os k 0 l.toNat false,ob)
   |_=>none
  |_,_=>none
 |_=>none
def stepM (E:Env) (ops:Array Oper) (o:Oper) (s:Nat) (a:List D) (S:List Ob):Option (List D×List Ob):=
 match wantD ops a o with
 |some true=>match dMade E (evD E a) o.op,S[s]? with
  |some (d,ob),some .dead=>some (putD a o.dst (d s),S.set s ob)
  |_,_=>none
 |_=>none
def beqS:List Ob->List Ob->Bool
 | [],[]=>true
 |a::l,b::m=>beqOb a b && beqS l m
 |_,_=>false
def stepW (E:Env) (call:Call) (ops:Array Oper) (L:List Nat) (b i:Nat) (o:Oper) (a:List D) (S:List Ob):Option (List D×List Ob):=
 match slotN L i with
 |none=>stepD E call true ops o a S
 |some s=>stepM E ops o (b+s) a S
def Kd (E:Env) (call:Call) (ops:Array Oper) (L:List Nat) (b:Nat):Plan->List D->List Ob->Option (List D×List Ob)
 | .done,a,S=>some (a,S)
 | .step i p,a,S=>match ops[i]? with
  |some o=>match stepW E call ops L b i o a S with
   |some (a',S')=>Kd E call ops L b p a' S'
   |none=>none
  |none=>none
 | .both p q,a,S=>match Kd E call ops L b p a S,Kd E call ops L b q a S with
  |some (a1,S1),some (a2,S2)=>if beqL a1 a2 && beqS S1 S2 then some (a1,S1) else none
  |_,_=>none
inductive DX where
 |normal
 |exit (id:Nat)
 |ret
 deriving DecidableEq
abbrev Out:=Option (DX×List D×List Ob)
def loopD (body:List D->List Ob->Out):Nat->List D->List Ob->Out
 |0,_,_=>none
 |n+1,a,S=>match body a S with
  |some (.normal,a',S')=>loopD body n a' S'
  |r=>r
def Yr (E:Env) (call:Call) (n:Nat):Code->List D->List Ob->Out
 | .skip,a,S=>some (.normal,a,S)
 | .region id ops draw,a,S=>match (if draw then E.plan id ops else none) with
  |none=>match runD E call (draw && strictR E ops) ops ops.toList a S with
   |some (a',S')=>some (.normal,a',S')
   |none=>none
  |some (L,p)=>match Kd E call ops L S.length p a (S++List.replicate L.length .dead) with
   |some (a',S')=>some (.normal,a',S')
   |none=>none
 | .seq x y,a,S=>match Yr E call n x a S with
  |some (.normal,a',S')=>Yr E call n y a' S'
  |r=>r
 | .cond c x y,a,S=>match evD E a c with
  | .bool true=>Yr E call n x a S
  | .bool false=>Yr E call n y a S
  |_=>none
 | .block id c,a,S=>match Yr E call n c a S with
  |some (.exit j,a',S')=>if j=id then some (.normal,a',S') else some (.exit j,a',S')
  |r=>r
 | .loop c,a,S=>loopD (Yr E call n c) n a S
 | .exit id,a,S=>some (.exit id,a,S)
 | .scope c,a,S=>Yr E call n c a S
 | .label _,a,S=>some (.normal,a,S)
 | .ret,a,S=>some (.ret,a,S)
 |_,_,_=>none
def resD (P:Program) (a:List D) (S:List Ob):List ResultVar->Option (List D)
 | []=>some []
 | .tmp t::l=>match a[t]?,resD P a S l with
  |some d,some ds=>some (d::ds)
  |_,_=>none
 | .cell t u::l=>match a[t]? with
  |some x=>match dLoad P S u x,resD P a S l with
   |some d,some ds=>some (d::ds)
   |_,_=>none
  |none=>none
def tupD:List D->D
 | [d]=>d
 |ds=>.tup ds
def Yb (E:Env):Nat->Call
 |0=>λ_ _ _=>none
 |n+1=>λf args S=>if E.mode f=.no then none else match E.prim f with
  |some p=>p args S
  |none=>match E.P.funcs[f]? with
  |some fn=>match fn.body with
   |some c=>match Yr E (Yb E n) n c (args++List.replicate (fn.ntmps-args.length) (.tup [])) S with
    |some (.exit _,_,_)=>none
    |some (_,a,S')=>(resD E.P a S' fn.results.toList).map λds=>(tupD ds,S')
    |none=>none
   |none=>none
  |none=>none
end Go.Proofs.YtaklebjoenophaaGreat.Dm
