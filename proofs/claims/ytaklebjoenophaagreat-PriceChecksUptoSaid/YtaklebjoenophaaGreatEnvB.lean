/-
  The machine at this seat's program is sound: with the functions that are known by laws of their own.
  Places as plain data.
  A plan, cut behind its branchings.
  Prices: which one is preferred, and which are equal, by the program and by the reference.
  The machine at the predicates of texts: the program's and the reference's.
  The machine at codes: the program's and the reference's say the same.
  The machine at codes of airports, countries and carriers, at decimals below 100, and at lists of violations that are compared: the program's and the reference's.
  The violations of configurations as plain data, and what configurations without any are.
  The machine at configurations: Find, Place, the program's and the reference's.
  The machine at the classes of a cabin: what is right, limits, what is left below them.
  The machine at the reference's classes of a cabin.
  The machine at the program's inventory: what does not change it.
  The machine at connecting times: how exactly an element matches, and the minimum.
  The machine at minimum connecting times: both programs find the same.
-/
import Derived.Test.YtaklebjoenophaaGreatEnvH
import Derived.Test.YtaklebjoenophaaGreatWq
import Derived.Test.YtaklebjoenophaaGreatSkT
set_option maxHeartbeats 64000000
set_option maxRecDepth 100000
set_option linter.unusedSimpArgs false
set_option linter.unusedVariables false
namespace Go.Proofs.YtaklebjoenophaaGreat.Dm
open Go
theorem prim1_ok {f:FuncId} {p:List D->List Ob->Option (D×List Ob)} (hp:prim1 f=some p) {args:List D} {S S':List Ob} {d:D} (hd:p args S=some (d,S')) {W:World} {C:Cx} {vargs:Array Value} (hs:SR W C S) (hP:C.P=E0.P) (hG:GR W C E0.G) (hv:VRs W C args vargs.toList):
  (∃fn,E0.P.funcs[f]?=some fn/\fn.body.isSome=true)/\
  Calls E0.P f vargs W λe W'=>∃v C',e=.returned v/\VR W' C' d v/\SR W' C' S'/\Fr W C S W' C' S':=by
 unfold prim1 at hp
 first
 | (cases hp;done)
 |skip
theorem envOk1:EnvOk E1 where
 mixed:=envOk0.mixed
 names:=envOk0.names
 keys:=envOk0.keys
 lin f fn c hf hb hm:=(linC_prim prim1 (λ_=>none) c).trans (envOk0.lin f fn c hf hb hm)
 globals:=envOk0.globals
 exts:=envOk0.exts
 prims f p hp args S d S' hd W C vargs hs hP hG hv:=prim1_ok hp hd hs hP hG hv
theorem prims_true:(primFs.all λf=>isT0 (dcallX E1 200 f [] []))=true:=by kernel_rfl
theorem envOk:EnvOk E where
 mixed:=envOk0.mixed
 names:=envOk0.names
 keys:=envOk0.keys
 lin f fn c hf hb hm:=(linC_prim primOf (λ_=>none) c).trans (envOk0.lin f fn c hf hb hm)
 globals:=envOk0.globals
 exts:=envOk0.exts
 prims f p hp args S d S' hd W C vargs hs hP hG hv:=by
  change primOf f=some p at hp
  unfold primOf at hp
  split at hp
  ·rename_i hm
   obtain⟨T,hT⟩:=isT0_spec (List.all_eq_true.1 prims_true f (List.contains_iff_mem.1 hm))
   have h':=(Kz hp).symm
   subst h'
   cases args with
   |nil=>
    cases hd
    exact prim_closed envOk1 hT hs hP hG hv
   |cons a l=>cases hd
  exact prim1_ok hp hd hs hP hG hv
open Gw
structure Shf where
 tm:Int
 off:Int
def Shf.enc (r:Shf):List D:=[.int .i64 r.tm,.int .i64 r.off]
structure Apt where
 code:ByteArray
 city:ByteArray
 ctry:ByteArray
 off:Int
 sh:List Shf
 shx:Bool
def Apt.enc (r:Apt):List D:=[.str r.code,.str r.city,.str r.ctry,.int .i64 r.off,.sl 2 (r.sh.map Shf.enc) r.shx]
structure Dst where
 fr:ByteArray
 to:ByteArray
 mi:Int
def Dst.enc (r:Dst):List D:=[.str r.fr,.str r.to,.int .i64 r.mi]
structure Plc where
 aps:List Apt
 apsx:Bool
 dts:List Dst
 dtsx:Bool
def Plc.enc (r:Plc):List D:=[.sl 5 (r.aps.map Apt.enc) r.apsx,.sl 3 (r.dts.map Dst.enc) r.dtsx]
theorem Shf_pure (r:Shf):Yp r.enc=true:=by
 simp only[D.pure,Yc,Yg,Ua,Bool.and_self,Shf.enc]
theorem Shfs_pure (l:List Shf):Zc (l.map Shf.enc)=true:=by
 induction l with
 |nil=>rfl
 |cons f fs ih=>rw[Uy,Zw,ih,Shf_pure];rfl
theorem Apt_pure (r:Apt):Yp r.enc=true:=by
 simp only[D.pure,Yc,Yg,Ua,Bool.and_self,Apt.enc,Shfs_pure]
theorem Apts_pure (l:List Apt):Zc (l.map Apt.enc)=true:=by
 induction l with
 |nil=>rfl
 |cons f fs ih=>rw[Uy,Zw,ih,Apt_pure];rfl
theorem Dst_pure (r:Dst):Yp r.enc=true:=by
 simp only[D.pure,Yc,Yg,Ua,Bool.and_self,Dst.enc]
theorem Dsts_pure (l:List Dst):Zc (l.map Dst.enc)=true:=by
 induction l with
 |nil=>rfl
 |cons f fs ih=>rw[Uy,Zw,ih,Dst_pure];rfl
theorem Yt (r:Plc):Yp r.enc=true:=by
 simp only[D.pure,Yc,Yg,Ua,Bool.and_self,Plc.enc,Apts_pure,Dsts_pure]
def Shf.Ok (r:Shf):Prop:=(-9223372036854775808<=r.tm/\r.tm<=9223372036854775807)/\(-9223372036854775808<=r.off/\r.off<=9223372036854775807)/\True
def Apt.Ok (r:Apt):Prop:=r.code.size<=9223372036854775807/\r.city.size<=9223372036854775807/\r.ctry.size<=9223372036854775807/\(-9223372036854775808<=r.off/\r.off<=9223372036854775807)/\((∀e∈r.sh,e.Ok)/\r.sh.length<=9223372036854775807)/\True
def Dst.Ok (r:Dst):Prop:=r.fr.size<=9223372036854775807/\r.to.size<=9223372036854775807/\(-9223372036854775808<=r.mi/\r.mi<=9223372036854775807)/\True
def Plc.Ok (r:Plc):Prop:=((∀e∈r.aps,e.Ok)/\r.aps.length<=9223372036854775807)/\((∀e∈r.dts,e.Ok)/\r.dts.length<=9223372036854775807)/\True
theorem Kj {α:Type} {l:List α} {i j:Nat} {x y:α} (h:j<i):(l.set i x).set j y=(l.set j (id y)).set i x:=List.set_comm _ _ (Nat.ne_of_gt h)
def Plan.andThen:Plan->Plan->Plan
 | .done,r=>r
 | .step i p,r=>.step i (p.andThen r)
 | .both p q,r=>.both (p.andThen r) (q.andThen r)
section
variable {call : Call} {ops : Array Oper} {a : List D} {S : List Ob} {Q : Post} {L : List Nat}
end
structure Prt where
 fr:Int
 to:Int
 fa:Int
 am:Int
def Prt.enc (r:Prt):List D:=[.int .i64 r.fr,.int .i64 r.to,.int .i64 r.fa,.int .i64 r.am]
theorem Prt_pure (r:Prt):Yp r.enc=true:=rfl
theorem Jr (l:List Prt):Zc (l.map Prt.enc)=true:=by
 induction l with
 |nil=>rfl
 |cons f fs ih=>rw[Uy,Zw,ih,Prt_pure];rfl
def Xa (p:Int×Int):List D:=[.int .i64 p.1,.int .i64 p.2]
theorem encPr_pure (p:Int×Int):Yp (Xa p)=true:=rfl
theorem Ka (l:List (Int×Int)):Zc (l.map Xa)=true:=by
 induction l with
 |nil=>rfl
 |cons f fs ih=>rw[Uy,Zw,ih,encPr_pure];rfl
def Jf (p:ByteArray×Int):List D:=[.str p.1,.int .i64 p.2]
theorem encCh_pure (p:ByteArray×Int):Yp (Jf p)=true:=rfl
theorem Ko (l:List (ByteArray×Int)):Zc (l.map Jf)=true:=by
 induction l with
 |nil=>rfl
 |cons f fs ih=>rw[Uy,Zw,ih,encCh_pure];rfl
structure Quo where
 parts:List Prt
 px:Bool
 pairs:List (Int×Int)
 qx:Bool
 taxes:List (ByteArray×Int)
 tx:Bool
 fare:Int
 total:Int
def Quo.enc (q:Quo):List D:=[.sl 4 (q.parts.map Prt.enc) q.px,.sl 2 (q.pairs.map Xa) q.qx,.sl 2 (q.taxes.map Jf) q.tx,.int .i64 q.fare,.int .i64 q.total]
theorem Quo_pure (q:Quo):Yp q.enc=true:=by
 simp only[D.pure,Yc,Yg,Ua,Bool.and_self,Quo.enc,Jr,Ka,Ko]
def ltP:List Prt->List Prt->Bool
 |x::xs,y::ys=>if x.to=y.to then if x.fa=y.fa then ltP xs ys else decide (x.fa<y.fa) else decide (x.to<y.to)
 |_,_=>false
def betterF (a b:Quo):Bool:=
 if a.total=b.total then if a.parts.length=b.parts.length then ltP a.parts b.parts else decide (a.parts.length<b.parts.length) else decide (a.total<b.total)
theorem zePart:Ji Tryz.prog 79=some (.agg [.int .i64 0,.int .i64 0,.int .i64 0,.int .i64 0]):=by kernel_rfl
theorem end0 {α:Type} {l:List α} {x y:α}:(l++[x]++[y])[l.length]?=some x:=by simp
theorem end1 {α:Type} {l:List α} {x y:α}:(l++[x]++[y])[l.length+1]?=some y:=by
 rw[show l.length+1=(l++[x]).length by simp]
 exact Yl
theorem end1s {α:Type} {l:List α} {x y z:α}:(l++[x]++[y]).set (l.length+1) z=l++[x]++[z]:=by
 rw[show l.length+1=(l++[x]).length by simp]
 exact Yq
section
variable {n : Nat}
end
def callV (E:Env) (call:Call) (dr:Bool) (S:List Ob) (d:D) (l:List D):Option (D×List Ob):=
 match d with
 | .func g first cap=>if dr && !(decide (E.mode g=.pure) || decide (E.mode g=.obs)) then none else Yi E call dr S g (first++l++cap)
 |_=>none
theorem Kk {E:Env} {call:Call} {dr:Bool} {ev:Operand->D} {S:List Ob} {t:Tmp} {args:Array Operand} {tys:Array TypeId} {Q:D->List Ob->Prop}:
  WO (dOp E call dr ev S (.call { callee:=.value (.tmp t),args:=args,argTypes:=tys })) Q=WO (callV E call dr S (ev (.tmp t)) (args.toList.map ev)) Q:=rfl
theorem Jn {E:Env} {call:Call} {S:List Ob} {g:FuncId} {x y l:List D}:callV E call false S (.func g x y) l=Yi E call false S g (x++l++y):=by
 simp[callV]
theorem byte_at' {s:ByteArray} {i:Nat} (h:i<s.size):∃b,s[i]?=some b:=⟨s[i],by simp[h]⟩
def capB (b:UInt8):Bool:=decide (65<=b.toNat) && decide (b.toNat<=90)
def digB (b:UInt8):Bool:=decide (48<=b.toNat) && decide (b.toNat<=57)
def cdB (b:UInt8):Bool:=capB b || digB b
def evr (p:UInt8->Bool) (s:ByteArray):Nat->Bool
 |0=>true
 |i+1=>evr p s i && p ((s[i]?).getD 0)
theorem evr_mono {p:UInt8->Bool} {s:ByteArray} {i j:Nat} (h:evr p s i=false) (hij:i<=j):evr p s j=false:=by
 induction j with
 |zero=>have:i=0:=by omega
        subst this;exact h
 |succ j ih=>
  rcases Kw hij with hlt |rfl
  ·rw[evr,ih (by omega)];rfl
  ·exact h
theorem evr_no {p:UInt8->Bool} {s:ByteArray} {i:Nat} {b:UInt8} (hi:i<s.size) (hb:s[i]?=some b) (hp:p b=false):evr p s s.size=false:=
 evr_mono (i:=i+1) (by rw[evr,hb,Option.getD_some,hp,Bool.and_false]) hi
theorem upper_d {n:Nat} {b:UInt8} {S:List Ob}:WO (Yb E (n+1) 151 [.int .u8 b.toNat] S) λd T=>d=.bool (capB b)/\T=S:=by
 refine Ye Tryz.func151 rfl (by decide) rfl 9 rfl (λa hal ha=>?_)
 have h0:=aQ1 ha
 clear ha
 unfold capB
 by_cases h1:65<=b.toNat
 ·have h1':(65:Int)<=(b.toNat:Int):=by omega
  by_cases h2:b.toNat<=90
  ·have h2':(b.toNat:Int)<=90:=by omega
   simp only[push_cast,hal,h0,h1,h1',h2,h2',Ua,Tryz.f151,↓WX,simprocAttr,WY]
  ·have h2':¬(b.toNat:Int)<=90:=by omega
   simp only[push_cast,hal,h0,h1,h1',h2,h2',Bool.and_false,Tryz.f151,↓WX,simprocAttr,WY]
 ·have h1':¬(65:Int)<=(b.toNat:Int):=by omega
  simp only[push_cast,hal,h0,h1,h1',Tryz.f151,↓WX,simprocAttr,WY]
theorem upper_c {n:Nat} (hn:1<=n) (b:UInt8) (st:Bool) (S:List Ob):Yi E (Yb E n) st S 151 [.int .u8 b.toNat]=some (.bool (capB b),S):=by
 obtain⟨m,rfl⟩:∃m,n=m+1:=⟨n-1,by omega⟩
 exact Yd rfl rfl (Ke upper_d) rfl
theorem ref_digit_d {n:Nat} {b:UInt8} {S:List Ob}:WO (Yb E (n+1) 152 [.int .u8 b.toNat] S) λd T=>d=.bool (digB b)/\T=S:=by
 refine Ye Tryz.func152 rfl (by decide) rfl 9 rfl (λa hal ha=>?_)
 have h0:=aQ1 ha
 clear ha
 unfold digB
 by_cases h1:48<=b.toNat
 ·have h1':(48:Int)<=(b.toNat:Int):=by omega
  by_cases h2:b.toNat<=57
  ·have h2':(b.toNat:Int)<=57:=by omega
   simp only[push_cast,hal,h0,h1,h1',h2,h2',Ua,Tryz.f152,↓WX,simprocAttr,WY]
  ·have h2':¬(b.toNat:Int)<=57:=by omega
   simp only[push_cast,hal,h0,h1,h1',h2,h2',Bool.and_false,Tryz.f152,↓WX,simprocAttr,WY]
 ·have h1':¬(48:Int)<=(b.toNat:Int):=by omega
  simp only[push_cast,hal,h0,h1,h1',Tryz.f152,↓WX,simprocAttr,WY]
theorem ref_digit_c {n:Nat} (hn:1<=n) (b:UInt8) (st:Bool) (S:List Ob):Yi E (Yb E n) st S 152 [.int .u8 b.toNat]=some (.bool (digB b),S):=by
 obtain⟨m,rfl⟩:∃m,n=m+1:=⟨n-1,by omega⟩
 exact Yd rfl rfl (Ke ref_digit_d) rfl
def codeS (s:ByteArray) (least most:Int):Bool:=decide (least<=s.size) && decide ((s.size:Int)<=most) && evr cdB s s.size
theorem ref_Code_d {n:Nat} {s:ByteArray} {l m:Int} {S:List Ob} (hn:s.size+3<n) (hz:s.size<=9223372036854775807):
  WO (Yb E (n+1) 105 [.str s,.int .i64 l,.int .i64 m] S) λd T=>d=.bool (codeS s l m)/\T=S:=by
 have c3:=upper_c (n:=n) (by omega)
 have c4:=ref_digit_c (n:=n) (by omega)
 refine Ye Tryz.func105 rfl (by decide) rfl 36 rfl (λa hal ha=>?_)
 obtain⟨h0,h1,h2⟩:=aQ3 ha
 clear ha
 simp only[push_cast,↓WX,simprocAttr]
 refine Yk (λi a T=>T=S/\a.length=36/\a[0]?=some (.str s)/\a[1]?=some (.int .i64 l)/\a[2]?=some (.int .i64 m)/\a[7]?=some (.int .i64 i)/\evr cdB s i=true) s.size ?_ (by omega) ?_
 ·simp only[push_cast,hal,h0,h1,h2,evr,simprocAttr,WY]
 ·rintro i a T hi ⟨rfl,hal,h0,h1,h2,h7,hv⟩
  rcases Kw hi with hlt |rfl
  ·obtain⟨b,hb⟩:=byte_at' hlt
   cases hp:capB b
   ·cases hq:digB b
    ·simp only[push_cast,hal,h0,h7,hlt,hb,c3,c4,hp,hq,dUn,Tryz.f105,↓WX,simprocAttr]
     unfold codeS
     rw[evr_no hlt hb (by unfold cdB;rw[hp,hq];rfl),Bool.and_false]
    ·have hcd:cdB b=true:=by unfold cdB;rw[hp,hq];rfl
     simp(disch:=omega)only[push_cast,hal,h0,h1,h2,h7,hlt,hb,c3,c4,hp,hq,dUn,Yf,evr,hv,hcd,↓WX,simprocAttr,WY]
   ·have hcd:cdB b=true:=by unfold cdB;rw[hp];rfl
    simp(disch:=omega)only[push_cast,hal,h0,h1,h2,h7,hlt,hb,c3,hp,dUn,Yf,evr,hv,hcd,↓WX,simprocAttr,WY]
  ·unfold codeS
   by_cases c1:l<=s.size
   ·by_cases c2:(s.size:Int)<=m
    ·simp only[push_cast,hal,h0,h1,h2,h7,c1,c2,hv,Vl,Tryz.f105,↓WX,simprocAttr,WY]
    ·simp only[push_cast,hal,h0,h1,h2,h7,c1,c2,hv,Vl,Tryz.f105,↓WX,simprocAttr,WY]
   ·simp only[push_cast,hal,h0,h1,h7,c1,hv,Vl,Tryz.f105,↓WX,simprocAttr,WY]
def lettS (s:ByteArray) (k:Nat):Bool:=decide (s.size=k) && evr capB s s.size
theorem letters_d {n k:Nat} {s:ByteArray} {S:List Ob} (hn:s.size+3<n) (hz:s.size<=9223372036854775807):
  WO (Yb E (n+1) 149 [.str s,.int .i64 k] S) λd T=>d=.bool (lettS s k)/\T=S:=by
 have c3:=upper_c (n:=n) (by omega)
 refine Ye Tryz.func149 rfl (by decide) rfl 21 rfl (λa hal ha=>?_)
 obtain⟨h0,h1⟩:=aQ2 ha
 clear ha
 simp only[push_cast,↓WX,simprocAttr]
 refine Yk (λi a T=>T=S/\a.length=21/\a[0]?=some (.str s)/\a[1]?=some (.int .i64 k)/\a[5]?=some (.int .i64 i)/\evr capB s i=true) s.size ?_ (by omega) ?_
 ·simp only[push_cast,hal,h0,h1,evr,simprocAttr,WY]
 ·rintro i a T hi ⟨rfl,hal,h0,h1,h5,hv⟩
  rcases Kw hi with hlt |rfl
  ·obtain⟨b,hb⟩:=byte_at' hlt
   cases hp:capB b
   ·simp only[push_cast,hal,h0,h5,hlt,hb,c3,hp,dUn,Tryz.f149,↓WX,simprocAttr]
    unfold lettS
    rw[evr_no hlt hb hp,Bool.and_false]
   ·simp(disch:=omega)only[push_cast,hal,h0,h1,h5,hlt,hb,c3,hp,dUn,Yf,evr,hv,↓WX,simprocAttr,WY]
  ·unfold lettS
   have hk:decide ((s.size:Int)=(k:Int))=decide (s.size=k):=decide_eq_decide.2 (by omega)
   simp only[push_cast,hal,h0,h1,h5,hv,hk,Vl,Ua,Tryz.f149,↓WX,simprocAttr]
theorem rAirport_c {n:Nat} {s:ByteArray} (hn:s.size+5<n) (hz:s.size<=9223372036854775807) (st:Bool) (S:List Ob):Yi E (Yb E n) st S 98 [.str s]=some (.bool (lettS s 3),S):=by
 obtain⟨m,rfl⟩:∃m,n=m+2:=⟨n-2,by omega⟩
 have q:∀st S,Yi E (Yb E (m+1)) st S 149 [.str s,.int .i64 3]=some (.bool (lettS s 3),S):=λst S=>Yd rfl rfl (Ke (letters_d (k:=3) (by omega) hz)) rfl
 have:WO (Yb E (m+2) 98 [.str s] []) λd T=>d=.bool (lettS s 3)/\T=[]:=by
  refine Ye Tryz.func98 rfl (by decide) rfl 5 rfl (λa hal ha=>?_)
  have h0:=aQ1 ha
  clear ha
  simp only[push_cast,hal,h0,q,Tryz.f98,↓WX,simprocAttr]
 exact Yd rfl rfl (Ke this) rfl
theorem rCountry_c {n:Nat} {s:ByteArray} (hn:s.size+5<n) (hz:s.size<=9223372036854775807) (st:Bool) (S:List Ob):Yi E (Yb E n) st S 99 [.str s]=some (.bool (lettS s 2),S):=by
 obtain⟨m,rfl⟩:∃m,n=m+2:=⟨n-2,by omega⟩
 have q:∀st S,Yi E (Yb E (m+1)) st S 149 [.str s,.int .i64 2]=some (.bool (lettS s 2),S):=λst S=>Yd rfl rfl (Ke (letters_d (k:=2) (by omega) hz)) rfl
 have:WO (Yb E (m+2) 99 [.str s] []) λd T=>d=.bool (lettS s 2)/\T=[]:=by
  refine Ye Tryz.func99 rfl (by decide) rfl 5 rfl (λa hal ha=>?_)
  have h0:=aQ1 ha
  clear ha
  simp only[push_cast,hal,h0,q,Tryz.f99,↓WX,simprocAttr]
 exact Yd rfl rfl (Ke this) rfl
def carS (s:ByteArray):Bool:=codeS s 2 2 && !evr digB s s.size
theorem codeS_size {s:ByteArray} {k:Nat} (h:codeS s k k=true):s.size=k:=by
 unfold codeS at h
 simp only[Kv,Up]at h
 omega
theorem cap_dig {b:UInt8} (h:cdB b=true):digB b= !capB b:=by
 unfold cdB at h
 unfold digB capB at*
 by_cases h1:48<=b.toNat <;> by_cases h2:b.toNat<=57 <;> by_cases h3:65<=b.toNat <;> by_cases h4:b.toNat<=90 <;> simp[h1,h2,h3,h4]at h ⊢ <;> omega
theorem rCarrier_c {n:Nat} {s:ByteArray} (hn:s.size+6<n) (hz:s.size<=9223372036854775807) (st:Bool) (S:List Ob):Yi E (Yb E n) st S 104 [.str s]=some (.bool (carS s),S):=by
 obtain⟨m,rfl⟩:∃m,n=m+2:=⟨n-2,by omega⟩
 have cc:∀st S,Yi E (Yb E (m+1)) st S 105 [.str s,.int .i64 2,.int .i64 2]=some (.bool (codeS s 2 2),S):=λst S=>Yd rfl rfl (Ke (ref_Code_d (by omega) hz)) rfl
 have cu:=upper_c (n:=m+1) (by omega)
 have:WO (Yb E (m+2) 104 [.str s] []) λd T=>d=.bool (carS s)/\T=[]:=by
  refine Ye Tryz.func104 rfl (by decide) rfl 15 rfl (λa hal ha=>?_)
  have h0:=aQ1 ha
  clear ha
  unfold carS
  cases hc:codeS s 2 2
  ·simp only[push_cast,hal,h0,cc,hc,Tryz.f104,↓WX,simprocAttr,WY]
  ·have hz:=codeS_size (k:=2) hc
   obtain⟨b0,e0⟩:=byte_at' (s:=s) (i:=0) (by omega)
   obtain⟨b1,e1⟩:=byte_at' (s:=s) (i:=1) (by omega)
   have hev:evr cdB s s.size=true:=by
    unfold codeS at hc
    simp only[Kv]at hc
    exact hc.2
   rw[hz]at hev ⊢
   simp only[evr,e0,e1,Option.getD_some,Kv,WY]at hev
   have hd:(!evr digB s 2)=(capB b0 || capB b1):=by
    simp only[evr,e0,e1,Option.getD_some,cap_dig hev.1,cap_dig hev.2,WY]
    cases capB b0 <;> cases capB b1 <;> rfl
   rw[hd]
   cases hb:capB b0
   ·simp only[push_cast,hal,h0,cc,hc,cu,e0,e1,hb,Bool.false_or,Tryz.f104,↓WX,simprocAttr,WY]
   ·simp only[push_cast,hal,h0,cc,hc,cu,e0,hb,Bool.true_or,Tryz.f104,↓WX,simprocAttr,WY]
 exact Yd rfl rfl (Ke this) rfl
/-! Decimals of numbers below 100. -/
def dec2 (n:Nat):ByteArray:=if n<10 then ⟨#[UInt8.ofNat (48+n)]⟩ else ⟨#[UInt8.ofNat (48+n / 10),UInt8.ofNat (48+n % 10)]⟩
theorem rdec2_all:(List.range 100).all (λn=>sameS (strOf (Yb E 40 42 [.int .i64 n] [])) (some (dec2 n)))=true:=by kernel_rfl
theorem rdec2_c {n:Nat} (hn:40<=n) {i:Nat} (hi:i<100) (st:Bool) (S:List Ob):Yi E (Yb E n) st S 42 [.int .i64 i]=some (.str (dec2 i),S):=by
 obtain⟨s,h1,h2⟩:=sameS_spec (List.all_eq_true.1 rdec2_all i (List.mem_range.2 hi))
 obtain⟨T,e⟩:=strOf_spec h1
 rw[Kz h2]
 exact callD_up hn (Yd rfl rfl e rfl)
theorem dec2_size (n:Nat):(dec2 n).size<=2:=by
 unfold dec2;split <;> simp[ByteArray.size]
/-! Lists of violations that are equal are found equal. -/
def FZ (d:D) (fs:List (Int×ByteArray)):Prop:=(d=.nils/\fs=[])∨∃x,d=.sl 2 (fs.map encF) x
theorem FV.fz {T:List Ob} {d:D} {fs:List (Int×ByteArray)} (h:FV T d fs):∃d',Xp T 40 d=some d'/\FZ d' fs:=by
 rcases h with ⟨rfl,rfl⟩ | ⟨x,rfl⟩ | ⟨k,rfl,hk⟩
 ·exact⟨_,rfl,.inl ⟨rfl,rfl⟩⟩
 ·exact⟨_,Yy (encF_pure fs),.inr ⟨x,rfl⟩⟩
 ·have:=freeze_os (n:=38) (x:=false) hk (encF_pure fs)
  rw[Uq]at this
  exact⟨_,this,.inr ⟨_,rfl⟩⟩
theorem FZ.pure {d:D} {fs:List (Int×ByteArray)} (h:FZ d fs):d.pure=true:=by
 rcases h with ⟨rfl,-⟩ | ⟨x,rfl⟩
 ·rfl
 ·exact encF_pure fs
/-! ### Sets of texts as maps -/
def inB (t:ByteArray) (l:List ByteArray):Bool:=l.any λu=>decide (u=t)
theorem inB_app (t:ByteArray) (a b:List ByteArray):inB t (a++b)=(inB t a || inB t b):=by unfold inB;rw[List.any_append]
theorem inB_one (t u:ByteArray):inB t [u]=decide (u=t):=by simp[inB]
def SetIs (ps:List (D×D)) (l:List ByteArray):Prop:=(∀p∈ps,∃s,p.1=.str s)/\∀t:ByteArray,Jp ps (.str t)=if inB t l=true then some (.bool true) else none
theorem SetIs.nil:SetIs [] []:=⟨λp h=>(by cases h),λt=>by simp[Jp,inB]⟩
theorem look_put:∀(ps:List (D×D)) (s t:ByteArray) (v:D),(∀p∈ps,∃s,p.1=.str s)->Jp (putM ps (.str s) v) (.str t)=if s=t then some v else Jp ps (.str t)
 | [],s,t,v,_=>by
  by_cases e:s=t
  ·simp[putM,Jp,Yz,kBeq,e]
  ·simp[putM,Jp,Yz,kBeq,e]
 | (a,b)::ps,s,t,v,h=>by
  obtain⟨u,hu⟩:=h (a,b) (by simp)
  have hu:a=.str u:=hu
  subst hu
  have ih:=look_put ps s t v (λp hp=>h p (by simp[hp]))
  have hk:∀x y:ByteArray,Yz (.str x) (.str y)=decide (x=y):=λx y=>rfl
  by_cases e:u=s
  ·subst e
   rw[putM,hk,if_pos (by simp)]
   by_cases e2:u=t
   ·simp[Jp,hk,e2]
   ·simp[Jp,hk,e2]
  ·rw[putM,hk,if_neg (by simpa using e)]
   by_cases e2:u=t
   ·subst e2
    rw[if_neg (λx=>e x.symm)]
    simp[Jp,hk]
   ·have l1:Jp ((.str u,b)::putM ps (.str s) v) (.str t)=Jp (putM ps (.str s) v) (.str t):=by simp[Jp,hk,e2]
    have l2:Jp ((.str u,b)::ps) (.str t)=Jp ps (.str t):=by simp[Jp,hk,e2]
    rw[l1,l2,ih]
theorem put_keys:∀(ps:List (D×D)) (s:ByteArray) (v:D),(∀p∈ps,∃s,p.1=.str s)->∀p∈putM ps (.str s) v,∃s,p.1=.str s
 | [],s,v,_,p,hp=>by
  simp only[putM,List.mem_singleton]at hp
  subst hp
  exact⟨s,rfl⟩
 | (a,b)::ps,s,v,h,p,hp=>by
  rw[putM]at hp
  split at hp
  ·rcases List.mem_cons.1 hp with rfl |hp
   ·exact h (a,b) (by simp)
   ·exact h p (by simp[hp])
  ·rcases List.mem_cons.1 hp with rfl |hp
   ·exact h (a,b) (by simp)
   ·exact put_keys ps s v (λq hq=>h q (by simp[hq])) p hp
theorem SetIs.put {ps:List (D×D)} {l:List ByteArray} (h:SetIs ps l) (s:ByteArray):SetIs (putM ps (.str s) (.bool true)) (l++[s]):=by
 refine⟨put_keys ps s _ h.1,λt=>?_⟩
 rw[look_put ps s t _ h.1,h.2,inB_app,inB_one]
 by_cases e:s=t
 ·simp[e]
 ·simp[e]
/-! ### The violations -/
def rngB (y:Cab):Bool:=decide (1<=y.seats) && decide (y.seats<=999) && decide (0<=y.over) && decide (y.over<=999)
def cnfS (i:Nat):ByteArray:=ByteArray.mk #[99,111,110,102,105,103,32]++dec2 i
def cbnS (at':ByteArray) (k:Nat):ByteArray:=at'++ByteArray.mk #[32,99,97,98,105,110,32]++dec2 k
def clsS (at':ByteArray) (k:Nat):ByteArray:=at'++ByteArray.mk #[32,99,108,97,115,115,32]++dec2 k
def clsB (s:ByteArray):Bool:=decide (s.size=1) && capB ((s[0]?).getD 0)
def protB (y:Cab) (j:Nat) (z:Cls):Bool:=decide (z.prot<0) || (decide (0<j) && decide (z.prot<((y.cls[j-1]?).map (·.prot)).getD 0)) || (rngB y && decide (autF y<z.prot))
def clsF (at':ByteArray) (seen:List ByteArray) (y:Cab) (j:Nat) (z:Cls):List (Int×ByteArray):=
 ifF (!clsB z.code) 16 (clsS at' j)++ifF (inB z.code seen) 6 (clsS at' j)++ifF (protB y j z) 2 (clsS at' j)
def clsL (at':ByteArray) (seen:List ByteArray) (y:Cab):Nat->List (Int×ByteArray)
 |0=>[]
 |j+1=>clsL at' seen y j++match y.cls[j]? with
  |some z=>clsF at' (seen++(y.cls.take j).map (·.code)) y j z
  |none=>[]
def cabF (at':ByteArray) (pre:List Cab) (k:Nat) (y:Cab):List (Int×ByteArray):=
 ifF (!codeS y.name 1 8) 5 (cbnS at' k)++ifF (inB y.name (pre.map (·.name))) 6 (cbnS at' k)++ifF (!rngB y) 2 (cbnS at' k)++ifF (decide (y.cls.length<1) || decide (26<y.cls.length)) 4 (cbnS at' k)++clsL (cbnS at' k) (codes pre) y y.cls.length
def cabL (at':ByteArray) (l:List Cab):Nat->List (Int×ByteArray)
 |0=>[]
 |k+1=>cabL at' l k++match l[k]? with
  |some y=>cabF at' (l.take k) k y
  |none=>[]
def cfgF (pre:List Cfg) (i:Nat) (x:Cfg):List (Int×ByteArray):=
 ifF (!codeS x.equip 3 3) 5 (cnfS i)++ifF (inB x.equip (pre.map (·.equip))) 6 (cnfS i)++ifF (decide (x.cabs.length<1) || decide (4<x.cabs.length)) 4 (cnfS i)++cabL (cnfS i) x.cabs x.cabs.length
def cfgL (l:List Cfg):Nat->List (Int×ByteArray)
 |0=>[]
 |i+1=>cfgL l i++match l[i]? with
  |some x=>cfgF (l.take i) i x
  |none=>[]
/-! ### No violations -/
structure Sm (c:Cfg):Prop where
 cabs:c.cabs.length<=30
 cls:∀y∈c.cabs,y.cls.length<=30
theorem CfgOk.sm {c:Cfg} (h:CfgOk c):Sm c:=⟨by have:=h.l2;omega,λy hy=>by have:=(h.cab y hy).l2;omega⟩
/-! ### What may be sold in a cabin, and which class takes the place of a class -/
/-! ### Words -/
theorem exts_split {S T:List Ob} (h:ExtS S T):∃J,T=S++J:=by
 refine⟨T.drop S.length,List.ext_getElem? λk=>?_⟩
 by_cases hk:k<S.length
 ·rw[Ut hk,Uh hk]
  exact h k _ (Uh hk)
 ·rw[Vh (by omega),List.getElem?_drop]
  congr 1
  omega
theorem Gw.ExtS.set {S T:List Ob} (h:ExtS S T) {k:Nat} (hk:S.length<=k) (o:Ob):ExtS S (T.set k o):=λj x hj=>by
 have:=lt_of_get hj
 rw[Kt (by omega)]
 exact h j x hj
theorem Gw.ExtS.len {S T:List Ob} (h:ExtS S T):S.length<=T.length:=by
 obtain⟨J,rfl⟩:=exts_split h
 rw[Ku];omega
section
variable {call : Call} {st : Bool} {S : List Ob} {f : FuncId} {args : List D} {d d' : D} {T : List Ob}
end
/-! ### Numbers that are right -/
/-! ### Limits -/
/-! ### What is left below the limits -/
def mnF (y:Cab) (l:List Int) (i:Nat):Nat->Int
 |0=>spF y l i
 |k+1=>min (mnF y l i k) (spF y l k)
/-! ### Keys and pointers -/
section
variable {S : List Ob} {lab : Lab} {o k m n : Nat} {c0 : D} {ps : List (D × D)}
end
/-! ### A leg -/
theorem LegAt.parts {S:List Ob} {lab:Lab} {o i p:Nat} {x:Leg} (h:LegAt S lab o i p x):∃q es,S[p]?=some (.row 4 [[.str x.cfg.equip,.sl 4 (x.cfg.cabs.map Cab.enc) x.cfg.cabsx,.os q 0 x.sold.length false,.bool x.closed]])/\S[q]?=some (.row 1 es)/\lab q=[o,2,i]/\
  ∀(j:Nat) (row:List Int),x.sold[j]?=some row->∃r,es[j]?=some [.os r 0 row.length false]/\lab r=[o,3,i,j]/\S[r]?=some (.row 1 (row.map encZ)):=by
 obtain⟨-,d,h1,q,r,es,rfl,h2,h3,h4,h5⟩:=h
 exact⟨q,es,h1,h3,h2,λj row hj=>⟨r j,h5 j row hj⟩⟩
section
variable {S : List Ob} {lab : Lab} {o i p n : Nat} {x : Leg} {l : List Cfg}
end
/-! ### The inventory -/
section
variable {S : List Ob} {lab : Lab} {o k m n : Nat} {s : Stk} {ps : List (D × D)} {id : Lid}
def excT (x:Leg):Nat->Int
 |0=>0
 |c+1=>match x.cfg.cabs[c]?,x.sold[c]? with
  |some y,some row=>max (excT x c) (excF y row row.length)
  |_,_=>excT x c
end
structure Cnn where
 a:ByteArray
 i:ByteArray
 o:ByteArray
 m:Int
def Cnn.enc (c:Cnn):List D:=[.str c.a,.str c.i,.str c.o,.int .i64 c.m]
def emp:ByteArray:=ByteArray.mk #[]
def eqS (x y:ByteArray):Bool:=x.toList == y.toList
def obs:List (Option Bool):=[none,some true,some false]
structure Sgm where
 c:ByteArray
 n:Int
 d:Int
 f:ByteArray
 t:ByteArray
 dep:Int
 arr:Int
def Sgm.enc (s:Sgm):List D:=[.str s.c,.int .i64 s.n,.int .i64 s.d,.str s.f,.str s.t,.int .i64 s.dep,.int .i64 s.arr]
def minCF (w:Cnn->Int) (m b:Int):List Cnn->Int
 | []=>m
 |c::l=>if b<w c then minCF w c.m (w c) l else minCF w m b l
end Go.Proofs.YtaklebjoenophaaGreat.Dm
