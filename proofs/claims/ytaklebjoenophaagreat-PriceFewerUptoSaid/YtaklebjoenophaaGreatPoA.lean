/-
  Prices: which one is preferred, and which are equal, by the program and by the reference.
  Small functions that a price asks: near, times, covers; local times, days; surcharges.
  The reference's percentages and surcharges: they answer.
  The reference's levels of surcharges, local times and days: they answer.
  The reference's distances: what is reached so far.
  The violations of configurations as plain data, and what configurations without any are.
  The machine at the reference's classes of a cabin.
  The machine at the program's inventory: what does not change it.
-/
import Derived.Test.YtaklebjoenophaaGreatEnvB
import Derived.Test.YtaklebjoenophaaGreatGw
set_option maxHeartbeats 64000000
set_option maxRecDepth 100000
set_option linter.unusedSimpArgs false
set_option linter.unusedVariables false
namespace Go.Proofs.YtaklebjoenophaaGreat.Dm
open Go Gw
structure Prt where
 fr:Int
 to:Int
 fa:Int
 am:Int
def Prt.enc (r:Prt):List D:=[.int .i64 r.fr,.int .i64 r.to,.int .i64 r.fa,.int .i64 r.am]
theorem Prt_pure (r:Prt):pureL r.enc=true:=rfl
theorem Prts_pure (l:List Prt):pureLL (l.map Prt.enc)=true:=by
 induction l with
 |nil=>rfl
 |cons f fs ih=>rw[Zh,pureLL_cons,ih,Prt_pure];rfl
def encPr (p:Int×Int):List D:=[.int .i64 p.1,.int .i64 p.2]
theorem encPr_pure (p:Int×Int):pureL (encPr p)=true:=rfl
theorem encPrs_pure (l:List (Int×Int)):pureLL (l.map encPr)=true:=by
 induction l with
 |nil=>rfl
 |cons f fs ih=>rw[Zh,pureLL_cons,ih,encPr_pure];rfl
def encCh (p:ByteArray×Int):List D:=[.str p.1,.int .i64 p.2]
theorem encCh_pure (p:ByteArray×Int):pureL (encCh p)=true:=rfl
theorem encChs_pure (l:List (ByteArray×Int)):pureLL (l.map encCh)=true:=by
 induction l with
 |nil=>rfl
 |cons f fs ih=>rw[Zh,pureLL_cons,ih,encCh_pure];rfl
structure Quo where
 parts:List Prt
 px:Bool
 pairs:List (Int×Int)
 qx:Bool
 taxes:List (ByteArray×Int)
 tx:Bool
 fare:Int
 total:Int
def Quo.enc (q:Quo):List D:=[.sl 4 (q.parts.map Prt.enc) q.px,.sl 2 (q.pairs.map encPr) q.qx,.sl 2 (q.taxes.map encCh) q.tx,.int .i64 q.fare,.int .i64 q.total]
def ltP:List Prt->List Prt->Bool
 |x::xs,y::ys=>if x.to=y.to then if x.fa=y.fa then ltP xs ys else decide (x.fa<y.fa) else decide (x.to<y.to)
 |_,_=>false
def betterF (a b:Quo):Bool:=
 if a.total=b.total then if a.parts.length=b.parts.length then ltP a.parts b.parts else decide (a.parts.length<b.parts.length) else decide (a.total<b.total)
theorem ltP_drop {a b:List Prt} {i:Nat} {x y:Prt} (hx:a[i]?=some x) (hy:b[i]?=some y):ltP (a.drop i) (b.drop i)=if x.to=y.to then if x.fa=y.fa then ltP (a.drop (i+1)) (b.drop (i+1)) else decide (x.fa<y.fa) else decide (x.to<y.to):=by
 obtain⟨ha,rfl⟩:=Ya.1 hx
 obtain⟨hb,rfl⟩:=Ya.1 hy
 rw[List.drop_eq_getElem_cons ha,List.drop_eq_getElem_cons hb]
 rfl
theorem zePart:zeroT Tryz.prog 79=some (.agg [.int .i64 0,.int .i64 0,.int .i64 0,.int .i64 0]):=by kernel_rfl
theorem end0 {α:Type} {l:List α} {x y:α}:(l++[x]++[y])[l.length]?=some x:=by simp
theorem end1 {α:Type} {l:List α} {x y:α}:(l++[x]++[y])[l.length+1]?=some y:=by
 rw[show l.length+1=(l++[x]).length by simp]
 exact get_end
theorem end1s {α:Type} {l:List α} {x y z:α}:(l++[x]++[y]).set (l.length+1) z=l++[x]++[z]:=by
 rw[show l.length+1=(l++[x]).length by simp]
 exact set_end
section
variable {n : Nat}
end
structure Wnt where
 car:ByteArray
 num:Int
 day:Int
 fr:ByteArray
 to:ByteArray
 dep:Int
 arr:Int
 cls:ByteArray
def Wnt.enc (w:Wnt):List D:=[.str w.car,.int .i64 w.num,.int .i64 w.day,.str w.fr,.str w.to,.int .i64 w.dep,.int .i64 w.arr,.str w.cls]
theorem Wnt_pure (r:Wnt):pureL r.enc=true:=rfl
theorem Wnts_pure (l:List Wnt):pureLL (l.map Wnt.enc)=true:=by
 induction l with
 |nil=>rfl
 |cons f fs ih=>rw[Zh,pureLL_cons,ih,Wnt_pure];rfl
def Wnt.tm (w:Wnt):Prop:=0<=w.dep/\w.dep<52596000/\0<=w.arr/\w.arr<52596000
def cvF:List Prt->Int->Int->Bool
 | [],k,n=>decide (k=n)
 |x::xs,k,n=>if x.fr=k/\k<x.to/\x.to<=n then cvF xs x.to n else false
section
variable {n : Nat}
theorem near28_c (hn:1<=n) (x:Int):∃b,(b=true-> -1099511627776<=x/\x<=1099511627776)/\∀st S,callD E (dcall E n) st S 18 [.int .i64 x]=some (.bool b,S):=by
 obtain⟨m,rfl⟩:∃m,n=m+1:=⟨n-1,by omega⟩
 have:WO (dcall E (m+1) 18 [.int .i64 x] []) λr T=>∃b,r=.bool b/\(b=true-> -1099511627776<=x/\x<=1099511627776):=by
  refine wo_dcall Tryz.func18 rfl (by decide) rfl 9 rfl (λa hal ha=>?_)
  have h0:a[0]?=some _:=ha 0 (by simp)
  clear ha
  by_cases c1:x>= -1099511627776
  case neg=>
   have d1:decide (x>= -1099511627776)=false:=Ym c1
   simp only[push_cast,hal,h0,d1,Tryz.f18,↓WX,simprocAttr]
   exact⟨_,rfl,λh=>by cases h⟩
  have d1:decide (x>= -1099511627776)=true:=Yn c1
  by_cases c2:x<=1099511627776
  case neg=>
   have d2:decide (x<=1099511627776)=false:=Ym c2
   simp only[push_cast,hal,h0,d1,d2,Tryz.f18,↓WX,simprocAttr]
   exact⟨_,rfl,λh=>by cases h⟩
  have d2:decide (x<=1099511627776)=true:=Yn c2
  simp only[push_cast,hal,h0,d1,d2,Tryz.f18,↓WX,simprocAttr]
  exact⟨_,rfl,λ_=>⟨c1,c2⟩⟩
 obtain⟨_,T,ho,b,rfl,hb⟩:=this
 exact⟨b,hb,λst S=>callD_pure rfl rfl ho rfl⟩
theorem times28_c (l:List Wnt) (lx:Bool) (hl:l.length<=1048576) (hn:1048580<=n):∃b,(b=true->∀w∈l,w.tm)/\∀st S,callD E (dcall E n) st S 19 [.sl 8 (l.map Wnt.enc) lx]=some (.bool b,S):=by
 obtain⟨m,rfl⟩:∃m,n=m+1:=⟨n-1,by omega⟩
 have:WO (dcall E (m+1) 19 [.sl 8 (l.map Wnt.enc) lx] []) λr T=>∃b,r=.bool b/\(b=true->∀w∈l,w.tm):=by
  refine wo_dcall Tryz.func19 rfl (by decide) rfl 44 rfl (λa hal ha=>?_)
  have h0:a[0]?=some _:=ha 0 (by simp)
  clear ha
  simp only[push_cast,↓WX,simprocAttr]
  refine wl_loop (λi a T=>(T=[]/\∀w∈l.take i,w.tm)/\a.length=44/\a[0]?=some (.sl 8 (l.map Wnt.enc) lx)/\a[3]?=some (.int .i64 i)) l.length ?_ (by omega) ?_
  ·simp only[push_cast,hal,h0,simprocAttr,WY]
   exact λw hw=>by cases hw
  rintro i a T hi ⟨⟨rfl,e⟩,hal,h0,h3⟩
  rcases Yf hi with hlt |rfl
  case inr=>
   simp only[push_cast,hal,h0,h3,Tryz.f19,↓WX,simprocAttr,WY]
   exact⟨_,rfl,λ_=>by rw[Zs]at e;exact e⟩
  have hltc:(i:Int)<l.length:=by omega
  obtain⟨x,hx⟩:∃x,l[i]?=some x:=⟨l[i],by simp⟩
  by_cases c1:x.dep<0
  ·have d1:decide (x.dep<0)=true:=Yn c1
   simp only[push_cast,hal,h0,h3,hltc,hx,d1,Wnt.enc,Tryz.f19,↓WX,simprocAttr]
   exact⟨_,rfl,λh=>by cases h⟩
  have d1:decide (x.dep<0)=false:=Ym c1
  by_cases c2:x.dep>=52596000
  ·have d2:decide (x.dep>=52596000)=true:=Yn c2
   simp only[push_cast,hal,h0,h3,hltc,hx,d1,d2,Wnt.enc,Tryz.f19,↓WX,simprocAttr]
   exact⟨_,rfl,λh=>by cases h⟩
  have d2:decide (x.dep>=52596000)=false:=Ym c2
  by_cases c3:x.arr<0
  ·have d3:decide (x.arr<0)=true:=Yn c3
   simp only[push_cast,hal,h0,h3,hltc,hx,d1,d2,d3,Wnt.enc,Tryz.f19,↓WX,simprocAttr]
   exact⟨_,rfl,λh=>by cases h⟩
  have d3:decide (x.arr<0)=false:=Ym c3
  by_cases c4:x.arr>=52596000
  ·have d4:decide (x.arr>=52596000)=true:=Yn c4
   simp only[push_cast,hal,h0,h3,hltc,hx,d1,d2,d3,d4,Wnt.enc,Tryz.f19,↓WX,simprocAttr]
   exact⟨_,rfl,λh=>by cases h⟩
  have d4:decide (x.arr>=52596000)=false:=Ym c4
  simp(maxSteps:=1000000)(disch:=omega)only[push_cast,hal,h0,h3,hltc,hlt,hx,d1,d2,d3,d4,Wnt.enc,wrap_ok,Int.natCast_add,Int.natCast_one,↓WX,simprocAttr]
  intro w hw
  rw[List.take_add_one,hx]at hw
  rcases List.mem_append.1 hw with hw |hw
  ·exact e w hw
  ·obtain rfl:w=x:=by simpa using hw
   exact⟨by omega,by omega,by omega,by omega⟩
 obtain⟨_,T,ho,b,rfl,hb⟩:=this
 exact⟨b,hb,λst S=>callD_pure rfl (by simp only[pureL_cons,pureL_nil,D.pure,Wnts_pure,Yj]) ho rfl⟩
end
section
variable {n : Nat}
end
section
variable {n : Nat}
end
def encSp (p:ByteArray×Int):List D:=[.str p.1,.int .i64 p.2]
def rchF (s:ByteArray):List (ByteArray×Int)->Int
 | []=> -1
 |p::ps=>if p.1=s then p.2 else rchF s ps
section
variable {n : Nat}
def reF (s:ByteArray) (v:Int):List (ByteArray×Int)->List (ByteArray×Int)×Bool
 | []=>([(s,v)],true)
 |p::ps=>if p.1=s then if p.2<=v then (p::ps,false) else ((p.1,v)::ps,true) else (p::(reF s v ps).1,(reF s v ps).2)
end
/-! ### Sets of texts as maps -/
def inB (t:ByteArray) (l:List ByteArray):Bool:=l.any λu=>decide (u=t)
theorem inB_app (t:ByteArray) (a b:List ByteArray):inB t (a++b)=(inB t a || inB t b):=by unfold inB;rw[List.any_append]
theorem inB_one (t u:ByteArray):inB t [u]=decide (u=t):=by simp[inB]
def SetIs (ps:List (D×D)) (l:List ByteArray):Prop:=(∀p∈ps,∃s,p.1=.str s)/\∀t:ByteArray,lookM ps (.str t)=if inB t l=true then some (.bool true) else none
theorem SetIs.nil:SetIs [] []:=⟨λp h=>(by cases h),λt=>by simp[lookM,inB]⟩
theorem look_put:∀(ps:List (D×D)) (s t:ByteArray) (v:D),(∀p∈ps,∃s,p.1=.str s)->lookM (putM ps (.str s) v) (.str t)=if s=t then some v else lookM ps (.str t)
 | [],s,t,v,_=>by
  by_cases e:s=t
  ·simp[putM,lookM,keyBeq,kBeq,e]
  ·simp[putM,lookM,keyBeq,kBeq,e]
 | (a,b)::ps,s,t,v,h=>by
  obtain⟨u,hu⟩:=h (a,b) (by simp)
  have hu:a=.str u:=hu
  subst hu
  have ih:=look_put ps s t v (λp hp=>h p (by simp[hp]))
  have hk:∀x y:ByteArray,keyBeq (.str x) (.str y)=decide (x=y):=λx y=>rfl
  by_cases e:u=s
  ·subst e
   rw[putM,hk,if_pos (by simp)]
   by_cases e2:u=t
   ·simp[lookM,hk,e2]
   ·simp[lookM,hk,e2]
  ·rw[putM,hk,if_neg (by simpa using e)]
   by_cases e2:u=t
   ·subst e2
    rw[if_neg (λx=>e x.symm)]
    simp[lookM,hk]
   ·have l1:lookM ((.str u,b)::putM ps (.str s) v) (.str t)=lookM (putM ps (.str s) v) (.str t):=by simp[lookM,hk,e2]
    have l2:lookM ((.str u,b)::ps) (.str t)=lookM ps (.str t):=by simp[lookM,hk,e2]
    rw[l1,l2,ih]
theorem put_keys:∀(ps:List (D×D)) (s:ByteArray) (v:D),(∀p∈ps,∃s,p.1=.str s)->∀p∈putM ps (.str s) v,∃s,p.1=.str s
 | [],s,v,_,p,hp=>by
  simp only[putM,List.mem_singleton]at hp
  subst hp
  exact⟨s,rfl⟩
 | (a,b)::ps,s,v,h,p,hp=>by
  rw[putM]at hp
  split at hp
  ·rcases List.mem_cons.1 hp with rfl |hp
   ·exact h (a,b) (by simp)
   ·exact h p (by simp[hp])
  ·rcases List.mem_cons.1 hp with rfl |hp
   ·exact h (a,b) (by simp)
   ·exact put_keys ps s v (λq hq=>h q (by simp[hq])) p hp
theorem SetIs.put {ps:List (D×D)} {l:List ByteArray} (h:SetIs ps l) (s:ByteArray):SetIs (putM ps (.str s) (.bool true)) (l++[s]):=by
 refine⟨put_keys ps s _ h.1,λt=>?_⟩
 rw[look_put ps s t _ h.1,h.2,inB_app,inB_one]
 by_cases e:s=t
 ·simp[e]
 ·simp[e]
/-! ### The violations -/
def rngB (y:Cab):Bool:=decide (1<=y.seats) && decide (y.seats<=999) && decide (0<=y.over) && decide (y.over<=999)
def cnfS (i:Nat):ByteArray:=ByteArray.mk #[99,111,110,102,105,103,32]++dec2 i
def cbnS (at':ByteArray) (k:Nat):ByteArray:=at'++ByteArray.mk #[32,99,97,98,105,110,32]++dec2 k
def clsS (at':ByteArray) (k:Nat):ByteArray:=at'++ByteArray.mk #[32,99,108,97,115,115,32]++dec2 k
def clsB (s:ByteArray):Bool:=decide (s.size=1) && capB ((s[0]?).getD 0)
def protB (y:Cab) (j:Nat) (z:Cls):Bool:=decide (z.prot<0) || (decide (0<j) && decide (z.prot<((y.cls[j-1]?).map (·.prot)).getD 0)) || (rngB y && decide (autF y<z.prot))
def clsF (at':ByteArray) (seen:List ByteArray) (y:Cab) (j:Nat) (z:Cls):List (Int×ByteArray):=
 ifF (!clsB z.code) 16 (clsS at' j)++ifF (inB z.code seen) 6 (clsS at' j)++ifF (protB y j z) 2 (clsS at' j)
def clsL (at':ByteArray) (seen:List ByteArray) (y:Cab):Nat->List (Int×ByteArray)
 |0=>[]
 |j+1=>clsL at' seen y j++match y.cls[j]? with
  |some z=>clsF at' (seen++(y.cls.take j).map (·.code)) y j z
  |none=>[]
def cabF (at':ByteArray) (pre:List Cab) (k:Nat) (y:Cab):List (Int×ByteArray):=
 ifF (!codeS y.name 1 8) 5 (cbnS at' k)++ifF (inB y.name (pre.map (·.name))) 6 (cbnS at' k)++ifF (!rngB y) 2 (cbnS at' k)++ifF (decide (y.cls.length<1) || decide (26<y.cls.length)) 4 (cbnS at' k)++clsL (cbnS at' k) (codes pre) y y.cls.length
def cabL (at':ByteArray) (l:List Cab):Nat->List (Int×ByteArray)
 |0=>[]
 |k+1=>cabL at' l k++match l[k]? with
  |some y=>cabF at' (l.take k) k y
  |none=>[]
def cfgF (pre:List Cfg) (i:Nat) (x:Cfg):List (Int×ByteArray):=
 ifF (!codeS x.equip 3 3) 5 (cnfS i)++ifF (inB x.equip (pre.map (·.equip))) 6 (cnfS i)++ifF (decide (x.cabs.length<1) || decide (4<x.cabs.length)) 4 (cnfS i)++cabL (cnfS i) x.cabs x.cabs.length
def cfgL (l:List Cfg):Nat->List (Int×ByteArray)
 |0=>[]
 |i+1=>cfgL l i++match l[i]? with
  |some x=>cfgF (l.take i) i x
  |none=>[]
/-! ### No violations -/
def mnF (y:Cab) (l:List Int) (i:Nat):Nat->Int
 |0=>spF y l i
 |k+1=>min (mnF y l i k) (spF y l k)
/-! ### Keys and pointers -/
section
variable {S : List Ob} {lab : Lab} {o k m n : Nat} {c0 : D} {ps : List (D × D)}
end
/-! ### A leg -/
theorem LegAt.parts {S:List Ob} {lab:Lab} {o i p:Nat} {x:Leg} (h:LegAt S lab o i p x):∃q es,S[p]?=some (.row 4 [[.str x.cfg.equip,.sl 4 (x.cfg.cabs.map Cab.enc) x.cfg.cabsx,.os q 0 x.sold.length false,.bool x.closed]])/\S[q]?=some (.row 1 es)/\lab q=[o,2,i]/\
  ∀(j:Nat) (row:List Int),x.sold[j]?=some row->∃r,es[j]?=some [.os r 0 row.length false]/\lab r=[o,3,i,j]/\S[r]?=some (.row 1 (row.map encZ)):=by
 obtain⟨-,d,h1,q,r,es,rfl,h2,h3,h4,h5⟩:=h
 exact⟨q,es,h1,h3,h2,λj row hj=>⟨r j,h5 j row hj⟩⟩
section
variable {S : List Ob} {lab : Lab} {o i p n : Nat} {x : Leg} {l : List Cfg}
end
/-! ### The inventory -/
section
variable {S : List Ob} {lab : Lab} {o k m n : Nat} {s : Stk} {ps : List (D × D)} {id : Lid}
def excT (x:Leg):Nat->Int
 |0=>0
 |c+1=>match x.cfg.cabs[c]?,x.sold[c]? with
  |some y,some row=>max (excT x c) (excF y row row.length)
  |_,_=>excT x c
end
end Go.Proofs.YtaklebjoenophaaGreat.Dm
