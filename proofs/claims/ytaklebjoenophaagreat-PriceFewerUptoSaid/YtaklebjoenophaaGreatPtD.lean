/-
  Components sorted: by their fares, and by their amounts.
-/
import Derived.Test.YtaklebjoenophaaGreatPtS
set_option maxHeartbeats 64000000
set_option maxRecDepth 100000
set_option linter.unusedSimpArgs false
set_option linter.unusedVariables false
namespace Go.Proofs.YtaklebjoenophaaGreat.Dm
open Go Gw
theorem perm_listP {α:Type} [Inhabited α] {d d':Array α} (h:Sort.PermIn 0 d.size d d'):d'.toList.Perm d.toList:=by
 obtain⟨h1,-,h3⟩:=h
 have e1:d'.extract 0 d.size=d':=by rw[<-h1];simp
 have e2:d.extract 0 d.size=d:=by simp
 rwa [e1,e2]at h3
theorem sorted_listP {α:Type} [Inhabited α] {p:α->α->Bool} {d d':Array α} (h:Sort.SortedIn p 0 d.size d') (hs:d'.size=d.size):d'.toList.Pairwise λx y=>p y x=false:=by
 rw[List.pairwise_iff_getElem]
 intro i j hi hj hij
 have hi':i<d'.size:=by simpa using hi
 have hj':j<d'.size:=by simpa using hj
 have:=h i j (Xb _) hij (by omega)
 simpa [hi',hj'] using this
theorem callVP {call:Call} {st:Bool} {S:List Ob} {g:FuncId} {l:List D} (hm:E.mode g=.pure):callV E call st S (.func g [] []) l=callD E call st S g l:=by
 show (if (st && !(decide (E.mode g=.pure) || decide (E.mode g=.obs)))=true then none else callD E call st S g ([]++l++[]))=_
 rw[if_neg (by simp[hm]),Zz,Za]
def cmpIP (a b:Int):Int:=if a<b then -1 else if b<a then 1 else 0
section
variable {n : Nat}
theorem PnanI (hn:1<=n) (u:Int):∀st S,callD E (dcall E n) st S 157 [.int .i64 u]=some (.bool false,S):=by
 obtain⟨m,rfl⟩:∃m,n=m+1:=⟨n-1,by omega⟩
 have:WO (dcall E (m+1) 157 [.int .i64 u] []) λd _=>d=.bool false:=by
  refine wo_dcall Tryz.func157 rfl (by decide) rfl 6 rfl (λa hal ha=>?_)
  have h0:a[0]?=some (.int .i64 u):=ha 0 (by simp)
  clear ha
  simp(maxSteps:=1000000)(disch:=omega)only[push_cast,hal,h0,bne_self_eq_false,Tryz.f157,↓WX,simprocAttr]
 obtain⟨d,T,ho,rfl⟩:=this
 exact λst S=>callD_pure rfl rfl ho rfl
theorem PcmpI (hn:2<=n) (u v:Int):∀st S,callD E (dcall E n) st S 114 [.int .i64 u,.int .i64 v]=some (.int .i64 (cmpIP u v),S):=by
 obtain⟨m,rfl⟩:∃m,n=m+1:=⟨n-1,by omega⟩
 have c1:=PnanI (n:=m) (by omega) u
 have c2:=PnanI (n:=m) (by omega) v
 have:WO (dcall E (m+1) 114 [.int .i64 u,.int .i64 v] []) λd _=>d=.int .i64 (cmpIP u v):=by
  refine wo_dcall Tryz.func114 rfl (by decide) rfl 20 rfl (λa hal ha=>?_)
  have h0:a[0]?=some (.int .i64 u):=ha 0 (by simp)
  have h1:a[1]?=some (.int .i64 v):=ha 1 (by simp)
  clear ha
  unfold cmpIP
  by_cases h:u<v
  ·rw[if_pos h]
   simp(maxSteps:=1000000)(disch:=omega)only[push_cast,hal,h0,h1,c1,c2,h,Tryz.f114,↓WX,simprocAttr]
  ·rw[if_neg h]
   by_cases h':v<u
   ·rw[if_pos h']
    simp(maxSteps:=1000000)(disch:=omega)only[push_cast,Zx,hal,h0,h1,c1,c2,h,h',Tryz.f114,↓WX,simprocAttr]
   ·rw[if_neg h']
    simp(maxSteps:=1000000)(disch:=omega)only[push_cast,Zx,hal,h0,h1,c1,c2,h,h',Tryz.f114,↓WX,simprocAttr]
 obtain⟨d,T,ho,rfl⟩:=this
 exact λst S=>callD_pure rfl rfl ho rfl
theorem PcmpFa (hn:1<=n) (x y:El):∀st S,callD E (dcall E n) st S 52 [.agg (vl x),.agg (vl y)]=some (.int .i64 (x.1.fa-y.1.fa),S):=by
 obtain⟨m,rfl⟩:∃m,n=m+1:=⟨n-1,by omega⟩
 have hw:IntKind.i64.wrap (x.1.fa-y.1.fa)=x.1.fa-y.1.fa:=by
  have:=x.2
  have:=y.2
  exact wrap_ok (by omega) (by omega)
 have hp:pureL [.agg (vl x),.agg (vl y)]=true:=rfl
 obtain⟨⟨x1,x2,x3,x4⟩,hx⟩:=x
 obtain⟨⟨y1,y2,y3,y4⟩,hy⟩:=y
 dsimp only at hw
 have:WO (dcall E (m+1) 52 [.agg [.int .i64 x1,.int .i64 x2,.int .i64 x3,.int .i64 x4],.agg [.int .i64 y1,.int .i64 y2,.int .i64 y3,.int .i64 y4]] []) λd _=>d=.int .i64 (x3-y3):=by
  refine wo_dcall Tryz.func52 rfl (by decide) rfl 10 rfl (λa hal ha=>?_)
  have h0:a[0]?=some (.agg [.int .i64 x1,.int .i64 x2,.int .i64 x3,.int .i64 x4]):=ha 0 (by simp)
  have h1:a[1]?=some (.agg [.int .i64 y1,.int .i64 y2,.int .i64 y3,.int .i64 y4]):=ha 1 (by simp)
  clear ha
  simp(maxSteps:=1000000)(disch:=omega)only[push_cast,hal,h0,h1,hw,Tryz.f52,↓WX,simprocAttr]
 obtain⟨d,T,ho,rfl⟩:=this
 exact λst S=>callD_pure rfl hp ho rfl
theorem PcmpAm (hn:3<=n) (x y:El):∀st S,callD E (dcall E n) st S 113 [.agg (vl x),.agg (vl y)]=some (.int .i64 (cmpIP x.1.am y.1.am),S):=by
 obtain⟨m,rfl⟩:∃m,n=m+1:=⟨n-1,by omega⟩
 have hp:pureL [.agg (vl x),.agg (vl y)]=true:=rfl
 obtain⟨⟨x1,x2,x3,x4⟩,hx⟩:=x
 obtain⟨⟨y1,y2,y3,y4⟩,hy⟩:=y
 have cc:=PcmpI (n:=m) (by omega) x4 y4
 have:WO (dcall E (m+1) 113 [.agg [.int .i64 x1,.int .i64 x2,.int .i64 x3,.int .i64 x4],.agg [.int .i64 y1,.int .i64 y2,.int .i64 y3,.int .i64 y4]] []) λd _=>d=.int .i64 (cmpIP x4 y4):=by
  refine wo_dcall Tryz.func113 rfl (by decide) rfl 10 rfl (λa hal ha=>?_)
  have h0:a[0]?=some (.agg [.int .i64 x1,.int .i64 x2,.int .i64 x3,.int .i64 x4]):=ha 0 (by simp)
  have h1:a[1]?=some (.agg [.int .i64 y1,.int .i64 y2,.int .i64 y3,.int .i64 y4]):=ha 1 (by simp)
  clear ha
  simp(maxSteps:=1000000)(disch:=omega)only[push_cast,hal,h0,h1,cc,Tryz.f113,↓WX,simprocAttr]
 obtain⟨d,T,ho,rfl⟩:=this
 exact λst S=>callD_pure rfl hp ho rfl
end
abbrev cFa:D:=.func 52 [] []
abbrev cAm:D:=.func 113 [] []
theorem cmpFa_ok {S0:List Ob} {k:Nat}:Srp.CmpOk 3 S0 k cFa λx y=>x.1.fa-y.1.fa:=λn hn d T _ st x y=>by
 rw[callVP rfl]
 exact PcmpFa (by omega) x y st T
theorem cmpAm_ok {S0:List Ob} {k:Nat}:Srp.CmpOk 3 S0 k cAm λx y=>cmpIP x.1.am y.1.am:=λn hn d T _ st x y=>by
 rw[callVP rfl]
 exact PcmpAm (by omega) x y st T
theorem swoFa:Sort.SWO (Srp.lt λx y=>x.1.fa-y.1.fa):=by
 have key:∀x y:El,Srp.lt (λx y=>x.1.fa-y.1.fa) x y=decide (x.1.fa<y.1.fa):=λx y=>by
  show decide (x.1.fa-y.1.fa<0)=decide (x.1.fa<y.1.fa)
  rw[decide_eq_decide]
  constructor <;> intro h <;> omega
 refine⟨λx=>?_,λx y z h1 h2=>?_,λx y z h1 h2=>?_⟩ <;> rw[key] at*
 ·exact Ym (Int.lt_irrefl _)
 ·exact Yn (Int.lt_trans (Zk h1) (Zk h2))
 ·exact Ym λh=>by
   have h1:=Zl h1
   have h2:=Zl h2
   exact h1 (Int.lt_of_lt_of_le h (Int.not_lt.1 h2))
theorem cmpIP_neg {a b:Int}:cmpIP a b<0↔a<b:=by
 unfold cmpIP
 split
 ·constructor <;> omega
 ·split <;> constructor <;> omega
theorem swoAm:Sort.SWO (Srp.lt λx y=>cmpIP x.1.am y.1.am):=by
 have key:∀x y:El,Srp.lt (λx y=>cmpIP x.1.am y.1.am) x y=decide (x.1.am<y.1.am):=λx y=>by
  show decide (cmpIP x.1.am y.1.am<0)=decide (x.1.am<y.1.am)
  rw[decide_eq_decide]
  exact cmpIP_neg
 refine⟨λx=>?_,λx y z h1 h2=>?_,λx y z h1 h2=>?_⟩ <;> rw[key] at*
 ·exact Ym (Int.lt_irrefl _)
 ·exact Yn (Int.lt_trans (Zk h1) (Zk h2))
 ·exact Ym λh=>by
   have h1:=Zl h1
   have h2:=Zl h2
   exact h1 (Int.lt_of_lt_of_le h (Int.not_lt.1 h2))
def El.p (x:El):Prt:=x.1
theorem lift_el:∀(l:List Prt),(∀x∈l,0<=x.fa/\x.fa<=1048576)->∃ds:List El,ds.map El.p=l
 | [],_=>⟨[],rfl⟩
 |x::xs,h=>by
  obtain⟨ds,hd⟩:=lift_el xs λy hy=>h y (Yv _ hy)
  exact⟨(show El from ⟨x,h x (Yx ..)⟩)::ds,congrArg (x:: ·) hd⟩
theorem rowS_el {ds:List El} {l:List Prt} (h:ds.map El.p=l):Srp.rowS ds.toArray=l.map Prt.enc:=by
 rw[<-h,List.map_map]
 rfl
section
variable {n : Nat} {T : List Ob} {k : Nat} {l : List Prt}
theorem SortFa (hk:T[k]?=some (.row 4 (l.map Prt.enc))) (hb:∀x∈l,0<=x.fa/\x.fa<=1048576) (hl:l.length<1100) (hn:3000<=n):
  ∃(r:D) (T':List Ob) (l':List Prt),callD E (dcall E n) false T 51 [.os k 0 l.length false,cFa]=some (r,T')/\l'.Perm l/\l'.Pairwise (λx y=>x.fa<=y.fa)/\T'[k]?=some (.row 4 (l'.map Prt.enc))/\(∀j o,j≠k->T[j]?=some o->T'[j]?=some o)/\T.length<=T'.length:=by
 obtain⟨m,rfl⟩:∃m,n=m+1:=⟨n-1,by omega⟩
 obtain⟨ds,hds⟩:=lift_el l hb
 have hlen:ds.toArray.size=l.length:=by rw[<-hds,Yz];rfl
 have hR:Srp.R T k ds.toArray T:=⟨by rw[rowS_el hds];exact hk,λ_ _ _ h=>h,Yt _⟩
 obtain⟨r,T',hT,d',r1,p1,s1⟩:=Srp.sort_d (x:=false) (n:=m) cmpFa_ok swoFa (by rw[hlen];omega) (by rw[hlen];omega) hR
 rw[hlen]at hT
 refine⟨r,T',d'.toList.map El.p,(callD_own rfl Srp.pure_own).trans hT,?_,?_,?_,r1.old,r1.len⟩
 ·have:=(perm_listP p1).map El.p
  rwa [show ds.toArray.toList=ds from rfl,hds]at this
 ·have:=sorted_listP s1 p1.1
  rw[List.pairwise_map]
  refine this.imp λ{x y} h=>?_
  have h:decide (y.1.fa-x.1.fa<0)=false:=h
  have:=Zl h
  show x.1.fa<=y.1.fa
  omega
 ·rw[r1.row]
  unfold Srp.rowS
  rw[List.map_map]
  rfl
theorem SortAm (hk:T[k]?=some (.row 4 (l.map Prt.enc))) (hb:∀x∈l,0<=x.fa/\x.fa<=1048576) (hl:l.length<=19) (hn:3000<=n):
  ∃(r:D) (T':List Ob) (l':List Prt),callD E (dcall E n) false T 112 [.os k 0 l.length false,cAm]=some (r,T')/\l'.Perm l/\T'[k]?=some (.row 4 (l'.map Prt.enc))/\(∀j o,j≠k->T[j]?=some o->T'[j]?=some o)/\T.length<=T'.length:=by
 obtain⟨m,rfl⟩:∃m,n=m+2:=⟨n-2,by omega⟩
 obtain⟨ds,hds⟩:=lift_el l hb
 have hlen:ds.toArray.size=l.length:=by rw[<-hds,Yz];rfl
 have hR:Srp.R T k ds.toArray T:=⟨by rw[rowS_el hds];exact hk,λ_ _ _ h=>h,Yt _⟩
 obtain⟨r,T',c1,r1⟩:=Srp.ins_d (n:=m-1) (lo:=0) (hi:=l.length) (x:=false) cmpAm_ok (by rw[hlen];omega) (Xb _) (by omega) (by omega) hR
 rw[show m-1+1=m by omega,hlen]at c1
 have c1:=(callD_own (f:=158) rfl Srp.pure_own).trans c1
 rw[Int.natCast_zero]at c1
 obtain⟨p1,-⟩:=Sort.insertionSort_holds (lt:=Srp.lt λx y=>cmpIP x.1.am y.1.am) swoAm ds.toArray 0 ds.toArray.size (Xb _) (Yt _)
 rw[<-hlen]at r1
 generalize Sort.insertionSort (Srp.lt λx y=>cmpIP x.1.am y.1.am) ds.toArray 0 ds.toArray.size=d' at*
 have hl1:((20:Int)<=(l.length:Int))=False:=eq_false (by omega)
 have hl2:((20:Int)<(l.length:Int))=False:=eq_false (by omega)
 have c2:WO (dcall E (m+1) 156 [.os k 0 l.length false,.int .i64 l.length,cAm] T) λ_ U=>U=T':=by
  refine wo_dcall Tryz.func156 rfl (by decide) rfl 63 rfl (λa hal ha=>?_)
  have h0:a[0]?=some (.os k 0 l.length false):=ha 0 (by simp)
  have h1:a[1]?=some (.int .i64 l.length):=ha 1 (by simp)
  have h2:a[2]?=some (cAm):=ha 2 (by simp)
  clear ha
  refine wc_scut (λa V=>V=T/\a.length=63/\a[0]?=some (.os k 0 l.length false)/\a[1]?=some (.int .i64 l.length)/\a[2]?=some (cAm)/\a[6]?=some (.int .i64 20)) ?_ ?_
  ·simp(maxSteps:=1000000)(disch:=omega)only[push_cast,hal,h0,h1,h2,↓WX,simprocAttr]
  clear hal h0 h1 h2 a
  rintro a V ⟨rfl,hal,h0,h1,h2,h6⟩
  refine wc_scut (λa U=>U=V/\a.length=63/\a[0]?=some (.os k 0 l.length false)/\a[1]?=some (.int .i64 l.length)/\a[2]?=some (cAm)/\a[6]?=some (.int .i64 20)/\a[7]?=some (.int .i64 0)/\a[8]?=some (.int .i64 20)) ?_ ?_
  ·simp(maxSteps:=1000000)(disch:=omega)only[push_cast,hal,h0,h1,h2,h6,↓WX,simprocAttr]
  clear hal h0 h1 h2 h6 a
  rintro a U ⟨rfl,hal,h0,h1,h2,h6,h7,h8⟩
  refine wc_scut (λa V=>V=U/\a.length=63/\a[0]?=some (.os k 0 l.length false)/\a[1]?=some (.int .i64 l.length)/\a[2]?=some (cAm)/\a[6]?=some (.int .i64 20)/\a[7]?=some (.int .i64 0)) ?_ ?_
  ·simp(maxSteps:=1000000)(disch:=omega)only[push_cast,wc_wl,↓WX]
   refine wl_loop (λi a V=>V=U/\a.length=63/\a[0]?=some (.os k 0 l.length false)/\a[1]?=some (.int .i64 l.length)/\a[2]?=some (cAm)/\a[6]?=some (.int .i64 20)/\a[7]?=some (.int .i64 0)/\a[8]?=some (.int .i64 20)) 0 ?_ (by omega) ?_
   ·simp(maxSteps:=1000000)(disch:=omega)only[push_cast,hal,h0,h1,h2,h6,h7,h8]
   clear hal h0 h1 h2 h6 h7 h8 a
   rintro i a V hi ⟨rfl,hal,h0,h1,h2,h6,h7,h8⟩
   simp(maxSteps:=1000000)(disch:=omega)only[push_cast,hal,h0,h1,h2,h6,h7,h8,hl1,↓WX,simprocAttr]
  clear hal h0 h1 h2 h6 h7 h8 a
  rintro a V ⟨rfl,hal,h0,h1,h2,h6,h7⟩
  refine wc_scut (λa U=>U=T'/\a.length=63/\a[0]?=some (.os k 0 l.length false)/\a[1]?=some (.int .i64 l.length)/\a[2]?=some (cAm)/\a[6]?=some (.int .i64 20)) ?_ ?_
  ·simp(maxSteps:=1000000)(disch:=omega)only[push_cast,hal,h0,h1,h2,h6,h7,c1,↓WX,simprocAttr]
  clear hal h0 h1 h2 h6 h7 a
  rintro a U ⟨rfl,hal,h0,h1,h2,h6⟩
  simp(maxSteps:=1000000)(disch:=omega)only[push_cast,wc_wl,↓WX]
  refine wl_loop (λi a V=>V=U/\a.length=63/\a[0]?=some (.os k 0 l.length false)/\a[1]?=some (.int .i64 l.length)/\a[2]?=some (cAm)/\a[6]?=some (.int .i64 20)) 0 ?_ (by omega) ?_
  ·simp(maxSteps:=1000000)(disch:=omega)only[push_cast,hal,h0,h1,h2,h6]
  clear hal h0 h1 h2 h6 a
  rintro i a V hi ⟨rfl,hal,h0,h1,h2,h6⟩
  simp(maxSteps:=1000000)(disch:=omega)only[push_cast,hal,h1,h6,hl2,Tryz.f156,↓WX,simprocAttr]
 obtain⟨r2,U,c2,rfl⟩:=c2
 have c2:=(callD_own (f:=156) rfl Srp.pure_own).trans c2
 have c3:WO (dcall E (m+2) 112 [.os k 0 l.length false,cAm] T) λ_ V=>V=U:=by
  refine wo_dcall Tryz.func112 rfl (by decide) rfl 9 rfl (λa hal ha=>?_)
  have h0:a[0]?=some (.os k 0 l.length false):=ha 0 (by simp)
  have h1:a[1]?=some (cAm):=ha 1 (by simp)
  clear ha
  simp(maxSteps:=1000000)(disch:=omega)only[push_cast,hal,h0,h1,c2,Tryz.f112,↓WX,simprocAttr]
 obtain⟨r3,V,c3,rfl⟩:=c3
 refine⟨r3,V,d'.toList.map El.p,(callD_own rfl Srp.pure_own).trans c3,?_,?_,r1.old,r1.len⟩
 ·have:=(perm_listP p1).map El.p
  rwa [show ds.toArray.toList=ds from rfl,hds]at this
 ·rw[r1.row]
  unfold Srp.rowS
  rw[List.map_map]
  rfl
theorem Sort0 (hn:100<=n):∃r r',(∀st S,callD E (dcall E n) st S 51 [.nils,cFa]=some (r,S))/\∀st S,callD E (dcall E n) st S 112 [.nils,cAm]=some (r',S):=by
 obtain⟨m,rfl⟩:∃m,n=m+3:=⟨n-3,by omega⟩
 have hi:∀cf:D,cf.pure=true->∀st S,callD E (dcall E (m+1)) st S 158 [.nils,.int .i64 0,.int .i64 0,cf]=some (.tup [],S):=λcf hcf=>by
  have:WO (dcall E (m+1) 158 [.nils,.int .i64 0,.int .i64 0,cf] []) λr T=>r=.tup []:=by
   refine wo_dcall Tryz.func158 rfl (by decide) rfl 53 rfl (λa hal ha=>?_)
   have h0:a[0]?=some (.nils):=ha 0 (by simp)
   have h1:a[1]?=some (.int .i64 0):=ha 1 (by simp)
   have h2:a[2]?=some (.int .i64 0):=ha 2 (by simp)
   have h3:a[3]?=some (cf):=ha 3 (by simp)
   clear ha
   simp(maxSteps:=1000000)(disch:=omega)only[push_cast,hal,h1,wrap_ok,↓WX,simprocAttr]
   refine wl_loop (λr a T=>a.length=53/\a[2]?=some (.int .i64 0)/\a[8]?=some (.int .i64 1)) 0 ?_ (by omega) ?_
   ·simp(maxSteps:=1000000)(disch:=omega)only[push_cast,hal,h2,simprocAttr]
   clear hal h0 h1 h2 h3 a
   rintro r a T _ ⟨hal,h2,h8⟩
   simp(maxSteps:=1000000)(disch:=omega)only[push_cast,hal,h2,h8,Tryz.f158,↓WX,simprocAttr]
  obtain⟨r1,r2,c1,rfl⟩:=this
  exact λst S=>callD_pure rfl (by simp only[pureL_cons,pureL_nil,D.pure,hcf,Yj]) c1 rfl
 obtain⟨lim,bl⟩:=Srp.bl_c (n:=m+2) (l:=0) (by omega) (by omega)
 have w1:IntKind.u64.wrap 0=0:=rfl
 rw[Int.natCast_zero]at bl
 have ci:=hi cFa rfl
 have ca:=hi cAm rfl
 have cp:∀st S,callD E (dcall E (m+2)) st S 115 [.nils,.int .i64 0,.int .i64 0,.int .i64 lim,cFa]=some (.tup [],S):=by
  have:WO (dcall E (m+2) 115 [.nils,.int .i64 0,.int .i64 0,.int .i64 lim,cFa] []) λr T=>r=.tup []:=by
   refine wo_dcall Tryz.func115 rfl (by decide) rfl 148 rfl (λa hal ha=>?_)
   have h0:a[0]?=some (.nils):=ha 0 (by simp)
   have h1:a[1]?=some (.int .i64 0):=ha 1 (by simp)
   have h2:a[2]?=some (.int .i64 0):=ha 2 (by simp)
   have h3:a[3]?=some (.int .i64 lim):=ha 3 (by simp)
   have h4:a[4]?=some (cFa):=ha 4 (by simp)
   clear ha
   simp(maxSteps:=1000000)(disch:=omega)only[push_cast,↓WX,simprocAttr]
   refine wl_loop (λr a T=>a.length=148/\a[0]?=some (.nils)/\a[1]?=some (.int .i64 0)/\a[2]?=some (.int .i64 0)/\a[3]?=some (.int .i64 lim)/\a[4]?=some (cFa)/\a[10]?=some (.bool true)/\a[11]?=some (.bool true)) 0 ?_ (by omega) ?_
   ·simp(maxSteps:=1000000)(disch:=omega)only[push_cast,hal,h0,h1,h2,h3,h4,simprocAttr]
   clear hal h0 h1 h2 h3 h4 a
   rintro r a T _ ⟨hal,h0,h1,h2,h3,h4,h10,h11⟩
   simp(maxSteps:=1000000)(disch:=omega)only[push_cast,hal,h0,h1,h2,h4,wrap_ok,ci,Tryz.f115,↓WX,simprocAttr]
  obtain⟨r1,r2,c1,rfl⟩:=this
  exact λst S=>callD_pure rfl rfl c1 rfl
 have cs:∀st S,callD E (dcall E (m+2)) st S 156 [.nils,.int .i64 0,cAm]=some (.tup [],S):=by
  have:WO (dcall E (m+2) 156 [.nils,.int .i64 0,cAm] []) λr T=>r=.tup []:=by
   refine wo_dcall Tryz.func156 rfl (by decide) rfl 63 rfl (λa hal ha=>?_)
   have h0:a[0]?=some (.nils):=ha 0 (by simp)
   have h1:a[1]?=some (.int .i64 0):=ha 1 (by simp)
   have h2:a[2]?=some (cAm):=ha 2 (by simp)
   clear ha
   refine wc_scut (λa V=>a.length=63/\a[0]?=some (.nils)/\a[1]?=some (.int .i64 0)/\a[2]?=some (cAm)/\a[6]?=some (.int .i64 20)) ?_ ?_
   ·simp(maxSteps:=1000000)(disch:=omega)only[push_cast,hal,h0,h1,h2,↓WX,simprocAttr]
   clear hal h0 h1 h2 a
   rintro a V ⟨hal,h0,h1,h2,h6⟩
   refine wc_scut (λa U=>a.length=63/\a[0]?=some (.nils)/\a[1]?=some (.int .i64 0)/\a[2]?=some (cAm)/\a[6]?=some (.int .i64 20)/\a[7]?=some (.int .i64 0)/\a[8]?=some (.int .i64 20)) ?_ ?_
   ·simp(maxSteps:=1000000)(disch:=omega)only[push_cast,hal,h0,h1,h2,h6,↓WX,simprocAttr]
   clear hal h0 h1 h2 h6 a
   rintro a U ⟨hal,h0,h1,h2,h6,h7,h8⟩
   refine wc_scut (λa V=>a.length=63/\a[0]?=some (.nils)/\a[1]?=some (.int .i64 0)/\a[2]?=some (cAm)/\a[6]?=some (.int .i64 20)/\a[7]?=some (.int .i64 0)) ?_ ?_
   ·simp(maxSteps:=1000000)(disch:=omega)only[push_cast,wc_wl,↓WX]
    refine wl_loop (λi a V=>a.length=63/\a[0]?=some (.nils)/\a[1]?=some (.int .i64 0)/\a[2]?=some (cAm)/\a[6]?=some (.int .i64 20)/\a[7]?=some (.int .i64 0)/\a[8]?=some (.int .i64 20)) 0 ?_ (by omega) ?_
    ·simp(maxSteps:=1000000)(disch:=omega)only[push_cast,hal,h0,h1,h2,h6,h7,h8]
    clear hal h0 h1 h2 h6 h7 h8 a
    rintro i a V hi ⟨hal,h0,h1,h2,h6,h7,h8⟩
    simp(maxSteps:=1000000)(disch:=omega)only[push_cast,hal,h0,h1,h2,h6,h7,h8,↓WX,simprocAttr]
   clear hal h0 h1 h2 h6 h7 h8 a
   rintro a V ⟨hal,h0,h1,h2,h6,h7⟩
   refine wc_scut (λa U=>a.length=63/\a[0]?=some (.nils)/\a[1]?=some (.int .i64 0)/\a[2]?=some (cAm)/\a[6]?=some (.int .i64 20)) ?_ ?_
   ·simp(maxSteps:=1000000)(disch:=omega)only[push_cast,hal,h0,h1,h2,h6,h7,ca,↓WX,simprocAttr]
   clear hal h0 h1 h2 h6 h7 a
   rintro a U ⟨hal,h0,h1,h2,h6⟩
   simp(maxSteps:=1000000)(disch:=omega)only[push_cast,wc_wl,↓WX]
   refine wl_loop (λi a V=>a.length=63/\a[0]?=some (.nils)/\a[1]?=some (.int .i64 0)/\a[2]?=some (cAm)/\a[6]?=some (.int .i64 20)) 0 ?_ (by omega) ?_
   ·simp(maxSteps:=1000000)(disch:=omega)only[push_cast,hal,h0,h1,h2,h6]
   clear hal h0 h1 h2 h6 a
   rintro i a V hi ⟨hal,h0,h1,h2,h6⟩
   simp(maxSteps:=1000000)(disch:=omega)only[push_cast,hal,h1,h6,Tryz.f156,↓WX,simprocAttr]
  obtain⟨r1,r2,c1,rfl⟩:=this
  exact λst S=>callD_pure rfl rfl c1 rfl
 refine⟨.tup [],.tup [],?_,?_⟩
 ·have:WO (dcall E (m+3) 51 [.nils,cFa] []) λr T=>r=.tup []:=by
   refine wo_dcall Tryz.func51 rfl (by decide) rfl 14 rfl (λa hal ha=>?_)
   have h0:a[0]?=some (.nils):=ha 0 (by simp)
   have h1:a[1]?=some (cFa):=ha 1 (by simp)
   clear ha
   simp(maxSteps:=1000000)(disch:=omega)only[push_cast,hal,h0,h1,w1,bl,cp,Tryz.f51,↓WX,simprocAttr]
  obtain⟨r1,r2,c1,rfl⟩:=this
  exact λst S=>callD_pure rfl rfl c1 rfl
 ·have:WO (dcall E (m+3) 112 [.nils,cAm] []) λr T=>r=.tup []:=by
   refine wo_dcall Tryz.func112 rfl (by decide) rfl 9 rfl (λa hal ha=>?_)
   have h0:a[0]?=some (.nils):=ha 0 (by simp)
   have h1:a[1]?=some (cAm):=ha 1 (by simp)
   clear ha
   simp(maxSteps:=1000000)(disch:=omega)only[push_cast,hal,h0,h1,cs,Tryz.f112,↓WX,simprocAttr]
  obtain⟨r1,r2,c1,rfl⟩:=this
  exact λst S=>callD_pure rfl rfl c1 rfl
end
end Go.Proofs.YtaklebjoenophaaGreat.Dm
