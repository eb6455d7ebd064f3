/-
  The program's rules: what combines, stays; components with fares: exactly.
  Prices compared by the reference, however their lists lie.
-/
import Derived.Test.YtaklebjoenophaaGreatPqC
import Derived.Test.YtaklebjoenophaaGreatPoY
import Derived.Test.YtaklebjoenophaaGreatPqD
import Derived.Test.YtaklebjoenophaaGreatPoH
set_option maxHeartbeats 64000000
set_option maxRecDepth 100000
set_option linter.unusedSimpArgs false
set_option linter.unusedVariables false
namespace Go.Proofs.YtaklebjoenophaaGreat.Dm
open Go Gw
section
variable {n : Nat}
theorem PIndexI_x {d:D} {l:List Int} (h:FLs 1 encZ d l) (hl:l.length<=1048576) (v:Int) (hn:1048590<=n):∃r:Int,(decide (0<=r)=l.any λx=>decide (x=v))/\∀st S,Yi E (Yb E n) st S 219 [d,.int .i64 v]=some (.int .i64 r,S):=by
 obtain⟨m,rfl⟩:∃m,n=m+1:=⟨n-1,by omega⟩
 have hp:=Xr h (encZs_pure' l)
 have hy:=λS=>Jv (S:=S) Tryz.underlying70 h
 simp only[push_cast]at hy
 have:WO (Yb E (m+1) 219 [d,.int .i64 v] []) λr T=>∃k:Int,r=.int .i64 k/\decide (0<=k)=l.any λx=>decide (x=v):=by
  obtain⟨q,hq⟩:∃q,q=l.any λx=>decide (x=v):=⟨_,rfl⟩
  rw[<-hq]
  refine Ye Tryz.func219 rfl (by decide) rfl 19 rfl (λa hal ha=>?_)
  obtain⟨h0,h1⟩:=aQ2 ha
  clear ha
  simp only[push_cast,hal,h0,hy,↓WX,simprocAttr]
  refine Yk (λi a T=>(T=[]/\q=(l.drop i).any λx=>decide (x=v))/\a.length=19/\a[0]?=some (d)/\a[1]?=some (.int .i64 v)/\a[7]?=some (.int .i64 l.length)/\a[8]?=some (.int .i64 i)) l.length ?_ (by omega) ?_
  ·simp only[push_cast,hal,h0,h1,simprocAttr,WY]
   exact hq
  rintro i a T hi ⟨⟨rfl,e⟩,hal,h0,h1,h7,h8⟩
  rcases Kw hi with hlt |rfl
  case inr=>
   rw[Vj,List.any_nil]at e
   subst e
   simp only[push_cast,decide_eq_false_iff_not,hal,h7,h8,Tryz.f219,↓WX,simprocAttr,WY]
   exact⟨_,rfl,by simp⟩
  have hltc:(i:Int)<l.length:=by omega
  obtain⟨x,hx⟩:∃x,l[i]?=some x:=⟨l[i],by simp⟩
  rw[Yu hx,List.any_cons]at e
  rcases h with ⟨-,rfl⟩ | ⟨lx,rfl⟩
  ·cases hx
  by_cases c:v=x
  ·have e1:decide (x=v)=true:=Ue c.symm
   have e2:decide (v=x)=true:=Ue c
   rw[e1,Bool.true_or]at e
   subst e
   simp only[push_cast,Up,hal,h0,h1,h7,h8,hltc,hx,e2,encZ,Tryz.f219,↓WX,simprocAttr]
   exact⟨_,rfl,by simp⟩
  ·have e1:decide (x=v)=false:=Ud λh=>c h.symm
   have e2:decide (v=x)=false:=Ud c
   rw[e1,Bool.false_or]at e
   simp(disch:=omega)only[push_cast,hal,h0,h1,h7,h8,hltc,hlt,hx,e2,encZ,Yf,↓WX,simprocAttr,WY]
   exact e
 obtain⟨_,T,ho,k,rfl,hk⟩:=this
 exact⟨k,hk,λst S=>Yd rfl (by simp only[Yc,Yg,hp,D.pure,Ua]) ho rfl⟩
theorem PContI_x {d:D} {l:List Int} (h:FLs 1 encZ d l) (hl:l.length<=1048576) (v:Int) (hn:1048600<=n):∀st S,Yi E (Yb E n) st S 183 [d,.int .i64 v]=some (.bool (l.any λx=>decide (x=v)),S):=by
 obtain⟨m,rfl⟩:∃m,n=m+1:=⟨n-1,by omega⟩
 have hp:=Xr h (encZs_pure' l)
 obtain⟨r,hr,cr⟩:=PIndexI_x (n:=m) h hl v (by omega)
 rw[<-hr]
 have:WO (Yb E (m+1) 183 [d,.int .i64 v] []) λq T=>q=.bool (decide (0<=r)):=by
  refine Ye Tryz.func183 rfl (by decide) rfl 9 rfl (λa hal ha=>?_)
  obtain⟨h0,h1⟩:=aQ2 ha
  clear ha
  simp only[push_cast,hal,h0,h1,cr,Vx,Tryz.f183,↓WX,simprocAttr]
 obtain⟨_,T,ho,rfl⟩:=this
 exact λst S=>Yd rfl (by simp only[Yc,Yg,hp,D.pure,Ua]) ho rfl
def cmbL (o:Option Rul):List Int:=match o with |none=>[] |some r=>r.comb
theorem rul_litC (o:Option Rul):∃c1 c2 c3 c4 c5 c6 c7 c8 d c10 c11 c12 c13 c14:D,rulD o=.agg [.int .i64 (numF o),c1,c2,c3,c4,c5,c6,c7,c8,d,c10,c11,c12,c13,c14]/\FLs 1 encZ d (cmbL o):=by
 cases o with
 |none=>exact⟨_,_,_,_,_,_,_,_,_,_,_,_,_,_,rfl,.inl ⟨rfl,rfl⟩⟩
 |some r=>
  obtain⟨w,hw⟩:∃w,r.when=w:=⟨_,rfl⟩
  have hxe:Rul.enc r=.int .i64 r.num::(w.enc++[.sl 1 (r.comb.map encZ) r.combx,.int .i64 r.mins,.int .i64 r.maxs,.int .i64 r.chg,.int .i64 r.ref,.sl 2 (r.pcs.map encPc) r.pcx]):=by rw[<-hw];rfl
  cases w with |mk k' l' lx' u' v' pf' pt' pd' t' tx'=>?_
  simp only[Cnd.enc,Uv,Vr]at hxe
  simp only[rulD,hxe,numF,cmbL]
  exact⟨_,_,_,_,_,_,_,_,_,_,_,_,_,_,rfl,.inr ⟨_,rfl⟩⟩
theorem PMix1_x (o p:Option Rul) (ho:∀r,o=some r->r.comb.length<=1048576) (hn:1048700<=n):∀st S,Yi E (Yb E n) st S 182 [rulD o,rulD p]=some (.bool (mixF o (numF p)),S):=by
 obtain⟨m,rfl⟩:∃m,n=m+1:=⟨n-1,by omega⟩
 have po:=Jl o
 have pp:=Jl p
 have hlen:(cmbL o).length<=1048576:=by
  cases o with
  |none=>exact Vt _
  |some r=>exact ho r rfl
 have hmx:mixF o (numF p)=(decide (((cmbL o).length:Int)=0) || (cmbL o).any λx=>decide (x=numF p)):=by
  cases o with
  |none=>rfl
  |some r=>unfold mixF cmbL;dsimp only;exact Bool.or_comm _ _
 rw[hmx]
 obtain⟨x1,x2,x3,x4,x5,x6,x7,x8,d,x10,x11,x12,x13,x14,hx,hd⟩:=rul_litC o
 obtain⟨y1,y2,y3,y4,y5,y6,y7,y8,e,y10,y11,y12,y13,y14,hy,-⟩:=rul_litC p
 obtain⟨u1,u2,u3,u4,u5,u6,u7,u8,u9,u10,u11,u12,u13,u14,hu,⟨g1,g2,g3,g4,g5,g6,g7⟩,g8,g9,g10,g11,g12,g13,g14⟩:=Jy o
 obtain⟨v1,v2,v3,v4,v5,v6,v7,v8,v9,v10,v11,v12,v13,v14,hv,⟨k1,k2,k3,k4,k5,k6,k7⟩,k8,k9,k10,k11,k12,k13,k14⟩:=Jy p
 rw[hx]at hu po ⊢
 rw[hy]at hv pp ⊢
 simp only[D.agg.injEq,List.cons.injEq,WY]at hu hv
 obtain⟨rfl,rfl,rfl,rfl,rfl,rfl,rfl,rfl,rfl,rfl,rfl,rfl,rfl,rfl⟩:=hu
 obtain⟨rfl,rfl,rfl,rfl,rfl,rfl,rfl,rfl,rfl,rfl,rfl,rfl,rfl,rfl⟩:=hv
 simp only[D.one]at g1 g2 g3 g4 g5 g6 g7 g8 g9 g10 g11 g12 g13 g14 k1 k2 k3 k4 k5 k6 k7 k8 k9 k10 k11 k12 k13 k14
 have hyl:=λS=>Jv (S:=S) Tryz.underlying70 hd
 simp only[push_cast]at hyl
 have cc:=PContI_x (n:=m) hd hlen (numF p) (by omega)
 have:WO (Yb E (m+1) 182 [.agg [.int .i64 (numF o),x1,x2,x3,x4,x5,x6,x7,x8,d,x10,x11,x12,x13,x14],.agg [.int .i64 (numF p),y1,y2,y3,y4,y5,y6,y7,y8,e,y10,y11,y12,y13,y14]] []) λr T=>r=.bool (decide (((cmbL o).length:Int)=0) || (cmbL o).any λx=>decide (x=numF p)):=by
  generalize ((cmbL o).any λx=>decide (x=numF p))=b2 at*
  generalize numF o=no at*
  generalize numF p=np at*
  refine Ye Tryz.func182 rfl (by decide) rfl 16 rfl (λa hal ha=>?_)
  obtain⟨h0,h1⟩:=aQ2 ha
  clear ha
  cases c:decide (((cmbL o).length:Int)=0)
  ·simp only[push_cast,hal,h0,h1,hyl,cc,c,g1,g2,g3,g4,g5,g6,g7,g8,g9,g10,g11,g12,g13,g14,k1,k2,k3,k4,k5,k6,k7,k8,k9,k10,k11,k12,k13,k14,Bool.false_or,Tryz.f182,↓WX,simprocAttr]
  ·simp only[push_cast,hal,h0,h1,hyl,c,g1,g2,g3,g4,g5,g6,g7,g8,g9,g10,g11,g12,g13,g14,k1,k2,k3,k4,k5,k6,k7,k8,k9,k10,k11,k12,k13,k14,Bool.true_or,Tryz.f182,↓WX,simprocAttr]
 obtain⟨_,T,hr,rfl⟩:=this
 exact λst S=>Yd rfl (by simp only[Yc,Yg,po,pp,Ua]) hr rfl
theorem PMix_x (o p:Option Rul) (ho:∀r,o=some r->r.comb.length<=1048576) (hp:∀r,p=some r->r.comb.length<=1048576) (hn:1048800<=n):∀st S,Yi E (Yb E n) st S 130 [rulD o,rulD p]=some (.bool (mix2F o p),S):=by
 obtain⟨m,rfl⟩:∃m,n=m+1:=⟨n-1,by omega⟩
 have c1:=PMix1_x (n:=m) o p ho (by omega)
 have c2:=PMix1_x (n:=m) p o hp (by omega)
 have po:=Jl o
 have pp:=Jl p
 obtain⟨x1,x2,x3,x4,x5,x6,x7,x8,x9,x10,x11,x12,x13,x14,hx,⟨g1,g2,g3,g4,g5,g6,g7⟩,g8,g9,g10,g11,g12,g13,g14⟩:=Jy o
 obtain⟨y1,y2,y3,y4,y5,y6,y7,y8,y9,y10,y11,y12,y13,y14,hy,⟨k1,k2,k3,k4,k5,k6,k7⟩,k8,k9,k10,k11,k12,k13,k14⟩:=Jy p
 rw[hx,hy]at c1 c2
 rw[hx]at po ⊢
 rw[hy]at pp ⊢
 unfold mix2F
 simp only[D.one]at g1 g2 g3 g4 g5 g6 g7 g8 g9 g10 g11 g12 g13 g14 k1 k2 k3 k4 k5 k6 k7 k8 k9 k10 k11 k12 k13 k14
 have:WO (Yb E (m+1) 130 [.agg [.int .i64 (numF o),x1,x2,x3,x4,x5,x6,x7,x8,x9,x10,x11,x12,x13,x14],.agg [.int .i64 (numF p),y1,y2,y3,y4,y5,y6,y7,y8,y9,y10,y11,y12,y13,y14]] []) λr T=>r=.bool (mixF o (numF p) && mixF p (numF o)):=by
  generalize mixF o (numF p)=b1 at*
  generalize mixF p (numF o)=b2 at*
  generalize numF o=no at*
  generalize numF p=np at*
  refine Ye Tryz.func130 rfl (by decide) rfl 16 rfl (λa hal ha=>?_)
  obtain⟨h0,h1⟩:=aQ2 ha
  clear ha
  cases b1
  ·simp only[push_cast,hal,h0,h1,↓Kk,Jn,c1,g1,g2,g3,g4,g5,g6,g7,g8,g9,g10,g11,g12,g13,g14,k1,k2,k3,k4,k5,k6,k7,k8,k9,k10,k11,k12,k13,k14,Tryz.f130,↓WX,simprocAttr,WY]
  ·simp only[push_cast,hal,h0,h1,↓Kk,Jn,c1,c2,g1,g2,g3,g4,g5,g6,g7,g8,g9,g10,g11,g12,g13,g14,k1,k2,k3,k4,k5,k6,k7,k8,k9,k10,k11,k12,k13,k14,Tryz.f130,↓WX,simprocAttr,WY]
 obtain⟨_,T,hr,rfl⟩:=this
 exact λst S=>Yd rfl (by simp only[Yc,Yg,po,pp,Ua]) hr rfl
end
section
variable {n : Nat}
theorem RSame_x (u v:Quo) {d1 d2 d3 e1 e2 e3:D} (k1:FLs 4 Prt.enc d1 u.parts) (k2:FLs 2 Xa d2 u.pairs) (k3:FLs 2 Jf d3 u.taxes) (j1:FLs 4 Prt.enc e1 v.parts) (j2:FLs 2 Xa e2 v.pairs) (j3:FLs 2 Jf e3 v.taxes) (hl:u.parts.length<=1048576) (hp:u.pairs.length<=1048576) (ht:u.taxes.length<=1048576) (hn:1048590<=n):∀st S,Yi E (Yb E n) st S 12 [.agg [d1,d2,d3,.int .i64 u.fare,.int .i64 u.total],.agg [e1,e2,e3,.int .i64 v.fare,.int .i64 v.total]]=some (.bool (sameF u v),S):=by
 obtain⟨m,rfl⟩:∃m,n=m+1:=⟨n-1,by omega⟩
 have hpp:Yp [.agg [d1,d2,d3,.int .i64 u.fare,.int .i64 u.total],.agg [e1,e2,e3,.int .i64 v.fare,.int .i64 v.total]]=true:=by simp only[Yc,Yg,D.pure,Xr k1 (Jr _),Xr k2 (Ka _),Xr k3 (Ko _),Xr j1 (Jr _),Xr j2 (Ka _),Xr j3 (Ko _),Ua]
 have y1:=λS=>Jv (S:=S) Tryz.underlying37 k1
 have y2:=λS=>Jv (S:=S) Tryz.underlying38 k2
 have y3:=λS=>Jv (S:=S) Tryz.underlying39 k3
 have z1:=λS=>Jv (S:=S) Tryz.underlying37 j1
 have z2:=λS=>Jv (S:=S) Tryz.underlying38 j2
 have z3:=λS=>Jv (S:=S) Tryz.underlying39 j3
 have o1:=Yv k1
 have o2:=Yv k2
 have o3:=Yv k3
 have p1:=Yv j1
 have p2:=Yv j2
 have p3:=Yv j3
 simp only[D.one]at o1 o2 o3 p1 p2 p3
 simp only[push_cast]at y1 y2 y3 z1 z2 z3
 obtain⟨B,hB⟩:∃r:Ob,r=Ob.row 5 [[d1,d2,d3,.int .i64 u.fare,.int .i64 u.total]]:=⟨_,rfl⟩
 obtain⟨C,hC⟩:∃r:Ob,r=Ob.row 5 [[e1,e2,e3,.int .i64 v.fare,.int .i64 v.total]]:=⟨_,rfl⟩
 have hb0:([B,C]:List Ob)[0]?=some (Ob.row 5 [[d1,d2,d3,.int .i64 u.fare,.int .i64 u.total]]):=by rw[<-hB];rfl
 have hb1:([B,C]:List Ob)[1]?=some (Ob.row 5 [[e1,e2,e3,.int .i64 v.fare,.int .i64 v.total]]):=by rw[<-hC];rfl
 have:WO (Yb E (m+1) 12 [.agg [d1,d2,d3,.int .i64 u.fare,.int .i64 u.total],.agg [e1,e2,e3,.int .i64 v.fare,.int .i64 v.total]] []) λr T=>r=.bool (sameF u v):=by
  refine Ye Tryz.func12 rfl (by decide) rfl 101 rfl (λa hal ha=>?_)
  obtain⟨h0,h1⟩:=aQ2 ha
  clear ha
  refine Ya (λa V=>V=[B,C]/\gQ a 101 (a[3]?=some (.loc 1 0 0)) [(2,.loc 0 0 0)]) ?_ ?_
  ·simp only[push_cast,hal,h0,h1,o1,o2,o3,p1,p2,p3,↓WX,simprocAttr]
   rw[hB,hC]
  rintro a V ⟨hV,hal,h2,h3⟩
  obtain⟨W,hW⟩:∃W:List Ob,W=[B,C]:=⟨_,rfl⟩
  rw[<-hW]at hb0 hb1 hV
  subst hV
  clear hW hB hC
  by_cases c1:u.parts.length=v.parts.length
  case neg=>
   have q1:decide ((u.parts.length:Int)=v.parts.length)=false:=Ud (by omega)
   simp only[push_cast,decide_not,hal,h2,h3,hb0,hb1,y1,z1,q1,Tryz.f12,↓WX,simprocAttr,WY]
   unfold sameF
   rw[allE_len c1,Bool.false_and]
  have q1:decide ((u.parts.length:Int)=v.parts.length)=true:=Ue (by omega)
  by_cases c2:u.pairs.length=v.pairs.length
  case neg=>
   have q2:decide ((u.pairs.length:Int)=v.pairs.length)=false:=Ud (by omega)
   simp only[push_cast,decide_not,hal,h2,h3,hb0,hb1,y1,y2,z1,z2,q1,q2,Tryz.f12,↓WX,simprocAttr,WY]
   unfold sameF
   rw[allE_len c2,Bool.false_and,Bool.and_false]
  have q2:decide ((u.pairs.length:Int)=v.pairs.length)=true:=Ue (by omega)
  by_cases c3:u.taxes.length=v.taxes.length
  case neg=>
   have q3:decide ((u.taxes.length:Int)=v.taxes.length)=false:=Ud (by omega)
   simp only[push_cast,decide_not,hal,h2,h3,hb0,hb1,y1,y2,y3,z1,z2,z3,q1,q2,q3,Tryz.f12,↓WX,simprocAttr,WY]
   unfold sameF
   rw[allE_len c3,Bool.false_and,Bool.and_false,Bool.and_false]
  have q3:decide ((u.taxes.length:Int)=v.taxes.length)=true:=Ue (by omega)
  by_cases c4:u.fare=v.fare
  case neg=>
   have q4:decide (u.fare=v.fare)=false:=Ud c4
   simp only[push_cast,decide_not,hal,h2,h3,hb0,hb1,y1,y2,y3,z1,z2,z3,q1,q2,q3,q4,Tryz.f12,↓WX,simprocAttr,WY]
   unfold sameF
   rw[q4,Bool.false_and,Bool.and_false,Bool.and_false,Bool.and_false]
  have q4:decide (u.fare=v.fare)=true:=Ue c4
  by_cases c5:u.total=v.total
  case neg=>
   have q5:decide (u.total=v.total)=false:=Ud c5
   simp only[push_cast,decide_not,hal,h2,h3,hb0,hb1,y1,y2,y3,z1,z2,z3,q1,q2,q3,q4,q5,Tryz.f12,↓WX,simprocAttr,WY]
   unfold sameF
   rw[q5,Bool.and_false,Bool.and_false,Bool.and_false,Bool.and_false]
  have q5:decide (u.total=v.total)=true:=Ue c5
  have e0:sameF u v=(allE eqP u.parts v.parts && (allE eqPr u.pairs v.pairs && allE eqCh u.taxes v.taxes)):=by
   unfold sameF
   rw[q4,q5,Bool.and_self,Ua]
  simp only[push_cast,decide_not,hal,h2,h3,hb0,hb1,y1,y2,y3,z1,z2,z3,q1,q2,q3,q4,q5,↓WX,simprocAttr,WY]
  refine Yk (λi a T=>(T=V/\allE eqP u.parts v.parts=allE eqP (u.parts.drop i) (v.parts.drop i))/\a.length=101/\a[2]?=some (.loc 0 0 0)/\a[3]?=some (.loc 1 0 0)/\a[5]?=some (.int .i64 i)) u.parts.length ?_ (by omega) ?_
  ·simp only[push_cast,hal,h2,h3,simprocAttr,WY]
  rintro i a T hi ⟨⟨rfl,e⟩,hal,h2,h3,h5⟩
  rcases Kw hi with hlt |rfl
  case inl=>
   have hltc:(i:Int)<u.parts.length:=by omega
   have hltv:i<v.parts.length:=by omega
   obtain⟨x,hx⟩:∃x,u.parts[i]?=some x:=⟨u.parts[i],by simp⟩
   obtain⟨y,hy⟩:∃y,v.parts[i]?=some y:=⟨v.parts[i],by simp⟩
   rw[allE_drop hx hy]at e
   rcases k1 with ⟨-,g⟩ | ⟨ux,rfl⟩
   ·rw[g]at hx;cases hx
   rcases j1 with ⟨-,g⟩ | ⟨vx,rfl⟩
   ·rw[g]at hy;cases hy
   have hq:=eq_prt x y
   generalize eqP x y=q at hq e
   cases q
   ·simp only[push_cast,hal,h2,h3,h5,hb0,hb1,hltc,hx,hy,hq,plain_prt,Prt.enc,Tryz.f12,↓WX,simprocAttr,WY]
    rw[e0,e]
    rfl
   ·simp(disch:=omega)only[push_cast,hal,h2,h3,h5,hb0,hb1,hltc,hlt,hx,hy,hq,plain_prt,Prt.enc,Yf,↓WX,simprocAttr,WY]
    rw[e]
    rfl
  rw[allE_end c1]at e
  rw[e,Bool.true_and]at e0
  clear e q1 c1 hi
  simp only[push_cast,hal,h2,h5,hb0,y1,↓WX,simprocAttr,WY]
  refine Yk (λi a W=>(W=T/\allE eqPr u.pairs v.pairs=allE eqPr (u.pairs.drop i) (v.pairs.drop i))/\a.length=101/\a[2]?=some (.loc 0 0 0)/\a[3]?=some (.loc 1 0 0)/\a[6]?=some (.int .i64 i)) u.pairs.length ?_ (by omega) ?_
  ·simp only[push_cast,hal,h2,h3,simprocAttr,WY]
  rintro i a T hi ⟨⟨rfl,e⟩,hal,h2,h3,h6⟩
  rcases Kw hi with hlt |rfl
  case inl=>
   have hltc:(i:Int)<u.pairs.length:=by omega
   have hltv:i<v.pairs.length:=by omega
   obtain⟨x,hx⟩:∃x,u.pairs[i]?=some x:=⟨u.pairs[i],by simp⟩
   obtain⟨y,hy⟩:∃y,v.pairs[i]?=some y:=⟨v.pairs[i],by simp⟩
   rw[allE_drop hx hy]at e
   rcases k2 with ⟨-,g⟩ | ⟨ux,rfl⟩
   ·rw[g]at hx;cases hx
   rcases j2 with ⟨-,g⟩ | ⟨vx,rfl⟩
   ·rw[g]at hy;cases hy
   have hq:=eq_two x y
   generalize eqPr x y=q at hq e
   cases q
   ·simp only[push_cast,hal,h2,h3,h6,hb0,hb1,hltc,hx,hy,hq,plain_two,Xa,Tryz.f12,↓WX,simprocAttr,WY]
    rw[e0,e]
    rfl
   ·simp(disch:=omega)only[push_cast,hal,h2,h3,h6,hb0,hb1,hltc,hlt,hx,hy,hq,plain_two,Xa,Yf,↓WX,simprocAttr,WY]
    rw[e]
    rfl
  rw[allE_end c2]at e
  rw[e,Bool.true_and]at e0
  clear e q2 c2 hi
  simp only[push_cast,hal,h2,h6,hb0,y2,↓WX,simprocAttr,WY]
  refine Yk (λi a W=>(W=T/\allE eqCh u.taxes v.taxes=allE eqCh (u.taxes.drop i) (v.taxes.drop i))/\a.length=101/\a[2]?=some (.loc 0 0 0)/\a[3]?=some (.loc 1 0 0)/\a[7]?=some (.int .i64 i)) u.taxes.length ?_ (by omega) ?_
  ·simp only[push_cast,hal,h2,h3,simprocAttr,WY]
  rintro i a T hi ⟨⟨rfl,e⟩,hal,h2,h3,h7⟩
  rcases Kw hi with hlt |rfl
  case inl=>
   have hltc:(i:Int)<u.taxes.length:=by omega
   have hltv:i<v.taxes.length:=by omega
   obtain⟨x,hx⟩:∃x,u.taxes[i]?=some x:=⟨u.taxes[i],by simp⟩
   obtain⟨y,hy⟩:∃y,v.taxes[i]?=some y:=⟨v.taxes[i],by simp⟩
   rw[allE_drop hx hy]at e
   rcases k3 with ⟨-,g⟩ | ⟨ux,rfl⟩
   ·rw[g]at hx;cases hx
   rcases j3 with ⟨-,g⟩ | ⟨vx,rfl⟩
   ·rw[g]at hy;cases hy
   have hq:=eq_chg x y
   generalize eqCh x y=q at hq e
   cases q
   ·simp only[push_cast,hal,h2,h3,h7,hb0,hb1,hltc,hx,hy,hq,plain_chg,Jf,Tryz.f12,↓WX,simprocAttr,WY]
    rw[e0,e]
    rfl
   ·simp(disch:=omega)only[push_cast,hal,h2,h3,h7,hb0,hb1,hltc,hlt,hx,hy,hq,plain_chg,Jf,Yf,↓WX,simprocAttr,WY]
    rw[e]
    rfl
  rw[allE_end c3]at e
  rw[e]at e0
  simp only[push_cast,hal,h2,h7,hb0,y3,Tryz.f12,↓WX,simprocAttr,WY]
  rw[e0]
 obtain⟨_,T,ho,rfl⟩:=this
 exact λst S=>callD_obsP rfl hpp ho rfl
end
end Go.Proofs.YtaklebjoenophaaGreat.Dm
