/-
  The program's stays, local times and cities of a way: exactly.
  The program's cities of a way: a list.
  The program's stops and ends of a way: exactly.
  Whether a way has another class than its fare: the program's closure and what calls it.
-/
import Derived.Test.YtaklebjoenophaaGreatPrB
set_option maxHeartbeats 64000000
set_option maxRecDepth 100000
set_option linter.unusedSimpArgs false
set_option linter.unusedVariables false
namespace Go.Proofs.YtaklebjoenophaaGreat.Dm
open Go Gw
def ofsP (u:Int):Int->List Shf->Int
 |q,[]=>q
 |q,x::xs=>if u<x.tm then q else ofsP u x.off xs
section
variable {n : Nat}
theorem PStay_x (o:Option Rul) (u v:Int) (hn:1<=n):∀st S,Yi E (Yb E n) st S 133 [rulD o,.int .i64 u,.int .i64 v]=some (.int .i64 (stayR o u v),S):=by
 obtain⟨m,rfl⟩:∃m,n=m+1:=⟨n-1,by omega⟩
 have key:∀(c0:Int) (c1 c2:D) (i0 i1 i2 i3 i4 i5:Int) (c8 c9:D) (mn mx ch rf:Int) (c14:D),(c2.one=true/\c8.one=true/\c9.one=true/\c14.one=true)->c1=.int .i64 i0->WO (Yb E (m+1) 133 [.agg [.int .i64 c0,.int .i64 i0,c2,.int .i64 i1,.int .i64 i2,.int .i64 i3,.int .i64 i4,.int .i64 i5,c8,c9,.int .i64 mn,.int .i64 mx,.int .i64 ch,.int .i64 rf,c14],.int .i64 u,.int .i64 v] []) λr T=>r=.int .i64 (stayF mn mx u v):=by
  intro c0 c1 c2 i0 i1 i2 i3 i4 i5 c8 c9 mn mx ch rf c14 hone _
  simp only[D.one]at hone
  obtain⟨n2,n8,n9,n14⟩:=hone
  obtain⟨q,hq⟩:∃q,q=stayF mn mx u v:=⟨_,rfl⟩
  rw[<-hq]
  unfold stayF at hq
  refine Ye Tryz.func133 rfl (by decide) rfl 40 rfl (λa hal ha=>?_)
  obtain⟨h0,h1,h2⟩:=aQ3 ha
  clear ha
  by_cases e1:u<0
  ·simp only[push_cast,hal,h0,h1,n2,n8,n9,n14,e1,Tryz.f133,↓WX,simprocAttr]
   rw[hq,if_pos (by omega)]
  by_cases e2:36525<=u
  ·simp only[push_cast,hal,h0,h1,n2,n8,n9,n14,e1,e2,Tryz.f133,↓WX,simprocAttr]
   rw[hq,if_pos (by omega)]
  by_cases e3:v<0
  ·simp only[push_cast,hal,h0,h1,h2,n2,n8,n9,n14,e1,e2,e3,Tryz.f133,↓WX,simprocAttr]
   rw[hq,if_pos (by omega)]
  by_cases e4:36525<=v
  ·simp only[push_cast,hal,h0,h1,h2,n2,n8,n9,n14,e1,e2,e3,e4,Tryz.f133,↓WX,simprocAttr]
   rw[hq,if_pos (by omega)]
  rw[if_neg (by omega)]at hq
  by_cases e5:v-u<mn
  ·simp(maxSteps:=1000000)(disch:=omega)only[push_cast,hal,h0,h1,h2,n2,n8,n9,n14,e1,e2,e3,e4,e5,Yf,Tryz.f133,↓WX,simprocAttr]
   rw[hq,if_pos (by omega)]
  by_cases e6:0<mx
  case neg=>
   simp(maxSteps:=1000000)(disch:=omega)only[push_cast,Vn,hal,h0,h1,h2,n2,n8,n9,n14,e1,e2,e3,e4,e5,e6,Yf,Tryz.f133,↓WX,simprocAttr]
   rw[hq,if_neg (by omega)]
  by_cases e7:mx<v-u
  ·simp(maxSteps:=1000000)(disch:=omega)only[push_cast,Vn,hal,h0,h1,h2,n2,n8,n9,n14,e1,e2,e3,e4,e5,e6,e7,Yf,Tryz.f133,↓WX,simprocAttr]
   rw[hq,if_pos (by omega)]
  ·simp(maxSteps:=1000000)(disch:=omega)only[push_cast,Vn,hal,h0,h1,h2,n2,n8,n9,n14,e1,e2,e3,e4,e5,e6,e7,Yf,Tryz.f133,↓WX,simprocAttr]
   rw[hq,if_neg (by omega)]
 have:WO (Yb E (m+1) 133 [rulD o,.int .i64 u,.int .i64 v] []) λr T=>r=.int .i64 (stayR o u v):=by
  cases o with
  |none=>exact key 0 (.int .i64 0) .nils 0 0 0 0 0 0 .nils .nils 0 0 0 0 .nils ⟨rfl,rfl,rfl,rfl⟩ rfl
  |some r=>
   obtain⟨w,hw⟩:∃w,r.when=w:=⟨_,rfl⟩
   have hxe:Rul.enc r=.int .i64 r.num::(w.enc++[.sl 1 (r.comb.map encZ) r.combx,.int .i64 r.mins,.int .i64 r.maxs,.int .i64 r.chg,.int .i64 r.ref,.sl 2 (r.pcs.map encPc) r.pcx]):=by rw[<-hw];rfl
   cases w with |mk k' l' lx' u' v' pf' pt' pd' t' tx'=>?_
   simp only[Cnd.enc,Uv,Vr]at hxe
   simp only[rulD,hxe,stayR]
   exact key _ _ _ _ _ _ _ _ _ _ _ _ _ _ _ _ ⟨rfl,rfl,rfl,rfl⟩ rfl
 obtain⟨_,T,hr,rfl⟩:=this
 exact λst S=>Yd rfl (by simp only[Yc,Yg,Jl,D.pure,Ua]) hr rfl
theorem POffset_x (hn:1048580<=n) (z:Int) {sd:D} {l:List Shf} (hs:FLs 2 Shf.enc sd l) (hl:l.length<=1048576) (u:Int):∀st S,Yi E (Yb E n) st S 177 [.agg [.int .i64 z,sd],.int .i64 u]=some (.int .i64 (ofsP u z l),S):=by
 obtain⟨m,rfl⟩:∃m,n=m+1:=⟨n-1,by omega⟩
 have hp:=Xr hs (Shfs_pure l)
 have ho:=Yv hs
 simp only[D.one]at ho
 have hy:=λS=>Jv (S:=S) Tryz.underlying55 hs
 simp only[push_cast]at hy
 have:WO (Yb E (m+1) 177 [.agg [.int .i64 z,sd],.int .i64 u] []) λr T=>r=.int .i64 (ofsP u z l):=by
  refine Ye Tryz.func177 rfl (by decide) rfl 25 rfl (λa hal ha=>?_)
  obtain⟨h0,h1⟩:=aQ2 ha
  clear ha
  simp only[push_cast,hal,h0,ho,hy,↓WX,simprocAttr]
  refine Yk (λi a T=>(∃q:Int,a[5]?=some (.int .i64 q)/\ofsP u z l=ofsP u q (l.drop i))/\a.length=25/\a[1]?=some (.int .i64 u)/\a[11]?=some (sd)/\a[12]?=some (.int .i64 l.length)/\a[13]?=some (.int .i64 i)) l.length ?_ (by omega) ?_
  ·simp only[push_cast,hal,h1,simprocAttr,WY]
   exact⟨_,rfl,rfl⟩
  rintro i a T hi ⟨⟨q,h5,e⟩,hal,h1,h11,h12,h13⟩
  rcases Kw hi with hlt |rfl
  case inr=>
   rw[Vj,ofsP]at e
   rw[e]
   simp only[push_cast,hal,h5,h12,h13,Tryz.f177,↓WX,simprocAttr,WY]
  have hltc:(i:Int)<l.length:=by omega
  obtain⟨x,hx⟩:∃x,l[i]?=some x:=⟨l[i],by simp⟩
  rw[Yu hx,ofsP]at e
  rcases hs with ⟨-,rfl⟩ | ⟨lx,rfl⟩
  ·cases hx
  refine Ya (λa W=>W=T/\gQ a 25 (a[14]?=some (.bool true)) [(1,.int .i64 u),(5,.int .i64 q),(11,.sl 2 (l.map Shf.enc) lx),(12,.int .i64 l.length),(13,.int .i64 i)]) ?_ ?_
  ·simp only[push_cast,hal,h1,h5,h11,h12,h13,hltc,↓WX,simprocAttr]
  rintro a W ⟨-,hal,h1,h5,h11,h12,h13,h14⟩
  refine Ya (λa V=>V=W/\gQ a 25 (a[13]?=some (.int .i64 i)) [(1,.int .i64 u),(5,.int .i64 q),(11,.sl 2 (l.map Shf.enc) lx),(12,.int .i64 l.length)]) ?_ ?_
  ·simp only[push_cast,hal,h1,h5,h11,h12,h13,h14,↓WX]
  rintro a W2 ⟨-,hal,h1,h5,h11,h12,h13⟩
  rw[Zx,Yx]
  refine Ya (λa V=>(∃kx,a[7]?=some (.loc kx 0 0)/\V[kx]?=some (Ob.row 2 [x.enc]))/\gQ a 25 (a[13]?=some (.int .i64 i)) [(1,.int .i64 u),(5,.int .i64 q),(11,.sl 2 (l.map Shf.enc) lx),(12,.int .i64 l.length)]) ?_ ?_
  ·simp only[push_cast,hal,h1,h5,h11,h12,h13,hx,Yl,Yq,Shf.enc,↓WX,simprocAttr]
   exact⟨_,rfl,Yl⟩
  rintro a V ⟨⟨kx,h7,gx⟩,hal,h1,h5,h11,h12,h13⟩
  simp only[Shf.enc]at gx
  by_cases c:u<x.tm
  ·rw[if_pos c]at e
   rw[e]
   simp only[push_cast,Vn,hal,h1,h5,h7,gx,c,Tryz.f177,↓WX,simprocAttr]
  ·rw[if_neg c]at e
   simp(disch:=omega)only[push_cast,Vn,hal,h1,h7,h11,h12,h13,gx,c,hlt,Yf,↓WX,simprocAttr,WY]
   exact⟨_,rfl,e⟩
 obtain⟨_,T,ho,rfl⟩:=this
 exact λst S=>Yd rfl (by simp only[Yc,Yg,D.pure,hp,Ua]) ho rfl
theorem PLocal_x (hn:1048581<=n) (z:Int) {sd:D} {l:List Shf} (hs:FLs 2 Shf.enc sd l) (hl:l.length<=1048576) (u:Int):∀st S,Yi E (Yb E n) st S 122 [.agg [.int .i64 z,sd],.int .i64 u]=some (.int .i64 (IntKind.i64.wrap (u+ofsP u z l)),S):=by
 obtain⟨m,rfl⟩:∃m,n=m+1:=⟨n-1,by omega⟩
 have hq:=POffset_x (n:=m) (by omega) z hs hl u
 have hp:=Xr hs (Shfs_pure l)
 have ho:=Yv hs
 simp only[D.one]at ho
 have:WO (Yb E (m+1) 122 [.agg [.int .i64 z,sd],.int .i64 u] []) λr T=>r=.int .i64 (IntKind.i64.wrap (u+ofsP u z l)):=by
  refine Ye Tryz.func122 rfl (by decide) rfl 10 rfl (λa hal ha=>?_)
  obtain⟨h0,h1⟩:=aQ2 ha
  clear ha
  simp only[push_cast,hal,h0,h1,ho,hq,Tryz.f122,↓WX,simprocAttr]
 obtain⟨_,T,ho,rfl⟩:=this
 exact λst S=>Yd rfl (by simp only[Yc,Yg,D.pure,hp,Ua]) ho rfl
end
section
variable {n : Nat}
theorem PCities_d (p:Plc) (hpa:p.aps.length<=1048576) (l:List Wnt) (lx:Bool) (hl:l.length<=1000) (hn:1048590<=n):
  WO (Yb E (n+1) 58 [.agg p.enc,.sl 8 (l.map Wnt.enc) lx] []) λr T=>∃cs:List ByteArray,GL 1 Cnd.encT T r cs/\cs=citF p l:=by
 obtain⟨fc,hfc,hf⟩:∃fc:ByteArray->ByteArray,fc=Kb p/\∀s st S,Yi E (Yb E n) st S 117 [.agg p.enc,.str s]=some (.str (fc s),S):=⟨Kb p,rfl,λs st S=>City_c (by omega) (by omega) st S⟩
 simp only[Plc.enc]at hf ⊢
 have ap:∀ {T:List Ob} {d:D} {cs:List ByteArray},GL 1 Cnd.encT T d cs->cs.length<=100000->∀s,∃S',Zb Tryz.prog T 67 67 d (.sl 1 [[.str s]] true)=some (.os T.length 0 (cs.length+1) false,S')/\GL 1 Cnd.encT S' (.os T.length 0 (cs.length+1) false) (cs++[s])/\S'.length=T.length+1/\(∀k o,(∀n,d=.os k 0 n false->False)->T[k]?=some o->S'[k]?=some o):=λh hc s=>by
  obtain⟨S',a1,a2,a3,a4,-⟩:=app_gl (t:=67) (e:=9) (z:=.str (ByteArray.mk #[])) (n:=0) (by kernel_rfl) (by kernel_rfl) (by kernel_rfl) rfl (Nat.le_of_ble_eq_true (by kernel_rfl)) h hc s
  exact⟨S',a1,a2,a3,a4⟩
 obtain⟨P0,hP0⟩:∃P0:Ob,P0=Ob.row 2 [[.sl 5 (p.aps.map Apt.enc) p.apsx,.sl 3 (p.dts.map Dst.enc) p.dtsx]]:=⟨_,rfl⟩
 refine Ye Tryz.func58 rfl (by decide) rfl 35 rfl (λa hal ha=>?_)
 obtain⟨h0,h1⟩:=aQ2 ha
 clear ha
 simp only[push_cast,hal,h0,h1,↓WX,simprocAttr]
 refine Yk (λi a T=>(∃d cs,a[5]?=some d/\GL 1 Cnd.encT T d cs/\(∀n,d=.os 0 0 n false->False)/\cs=citF p (l.take i)/\T[0]?=some P0/\1<=T.length)/\a.length=35/\a[2]?=some (.loc 0 0 0)/\a[8]?=some (.sl 8 (l.map Wnt.enc) lx)/\a[9]?=some (.int .i64 l.length)/\a[10]?=some (.int .i64 i)) l.length ?_ (by omega) ?_
 ·simp only[push_cast,hal,simprocAttr,WY]
  exact⟨_,[],rfl,GL.nil,λn h=>(by cases h),rfl,by rw[hP0]⟩
 rintro i a T hi ⟨⟨d,cs,h5,hg,hd,hc0,hT,hTl⟩,hal,h2,h8,h9,h10⟩
 rcases Kw hi with hlt |rfl
 case inr=>
  simp only[push_cast,hal,h5,h9,h10,Tryz.f58,↓WX,simprocAttr,WY]
  exact⟨cs,hg,by rw[hc0,Vi]⟩
 have hltc:(i:Int)<l.length:=by omega
 obtain⟨x,hx⟩:∃x,l[i]?=some x:=⟨l[i],by simp⟩
 have hti:(l.take (i+1))=l.take i++[x]:=by rw[List.take_add_one,hx];rfl
 have hc1:i≠0->cs.length=i+1/\citF p (l.take (i+1))=cs++[Kb p x.to]:=λe=>by
  have hne:l.take i≠[]:=λh=>by have:=congrArg List.length h;rw[Ve,Vs]at this;omega
  rw[hc0]
  refine⟨?_,by rw[hti,citF_add p x hne]⟩
  rw[citF_len p hne,Ve]
  omega
 have hc2:i=0->cs=[]/\citF p (l.take (i+1))=[Kb p x.fr]++[Kb p x.to]:=λe=>by
  subst e
  refine⟨hc0,?_⟩
  rw[hti]
  rfl
 have hcl:cs.length<=2000:=by
  by_cases e:i=0
  ·rw[(hc2 e).1];exact Vt _
  ·rw[(hc1 e).1];omega
 rw[<-hfc]at hc1 hc2
 refine Ya (λa V=>V=T/\gQ a 35 (a[11]?=some (.bool true)) [(2,.loc 0 0 0),(5,d),(8,.sl 8 (l.map Wnt.enc) lx),(9,.int .i64 l.length),(10,.int .i64 i)]) ?_ ?_
 ·simp only[push_cast,hal,h2,h5,h8,h9,h10,hltc,↓WX,simprocAttr]
 rintro a V ⟨rfl,hal,h2,h5,h8,h9,h10,h11⟩
 refine Ya (λa W=>W=V/\gQ a 35 (a[10]?=some (.int .i64 i)) [(2,.loc 0 0 0),(5,d),(8,.sl 8 (l.map Wnt.enc) lx),(9,.int .i64 l.length)]) ?_ ?_
 ·simp only[push_cast,hal,h2,h5,h8,h9,h10,h11,↓WX]
 rintro a W ⟨rfl,hal,h2,h5,h8,h9,h10⟩
 rw[Zx,Yx]
 refine Ya (λa V=>(∃kx,a[7]?=some (.loc kx 0 0)/\V[kx]?=some (Ob.row 8 [x.enc])/\GL 1 Cnd.encT V d cs/\(∀n,d=.os kx 0 n false->False)/\V[0]?=some P0/\1<=V.length)/\gQ a 35 (a[10]?=some (.int .i64 i)) [(2,.loc 0 0 0),(5,d),(6,.int .i64 i),(8,.sl 8 (l.map Wnt.enc) lx),(9,.int .i64 l.length)]) ?_ ?_
 ·simp only[push_cast,hal,h2,h5,h8,h9,h10,hx,Yl,Yq,Wnt.enc,↓WX,simprocAttr]
  refine⟨_,rfl,Yl,hg.keep λk n hk o ho=>Ym ho,λn hk=>?_,Ym hT,by first |omega | (rw[Ku];omega) |simp⟩
  rcases hg with ⟨h,-⟩ | ⟨k,h1,h2⟩
  ·rw[h]at hk;cases hk
  ·rw[h1]at hk
   have:=(D.os.inj hk).1
   have h3:=(Kr.1 h2).1
   omega
 clear hg hT hTl
 rintro a V ⟨⟨kx,h7,gx,hg,hdx,hT,hTl⟩,hal,h2,h5,h6,h8,h9,h10⟩
 simp only[Wnt.enc]at gx
 subst hP0
 refine Ya (λa T=>(∃d cs,a[5]?=some d/\GL 1 Cnd.encT T d cs/\(∀n,d=.os 0 0 n false->False)/\(cs.length=i+1/\citF p (l.take (i+1))=cs++[fc x.to])/\T[0]?=some (Ob.row 2 [[.sl 5 (p.aps.map Apt.enc) p.apsx,.sl 3 (p.dts.map Dst.enc) p.dtsx]])/\1<=T.length/\T[kx]?=V[kx]?)/\gQ a 35 (a[10]?=some (.int .i64 i)) [(2,.loc 0 0 0),(7,.loc kx 0 0),(8,.sl 8 (l.map Wnt.enc) lx),(9,.int .i64 l.length)]) ?_ ?_
 ·by_cases e:i=0
  case neg=>
   have d1:decide ((i:Int)=0)=false:=Ud (by omega)
   simp only[push_cast,hal,h2,h5,h6,h7,h8,h9,h10,d1,↓WX,simprocAttr]
   exact⟨_,cs,rfl,hg,hd,hc1 e,hT,hTl⟩
  have d1:decide ((i:Int)=0)=true:=Ue (by omega)
  obtain⟨S',a1,a2,a3,a4⟩:=ap hg (by omega) (fc x.fr)
  have hT':=a4 _ _ hd hT
  have gx':=a4 _ _ hdx gx
  simp only[push_cast,hal,h2,h5,h6,h7,h8,h9,h10,d1,hT,gx,hf,a1,↓WX,simprocAttr]
  exact⟨_,_,rfl,a2,λn h=>by have:=(D.os.inj h).1;omega,⟨by rw[Ku,(hc2 e).1,e];rfl,by rw[(hc2 e).1];exact (hc2 e).2⟩,hT',by omega,gx'⟩
 clear hg hd hc0 hc1 hc2 hT hTl hcl hdx
 rintro a T ⟨⟨d,cs,h5,hg,hd,⟨hc,hcc⟩,hT,hTl,gk⟩,hal,h2,h7,h8,h9,h10⟩
 rw[gx]at gk
 obtain⟨S',a1,a2,a3,a4⟩:=ap hg (by omega) (fc x.to)
 have hT':=a4 _ _ hd hT
 simp(disch:=omega)only[push_cast,hal,h2,h5,h7,h8,h9,h10,hT,gk,hf,a1,hlt,Yf,↓WX,simprocAttr,WY]
 exact⟨_,_,rfl,a2,λn h=>by have:=(D.os.inj h).1;omega,hcc.symm,hT',by omega⟩
theorem PCities_x (p:Plc) (hpa:p.aps.length<=1048576) (l:List Wnt) (lx:Bool) (hl:l.length<=1000) (hn:1048600<=n):∃d,FLs 1 Cnd.encT d (citF p l)/\∀st S,Yi E (Yb E n) st S 58 [.agg p.enc,.sl 8 (l.map Wnt.enc) lx]=some (d,S):=by
 obtain⟨m,rfl⟩:∃m,n=m+1:=⟨n-1,by omega⟩
 obtain⟨d,T,ho,cs,hg,rfl⟩:=PCities_d (n:=m) p hpa l lx hl (by omega)
 obtain⟨d',f,hf⟩:=hg.fls (Cnd.encT_pure _)
 exact⟨d',hf,λst S=>Yd rfl (by simp only[Yc,Yg,D.pure,Yt,Jd,Ua]) ho f⟩
end
def stpP (u v:Int):Bool:= !decide (v<=u) && decide (1440<=IntKind.u64.wrap (IntKind.u64.wrap v-IntKind.u64.wrap u))
def endF (f:Far) (l:List Wnt) (cs:List ByteArray):Bool:=
 (l.all λw=>decide (w.car=f.car)) && (decide ((cs[0]?).getD (ByteArray.mk #[])=f.frm) && decide ((cs[cs.length-1]?).getD (ByteArray.mk #[])=f.dst))
section
variable {n : Nat}
theorem PStops_x (u v:Int) (hn:1<=n):∀st S,Yi E (Yb E n) st S 123 [.int .i64 u,.int .i64 v]=some (.bool (stpP u v),S):=by
 obtain⟨m,rfl⟩:∃m,n=m+1:=⟨n-1,by omega⟩
 have:WO (Yb E (m+1) 123 [.int .i64 u,.int .i64 v] []) λr T=>r=.bool (stpP u v):=by
  unfold stpP
  refine Ye Tryz.func123 rfl (by decide) rfl 14 rfl (λa hal ha=>?_)
  obtain⟨h0,h1⟩:=aQ2 ha
  clear ha
  cases c:decide (v<=u)
  ·simp only[push_cast,hal,h0,h1,c,Vx,Tryz.f123,↓WX,simprocAttr,WY]
  ·simp only[push_cast,hal,h0,h1,c,Tryz.f123,↓WX,simprocAttr,WY]
 obtain⟨_,T,ho,rfl⟩:=this
 exact λst S=>Yd rfl rfl ho rfl
theorem PEnds_x (f:Far) (l:List Wnt) (lx:Bool) (hl:l.length<=1048576) (cs:List ByteArray) (cx:Bool) (hcs:1<=cs.length) (hcl:cs.length<=1048577) (hn:1048590<=n):∀st S,Yi E (Yb E n) st S 59 [.agg f.enc,.sl 8 (l.map Wnt.enc) lx,.sl 1 (cs.map Cnd.encT) cx]=some (.bool (endF f l cs),S):=by
 obtain⟨m,rfl⟩:∃m,n=m+1:=⟨n-1,by omega⟩
 have hc0:0<cs.length:=by omega
 have hc0c:(0:Int)<cs.length:=by omega
 have hgc:(0<=(cs.length:Int)-1)=True:=eq_true (by omega)
 have htc':((cs.length:Int)-1).toNat=cs.length-1:=by omega
 have hcl1:cs.length-1<cs.length:=by omega
 have hwc:IntKind.i64.wrap ((cs.length:Int)-1)=(cs.length:Int)-1:=Yf (by omega) (by omega)
 obtain⟨u,hu⟩:∃u,cs[0]?=some u:=⟨cs[0],by simp⟩
 obtain⟨v,hv⟩:∃v,cs[cs.length-1]?=some v:=⟨cs[cs.length-1],by simp⟩
 have hef:endF f l cs=((l.all λw=>decide (w.car=f.car)) && (decide (u=f.frm) && decide (v=f.dst))):=by
  unfold endF
  rw[hu,hv]
  rfl
 rw[hef]
 have:WO (Yb E (m+1) 59 [.agg f.enc,.sl 8 (l.map Wnt.enc) lx,.sl 1 (cs.map Cnd.encT) cx] []) λr T=>r=.bool ((l.all λw=>decide (w.car=f.car)) && (decide (u=f.frm) && decide (v=f.dst))):=by
  obtain⟨q,hq⟩:∃q,q=((l.all λw=>decide (w.car=f.car)) && (decide (u=f.frm) && decide (v=f.dst))):=⟨_,rfl⟩
  rw[<-hq]
  have hfe:Far.enc f=[.str f.car,.str f.frm,.str f.dst,.str f.bas,.str f.cls,.bool f.rnd,.int .i64 f.amt,.int .i64 f.rul,.int .i64 f.rou]:=rfl
  rw[hfe]
  refine Ye Tryz.func59 rfl (by decide) rfl 39 rfl (λa hal ha=>?_)
  obtain⟨h0,h1,h2⟩:=aQ3 ha
  clear ha
  simp only[push_cast,hal,h0,h1,↓WX,simprocAttr]
  refine Yk (λi a T=>(q=(((l.drop i).all λw=>decide (w.car=f.car)) && (decide (u=f.frm) && decide (v=f.dst)))/\T[0]?=some (Ob.row 9 [[.str f.car,.str f.frm,.str f.dst,.str f.bas,.str f.cls,.bool f.rnd,.int .i64 f.amt,.int .i64 f.rul,.int .i64 f.rou]]))/\a.length=39/\a[2]?=some (.sl 1 (cs.map Cnd.encT) cx)/\a[3]?=some (.loc 0 0 0)/\a[9]?=some (.sl 8 (l.map Wnt.enc) lx)/\a[10]?=some (.int .i64 l.length)/\a[11]?=some (.int .i64 i)) l.length ?_ (by omega) ?_
  ·simp only[push_cast,hal,h2,simprocAttr,WY]
   exact hq
  clear hq
  rintro i a T hi ⟨⟨e,g0⟩,hal,h2,h3,h9,h10,h11⟩
  rcases Kw hi with hlt |rfl
  case inr=>
   rw[Vj,List.all_nil,Bool.true_and]at e
   rw[e]
   cases e1:decide (u=f.frm)
   ·simp only[push_cast,hal,h2,h3,h10,h11,g0,hu,e1,Yo,Cnd.encT,Tryz.f59,↓WX,simprocAttr,WY]
   ·simp only[push_cast,hal,h2,h3,h10,h11,g0,hgc,htc',hwc,hu,hv,e1,Yo,Cnd.encT,Tryz.f59,↓WX,simprocAttr,WY]
  have hltc:(i:Int)<l.length:=by omega
  obtain⟨x,hx⟩:∃x,l[i]?=some x:=⟨l[i],by simp⟩
  rw[Yu hx,List.all_cons]at e
  refine Ya (λa W=>W=T/\gQ a 39 (a[12]?=some (.bool true)) [(2,.sl 1 (cs.map Cnd.encT) cx),(3,.loc 0 0 0),(9,.sl 8 (l.map Wnt.enc) lx),(10,.int .i64 l.length),(11,.int .i64 i)]) ?_ ?_
  ·simp only[push_cast,hal,h2,h3,h9,h10,h11,hltc,↓WX,simprocAttr]
  rintro a W ⟨rfl,hal,h2,h3,h9,h10,h11,h12⟩
  refine Ya (λa V=>V=W/\gQ a 39 (a[11]?=some (.int .i64 i)) [(2,.sl 1 (cs.map Cnd.encT) cx),(3,.loc 0 0 0),(9,.sl 8 (l.map Wnt.enc) lx),(10,.int .i64 l.length)]) ?_ ?_
  ·simp only[push_cast,hal,h2,h3,h9,h10,h11,h12,↓WX]
  rintro a V ⟨rfl,hal,h2,h3,h9,h10,h11⟩
  rw[Zx,Yx]
  refine Ya (λa T=>(∃kx,a[8]?=some (.loc kx 0 0)/\T[kx]?=some (Ob.row 8 [x.enc])/\T[0]?=some (Ob.row 9 [[.str f.car,.str f.frm,.str f.dst,.str f.bas,.str f.cls,.bool f.rnd,.int .i64 f.amt,.int .i64 f.rul,.int .i64 f.rou]]))/\gQ a 39 (a[11]?=some (.int .i64 i)) [(2,.sl 1 (cs.map Cnd.encT) cx),(3,.loc 0 0 0),(9,.sl 8 (l.map Wnt.enc) lx),(10,.int .i64 l.length)]) ?_ ?_
  ·simp only[push_cast,hal,h2,h3,h9,h10,h11,hx,Yl,Yq,Wnt.enc,↓WX,simprocAttr]
   exact⟨_,rfl,Yl,Ym g0⟩
  clear g0
  rintro a T ⟨⟨kx,h8,gx,g0⟩,hal,h2,h3,h9,h10,h11⟩
  simp only[Wnt.enc]at gx
  cases e1:decide (x.car=f.car)
  ·rw[e1,Bool.false_and,Bool.false_and]at e
   rw[e]
   simp only[push_cast,hal,h3,h8,g0,gx,e1,Yo,Tryz.f59,↓WX,simprocAttr,WY]
  ·rw[e1,Bool.true_and]at e
   simp(disch:=omega)only[push_cast,hal,h2,h3,h8,h9,h10,h11,g0,gx,e1,Yo,hlt,Yf,↓WX,simprocAttr,WY]
   exact e
 obtain⟨_,T,ho,rfl⟩:=this
 exact λst S=>Yd rfl (by simp only[Yc,Yg,D.pure,Far_pure,Jd,Cnd.encT_pure,Ua]) ho rfl
end
section
variable {n : Nat}
theorem PWhy1_c {ck:Nat} {f:Far} {S:List Ob} (ht:S[ck]?=some (.row 9 [f.enc])) (q:Wnt):
  ∃T,Yi E (Yb E (n+1)) false S 61 [.agg q.enc,.loc ck 0 0]=some (.bool (!decide (q.cls=f.cls)),T)/\ExtS S T:=by
 have ht':=Ym (J:=[Ob.row 8 [q.enc]]) ht
 have:WO (Yb E (n+1) 61 [.agg q.enc,.loc ck 0 0] S) λd T=>d=.bool (!decide (q.cls=f.cls))/\ExtS S T:=by
  have hqe:Wnt.enc q=[.str q.car,.int .i64 q.num,.int .i64 q.day,.str q.fr,.str q.to,.int .i64 q.dep,.int .i64 q.arr,.str q.cls]:=rfl
  have hfe:Far.enc f=[.str f.car,.str f.frm,.str f.dst,.str f.bas,.str f.cls,.bool f.rnd,.int .i64 f.amt,.int .i64 f.rul,.int .i64 f.rou]:=rfl
  rw[hqe,hfe]at ht'
  rw[hqe]
  refine Ye Tryz.func61 rfl (by decide) rfl 9 rfl (λa hal ha=>?_)
  obtain⟨h0,h1⟩:=aQ2 ha
  clear ha
  simp only[push_cast,hal,h0,h1,ht',Yl,Yo,Tryz.f61,↓WX,simprocAttr]
  exact ExtS.refl.push _
 obtain⟨r,T,hT,rfl,h⟩:=this
 exact⟨T,(Jk rfl (by simp[Yp,D.pure])).trans hT,h⟩
theorem PIxW_d {F:Nat} {ys:List D} {p:Wnt->Bool} {l:List Wnt} {lx:Bool} {S:List Ob} (hn:1048580<=n) (hl:l.length<=1048576)
  (hF:∀T,ExtS S T->∀q,∃U,Yi E (Yb E (n+1)) false T F (.agg (Wnt.enc q)::ys)=some (.bool (p q),U)/\ExtS T U):
  WO (Yb E (n+2) 118 [.sl 8 (l.map Wnt.enc) lx,.func F [] ys] S) λr T=>∃k:Int,r=.int .i64 k/\decide (0<=k)=l.any p/\ExtS S T:=by
 obtain⟨b,hb⟩:∃b,b=l.any p:=⟨_,rfl⟩
 rw[<-hb]
 refine Ye Tryz.func118 rfl (by decide) rfl 19 rfl (λa hal ha=>?_)
 obtain⟨h0,h1⟩:=aQ2 ha
 clear ha
 simp only[push_cast,hal,h0,↓WX,simprocAttr]
 refine Yk (λi a T=>(ExtS S T/\b=(l.drop i).any p)/\a.length=19/\a[0]?=some (.sl 8 (l.map Wnt.enc) lx)/\a[1]?=some (.func F [] ys)/\a[7]?=some (.int .i64 l.length)/\a[8]?=some (.int .i64 i)) l.length ?_ (by omega) ?_
 ·simp only[push_cast,hal,h0,h1,simprocAttr,WY]
  exact⟨ExtS.refl,hb⟩
 clear hb
 rintro i a T hi ⟨⟨hx,e⟩,hal,h0,h1,h7,h8⟩
 rcases Kw hi with hlt |rfl
 case inr=>
  rw[Vj,List.any_nil]at e
  subst e
  simp only[push_cast,decide_eq_false_iff_not,hal,h7,h8,Tryz.f118,↓WX,simprocAttr,WY]
  exact⟨_,rfl,by simp,hx⟩
 have hltc:(i:Int)<l.length:=by omega
 obtain⟨q,hq⟩:∃q,l[i]?=some q:=⟨l[i],by simp⟩
 rw[Yu hq,List.any_cons]at e
 obtain⟨U,hU,hxU⟩:=hF T hx q
 simp only[Wnt.enc]at hU
 cases hp:p q
 ·rw[hp]at hU e
  rw[Bool.false_or]at e
  simp(disch:=omega)only[push_cast,hal,h0,h1,h7,h8,↓Kk,Jn,hltc,hlt,hq,Wnt.enc,hU,Yf,Vr,Uv,↓WX,simprocAttr,WY]
  exact⟨hx.trans hxU,e⟩
 ·rw[hp]at hU e
  rw[Bool.true_or]at e
  subst e
  simp only[push_cast,Up,hal,h0,h1,h7,h8,↓Kk,Jn,hltc,hq,Wnt.enc,hU,Vr,Uv,Tryz.f118,↓WX,simprocAttr]
  exact⟨_,rfl,by simp,hx.trans hxU⟩
theorem PCtW_c {ck:Nat} {f:Far} {l:List Wnt} {lx:Bool} {S:List Ob} (hn:1048590<=n) (hl:l.length<=1048576) (ht:S[ck]?=some (.row 9 [f.enc])):
  ∃T,Yi E (Yb E n) false S 60 [.sl 8 (l.map Wnt.enc) lx,.func 61 [] [.loc ck 0 0]]=some (.bool (l.any λq=> !decide (q.cls=f.cls)),T)/\ExtS S T:=by
 obtain⟨m,rfl⟩:∃m,n=m+3:=⟨n-3,by omega⟩
 obtain⟨r,T,hT,k,rfl,hk,hx⟩:=PIxW_d (n:=m) (F:=61) (ys:=[.loc ck 0 0]) (p:=λq=> !decide (q.cls=f.cls)) (l:=l) (lx:=lx) (S:=S) (by omega) hl λT h q=>PWhy1_c (h _ _ ht) q
 have cx:Yi E (Yb E (m+2)) false S 118 [.sl 8 (l.map Wnt.enc) lx,.func 61 [] [.loc ck 0 0]]=some (.int .i64 k,T):=(Jk rfl (by simp[Yp,D.pure])).trans hT
 rw[<-hk]
 have:WO (Yb E (m+3) 60 [.sl 8 (l.map Wnt.enc) lx,.func 61 [] [.loc ck 0 0]] S) λd T=>d=.bool (decide (0<=k))/\ExtS S T:=by
  refine Ye Tryz.func60 rfl (by decide) rfl 9 rfl (λa hal ha=>?_)
  obtain⟨h0,h1⟩:=aQ2 ha
  clear ha
  simp only[push_cast,hal,h0,h1,cx,Vx,Tryz.f60,↓WX,simprocAttr]
  exact hx
 obtain⟨r,T',hT',rfl,h⟩:=this
 exact⟨T',(Jk rfl (by simp[Yp,D.pure])).trans hT',h⟩
end
end Go.Proofs.YtaklebjoenophaaGreat.Dm
