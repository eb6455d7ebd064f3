/-
  The reference's check of a tariff: is a city known.
  The reference's check of a tariff: a rule by its number.
  The reference's check of a rule: some list.
  The reference's check of a tariff: the violations of a fare, some list.
-/
import Derived.Test.YtaklebjoenophaaGreatTaB
set_option maxHeartbeats 64000000
set_option maxRecDepth 100000
set_option linter.unusedSimpArgs false
set_option linter.unusedVariables false
namespace Go.Proofs.YtaklebjoenophaaGreat.Dm
open Go Gw
structure Rou where
 num:Int
 links:List (ByteArray×ByteArray)
 linksx:Bool
 miles:Int
def Rou.enc (r:Rou):List D:=[.int .i64 r.num,.sl 2 (r.links.map encLk) r.linksx,.int .i64 r.miles]
theorem Rou_pure (r:Rou):Yp r.enc=true:=by
 simp only[D.pure,Yc,Yg,Bool.and_self,Rou.enc,encLk_pure]
theorem Jz (l:List Rou):Zc (l.map Rou.enc)=true:=by
 induction l with
 |nil=>rfl
 |cons f fs ih=>rw[Uy,Zw,ih,Rou_pure];rfl
section
variable {n : Nat}
theorem known24_c (p:Plc) (hl:p.aps.length<=1048576) (hn:1048580<=n) (s:ByteArray):∃b,∀st S,Yi E (Yb E n) st S 106 [.agg p.enc,.str s]=some (.bool b,S):=by
 obtain⟨m,rfl⟩:∃m,n=m+1:=⟨n-1,by omega⟩
 have hp:=Yt p
 simp only[Plc.enc]at hp ⊢
 have:WO (Yb E (m+1) 106 [.agg [.sl 5 (p.aps.map Apt.enc) p.apsx,.sl 3 (p.dts.map Dst.enc) p.dtsx],.str s] []) λr T=>∃b,r=.bool b:=by
  refine Ye Tryz.func106 rfl (by decide) rfl 21 rfl (λa hal ha=>?_)
  obtain⟨h0,h1⟩:=aQ2 ha
  clear ha
  simp only[push_cast,h0,↓WX,simprocAttr]
  refine Yk (λi a T=>T=[Ob.row 2 [[.sl 5 (p.aps.map Apt.enc) p.apsx,.sl 3 (p.dts.map Dst.enc) p.dtsx]]]/\a.length=21/\a[1]?=some (.str s)/\a[2]?=some (.loc 0 0 0)/\a[5]?=some (.int .i64 i)) p.aps.length ?_ (by omega) ?_
  ·simp only[push_cast,hal,h1,simprocAttr,WY]
  rintro i a T hi ⟨rfl,hal,h1,h2,h5⟩
  rcases Kw hi with hlt |rfl
  case inr=>
   simp only[push_cast,hal,h2,h5,Tryz.f106,↓WX,simprocAttr,WY]
   exact⟨_,rfl⟩
  obtain⟨x,hx⟩:∃x,p.aps[i]?=some x:=⟨p.aps[i],by simp⟩
  have hltc:(i:Int)<p.aps.length:=by omega
  by_cases q:x.city=s
  ·simp only[push_cast,hal,h1,h2,h5,hltc,hx,q,Yo,Apt.enc,Tryz.f106,↓WX,simprocAttr]
   exact⟨_,rfl⟩
  ·simp(disch:=omega)only[push_cast,hal,h1,h2,h5,hltc,hlt,hx,q,Yo,Apt.enc,Yf,↓WX,simprocAttr,WY]
 obtain⟨_,T,ho,b,rfl⟩:=this
 exact⟨b,λst S=>Yd rfl (by simp only[Yc,Yg,D.pure,Ua]at hp ⊢;exact hp) ho rfl⟩
theorem Routing24_c (fe re te:List (List D)) (fx rx tx:Bool) (l:List Rou) (lx:Bool) (hf:Zc fe=true) (hr:Zc re=true) (ht:Zc te=true) (hl:l.length<=1048576) (hn:1048580<=n) (k:Int):∃(d:D) (b:Bool),∀st S,Yi E (Yb E n) st S 84 [.agg [.sl 9 fe fx,.sl 15 re rx,.sl 3 (l.map Rou.enc) lx,.sl 7 te tx],.int .i64 k]=some (.tup [d,.bool b],S):=by
 obtain⟨m,rfl⟩:∃m,n=m+1:=⟨n-1,by omega⟩
 have:WO (Yb E (m+1) 84 [.agg [.sl 9 fe fx,.sl 15 re rx,.sl 3 (l.map Rou.enc) lx,.sl 7 te tx],.int .i64 k] []) λr T=>∃d b,r=.tup [d,.bool b]/\d.pure=true:=by
  refine Ye Tryz.func84 rfl (by decide) rfl 28 rfl (λa hal ha=>?_)
  obtain⟨h0,h1⟩:=aQ2 ha
  clear ha
  simp only[push_cast,h0,↓WX,simprocAttr]
  refine Yk (λi a T=>T=[Ob.row 4 [[.sl 9 fe fx,.sl 15 re rx,.sl 3 (l.map Rou.enc) lx,.sl 7 te tx]],Ob.row 3 [[.int .i64 0,.nils,.int .i64 0]]]/\a.length=28/\a[1]?=some (.int .i64 k)/\a[2]?=some (.loc 0 0 0)/\a[4]?=some (.loc 1 0 0)/\a[6]?=some (.int .i64 i)) l.length ?_ (by omega) ?_
  ·simp only[push_cast,hal,h1,simprocAttr,WY]
  rintro i a T hi ⟨rfl,hal,h1,h2,h4,h6⟩
  rcases Kw hi with hlt |rfl
  case inr=>
   simp only[push_cast,hal,h2,h4,h6,Tryz.f84,↓WX,simprocAttr,WY]
   exact⟨_,_,rfl,rfl⟩
  obtain⟨x,hx⟩:∃x,l[i]?=some x:=⟨l[i],by simp⟩
  have hltc:(i:Int)<l.length:=by omega
  by_cases q:x.num=k
  ·simp only[push_cast,hal,h1,h2,h4,h6,hltc,hx,q,Rou.enc,Tryz.f84,↓WX,simprocAttr]
   exact⟨_,_,rfl,by simp only[D.pure,Yc,Yg,encLk_pure,Bool.and_self]⟩
  ·simp(disch:=omega)only[push_cast,hal,h1,h2,h4,h6,hltc,hlt,hx,q,Rou.enc,Yf,↓WX,simprocAttr,WY]
 obtain⟨_,T,ho,d,b,rfl,hd⟩:=this
 exact⟨d,b,λst S=>Yd rfl (by simp only[Yc,Yg,D.pure,hf,hr,ht,Jz,Bool.and_self]) ho (Yy (by simp only[D.pure,Yc,Yg,hd,Ua]))⟩
end
structure Rul where
 num:Int
 when:Cnd
 comb:List Int
 combx:Bool
 mins:Int
 maxs:Int
 chg:Int
 ref:Int
 pcs:List (ByteArray×Int)
 pcx:Bool
def Rul.enc (r:Rul):List D:=.int .i64 r.num::(r.when.enc++[.sl 1 (r.comb.map encZ) r.combx,.int .i64 r.mins,.int .i64 r.maxs,.int .i64 r.chg,.int .i64 r.ref,.sl 2 (r.pcs.map encPc) r.pcx])
theorem pureL_join (a b:List D) (h:Yp a=true) (g:Yp b=true):Yp (a++b)=true:=by
 induction a with
 |nil=>exact g
 |cons x a ih=>
  rw[Yc,Kv]at h
  rw[Uv,Yc,h.1,ih h.2];rfl
theorem Rul_pure (r:Rul):Yp r.enc=true:=by
 have h:=pureL_join r.when.enc [.sl 1 (r.comb.map encZ) r.combx,.int .i64 r.mins,.int .i64 r.maxs,.int .i64 r.chg,.int .i64 r.ref,.sl 2 (r.pcs.map encPc) r.pcx] (Cnd.pure _) (by simp only[D.pure,Yc,Yg,Bool.and_self,encZ_pure,encPc_pure])
 rw[Rul.enc,Yc,h];rfl
theorem Ruls_pure (l:List Rul):Zc (l.map Rul.enc)=true:=by
 induction l with
 |nil=>rfl
 |cons f fs ih=>rw[Uy,Zw,ih,Rul_pure];rfl
section
variable {n : Nat}
theorem Rule24_c (fe oe te:List (List D)) (fx ox tx:Bool) (l:List Rul) (lx:Bool) (hf:Zc fe=true) (hr:Zc oe=true) (ht:Zc te=true) (hl:l.length<=1048576) (hn:1048580<=n) (k:Int):∃(cs:List D) (b:Bool),cs.length=15/\cs.all D.one=true/\∀st S,Yi E (Yb E n) st S 81 [.agg [.sl 9 fe fx,.sl 15 (l.map Rul.enc) lx,.sl 3 oe ox,.sl 7 te tx],.int .i64 k]=some (.tup [.agg cs,.bool b],S):=by
 obtain⟨m,rfl⟩:∃m,n=m+1:=⟨n-1,by omega⟩
 have:WO (Yb E (m+1) 81 [.agg [.sl 9 fe fx,.sl 15 (l.map Rul.enc) lx,.sl 3 oe ox,.sl 7 te tx],.int .i64 k] []) λr T=>∃cs b,r=.tup [.agg cs,.bool b]/\Yp cs=true/\cs.length=15/\cs.all D.one=true:=by
  refine Ye Tryz.func81 rfl (by decide) rfl 28 rfl (λa hal ha=>?_)
  obtain⟨h0,h1⟩:=aQ2 ha
  clear ha
  simp only[push_cast,h0,↓WX,simprocAttr]
  refine Yk (λi a T=>T=[Ob.row 4 [[.sl 9 fe fx,.sl 15 (l.map Rul.enc) lx,.sl 3 oe ox,.sl 7 te tx]],Ob.row 15 [[.int .i64 0,.int .i64 0,.nils,.int .i64 0,.int .i64 0,.int .i64 0,.int .i64 0,.int .i64 0,.nils,.nils,.int .i64 0,.int .i64 0,.int .i64 0,.int .i64 0,.nils]]]/\a.length=28/\a[1]?=some (.int .i64 k)/\a[2]?=some (.loc 0 0 0)/\a[4]?=some (.loc 1 0 0)/\a[6]?=some (.int .i64 i)) l.length ?_ (by omega) ?_
  ·simp only[push_cast,hal,h1,simprocAttr,WY]
  rintro i a T hi ⟨rfl,hal,h1,h2,h4,h6⟩
  rcases Kw hi with hlt |rfl
  case inr=>
   simp only[push_cast,hal,h2,h4,h6,Tryz.f81,↓WX,simprocAttr,WY]
   exact⟨_,_,rfl,rfl,rfl,rfl⟩
  obtain⟨x,hx⟩:∃x,l[i]?=some x:=⟨l[i],by simp⟩
  have hltc:(i:Int)<l.length:=by omega
  have hxp:=Rul_pure x
  obtain⟨w,hw⟩:∃w,x.when=w:=⟨_,rfl⟩
  have hxe:Rul.enc x=.int .i64 x.num::(w.enc++[.sl 1 (x.comb.map encZ) x.combx,.int .i64 x.mins,.int .i64 x.maxs,.int .i64 x.chg,.int .i64 x.ref,.sl 2 (x.pcs.map encPc) x.pcx]):=by rw[<-hw];rfl
  cases w with |mk k' l' lx' u' v' pf' pt' pd' t' tx'=>?_
  rw[hxe]at hxp
  simp only[Cnd.enc,Uv,Vr]at hxe hxp
  by_cases q:x.num=k
  ·simp only[push_cast,hal,h1,h2,h4,h6,hltc,hx,q,hxe,Tryz.f81,↓WX,simprocAttr]
   exact⟨_,_,rfl,hxp,rfl,rfl⟩
  ·simp(disch:=omega)only[push_cast,hal,h1,h2,h4,h6,hltc,hlt,hx,q,hxe,Yf,↓WX,simprocAttr,WY]
 obtain⟨_,T,ho,cs,b,rfl,hd,hl,ho1⟩:=this
 exact⟨cs,b,hl,ho1,λst S=>Yd rfl (by simp only[Yc,Yg,D.pure,hf,hr,ht,Ruls_pure,Bool.and_self]) ho (Yy (by simp only[D.pure,Yc,Yg,hd,Ua]))⟩
end
theorem app_rP {P Q:Prop} {T:List Ob} {d x:D} {fs:List (Int×ByteArray)} {z m:Nat} (h:GL 2 encF T d fs) (hz:SZ P fs z) (hx:FRP Q x m z) (hl:fs.length+m<=4999999999999):
  ∃d' T' fs',Zb Tryz.prog T 51 51 d x=some (d',T')/\GL 2 encF T' d' fs'/\fs'.length<=fs.length+m/\SZ (P/\Q) fs' z/\KeepF T T':=by
 obtain⟨gs,hg,h1,h2⟩:=hx
 obtain⟨d',T',p,g,k⟩:=app_fls h (show FLs 2 encF x gs from hg) (by omega)
 refine⟨d',T',_,p,g,by rw[Ku];omega,⟨λf hf=>?_,λhf=>⟨hz.2 (List.append_eq_nil_iff.1 hf).1,h2.2 (List.append_eq_nil_iff.1 hf).2⟩⟩,k⟩
 rcases List.mem_append.1 hf with hf |hf
 ·exact hz.1 f hf
 ·exact h2.1 f hf
theorem not_faultN {n:Nat} {es:List (List D)} (h:n≠2):¬FaultOb (.row n es):=by
 rintro⟨fs,e⟩
 injection e with e
 exact h e
section
variable {n : Nat}
theorem Check21_d {nu k u v pf pt pd mi ma ch re:Int} {l:List Cnd} {lx tx cx px:Bool} {t:List ByteArray} {cb:List Int} {pc:List (ByteArray×Int)} (hw:(Cnd.mk k l lx u v pf pt pd t tx).Wf) (hb:Yn (Cnd.mk k l lx u v pf pt pd t tx).enc<=1048576) (hc:cb.length<=1048576) (hp:pc.length<=1048576) (hz:∀p∈pc,p.1.size<=1048576) (hn:3200000<=n):
  WO (Yb E (n+1) 46 [.agg [.int .i64 nu,.int .i64 k,.sl 8 (Cnd.encs l) lx,.int .i64 u,.int .i64 v,.int .i64 pf,.int .i64 pt,.int .i64 pd,.sl 1 (t.map Cnd.encT) tx,.sl 1 (cb.map encZ) cx,.int .i64 mi,.int .i64 ma,.int .i64 ch,.int .i64 re,.sl 2 (pc.map encPc) px]] []) λd T=>∃fs,GL 2 encF T d fs/\fs.length<=6000000/\SZ ((∀p∈pc,0<=p.2/\p.2<=1000)/\(Cnd.mk k l lx u v pf pt pd t tx).KG) fs 30:=by
 obtain⟨e0,hk0,ce⟩:=Check20_c (n:=n) _ hw hb (by omega)
 obtain⟨dl,fl,cl⟩:=list21_c (n:=n) (l:=cb) (lx:=cx) hc (by omega)
 obtain⟨dp,fp,cp⟩:=percents21_c (n:=n) (l:=pc) (lx:=px) hp hz (by omega)
 simp only[Cnd.enc]at ce
 clear hw hb
 generalize (Cnd.mk k l lx u v pf pt pd t tx).KG=KG0 at*
 obtain⟨W0,hW⟩:∃W:Prop,W↔e0=0:=⟨_,Iff.rfl⟩
 generalize Cnd.encs l=le at*
 generalize t.map Cnd.encT=te at*
 generalize cb.map encZ=ze at*
 generalize pc.map encPc=pe at*
 generalize (∀p∈pc,0<=p.2/\p.2<=1000)=Q at*
 refine Ye Tryz.func46 rfl (by decide) rfl 95 rfl (λa hal ha=>?_)
 have h0:=aQ1 ha
 clear ha
 obtain⟨rw0,hrw⟩:∃rw0,rw0=Ob.row 15 [[.int .i64 nu,.int .i64 k,.sl 8 le lx,.int .i64 u,.int .i64 v,.int .i64 pf,.int .i64 pt,.int .i64 pd,.sl 1 te tx,.sl 1 ze cx,.int .i64 mi,.int .i64 ma,.int .i64 ch,.int .i64 re,.sl 2 pe px]]:=⟨_,rfl⟩
 have hnf:¬FaultOb rw0:=by rw[hrw];exact not_faultN (by decide)
 obtain⟨S0,hS0⟩:∃S0,S0=[rw0]:=⟨_,rfl⟩
 have g0:S0[0]?=some rw0:=by rw[hS0];rfl
 refine Ya (λa V=>V=S0/\a.length=95/\a[1]?=some (.loc 0 0 0)) ?_ ?_
 ·rw[hS0,hrw]
  simp only[push_cast,hal,h0,↓WX,simprocAttr]
 rintro a V ⟨rfl,hal,h1⟩
 refine Ya (λa W=>W=V/\gQ a 95 (a[3]?=some (.nils)) [(1,.loc 0 0 0)]) ?_ ?_
 ·simp only[push_cast,hal,h1,↓WX,simprocAttr]
 rintro a W ⟨rfl,hal,h1,h3⟩
 refine Ya (λa V'=>(KeepF W V'/\FS V' a[3]? 1 30)/\a.length=95/\a[1]?=some (.loc 0 0 0)) ?_ ?_
 ·obtain⟨d1,T1,fs1,p1,q1,g1,l1,z1,k1⟩:=app_s (T:=W) (d:=.nils) (fs:=[]) (z:=30) GL.nil (by simp) (λf h=>by cases h) true 2 (ByteArray.mk #[110,117,109,98,101,114]) (by decide)
  replace p1:=p1 rfl
  rw[hrw]at g0
  by_cases c1:nu<1
  ·simp only[push_cast,hal,h1,h3,g0,c1,p1,FS,↓WX,simprocAttr]
   exact⟨k1,_,_,rfl,g1,by simpa using l1,z1⟩
  by_cases c2:9999<nu
  ·simp only[push_cast,Vn,hal,h1,h3,g0,c1,c2,p1,FS,↓WX,simprocAttr]
   exact⟨k1,_,_,rfl,g1,by simpa using l1,z1⟩
  simp only[push_cast,Vn,hal,h1,h3,g0,c1,c2,FS,↓WX,simprocAttr]
  exact⟨KeepF.refl,_,[],rfl,GL.nil,by simp,λf h=>by cases h⟩
 rintro a V1 ⟨⟨k1,d1,fs1,h3,g1,l1,z1⟩,hal,h1⟩
 have v1:=k1 _ _ hnf g0
 refine Ya (λa V'=>V'=V1/\gQ a 95 (a[4]?=some (.int .i64 e0)) [(1,.loc 0 0 0),(3,d1)]) ?_ ?_
 ·rw[hrw]at v1
  simp only[push_cast,hal,h1,h3,v1,ce,↓WX,simprocAttr]
 rintro a V' ⟨rfl,hal,h1,h3,h4⟩
 refine Ya (λa V2=>(KeepF V' V2/\FSP W0 V2 a[3]? 2 30)/\a.length=95/\a[1]?=some (.loc 0 0 0)) ?_ ?_
 ·obtain⟨d2,T2,fs2,p2,q2,g2,l2,z2,k2⟩:=app_sP (P:=True) g1 (by omega) ⟨z1,λ_=>trivial⟩ true e0 (ByteArray.mk #[119,104,101,110]) (by decide)
  have w2:=(p2 rfl).2
  replace p2:=(p2 rfl).1
  by_cases c1:e0=0
  ·subst c1
   simp only[push_cast,Vp,hal,h1,h3,h4,FSP,↓WX,simprocAttr]
   exact⟨KeepF.refl,_,_,rfl,g1,by omega,z1,λ_=>hW.2 rfl⟩
  simp only[push_cast,Vo,hal,h1,h3,h4,c1,p2,FSP,↓WX,simprocAttr]
  exact⟨k2,_,_,rfl,g2,by omega,w2.any⟩
 rintro a V2 ⟨⟨k2,d2,fs2,h3,g2,l2,z2⟩,hal,h1⟩
 have v2:=k2 _ _ hnf v1
 refine Ya (λa V'=>(KeepF V2 V'/\FSP W0 V' a[3]? 2100000 30)/\a.length=95/\a[1]?=some (.loc 0 0 0)) ?_ ?_
 ·obtain⟨d3,T3,fs3,p3,g3,l3,z3,k3⟩:=app_rP g2 z2 (show FRP True _ _ 30 from by obtain⟨fs,a,b,c⟩:=fl;exact⟨fs,a,b,c,λ_=>trivial⟩) (by omega)
  rw[hrw]at v2
  simp only[push_cast,hal,h1,h3,v2,cl,p3,FSP,↓WX,simprocAttr]
  exact⟨k3,_,_,rfl,g3,by omega,z3.mono And.left⟩
 rintro a V3 ⟨⟨k3,d3,fs3,h3,g3,l3,z3⟩,hal,h1⟩
 have v3:=k3 _ _ hnf v2
 refine Ya (λa V'=>(KeepF V3 V'/\FSP W0 V' a[3]? 2100001 30)/\a.length=95/\a[1]?=some (.loc 0 0 0)) ?_ ?_
 ·obtain⟨d4,T4,fs4,p4,q4,g4,l4,z4,k4⟩:=app_sP g3 (by omega) z3 true 2 (ByteArray.mk #[115,116,97,121]) (by decide)
  replace p4:=(p4 rfl).1
  rw[hrw]at v3
  by_cases c1:mi<0
  ·simp only[push_cast,hal,h1,h3,v3,c1,p4,FSP,↓WX,simprocAttr]
   exact⟨k4,_,_,rfl,g4,by omega,z4⟩
  by_cases c2:400<mi
  ·simp only[push_cast,Vn,hal,h1,h3,v3,c1,c2,p4,FSP,↓WX,simprocAttr]
   exact⟨k4,_,_,rfl,g4,by omega,z4⟩
  by_cases c3:ma<0
  ·simp only[push_cast,Vn,hal,h1,h3,v3,c1,c2,c3,p4,FSP,↓WX,simprocAttr]
   exact⟨k4,_,_,rfl,g4,by omega,z4⟩
  by_cases c4:400<ma
  ·simp only[push_cast,Vn,hal,h1,h3,v3,c1,c2,c3,c4,p4,FSP,↓WX,simprocAttr]
   exact⟨k4,_,_,rfl,g4,by omega,z4⟩
  simp only[push_cast,Vn,hal,h1,h3,v3,c1,c2,c3,c4,FSP,↓WX,simprocAttr]
  exact⟨KeepF.refl,_,_,rfl,g3,by omega,z3⟩
 rintro a V4 ⟨⟨k4,d4,fs4,h3,g4,l4,z4⟩,hal,h1⟩
 have v4:=k4 _ _ hnf v3
 refine Ya (λa V'=>(KeepF V4 V'/\FSP W0 V' a[3]? 2100002 30)/\a.length=95/\a[1]?=some (.loc 0 0 0)) ?_ ?_
 ·obtain⟨d5,T5,fs5,p5,q5,g5,l5,z5,k5⟩:=app_sP g4 (by omega) z4 true 24 (ByteArray.mk #[115,116,97,121]) (by decide)
  replace p5:=(p5 rfl).1
  rw[hrw]at v4
  by_cases c1:0<ma
  ·by_cases c2:ma<mi
   ·simp only[push_cast,Vn,hal,h1,h3,v4,c1,c2,p5,FSP,↓WX,simprocAttr]
    exact⟨k5,_,_,rfl,g5,by omega,z5⟩
   simp only[push_cast,Vn,hal,h1,h3,v4,c1,c2,FSP,↓WX,simprocAttr]
   exact⟨KeepF.refl,_,_,rfl,g4,by omega,z4⟩
  simp only[push_cast,Vn,hal,h1,h3,v4,c1,FSP,↓WX,simprocAttr]
  exact⟨KeepF.refl,_,_,rfl,g4,by omega,z4⟩
 rintro a V5 ⟨⟨k5,d5,fs5,h3,g5,l5,z5⟩,hal,h1⟩
 have v5:=k5 _ _ hnf v4
 refine Ya (λa V'=>(KeepF V5 V'/\FSP W0 V' a[3]? 2100003 30)/\a.length=95/\a[1]?=some (.loc 0 0 0)) ?_ ?_
 ·obtain⟨d6,T6,fs6,p6,q6,g6,l6,z6,k6⟩:=app_sP g5 (by omega) z5 true 2 (ByteArray.mk #[102,101,101,115]) (by decide)
  replace p6:=(p6 rfl).1
  rw[hrw]at v5
  by_cases c1:ch< -1
  ·simp only[push_cast,hal,h1,h3,v5,c1,p6,FSP,↓WX,simprocAttr]
   exact⟨k6,_,_,rfl,g6,by omega,z6⟩
  by_cases c2:1099511627776<ch
  ·simp only[push_cast,Vn,hal,h1,h3,v5,c1,c2,p6,FSP,↓WX,simprocAttr]
   exact⟨k6,_,_,rfl,g6,by omega,z6⟩
  by_cases c3:re< -1
  ·simp only[push_cast,Vn,hal,h1,h3,v5,c1,c2,c3,p6,FSP,↓WX,simprocAttr]
   exact⟨k6,_,_,rfl,g6,by omega,z6⟩
  by_cases c4:1099511627776<re
  ·simp only[push_cast,Vn,hal,h1,h3,v5,c1,c2,c3,c4,p6,FSP,↓WX,simprocAttr]
   exact⟨k6,_,_,rfl,g6,by omega,z6⟩
  simp only[push_cast,Vn,hal,h1,h3,v5,c1,c2,c3,c4,FSP,↓WX,simprocAttr]
  exact⟨KeepF.refl,_,_,rfl,g5,by omega,z5⟩
 rintro a V6 ⟨⟨k6,d6,fs6,h3,g6,l6,z6⟩,hal,h1⟩
 have v6:=k6 _ _ hnf v5
 obtain⟨d7,T7,fs7,p7,g7,l7,z7,k7⟩:=app_rP g6 z6 fp (by omega)
 rw[hrw]at v6
 simp only[push_cast,hal,h1,h3,v6,cp,p7,Tryz.f46,↓WX,simprocAttr]
 exact⟨_,g7,by omega,z7.mono λe=>⟨e.2,hk0 (hW.1 e.1)⟩⟩
structure RulB (r:Rul):Prop where
 wf:r.when.Wf
 cnd:Yn r.when.enc<=1048576
 cmb:r.comb.length<=1048576
 pcl:r.pcs.length<=1048576
 pcb:∀p∈r.pcs,p.1.size<=1048576
theorem Check21_c {r:Rul} (h:RulB r) (hn:3200001<=n):∃d,FRP ((∀p∈r.pcs,0<=p.2/\p.2<=1000)/\r.when.KG) d 6000000 30/\∀st S,Yi E (Yb E n) st S 46 [.agg r.enc]=some (d,S):=by
 obtain⟨m,rfl⟩:∃m,n=m+1:=⟨n-1,by omega⟩
 have hp:=Rul_pure r
 obtain⟨nu,w,cb,cx,mi,ma,ch,re,pc,px⟩:=r
 cases w with |mk k l lx u v pf pt pd t tx=>?_
 obtain⟨h1,h2,h3,h4,h5⟩:=h
 obtain⟨d,T,ho,fs,hg,g1,g2⟩:=Check21_d (n:=m) (nu:=nu) (mi:=mi) (ma:=ma) (ch:=ch) (re:=re) (cx:=cx) (px:=px) h1 h2 h3 h4 h5 (by omega)
 obtain⟨d',f,hf⟩:=GL_fz hg
 exact⟨d',⟨fs,hf,g1,g2⟩,λst S=>Yd rfl (by rw[Yc,D.pure,hp];rfl) ho f⟩
end
structure Far where
 car:ByteArray
 frm:ByteArray
 dst:ByteArray
 bas:ByteArray
 cls:ByteArray
 rnd:Bool
 amt:Int
 rul:Int
 rou:Int
def Far.enc (f:Far):List D:=[.str f.car,.str f.frm,.str f.dst,.str f.bas,.str f.cls,.bool f.rnd,.int .i64 f.amt,.int .i64 f.rul,.int .i64 f.rou]
theorem Far_pure (f:Far):Yp f.enc=true:=by
 simp only[D.pure,Yc,Yg,Bool.and_self,Far.enc]
theorem Js (l:List Far):Zc (l.map Far.enc)=true:=by
 induction l with
 |nil=>rfl
 |cons f fs ih=>rw[Uy,Zw,ih,Far_pure];rfl
structure Trf where
 fares:List Far
 fx:Bool
 rules:List Rul
 rx:Bool
 rous:List Rou
 ox:Bool
 taxes:List Tx
 tx:Bool
def Trf.enc (t:Trf):List D:=[.sl 9 (t.fares.map Far.enc) t.fx,.sl 15 (t.rules.map Rul.enc) t.rx,.sl 3 (t.rous.map Rou.enc) t.ox,.sl 7 (t.taxes.map Tx.enc) t.tx]
theorem Ja (t:Trf):Yp t.enc=true:=by
 simp only[D.pure,Yc,Yg,Bool.and_self,Trf.enc,Js,Ruls_pure,Jz,Jq]
def KeepI (T T':List Ob):Prop:=∀(k sz:Nat) (es:List (List D)),sz≠1->T[k]?=some (.row sz es)->T'[k]?=some (.row sz es)
theorem KeepI.refl {T:List Ob}:KeepI T T:=λ_ _ _ _ h=>h
theorem KeepI.trans {T U V:List Ob} (h:KeepI T U) (g:KeepI U V):KeepI T V:=λk s e n j=>g k s e n (h k s e n j)
theorem KeepI.push {T:List Ob} {o:Ob}:KeepI T (T++[o]):=λ_ _ _ _ h=>Ym h
def ES (T:List Ob) (a:Option D) (m:Nat):Prop:=∃d es,a=some d/\GL 1 encI T d es/\es.length<=m
theorem app_e {T:List Ob} {d:D} {es:List Int} (h:GL 1 encI T d es) (hl:es.length<=900) (e:Int):
  ∃d' T' es',Zb Tryz.prog T 108 108 d (.sl 1 [[.int .i64 e]] true)=some (d',T')/\GL 1 encI T' d' es'/\es'.length<=es.length+1/\KeepI T T':=by
 obtain⟨S',h1,h2,h3,h4,h5⟩:=app_err h (by omega) e
 exact⟨_,S',_,h1,h2,by simp,h5⟩
def ESP (P:Prop) (T:List Ob) (a:Option D) (m:Nat):Prop:=∃d es,a=some d/\GL 1 encI T d es/\es.length<=m/\(es=[]->P)
def ERP (P:Prop) (d:D) (m:Nat):Prop:=∃es,FLs 1 encI d es/\es.length<=m/\(es=[]->P)
theorem app_eP {T:List Ob} {d:D} {es:List Int} (h:GL 1 encI T d es) (hl:es.length<=900) (e:Int):
  ∃d' T' es',Zb Tryz.prog T 108 108 d (.sl 1 [[.int .i64 e]] true)=some (d',T')/\GL 1 encI T' d' es'/\es'.length<=es.length+1/\KeepI T T'/\es'≠[]:=by
 obtain⟨S',h1,h2,h3,h4,h5⟩:=app_err h (by omega) e
 exact⟨_,S',_,h1,h2,by simp,h5,by simp⟩
theorem len15 {cs:List D} (h:cs.length=15):∃c0 c1 c2 c3 c4 c5 c6 c7 c8 c9 c10 c11 c12 c13 c14,cs=[c0,c1,c2,c3,c4,c5,c6,c7,c8,c9,c10,c11,c12,c13,c14]:=by
 match cs,h with
 | [c0,c1,c2,c3,c4,c5,c6,c7,c8,c9,c10,c11,c12,c13,c14],_=>exact⟨c0,c1,c2,c3,c4,c5,c6,c7,c8,c9,c10,c11,c12,c13,c14,rfl⟩
section
variable {n : Nat}
theorem rCodeLM_c {s:ByteArray} (k m:Int) (hn:s.size+6<n) (hz:s.size<=9223372036854775807):∃b,∀st S,Yi E (Yb E n) st S 105 [.str s,.int .i64 k,.int .i64 m]=some (.bool b,S):=by
 obtain⟨m,rfl⟩:∃m,n=m+1:=⟨n-1,by omega⟩
 exact⟨_,λst S=>Yd rfl rfl (Ke (ref_Code_d (by omega) hz)) rfl⟩
theorem fare24_d {p:Plc} {t:Trf} {f:Far} (hap:p.aps.length<=1048576) (hru:t.rules.length<=1048576) (hro:t.rous.length<=1048576) (z1:f.car.size<=1048576) (z2:f.bas.size<=1048576) (z3:f.cls.size<=1048576) (hn:1048700<=n):
  WO (Yb E (n+1) 44 [.agg p.enc,.agg t.enc,.agg f.enc] []) λd T=>∃es,GL 1 encI T d es/\es.length<=6/\(es=[]->0<=f.amt/\f.amt<=1099511627776):=by
 have c1:=λst S=>rCarrier_c (n:=n) (s:=f.car) (by omega) (by omega) st S
 obtain⟨b2,c2⟩:=rCodeLM_c (n:=n) (s:=f.bas) 1 8 (by omega) (by omega)
 obtain⟨b3,c3⟩:=known24_c (n:=n) p hap (by omega) f.frm
 obtain⟨b4,c4⟩:=known24_c (n:=n) p hap (by omega) f.dst
 have c5:=λst S=>r01_class (n:=n) (s:=f.cls) (by omega) (by omega) st S
 obtain⟨cs,b6,hcs,hone,c6⟩:=Rule24_c (n:=n) (t.fares.map Far.enc) (t.rous.map Rou.enc) (t.taxes.map Tx.enc) t.fx t.ox t.tx t.rules t.rx (Js _) (Jz _) (Jq _) hru (by omega) f.rul
 obtain⟨d7,b7,c7⟩:=Routing24_c (n:=n) (t.fares.map Far.enc) (t.rules.map Rul.enc) (t.taxes.map Tx.enc) t.fx t.rx t.tx t.rous t.ox (Js _) (Ruls_pure _) (Jq _) hro (by omega) f.rou
 obtain⟨r0,r1,r2,r3,r4,r5,r6,r7,r8,r9,r10,r11,r12,r13,r14,rfl⟩:=len15 hcs
 clear hcs
 simp only[List.all_cons,List.all_nil,Ua,Kv,D.one]at hone
 obtain⟨n0,n1,n2,n3,n4,n5,n6,n7,n8,n9,n10,n11,n12,n13,n14⟩:=hone
 simp only[Plc.enc,Trf.enc,Far.enc] at*
 obtain⟨car,frm,dst,bas,cls,rnd,amt,rul,rou⟩:=f
 dsimp only at*
 generalize carS car=b1 at*
 generalize clsB cls=b5 at*
 generalize p.aps.map Apt.enc=ae at*
 generalize p.dts.map Dst.enc=de at*
 generalize t.fares.map Far.enc=fe at*
 generalize t.rules.map Rul.enc=re at*
 generalize t.rous.map Rou.enc=oe at*
 generalize t.taxes.map Tx.enc=te at*
 clear hap hru hro z1 z2 z3
 generalize hA:(0<=amt/\amt<=1099511627776)=A
 refine Ye Tryz.func44 rfl (by decide) rfl 93 rfl (λa hal ha=>?_)
 obtain⟨h0,h1,h2⟩:=aQ3 ha
 clear ha
 obtain⟨S0,hS0⟩:∃S0,S0=[Ob.row 2 [[.sl 5 ae p.apsx,.sl 3 de p.dtsx]],Ob.row 4 [[.sl 9 fe t.fx,.sl 15 re t.rx,.sl 3 oe t.ox,.sl 7 te t.tx]],Ob.row 9 [[.str car,.str frm,.str dst,.str bas,.str cls,.bool rnd,.int .i64 amt,.int .i64 rul,.int .i64 rou]]]:=⟨_,rfl⟩
 have ga:S0[0]?=some (.row 2 [[.sl 5 ae p.apsx,.sl 3 de p.dtsx]]):=by rw[hS0];rfl
 have gb:S0[1]?=some (.row 4 [[.sl 9 fe t.fx,.sl 15 re t.rx,.sl 3 oe t.ox,.sl 7 te t.tx]]):=by rw[hS0];rfl
 have gc:S0[2]?=some (.row 9 [[.str car,.str frm,.str dst,.str bas,.str cls,.bool rnd,.int .i64 amt,.int .i64 rul,.int .i64 rou]]):=by rw[hS0];rfl
 refine Ya (λa V=>V=S0/\gQ a 93 (a[5]?=some (.loc 2 0 0)) [(3,.loc 0 0 0),(4,.loc 1 0 0)]) ?_ ?_
 ·simp only[push_cast,hal,h0,h1,h2,↓WX,simprocAttr]
  exact hS0.symm
 rintro a V ⟨rfl,hal,h3,h4,h5⟩
 refine Ya (λa W=>W=V/\gQ a 93 (a[7]?=some (.nils)) [(3,.loc 0 0 0),(4,.loc 1 0 0),(5,.loc 2 0 0)]) ?_ ?_
 ·simp only[push_cast,hal,h3,h4,h5,↓WX,simprocAttr]
 rintro a W ⟨rfl,hal,h3,h4,h5,h7⟩
 refine Ya (λa V'=>(KeepI W V'/\ES V' a[7]? 1)/\gQ a 93 (a[5]?=some (.loc 2 0 0)) [(3,.loc 0 0 0),(4,.loc 1 0 0)]) ?_ ?_
 ·obtain⟨d1,T1,es1,p1,g1,l1,k1⟩:=app_e (T:=W) (d:=.nils) (es:=[]) GL.nil (by simp) 5
  cases b1
  ·simp only[push_cast,hal,h3,h4,h5,h7,gc,c1,p1,dUn,ES,↓WX,simprocAttr,WY]
   exact⟨k1,_,_,rfl,g1,by simpa using l1⟩
  cases b2
  ·simp only[push_cast,hal,h3,h4,h5,h7,gc,c1,c2,p1,dUn,ES,↓WX,simprocAttr,WY]
   exact⟨k1,_,_,rfl,g1,by simpa using l1⟩
  simp only[push_cast,hal,h3,h4,h5,h7,gc,c1,c2,dUn,ES,↓WX,simprocAttr,WY]
  exact⟨KeepI.refl,_,[],rfl,GL.nil,by simp⟩
 rintro a V1 ⟨⟨k1,d1,es1,h7,g1,l1⟩,hal,h3,h4,h5⟩
 have va:=k1 _ _ _ (by decide) ga
 have vb:=k1 _ _ _ (by decide) gb
 have vc:=k1 _ _ _ (by decide) gc
 refine Ya (λa V'=>(KeepI V1 V'/\ES V' a[7]? 2)/\gQ a 93 (a[5]?=some (.loc 2 0 0)) [(3,.loc 0 0 0),(4,.loc 1 0 0)]) ?_ ?_
 ·obtain⟨d2,T2,es2,p2,g2,l2,k2⟩:=app_e g1 (by omega) 14
  cases b3
  ·simp only[push_cast,hal,h3,h4,h5,h7,va,vc,c3,p2,dUn,ES,↓WX,simprocAttr,WY]
   exact⟨k2,_,_,rfl,g2,by omega⟩
  cases b4
  ·simp only[push_cast,hal,h3,h4,h5,h7,va,vc,c3,c4,p2,dUn,ES,↓WX,simprocAttr,WY]
   exact⟨k2,_,_,rfl,g2,by omega⟩
  simp only[push_cast,hal,h3,h4,h5,h7,va,vc,c3,c4,dUn,ES,↓WX,simprocAttr,WY]
  exact⟨KeepI.refl,_,_,rfl,g1,by omega⟩
 clear va vb vc
 rintro a V2 ⟨⟨k2,d2,es2,h7,g2,l2⟩,hal,h3,h4,h5⟩
 have kk:=k1.trans k2
 have va:=kk _ _ _ (by decide) ga
 have vb:=kk _ _ _ (by decide) gb
 have vc:=kk _ _ _ (by decide) gc
 refine Ya (λa V'=>(KeepI V2 V'/\ESP A V' a[7]? 3)/\gQ a 93 (a[5]?=some (.loc 2 0 0)) [(3,.loc 0 0 0),(4,.loc 1 0 0)]) ?_ ?_
 ·obtain⟨d3,T3,es3,p3,g3,l3,k3,n3⟩:=app_eP g2 (by omega) 2
  by_cases q1:frm=dst
  ·simp only[push_cast,hal,h3,h4,h5,h7,vc,q1,Yo,p3,ESP,↓WX,simprocAttr]
   exact⟨k3,_,_,rfl,g3,by omega,λe=>absurd e n3⟩
  by_cases q2:amt<0
  ·simp only[push_cast,hal,h3,h4,h5,h7,vc,q1,q2,Yo,p3,ESP,↓WX,simprocAttr]
   exact⟨k3,_,_,rfl,g3,by omega,λe=>absurd e n3⟩
  by_cases q3:1099511627776<amt
  ·simp only[push_cast,Vn,hal,h3,h4,h5,h7,vc,q1,q2,q3,Yo,p3,ESP,↓WX,simprocAttr]
   exact⟨k3,_,_,rfl,g3,by omega,λe=>absurd e n3⟩
  simp only[push_cast,Vn,hal,h3,h4,h5,h7,vc,q1,q2,q3,Yo,ESP,↓WX,simprocAttr]
  exact⟨KeepI.refl,_,_,rfl,g2,by omega,λ_=>hA ▸ ⟨by omega,by omega⟩⟩
 clear va vb vc
 rintro a V3 ⟨⟨k3,d3,es3,h7,g3,l3,y3⟩,hal,h3,h4,h5⟩
 replace kk:=kk.trans k3
 have va:=kk _ _ _ (by decide) ga
 have vb:=kk _ _ _ (by decide) gb
 have vc:=kk _ _ _ (by decide) gc
 refine Ya (λa V'=>(KeepI V3 V'/\ESP A V' a[7]? 4)/\gQ a 93 (a[5]?=some (.loc 2 0 0)) [(3,.loc 0 0 0),(4,.loc 1 0 0)]) ?_ ?_
 ·obtain⟨d4,T4,es4,p4,g4,l4,k4,n4⟩:=app_eP g3 (by omega) 16
  cases b5
  ·simp only[push_cast,hal,h3,h4,h5,h7,vc,c5,p4,dUn,ESP,↓WX,simprocAttr,WY]
   exact⟨k4,_,_,rfl,g4,by omega,λe=>absurd e n4⟩
  simp only[push_cast,hal,h3,h4,h5,h7,vc,c5,dUn,ESP,↓WX,simprocAttr,WY]
  exact⟨KeepI.refl,_,_,rfl,g3,by omega,y3⟩
 clear va vb vc
 rintro a V4 ⟨⟨k4,d4,es4,h7,g4,l4,y4⟩,hal,h3,h4,h5⟩
 replace kk:=kk.trans k4
 have va:=kk _ _ _ (by decide) ga
 have vb:=kk _ _ _ (by decide) gb
 have vc:=kk _ _ _ (by decide) gc
 refine Ya (λa V'=>V'=V4++[Ob.row 15 [[r0,r1,r2,r3,r4,r5,r6,r7,r8,r9,r10,r11,r12,r13,r14]]]/\gQ a 93 (a[9]?=some (.bool b6)) [(3,.loc 0 0 0),(4,.loc 1 0 0),(5,.loc 2 0 0),(7,d4)]) ?_ ?_
 ·simp only[push_cast,hal,h3,h4,h5,h7,vb,vc,c6,n0,n1,n2,n3,n4,n5,n6,n7,n8,n9,n10,n11,n12,n13,n14,Yq,Yl,↓WX,simprocAttr]
 rintro a V5 ⟨hV5,hal,h3,h4,h5,h7,h9⟩
 have k5:KeepI V4 V5:=by rw[hV5];exact KeepI.push
 have g5:GL 1 encI V5 d4 es4:=by rw[hV5];exact g4.push _
 clear hV5
 refine Ya (λa V'=>(KeepI V5 V'/\ESP A V' a[7]? 5)/\gQ a 93 (a[5]?=some (.loc 2 0 0)) [(3,.loc 0 0 0),(4,.loc 1 0 0)]) ?_ ?_
 ·obtain⟨d6,T6,es6,p6,g6,l6,k6,n6⟩:=app_eP g5 (by omega) 20
  cases b6
  ·simp only[push_cast,hal,h3,h4,h5,h7,h9,p6,dUn,ESP,↓WX,simprocAttr,WY]
   exact⟨k6,_,_,rfl,g6,by omega,λe=>absurd e n6⟩
  simp only[push_cast,hal,h3,h4,h5,h7,h9,dUn,ESP,↓WX,simprocAttr,WY]
  exact⟨KeepI.refl,_,_,rfl,g5,by omega,y4⟩
 clear va vb vc
 rintro a V6 ⟨⟨k6,d6,es6,h7,g6,l6,y6⟩,hal,h3,h4,h5⟩
 replace kk:=(kk.trans k5).trans k6
 have vb:=kk _ _ _ (by decide) gb
 have vc:=kk _ _ _ (by decide) gc
 refine Ya (λa V'=>V'=V6/\gQ a 93 (a[9]?=some (.bool b7)) [(3,.loc 0 0 0),(4,.loc 1 0 0),(5,.loc 2 0 0),(7,d6)]) ?_ ?_
 ·simp only[push_cast,hal,h3,h4,h5,h7,vb,vc,c7,↓WX,simprocAttr]
 rintro a V' ⟨rfl,hal,h3,h4,h5,h7,h9⟩
 refine Ya (λa V7=>ESP A V7 a[7]? 6/\a.length=93) ?_ ?_
 ·obtain⟨d8,T8,es8,p8,g8,l8,k8,n8⟩:=app_eP g6 (by omega) 21
  by_cases q:rou=0
  ·simp only[push_cast,Vp,hal,h5,h7,vc,q,ESP,↓WX,simprocAttr]
   exact⟨_,_,rfl,g6,by omega,y6⟩
  cases b7
  ·simp only[push_cast,Vo,hal,h5,h7,h9,vc,q,p8,dUn,ESP,↓WX,simprocAttr,WY]
   exact⟨_,_,rfl,g8,by omega,λe=>absurd e n8⟩
  simp only[push_cast,Vo,hal,h5,h7,h9,vc,q,dUn,ESP,↓WX,simprocAttr,WY]
  exact⟨_,_,rfl,g6,by omega,y6⟩
 rintro a V7 ⟨⟨d7,es7,h7,g7,l7,y7⟩,hal⟩
 simp only[push_cast,hal,h7,Tryz.f44,↓WX,simprocAttr]
 exact⟨_,g7,l7,y7⟩
theorem fare24_c {p:Plc} {t:Trf} {f:Far} (hap:p.aps.length<=1048576) (hru:t.rules.length<=1048576) (hro:t.rous.length<=1048576) (z1:f.car.size<=1048576) (z2:f.bas.size<=1048576) (z3:f.cls.size<=1048576) (hn:1048701<=n):∃d,ERP (0<=f.amt/\f.amt<=1099511627776) d 6/\∀st S,Yi E (Yb E n) st S 44 [.agg p.enc,.agg t.enc,.agg f.enc]=some (d,S):=by
 obtain⟨m,rfl⟩:∃m,n=m+1:=⟨n-1,by omega⟩
 obtain⟨d,T,ho,es,hg,h1⟩:=fare24_d (n:=m) (p:=p) (t:=t) (f:=f) hap hru hro z1 z2 z3 (by omega)
 obtain⟨d',f',hf⟩:=hg.fls (encI_pure es)
 exact⟨d',⟨es,hf,h1⟩,λst S=>Yd rfl (by simp only[Yc,Yg,D.pure,Yt,Ja,Far_pure,Bool.and_self]) ho f'⟩
end
end Go.Proofs.YtaklebjoenophaaGreat.Dm
