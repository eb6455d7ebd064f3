/-
  Which prices are equal, where the first one lies in the store; whether parts cover a journey.
-/
import Derived.Test.YtaklebjoenophaaGreatCfG
import Derived.Test.YtaklebjoenophaaGreatPrX
set_option maxHeartbeats 64000000
set_option maxRecDepth 100000
set_option linter.unusedSimpArgs false
set_option linter.unusedVariables false
namespace Go.Proofs.YtaklebjoenophaaGreat.Dm
open Go Gw
section
variable {n : Nat}
theorem EqP_q {S:List Ob} {d:D} {u:List Prt} (h:LQ 4 Prt.enc S d u) {e0:D} {v:List Prt} (g:FLs 4 Prt.enc e0 v) (hl:u.length<=1048576) (hn:1048580<=n):∀st,Yi E (Yb E n) st S 38 [d,e0]=some (.bool (allE eqP u v),S):=by
 obtain⟨m,rfl⟩:∃m,n=m+1:=⟨n-1,by omega⟩
 refine obs_q (A:=λd=>[d,e0]) rfl (Jr u) rfl (λd hd=>by simp only[Yc,Yg,Xr g (Jr v),hd,Ua]) (λk n=>by simp only[Yc,Yg,D.pure,WY]) (λS h=>?_) h
 obtain⟨z,hz⟩:∃z,z=allE eqP u v:=⟨_,rfl⟩
 rw[<-hz]
 have hy:=lq_len Tryz.underlying37 h
 have hyv:=lq_len Tryz.underlying37 (g.lq (S:=S))
 simp only[push_cast]at hy hyv
 refine Ye Tryz.func38 rfl (by decide) rfl 26 rfl (λa hal ha=>?_)
 obtain⟨h0,h1⟩:=aQ2 ha
 clear ha
 by_cases c2:u.length=v.length
 case neg=>
  have d2:decide ((u.length:Int)=v.length)=false:=Ud (by omega)
  rw[allE_len c2]at hz
  subst hz
  simp only[push_cast,decide_not,hal,h0,h1,hy,hyv,d2,Tryz.f38,↓WX,simprocAttr,WY]
  exact⟨[],(Ur _).symm⟩
 have d2:decide ((u.length:Int)=v.length)=true:=Ue (by omega)
 simp only[push_cast,decide_not,hal,h0,h1,hy,hyv,d2,↓WX,simprocAttr,WY]
 refine Yk (λi a T=>(T=S/\z=allE eqP (u.drop i) (v.drop i))/\a.length=26/\a[0]?=some (d)/\a[1]?=some (e0)/\a[12]?=some (.int .i64 u.length)/\a[13]?=some (.int .i64 i)) u.length ?_ (by omega) ?_
 ·simp only[push_cast,hal,h0,h1,simprocAttr,WY]
  exact hz
 clear hz
 rintro i a T hi ⟨⟨rfl,e⟩,hal,h0,h1,h12,h13⟩
 rcases Kw hi with hlt |rfl
 case inr=>
  rw[allE_end c2]at e
  subst e
  simp only[push_cast,hal,h12,h13,Tryz.f38,↓WX,simprocAttr,WY]
  exact⟨[],(Ur _).symm⟩
 have hltc:(i:Int)<u.length:=by omega
 have hltv:i<v.length:=by omega
 obtain⟨x,hx⟩:∃x,u[i]?=some x:=⟨u[i],by simp⟩
 obtain⟨y,hy2⟩:∃y,v[i]?=some y:=⟨v[i],by simp⟩
 rw[allE_drop hx hy2]at e
 have hq:=eq_prt x y
 generalize eqP x y=q at hq e
 rcases g with ⟨-,rfl⟩ | ⟨vx,rfl⟩
 ·exact absurd hltv (Vw i)
 rcases h with ⟨-,rfl⟩ | ⟨lx,rfl,-⟩ | ⟨kk,rfl,hk⟩
 ·exact absurd hlt (Vw i)
 ·cases q
  ·rw[Bool.false_and]at e
   subst e
   simp only[push_cast,hal,h0,h1,h12,h13,hltc,hx,hy2,hq,plain_prt,Prt.enc,Tryz.f38,↓WX,simprocAttr,WY]
   exact⟨[],(Ur _).symm⟩
  ·rw[Bool.true_and]at e
   simp(disch:=omega)only[push_cast,hal,h0,h1,h12,h13,hltc,hlt,hx,hy2,hq,plain_prt,Prt.enc,Yf,↓WX,simprocAttr,WY]
   exact e
 ·have hk:=hk []
  rw[Ur]at hk
  cases q
  ·rw[Bool.false_and]at e
   subst e
   simp only[push_cast,hal,h0,h1,h12,h13,hk,hltc,hx,hy2,hq,plain_prt,Prt.enc,Tryz.f38,↓WX,simprocAttr,WY]
   exact⟨[],(Ur _).symm⟩
  ·rw[Bool.true_and]at e
   simp(disch:=omega)only[push_cast,hal,h0,h1,h12,h13,hk,hltc,hlt,hx,hy2,hq,plain_prt,Prt.enc,Yf,↓WX,simprocAttr,WY]
   exact e
theorem EqPr_q {S:List Ob} {d:D} {u:List (Int×Int)} (h:LQ 2 Xa S d u) {e0:D} {v:List (Int×Int)} (g:FLs 2 Xa e0 v) (hl:u.length<=1048576) (hn:1048580<=n):∀st,Yi E (Yb E n) st S 39 [d,e0]=some (.bool (allE eqPr u v),S):=by
 obtain⟨m,rfl⟩:∃m,n=m+1:=⟨n-1,by omega⟩
 refine obs_q (A:=λd=>[d,e0]) rfl (Ka u) rfl (λd hd=>by simp only[Yc,Yg,Xr g (Ka v),hd,Ua]) (λk n=>by simp only[Yc,Yg,D.pure,WY]) (λS h=>?_) h
 obtain⟨z,hz⟩:∃z,z=allE eqPr u v:=⟨_,rfl⟩
 rw[<-hz]
 have hy:=lq_len Tryz.underlying38 h
 have hyv:=lq_len Tryz.underlying38 (g.lq (S:=S))
 simp only[push_cast]at hy hyv
 refine Ye Tryz.func39 rfl (by decide) rfl 26 rfl (λa hal ha=>?_)
 obtain⟨h0,h1⟩:=aQ2 ha
 clear ha
 by_cases c2:u.length=v.length
 case neg=>
  have d2:decide ((u.length:Int)=v.length)=false:=Ud (by omega)
  rw[allE_len c2]at hz
  subst hz
  simp only[push_cast,decide_not,hal,h0,h1,hy,hyv,d2,Tryz.f39,↓WX,simprocAttr,WY]
  exact⟨[],(Ur _).symm⟩
 have d2:decide ((u.length:Int)=v.length)=true:=Ue (by omega)
 simp only[push_cast,decide_not,hal,h0,h1,hy,hyv,d2,↓WX,simprocAttr,WY]
 refine Yk (λi a T=>(T=S/\z=allE eqPr (u.drop i) (v.drop i))/\a.length=26/\a[0]?=some (d)/\a[1]?=some (e0)/\a[12]?=some (.int .i64 u.length)/\a[13]?=some (.int .i64 i)) u.length ?_ (by omega) ?_
 ·simp only[push_cast,hal,h0,h1,simprocAttr,WY]
  exact hz
 clear hz
 rintro i a T hi ⟨⟨rfl,e⟩,hal,h0,h1,h12,h13⟩
 rcases Kw hi with hlt |rfl
 case inr=>
  rw[allE_end c2]at e
  subst e
  simp only[push_cast,hal,h12,h13,Tryz.f39,↓WX,simprocAttr,WY]
  exact⟨[],(Ur _).symm⟩
 have hltc:(i:Int)<u.length:=by omega
 have hltv:i<v.length:=by omega
 obtain⟨x,hx⟩:∃x,u[i]?=some x:=⟨u[i],by simp⟩
 obtain⟨y,hy2⟩:∃y,v[i]?=some y:=⟨v[i],by simp⟩
 rw[allE_drop hx hy2]at e
 have hq:=eq_two x y
 generalize eqPr x y=q at hq e
 rcases g with ⟨-,rfl⟩ | ⟨vx,rfl⟩
 ·exact absurd hltv (Vw i)
 rcases h with ⟨-,rfl⟩ | ⟨lx,rfl,-⟩ | ⟨kk,rfl,hk⟩
 ·exact absurd hlt (Vw i)
 ·cases q
  ·rw[Bool.false_and]at e
   subst e
   simp only[push_cast,hal,h0,h1,h12,h13,hltc,hx,hy2,hq,plain_two,Xa,Tryz.f39,↓WX,simprocAttr,WY]
   exact⟨[],(Ur _).symm⟩
  ·rw[Bool.true_and]at e
   simp(disch:=omega)only[push_cast,hal,h0,h1,h12,h13,hltc,hlt,hx,hy2,hq,plain_two,Xa,Yf,↓WX,simprocAttr,WY]
   exact e
 ·have hk:=hk []
  rw[Ur]at hk
  cases q
  ·rw[Bool.false_and]at e
   subst e
   simp only[push_cast,hal,h0,h1,h12,h13,hk,hltc,hx,hy2,hq,plain_two,Xa,Tryz.f39,↓WX,simprocAttr,WY]
   exact⟨[],(Ur _).symm⟩
  ·rw[Bool.true_and]at e
   simp(disch:=omega)only[push_cast,hal,h0,h1,h12,h13,hk,hltc,hlt,hx,hy2,hq,plain_two,Xa,Yf,↓WX,simprocAttr,WY]
   exact e
theorem EqCh_q {S:List Ob} {d:D} {u:List (ByteArray×Int)} (h:LQ 2 Jf S d u) {e0:D} {v:List (ByteArray×Int)} (g:FLs 2 Jf e0 v) (hl:u.length<=1048576) (hn:1048580<=n):∀st,Yi E (Yb E n) st S 40 [d,e0]=some (.bool (allE eqCh u v),S):=by
 obtain⟨m,rfl⟩:∃m,n=m+1:=⟨n-1,by omega⟩
 refine obs_q (A:=λd=>[d,e0]) rfl (Ko u) rfl (λd hd=>by simp only[Yc,Yg,Xr g (Ko v),hd,Ua]) (λk n=>by simp only[Yc,Yg,D.pure,WY]) (λS h=>?_) h
 obtain⟨z,hz⟩:∃z,z=allE eqCh u v:=⟨_,rfl⟩
 rw[<-hz]
 have hy:=lq_len Tryz.underlying39 h
 have hyv:=lq_len Tryz.underlying39 (g.lq (S:=S))
 simp only[push_cast]at hy hyv
 refine Ye Tryz.func40 rfl (by decide) rfl 26 rfl (λa hal ha=>?_)
 obtain⟨h0,h1⟩:=aQ2 ha
 clear ha
 by_cases c2:u.length=v.length
 case neg=>
  have d2:decide ((u.length:Int)=v.length)=false:=Ud (by omega)
  rw[allE_len c2]at hz
  subst hz
  simp only[push_cast,decide_not,hal,h0,h1,hy,hyv,d2,Tryz.f40,↓WX,simprocAttr,WY]
  exact⟨[],(Ur _).symm⟩
 have d2:decide ((u.length:Int)=v.length)=true:=Ue (by omega)
 simp only[push_cast,decide_not,hal,h0,h1,hy,hyv,d2,↓WX,simprocAttr,WY]
 refine Yk (λi a T=>(T=S/\z=allE eqCh (u.drop i) (v.drop i))/\a.length=26/\a[0]?=some (d)/\a[1]?=some (e0)/\a[12]?=some (.int .i64 u.length)/\a[13]?=some (.int .i64 i)) u.length ?_ (by omega) ?_
 ·simp only[push_cast,hal,h0,h1,simprocAttr,WY]
  exact hz
 clear hz
 rintro i a T hi ⟨⟨rfl,e⟩,hal,h0,h1,h12,h13⟩
 rcases Kw hi with hlt |rfl
 case inr=>
  rw[allE_end c2]at e
  subst e
  simp only[push_cast,hal,h12,h13,Tryz.f40,↓WX,simprocAttr,WY]
  exact⟨[],(Ur _).symm⟩
 have hltc:(i:Int)<u.length:=by omega
 have hltv:i<v.length:=by omega
 obtain⟨x,hx⟩:∃x,u[i]?=some x:=⟨u[i],by simp⟩
 obtain⟨y,hy2⟩:∃y,v[i]?=some y:=⟨v[i],by simp⟩
 rw[allE_drop hx hy2]at e
 have hq:=eq_chg x y
 generalize eqCh x y=q at hq e
 rcases g with ⟨-,rfl⟩ | ⟨vx,rfl⟩
 ·exact absurd hltv (Vw i)
 rcases h with ⟨-,rfl⟩ | ⟨lx,rfl,-⟩ | ⟨kk,rfl,hk⟩
 ·exact absurd hlt (Vw i)
 ·cases q
  ·rw[Bool.false_and]at e
   subst e
   simp only[push_cast,hal,h0,h1,h12,h13,hltc,hx,hy2,hq,plain_chg,Jf,Tryz.f40,↓WX,simprocAttr,WY]
   exact⟨[],(Ur _).symm⟩
  ·rw[Bool.true_and]at e
   simp(disch:=omega)only[push_cast,hal,h0,h1,h12,h13,hltc,hlt,hx,hy2,hq,plain_chg,Jf,Yf,↓WX,simprocAttr,WY]
   exact e
 ·have hk:=hk []
  rw[Ur]at hk
  cases q
  ·rw[Bool.false_and]at e
   subst e
   simp only[push_cast,hal,h0,h1,h12,h13,hk,hltc,hx,hy2,hq,plain_chg,Jf,Tryz.f40,↓WX,simprocAttr,WY]
   exact⟨[],(Ur _).symm⟩
  ·rw[Bool.true_and]at e
   simp(disch:=omega)only[push_cast,hal,h0,h1,h12,h13,hk,hltc,hlt,hx,hy2,hq,plain_chg,Jf,Yf,↓WX,simprocAttr,WY]
   exact e
theorem PSame_q {S:List Ob} {k:Nat} {d2 d3:D} {u:Quo} (hk:S[k]?=some (.row 4 (u.parts.map Prt.enc))) (h2:LQ 2 Xa S d2 u.pairs) (h3:FLs 2 Jf d3 u.taxes) (v:Quo) {e1 e2 e3:D} (g1:FLs 4 Prt.enc e1 v.parts) (g2:FLs 2 Xa e2 v.pairs) (g3:FLs 2 Jf e3 v.taxes) (hl:u.parts.length<=1048576) (hp:u.pairs.length<=1048576) (ht:u.taxes.length<=1048576) (hn:1048590<=n):
  ∀st,Yi E (Yb E n) st S 17 [.agg [.os k 0 u.parts.length false,d2,d3,.int .i64 u.fare,.int .i64 u.total],.agg [e1,e2,e3,.int .i64 v.fare,.int .i64 v.total]]=some (.bool (sameF u v),S):=by
 obtain⟨m,rfl⟩:∃m,n=m+1:=⟨n-1,by omega⟩
 obtain⟨dk,hdk⟩:∃dk,dk=D.os k 0 u.parts.length false:=⟨_,rfl⟩
 have o2:=h2.one
 have o3:=Yv h3
 have p1:=Yv g1
 have p2:=Yv g2
 have p3:=Yv g3
 simp only[D.one]at o2 o3 p1 p2 p3
 obtain⟨ra,hra⟩:∃r:List D,r=[dk,d2,d3,.int .i64 u.fare,.int .i64 u.total]:=⟨_,rfl⟩
 obtain⟨rb,hrb⟩:∃r:List D,r=[e1,e2,e3,.int .i64 v.fare,.int .i64 v.total]:=⟨_,rfl⟩
 have h1:∀J,LQ 4 Prt.enc (S++J) dk u.parts:=λJ=>.inr (.inr ⟨k,hdk,λ_=>Ym (Ym hk)⟩)
 have ok1:dk.one=true:=by rw[hdk];rfl
 simp only[D.one]at ok1
 have q1:=λJ=>EqP_q (n:=m) (h1 J) g1 hl (by omega)
 have q2:=λJ=>EqPr_q (n:=m) (h2.ext (Jx (J:=J))) g2 hp (by omega)
 have q3:=λT=>EqCh_q (n:=m) (S:=T) h3.lq g3 ht (by omega)
 obtain⟨z,hz⟩:∃z,z=sameF u v:=⟨_,rfl⟩
 rw[<-hz,<-hdk]
 unfold sameF at hz
 have key:∀S',S'=S->WO (Yb E (m+1) 17 [.agg [dk,d2,d3,.int .i64 u.fare,.int .i64 u.total],.agg [e1,e2,e3,.int .i64 v.fare,.int .i64 v.total]] S') λr T=>r=.bool z/\∃J,T=S'++J:=λS' hS'=>by
  subst hS'
  refine Ye Tryz.func17 rfl (by decide) rfl 38 rfl (λa hal ha=>?_)
  obtain⟨h0,h1⟩:=aQ2 ha
  clear ha
  refine Ya (λa V=>V=S'++[.row 5 [ra]]++[.row 5 [rb]]/\gQ a 38 (a[3]?=some (.loc (S'.length+1) 0 0)) [(2,.loc S'.length 0 0)]) ?_ ?_
  ·simp only[push_cast,hal,h0,h1,hra,hrb,o2,o3,ok1,p1,p2,p3,Ku,Uu,↓WX,simprocAttr]
  rintro a V ⟨hV,hal,h2,h3⟩
  have hSV:∃J,V=S'++J:=⟨[.row 5 [ra],.row 5 [rb]],by rw[hV];simp⟩
  have ga:V[S'.length]?=some (.row 5 [ra]):=by rw[hV];exact end0
  have gb:V[S'.length+1]?=some (.row 5 [rb]):=by rw[hV];exact end1
  rw[hra]at ga
  rw[hrb]at gb
  clear hV
  obtain⟨J,rfl⟩:=hSV
  have q1:=q1 J
  have q2:=q2 J
  have q3:=q3 (S'++J)
  generalize hT:S'++J=T at*
  have fin:∃J,T=S'++J:=⟨J,hT.symm⟩
  clear hT
  generalize allE eqP u.parts v.parts=b1 at*
  generalize allE eqPr u.pairs v.pairs=b2 at*
  generalize allE eqCh u.taxes v.taxes=b3 at*
  generalize hb4:decide (u.fare=v.fare)=b4 at*
  generalize hb5:decide (u.total=v.total)=b5 at*
  subst hz
  cases b1
  ·simp only[push_cast,hal,h2,h3,ga,gb,q1,Tryz.f17,↓WX,simprocAttr,WY]
   exact fin
  cases b2
  ·simp only[push_cast,hal,h2,h3,ga,gb,q1,q2,Tryz.f17,↓WX,simprocAttr,WY]
   exact fin
  cases b3
  ·simp only[push_cast,hal,h2,h3,ga,gb,q1,q2,q3,Tryz.f17,↓WX,simprocAttr,WY]
   exact fin
  cases b4
  ·simp only[push_cast,hal,h2,h3,ga,gb,q1,q2,q3,hb4,Tryz.f17,↓WX,simprocAttr,WY]
   exact fin
  simp only[push_cast,hal,h2,h3,ga,gb,q1,q2,q3,hb4,hb5,Tryz.f17,↓WX,simprocAttr,WY]
  exact fin
 intro st
 obtain⟨_,_,ho,rfl,J,rfl⟩:=key S rfl
 exact callD_obsJ rfl (by rw[hdk];simp only[Yc,Yg,D.pure,WY]) ho rfl
theorem Pjcov_x (p:Plc) (t:Trf) (w:List Wnt) (wx:Bool) (s:ByteArray) (sale:Int) (l:List Prt) (lx:Bool) (hl:l.length<=1048576) (hw:w.length<=1048576) (hn:1048580<=n):∀st S,Yi E (Yb E n) st S 27 [.agg [.sl 5 (p.aps.map Apt.enc) p.apsx,.sl 3 (p.dts.map Dst.enc) p.dtsx,.sl 9 (t.fares.map Far.enc) t.fx,.sl 15 (t.rules.map Rul.enc) t.rx,.sl 3 (t.rous.map Rou.enc) t.ox,.sl 7 (t.taxes.map Tx.enc) t.tx,.sl 8 (w.map Wnt.enc) wx,.str s,.int .i64 sale],.sl 4 (l.map Prt.enc) lx]=some (.bool (cvF l 0 w.length),S):=by
 obtain⟨m,rfl⟩:∃m,n=m+1:=⟨n-1,by omega⟩
 have hp:Yp [.agg [.sl 5 (p.aps.map Apt.enc) p.apsx,.sl 3 (p.dts.map Dst.enc) p.dtsx,.sl 9 (t.fares.map Far.enc) t.fx,.sl 15 (t.rules.map Rul.enc) t.rx,.sl 3 (t.rous.map Rou.enc) t.ox,.sl 7 (t.taxes.map Tx.enc) t.tx,.sl 8 (w.map Wnt.enc) wx,.str s,.int .i64 sale],.sl 4 (l.map Prt.enc) lx]=true:=by
  have h1:=Yt p
  have h2:=Ja t
  simp only[Plc.enc,Trf.enc,Yc,Yg,D.pure,Ua,Kv]at h1 h2
  simp only[Yc,Yg,D.pure,h1,h2,Jd,Jr,Ua]
 obtain⟨r0,hr0⟩:∃r0:List D,r0=[.sl 5 (p.aps.map Apt.enc) p.apsx,.sl 3 (p.dts.map Dst.enc) p.dtsx,.sl 9 (t.fares.map Far.enc) t.fx,.sl 15 (t.rules.map Rul.enc) t.rx,.sl 3 (t.rous.map Rou.enc) t.ox,.sl 7 (t.taxes.map Tx.enc) t.tx,.sl 8 (w.map Wnt.enc) wx,.str s,.int .i64 sale]:=⟨_,rfl⟩
 obtain⟨z,hz⟩:∃z,z=cvF l 0 w.length:=⟨_,rfl⟩
 rw[<-hz]
 have:WO (Yb E (m+1) 27 [.agg [.sl 5 (p.aps.map Apt.enc) p.apsx,.sl 3 (p.dts.map Dst.enc) p.dtsx,.sl 9 (t.fares.map Far.enc) t.fx,.sl 15 (t.rules.map Rul.enc) t.rx,.sl 3 (t.rous.map Rou.enc) t.ox,.sl 7 (t.taxes.map Tx.enc) t.tx,.sl 8 (w.map Wnt.enc) wx,.str s,.int .i64 sale],.sl 4 (l.map Prt.enc) lx] []) λr T=>r=.bool z:=by
  refine Ye Tryz.func27 rfl (by decide) rfl 40 rfl (λa hal ha=>?_)
  obtain⟨h0,h1⟩:=aQ2 ha
  clear ha
  refine Ya (λa V=>V=[Ob.row 9 [r0]]/\gQ a 40 (a[2]?=some (.loc 0 0 0)) [(1,.sl 4 (l.map Prt.enc) lx)]) ?_ ?_
  ·simp only[push_cast,hal,h0,h1,hr0,↓WX,simprocAttr]
  rintro a V ⟨hV,hal,h1,h2⟩
  have g0:∀J,(V++J)[0]?=some (Ob.row 9 [r0]):=λJ=>by rw[hV];rfl
  have gv:V[0]?=some (Ob.row 9 [r0]):=by rw[hV];rfl
  rw[hr0]at g0 gv
  clear hV
  refine Ya (λa W=>W=V/\gQ a 40 (a[5]?=some (.int .i64 0)) [(1,.sl 4 (l.map Prt.enc) lx),(2,.loc 0 0 0)]) ?_ ?_
  ·simp only[push_cast,hal,h1,h2,↓WX,simprocAttr]
  rintro a W ⟨rfl,hal,h1,h2,h5⟩
  refine Za (λa T=>(∃J,T=W++J)/\(∃k:Int,z=decide (k=(w.length:Int))/\a[5]?=some (.int .i64 k))/\a.length=40/\a[2]?=some (.loc 0 0 0)) ?_ ?_
  ·simp only[push_cast,hal,h1,↓WX,simprocAttr]
   refine Yk (λi a T=>((∃J,T=W++J)/\∃k:Int,z=cvF (l.drop i) k w.length/\a[5]?=some (.int .i64 k))/\a.length=40/\a[2]?=some (.loc 0 0 0)/\a[8]?=some (.sl 4 (l.map Prt.enc) lx)/\a[9]?=some (.int .i64 l.length)/\a[10]?=some (.int .i64 i)) l.length ?_ (by omega) ?_
   ·simp only[push_cast,hal,h2,h5,simprocAttr,WY]
    exact⟨⟨[],(Ur _).symm⟩,0,hz,rfl⟩
   clear hz
   rintro i a T hi ⟨⟨⟨J,rfl⟩,k,hz,h5⟩,hal,h2,h8,h9,h10⟩
   rcases Kw hi with hlt |rfl
   case inr=>
    rw[Vj]at hz
    simp only[push_cast,hal,h2,h5,h9,h10,↓WX,simprocAttr,WY]
    exact⟨⟨J,rfl⟩,k,hz,rfl⟩
   have hltc:(i:Int)<l.length:=by omega
   obtain⟨x,hx⟩:∃x,l[i]?=some x:=⟨l[i],by simp⟩
   refine Ya (λa V=>V=W++J/\gQ a 40 (a[11]?=some (.bool true)) [(2,.loc 0 0 0),(5,.int .i64 k),(8,.sl 4 (l.map Prt.enc) lx),(9,.int .i64 l.length),(10,.int .i64 i)]) ?_ ?_
   ·simp only[push_cast,hal,h2,h5,h8,h9,h10,hltc,↓WX,simprocAttr]
   rintro a V ⟨rfl,hal,h2,h5,h8,h9,h10,h11⟩
   refine Ya (λa V=>V=W++J/\gQ a 40 (a[10]?=some (.int .i64 i)) [(2,.loc 0 0 0),(5,.int .i64 k),(8,.sl 4 (l.map Prt.enc) lx),(9,.int .i64 l.length)]) ?_ ?_
   ·simp only[push_cast,hal,h2,h5,h8,h9,h10,h11,↓WX]
   rintro a V ⟨rfl,hal,h2,h5,h8,h9,h10⟩
   rw[Zx,Yx]
   refine Ya (λa V=>V=W++J++[Ob.row 4 [x.enc]]/\gQ a 40 (a[10]?=some (.int .i64 i)) [(2,.loc 0 0 0),(5,.int .i64 k),(7,.loc (W++J).length 0 0),(8,.sl 4 (l.map Prt.enc) lx),(9,.int .i64 l.length)]) ?_ ?_
   ·simp only[push_cast,hal,h2,h5,h8,h9,h10,hx,Yq,Yl,Prt.enc,↓WX,simprocAttr]
   rintro a V ⟨hV,hal,h2,h5,h7,h8,h9,h10⟩
   have gx:V[(W++J).length]?=some (Ob.row 4 [x.enc]):=by rw[hV];exact Yl
   rw[Vg]at hV
   have g9:=g0 (J++[Ob.row 4 [x.enc]])
   rw[<-hV]at g9
   have hj:∃J,V=W++J:=⟨_,hV⟩
   clear hV
   generalize (W++J).length=kz at*
   simp only[Prt.enc]at gx
   rw[cvF_drop hx]at hz
   by_cases c1:x.fr=k
   case neg=>
    have d1:decide (x.fr=k)=false:=Ud c1
    rw[if_neg (λh=>c1 h.1)]at hz
    subst hz
    simp only[push_cast,decide_not,hal,h2,h5,h7,gx,d1,Tryz.f27,↓WX,simprocAttr,WY]
   have d1:decide (x.fr=k)=true:=Ue c1
   by_cases c2:x.to<=k
   ·rw[if_neg (λh=>by omega)]at hz
    subst hz
    simp only[push_cast,decide_not,hal,h2,h5,h7,gx,d1,c2,Tryz.f27,↓WX,simprocAttr,WY]
   by_cases c3:(w.length:Int)<x.to
   ·rw[if_neg (λh=>by omega)]at hz
    subst hz
    simp only[push_cast,decide_not,Vn,hal,h2,h5,h7,gx,g9,d1,c2,c3,Tryz.f27,↓WX,simprocAttr,WY]
   rw[if_pos ⟨c1,by omega,by omega⟩]at hz
   simp(disch:=omega)only[push_cast,decide_not,Vn,hal,h2,h5,h7,h8,h9,h10,gx,g9,hlt,d1,c2,c3,Yf,↓WX,simprocAttr,WY]
   exact⟨hj,_,hz,rfl⟩
  rintro a T ⟨⟨J,rfl⟩,⟨k,rfl,h5⟩,hal,h2⟩
  have g9:=g0 J
  simp only[push_cast,hal,h2,h5,g9,Tryz.f27,↓WX,simprocAttr]
 obtain⟨_,T,ho,rfl⟩:=this
 exact λst S=>Yd rfl hp ho rfl
end
end Go.Proofs.YtaklebjoenophaaGreat.Dm
