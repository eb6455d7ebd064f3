/-
  Lists of conditions, numbers and texts in which something holds: the program's library, exactly. Days of a period: the program, exactly.
-/
import Derived.Test.YtaklebjoenophaaGreatPrL
set_option maxHeartbeats 64000000
set_option maxRecDepth 100000
set_option linter.unusedSimpArgs false
set_option linter.unusedVariables false
namespace Go.Proofs.YtaklebjoenophaaGreat.Dm
open Go Gw
section
variable {n : Nat}
theorem PIxC_d {F:Nat} {ys:List D} {p:Cnd->Bool} {l:List Cnd} {lx:Bool} {S:List Ob}  (hn:1048580<=n) (hl:l.length<=1048576)
  (hF:∀T,ExtS S T->∀q∈l,∃U,Yi E (Yb E (n+1)) false T F (.agg (Cnd.enc q)::ys)=some (.bool (p q),U)/\ExtS T U):
  WO (Yb E (n+2) 207 [.sl 8 (Cnd.encs l) lx,.func F [] ys] S) λr T=>∃k:Int,r=.int .i64 k/\decide (0<=k)=l.any p/\ExtS S T:=by
 have hel:=Cnd.encs_len l
 obtain⟨b,hb⟩:∃b,b=l.any p:=⟨_,rfl⟩
 rw[<-hb]
 refine Ye Tryz.func207 rfl (by decide) rfl 19 rfl (λa hal ha=>?_)
 obtain⟨h0,h1⟩:=aQ2 ha
 clear ha
 simp only[push_cast,hal,h0,hel,↓WX,simprocAttr]
 refine Yk (λi a T=>(ExtS S T/\b=(l.drop i).any p)/\a.length=19/\a[0]?=some (.sl 8 (Cnd.encs l) lx)/\a[1]?=some (.func F [] ys)/\a[7]?=some (.int .i64 l.length)/\a[8]?=some (.int .i64 i)) l.length ?_ (by omega) ?_
 ·simp only[push_cast,hal,h0,h1,simprocAttr,WY]
  exact⟨ExtS.refl,hb⟩
 clear hb
 rintro i a T hi ⟨⟨hx,e⟩,hal,h0,h1,h7,h8⟩
 rcases Kw hi with hlt |rfl
 case inr=>
  rw[Vj,List.any_nil]at e
  subst e
  simp only[push_cast,decide_eq_false_iff_not,hal,h7,h8,Tryz.f207,↓WX,simprocAttr,WY]
  exact⟨_,rfl,by simp,hx⟩
 have hltc:(i:Int)<l.length:=by omega
 obtain⟨q,hq⟩:∃q,l[i]?=some q:=⟨l[i],by simp⟩
 rw[Yu hq,List.any_cons]at e
 obtain⟨U,hU,hxU⟩:=hF T hx q (Kx hq)
 have hq':=Cnd.encs_get hq
 cases hp:p q
 ·rw[hp]at hU e
  rw[Bool.false_or]at e
  cases q with |mk k' l' lx' u' v' pf' pt' pd' t' tx'=>?_
  simp only[Cnd.enc]at hU hq'
  simp(disch:=omega)only[push_cast,hal,h0,h1,h7,h8,↓Kk,Jn,hltc,hlt,hq',hU,Yf,Vr,Uv,↓WX,simprocAttr,WY]
  exact⟨hx.trans hxU,e⟩
 ·rw[hp]at hU e
  rw[Bool.true_or]at e
  subst e
  cases q with |mk k' l' lx' u' v' pf' pt' pd' t' tx'=>?_
  simp only[Cnd.enc]at hU hq'
  simp only[push_cast,Up,hal,h0,h1,h7,h8,↓Kk,Jn,hltc,hq',hU,Vr,Uv,Tryz.f207,↓WX,simprocAttr]
  exact⟨_,rfl,by simp,hx.trans hxU⟩
theorem PCtC_d {F:Nat} {ys:List D} {p:Cnd->Bool} {l:List Cnd} {lx:Bool} {S:List Ob}  (hn:1048580<=n) (hl:l.length<=1048576) (hys:Yp ys=false)
  (hF:∀T,ExtS S T->∀q∈l,∃U,Yi E (Yb E (n+1)) false T F (.agg (Cnd.enc q)::ys)=some (.bool (p q),U)/\ExtS T U):
  ∃T,Yi E (Yb E (n+3)) false S 171 [.sl 8 (Cnd.encs l) lx,.func F [] ys]=some (.bool (l.any p),T)/\ExtS S T:=by
 obtain⟨r,T,hT,k,rfl,hk,hx⟩:=PIxC_d (n:=n) (F:=F) (ys:=ys) (p:=p) (lx:=lx) hn hl hF
 have cx:Yi E (Yb E (n+2)) false S 207 [.sl 8 (Cnd.encs l) lx,.func F [] ys]=some (.int .i64 k,T):=(Jk rfl (by simp[Yp,D.pure,hys])).trans hT
 rw[<-hk]
 have:WO (Yb E (n+3) 171 [.sl 8 (Cnd.encs l) lx,.func F [] ys] S) λd T=>d=.bool (decide (0<=k))/\ExtS S T:=by
  refine Ye Tryz.func171 rfl (by decide) rfl 9 rfl (λa hal ha=>?_)
  obtain⟨h0,h1⟩:=aQ2 ha
  clear ha
  simp only[push_cast,hal,h0,h1,cx,Vx,Tryz.f171,↓WX,simprocAttr]
  exact hx
 obtain⟨r,T',hT',rfl,h⟩:=this
 exact⟨T',(Jk rfl (by simp[Yp,D.pure,hys])).trans hT',h⟩
theorem PIxZ_d {F:Nat} {ys:List D} {p:Int->Bool} {d:D} {l:List Int} {S:List Ob} (h:FLs 1 encZ d l) (hn:1048580<=n) (hl:l.length<=1048576)
  (hF:∀T,ExtS S T->∀q∈l,∃U,Yi E (Yb E (n+1)) false T F (.int .i64 q::ys)=some (.bool (p q),U)/\ExtS T U):
  WO (Yb E (n+2) 212 [d,.func F [] ys] S) λr T=>∃k:Int,r=.int .i64 k/\decide (0<=k)=l.any p/\ExtS S T:=by
 have hy:=λS=>Jv (S:=S) Tryz.underlying70 h
 simp only[push_cast]at hy
 obtain⟨b,hb⟩:∃b,b=l.any p:=⟨_,rfl⟩
 rw[<-hb]
 refine Ye Tryz.func212 rfl (by decide) rfl 19 rfl (λa hal ha=>?_)
 obtain⟨h0,h1⟩:=aQ2 ha
 clear ha
 simp only[push_cast,hal,h0,hy,↓WX,simprocAttr]
 refine Yk (λi a T=>(ExtS S T/\b=(l.drop i).any p)/\a.length=19/\a[0]?=some (d)/\a[1]?=some (.func F [] ys)/\a[7]?=some (.int .i64 l.length)/\a[8]?=some (.int .i64 i)) l.length ?_ (by omega) ?_
 ·simp only[push_cast,hal,h0,h1,simprocAttr,WY]
  exact⟨ExtS.refl,hb⟩
 clear hb
 rintro i a T hi ⟨⟨hx,e⟩,hal,h0,h1,h7,h8⟩
 rcases Kw hi with hlt |rfl
 case inr=>
  rw[Vj,List.any_nil]at e
  subst e
  simp only[push_cast,decide_eq_false_iff_not,hal,h7,h8,Tryz.f212,↓WX,simprocAttr,WY]
  exact⟨_,rfl,by simp,hx⟩
 have hltc:(i:Int)<l.length:=by omega
 obtain⟨q,hq⟩:∃q,l[i]?=some q:=⟨l[i],by simp⟩
 rw[Yu hq,List.any_cons]at e
 obtain⟨U,hU,hxU⟩:=hF T hx q (Kx hq)
 rcases h with ⟨-,rfl⟩ | ⟨lx,rfl⟩
 ·cases hq
 cases hp:p q
 ·rw[hp]at hU e
  rw[Bool.false_or]at e
  simp(disch:=omega)only[push_cast,hal,h0,h1,h7,h8,↓Kk,Jn,hltc,hlt,hq,encZ,hU,Yf,Vr,Uv,↓WX,simprocAttr,WY]
  exact⟨hx.trans hxU,e⟩
 ·rw[hp]at hU e
  rw[Bool.true_or]at e
  subst e
  simp only[push_cast,Up,hal,h0,h1,h7,h8,↓Kk,Jn,hltc,hq,encZ,hU,Vr,Uv,Tryz.f212,↓WX,simprocAttr]
  exact⟨_,rfl,by simp,hx.trans hxU⟩
theorem PCtZ_d {F:Nat} {ys:List D} {p:Int->Bool} {d:D} {l:List Int} {S:List Ob} (h:FLs 1 encZ d l) (hn:1048580<=n) (hl:l.length<=1048576) (hys:Yp ys=false)
  (hF:∀T,ExtS S T->∀q∈l,∃U,Yi E (Yb E (n+1)) false T F (.int .i64 q::ys)=some (.bool (p q),U)/\ExtS T U):
  ∃T,Yi E (Yb E (n+3)) false S 174 [d,.func F [] ys]=some (.bool (l.any p),T)/\ExtS S T:=by
 obtain⟨r,T,hT,k,rfl,hk,hx⟩:=PIxZ_d (n:=n) (F:=F) (ys:=ys) (p:=p) h hn hl hF
 have cx:Yi E (Yb E (n+2)) false S 212 [d,.func F [] ys]=some (.int .i64 k,T):=(Jk rfl (by simp[Yp,D.pure,hys])).trans hT
 rw[<-hk]
 have:WO (Yb E (n+3) 174 [d,.func F [] ys] S) λd T=>d=.bool (decide (0<=k))/\ExtS S T:=by
  refine Ye Tryz.func174 rfl (by decide) rfl 9 rfl (λa hal ha=>?_)
  obtain⟨h0,h1⟩:=aQ2 ha
  clear ha
  simp only[push_cast,hal,h0,h1,cx,Vx,Tryz.f174,↓WX,simprocAttr]
  exact hx
 obtain⟨r,T',hT',rfl,h⟩:=this
 exact⟨T',(Jk rfl (by simp[Yp,D.pure,hys])).trans hT',h⟩
theorem PIxS_d {F:Nat} {ys:List D} {p:ByteArray->Bool} {d:D} {l:List ByteArray} {S:List Ob} (h:FLs 1 Cnd.encT d l) (hn:1048580<=n) (hl:l.length<=1048576)
  (hF:∀T,ExtS S T->∀q∈l,∃U,Yi E (Yb E (n+1)) false T F (.str q::ys)=some (.bool (p q),U)/\ExtS T U):
  WO (Yb E (n+2) 235 [d,.func F [] ys] S) λr T=>∃k:Int,r=.int .i64 k/\decide (0<=k)=l.any p/\ExtS S T:=by
 have hy:=λS=>Jv (S:=S) Tryz.underlying67 h
 simp only[push_cast]at hy
 obtain⟨b,hb⟩:∃b,b=l.any p:=⟨_,rfl⟩
 rw[<-hb]
 refine Ye Tryz.func235 rfl (by decide) rfl 19 rfl (λa hal ha=>?_)
 obtain⟨h0,h1⟩:=aQ2 ha
 clear ha
 simp only[push_cast,hal,h0,hy,↓WX,simprocAttr]
 refine Yk (λi a T=>(ExtS S T/\b=(l.drop i).any p)/\a.length=19/\a[0]?=some (d)/\a[1]?=some (.func F [] ys)/\a[7]?=some (.int .i64 l.length)/\a[8]?=some (.int .i64 i)) l.length ?_ (by omega) ?_
 ·simp only[push_cast,hal,h0,h1,simprocAttr,WY]
  exact⟨ExtS.refl,hb⟩
 clear hb
 rintro i a T hi ⟨⟨hx,e⟩,hal,h0,h1,h7,h8⟩
 rcases Kw hi with hlt |rfl
 case inr=>
  rw[Vj,List.any_nil]at e
  subst e
  simp only[push_cast,decide_eq_false_iff_not,hal,h7,h8,Tryz.f235,↓WX,simprocAttr,WY]
  exact⟨_,rfl,by simp,hx⟩
 have hltc:(i:Int)<l.length:=by omega
 obtain⟨q,hq⟩:∃q,l[i]?=some q:=⟨l[i],by simp⟩
 rw[Yu hq,List.any_cons]at e
 obtain⟨U,hU,hxU⟩:=hF T hx q (Kx hq)
 rcases h with ⟨-,rfl⟩ | ⟨lx,rfl⟩
 ·cases hq
 cases hp:p q
 ·rw[hp]at hU e
  rw[Bool.false_or]at e
  simp(disch:=omega)only[push_cast,hal,h0,h1,h7,h8,↓Kk,Jn,hltc,hlt,hq,Cnd.encT,hU,Yf,Vr,Uv,↓WX,simprocAttr,WY]
  exact⟨hx.trans hxU,e⟩
 ·rw[hp]at hU e
  rw[Bool.true_or]at e
  subst e
  simp only[push_cast,Up,hal,h0,h1,h7,h8,↓Kk,Jn,hltc,hq,Cnd.encT,hU,Vr,Uv,Tryz.f235,↓WX,simprocAttr]
  exact⟨_,rfl,by simp,hx.trans hxU⟩
theorem PCtS_d {F:Nat} {ys:List D} {p:ByteArray->Bool} {d:D} {l:List ByteArray} {S:List Ob} (h:FLs 1 Cnd.encT d l) (hn:1048580<=n) (hl:l.length<=1048576) (hys:Yp ys=false)
  (hF:∀T,ExtS S T->∀q∈l,∃U,Yi E (Yb E (n+1)) false T F (.str q::ys)=some (.bool (p q),U)/\ExtS T U):
  ∃T,Yi E (Yb E (n+3)) false S 210 [d,.func F [] ys]=some (.bool (l.any p),T)/\ExtS S T:=by
 obtain⟨r,T,hT,k,rfl,hk,hx⟩:=PIxS_d (n:=n) (F:=F) (ys:=ys) (p:=p) h hn hl hF
 have cx:Yi E (Yb E (n+2)) false S 235 [d,.func F [] ys]=some (.int .i64 k,T):=(Jk rfl (by simp[Yp,D.pure,hys])).trans hT
 rw[<-hk]
 have:WO (Yb E (n+3) 210 [d,.func F [] ys] S) λd T=>d=.bool (decide (0<=k))/\ExtS S T:=by
  refine Ye Tryz.func210 rfl (by decide) rfl 9 rfl (λa hal ha=>?_)
  obtain⟨h0,h1⟩:=aQ2 ha
  clear ha
  simp only[push_cast,hal,h0,h1,cx,Vx,Tryz.f210,↓WX,simprocAttr]
  exact hx
 obtain⟨r,T',hT',rfl,h⟩:=this
 exact⟨T',(Jk rfl (by simp[Yp,D.pure,hys])).trans hT',h⟩
theorem PIndexS_x {d:D} {l:List ByteArray} (h:FLs 1 Cnd.encT d l) (hl:l.length<=1048576) (v:ByteArray) (hn:1048590<=n):∃k:Int,decide (0<=k)=(l.any λx=>decide (x=v))/\∀st S,Yi E (Yb E n) st S 213 [d,.str v]=some (.int .i64 k,S):=by
 obtain⟨m,rfl⟩:∃m,n=m+1:=⟨n-1,by omega⟩
 have hp:=Xr h (Cnd.encT_pure l)
 have hy:=λS=>Jv (S:=S) Tryz.underlying67 h
 simp only[push_cast]at hy
 have:WO (Yb E (m+1) 213 [d,.str v] []) λr T=>∃k:Int,r=.int .i64 k/\decide (0<=k)=l.any λx=>decide (x=v):=by
  obtain⟨q,hq⟩:∃q,q=l.any λx=>decide (x=v):=⟨_,rfl⟩
  rw[<-hq]
  refine Ye Tryz.func213 rfl (by decide) rfl 19 rfl (λa hal ha=>?_)
  obtain⟨h0,h1⟩:=aQ2 ha
  clear ha
  simp only[push_cast,hal,h0,hy,↓WX,simprocAttr]
  refine Yk (λi a T=>(T=[]/\q=(l.drop i).any λx=>decide (x=v))/\a.length=19/\a[0]?=some (d)/\a[1]?=some (.str v)/\a[7]?=some (.int .i64 l.length)/\a[8]?=some (.int .i64 i)) l.length ?_ (by omega) ?_
  ·simp only[push_cast,hal,h0,h1,simprocAttr,WY]
   exact hq
  rintro i a T hi ⟨⟨rfl,e⟩,hal,h0,h1,h7,h8⟩
  rcases Kw hi with hlt |rfl
  case inr=>
   rw[Vj,List.any_nil]at e
   subst e
   simp only[push_cast,decide_eq_false_iff_not,hal,h7,h8,Tryz.f213,↓WX,simprocAttr,WY]
   exact⟨_,rfl,by simp⟩
  have hltc:(i:Int)<l.length:=by omega
  obtain⟨x,hx⟩:∃x,l[i]?=some x:=⟨l[i],by simp⟩
  rw[Yu hx,List.any_cons]at e
  rcases h with ⟨-,rfl⟩ | ⟨lx,rfl⟩
  ·cases hx
  by_cases c:v=x
  ·have e1:decide (x=v)=true:=Ue c.symm
   have e2:decide (v=x)=true:=Ue c
   rw[e1,Bool.true_or]at e
   subst e
   simp only[push_cast,Up,hal,h0,h1,h7,h8,hltc,hx,e2,Yo,Cnd.encT,Tryz.f213,↓WX,simprocAttr]
   exact⟨_,rfl,by simp⟩
  ·have e1:decide (x=v)=false:=Ud λh=>c h.symm
   have e2:decide (v=x)=false:=Ud c
   rw[e1,Bool.false_or]at e
   simp(disch:=omega)only[push_cast,hal,h0,h1,h7,h8,hltc,hlt,hx,e2,Yo,Cnd.encT,Yf,↓WX,simprocAttr,WY]
   exact e
 obtain⟨_,T,ho,k,rfl,hk⟩:=this
 exact⟨k,hk,λst S=>callD_obsP rfl (by simp only[Yc,Yg,hp,D.pure,Ua]) ho rfl⟩
theorem PContS_x {d:D} {l:List ByteArray} (h:FLs 1 Cnd.encT d l) (hl:l.length<=1048576) (v:ByteArray) (hn:1048600<=n):∀st S,Yi E (Yb E n) st S 176 [d,.str v]=some (.bool (l.any λx=>decide (x=v)),S):=by
 obtain⟨m,rfl⟩:∃m,n=m+1:=⟨n-1,by omega⟩
 have hp:=Xr h (Cnd.encT_pure l)
 obtain⟨r,hr,cr⟩:=PIndexS_x (n:=m) h hl v (by omega)
 rw[<-hr]
 have:WO (Yb E (m+1) 176 [d,.str v] []) λq T=>q=.bool (decide (0<=r)):=by
  refine Ye Tryz.func176 rfl (by decide) rfl 9 rfl (λa hal ha=>?_)
  obtain⟨h0,h1⟩:=aQ2 ha
  clear ha
  simp only[push_cast,hal,h0,h1,cr,Vx,Tryz.f176,↓WX,simprocAttr]
 obtain⟨_,T,ho,rfl⟩:=this
 exact λst S=>callD_obsP rfl (by simp only[Yc,Yg,hp,D.pure,Ua]) ho rfl
theorem PWeekday_x (hn:1<=n) (x:Int):∀st S,Yi E (Yb E n) st S 234 [.int .i64 x]=some (.int .i64 (wdF x:Int),S):=by
 obtain⟨m,rfl⟩:∃m,n=m+1:=⟨n-1,by omega⟩
 obtain⟨h1,h2⟩:=tmod_pos (a:=x) (b:=7) (by omega)
 have hw:((x.tmod 7+12).tmod 7)=(wdF x:Int):=by
  have:=Int.tmod_nonneg (a:=x.tmod 7+12) 7 (by omega)
  unfold wdF
  omega
 obtain⟨w,hw'⟩:∃w,w=wdF x:=⟨_,rfl⟩
 rw[<-hw']at hw ⊢
 obtain⟨y,hy⟩:∃y,y=x.tmod 7:=⟨_,rfl⟩
 rw[<-hy]at h1 h2 hw
 have w1:IntKind.i64.wrap (y+12)=y+12:=Yf (by omega) (by omega)
 have:WO (Yb E (m+1) 234 [.int .i64 x] []) λr T=>r=.int .i64 w:=by
  refine Ye Tryz.func234 rfl (by decide) rfl 7 rfl (λa hal ha=>?_)
  have h0:=aQ1 ha
  clear ha
  simp only[push_cast,hal,h0,<-hy,w1,hw,Tryz.f234,↓WX,simprocAttr]
 obtain⟨_,T,ho,rfl⟩:=this
 exact λst S=>Yd rfl rfl ho rfl
theorem on_bits:∀(d:Fin 128) (w:Fin 7),decide (IntKind.i64.wrap (((BitVec.ofInt 64 (((d.val:Nat):Int).fdiv (2 ^ w.val)) &&& BitVec.ofInt 64 1).toNat:Nat):Int)=1)=decide ((((d.val:Nat):Int).tdiv (2 ^ w.val)).tmod 2=1):=by decide +kernel
theorem POn_x (hn:2<=n) (d x:Int) (hd:1<=d/\d<=127):∀st S,Yi E (Yb E n) st S 209 [.int .i64 d,.int .i64 x]=some (.bool (decide ((d.tdiv (2 ^ wdF x)).tmod 2=1)),S):=by
 obtain⟨m,rfl⟩:∃m,n=m+1:=⟨n-1,by omega⟩
 have cw:=PWeekday_x (n:=m) (by omega) x
 have hw:=wdF_le x
 generalize wdF x=w at*
 obtain⟨k,rfl⟩:∃k:Nat,d=k:=⟨d.toNat,by omega⟩
 have hb:=on_bits ⟨k,by omega⟩ ⟨w,by omega⟩
 have hmin:min w 64=w:=by omega
 have hg:((w:Int)<0)=False:=eq_false (by omega)
 have:WO (Yb E (m+1) 209 [.int .i64 k,.int .i64 x] []) λr T=>r=.bool (decide (((k:Int).tdiv (2 ^ w)).tmod 2=1)):=by
  rw[<-hb]
  refine Ye Tryz.func209 rfl (by decide) rfl 11 rfl (λa hal ha=>?_)
  obtain⟨h0,h1⟩:=aQ2 ha
  clear ha
  simp only[push_cast,hal,h0,h1,cw,hg,hmin,dShift,IntKind.bits,Tryz.f209,↓WX,simprocAttr]
  rfl
 obtain⟨_,T,ho,rfl⟩:=this
 exact λst S=>Yd rfl rfl ho rfl
theorem PCheck04_x (hn:1<=n) (f t d:Int):∀st S,Yi E (Yb E n) st S 208 [.agg [.int .i64 f,.int .i64 t,.int .i64 d]]=some (.int .i64 (chkF f t d),S):=by
 obtain⟨m,rfl⟩:∃m,n=m+1:=⟨n-1,by omega⟩
 have:WO (Yb E (m+1) 208 [.agg [.int .i64 f,.int .i64 t,.int .i64 d]] []) λr T=>r=.int .i64 (chkF f t d):=by
  obtain⟨q,hq⟩:∃q,q=chkF f t d:=⟨_,rfl⟩
  rw[<-hq]
  unfold chkF at hq
  refine Ye Tryz.func208 rfl (by decide) rfl 35 rfl (λa hal ha=>?_)
  have h0:=aQ1 ha
  clear ha
  by_cases q1:f<0
  ·simp only[push_cast,hal,h0,q1,Tryz.f208,↓WX,simprocAttr]
   rw[hq,if_pos (by omega)]
  by_cases q2:t<f
  ·simp only[push_cast,hal,h0,q1,q2,Tryz.f208,↓WX,simprocAttr]
   rw[hq,if_pos (by omega)]
  by_cases q3:36525<=t
  ·simp only[push_cast,hal,h0,q1,q2,q3,Tryz.f208,↓WX,simprocAttr]
   rw[hq,if_pos (by omega)]
  rw[if_neg (by omega)]at hq
  by_cases q4:800<=t-f
  ·simp(maxSteps:=1000000)(disch:=omega)only[push_cast,hal,h0,q1,q2,q3,q4,Yf,Tryz.f208,↓WX,simprocAttr]
   rw[hq,if_pos (by omega)]
  rw[if_neg (by omega)]at hq
  by_cases q5:d<1
  ·simp(maxSteps:=1000000)(disch:=omega)only[push_cast,hal,h0,q1,q2,q3,q4,q5,Yf,Tryz.f208,↓WX,simprocAttr]
   rw[hq,if_pos (by omega)]
  by_cases q6:127<d
  ·simp(maxSteps:=1000000)(disch:=omega)only[push_cast,Vn,hal,h0,q1,q2,q3,q4,q5,q6,Yf,Tryz.f208,↓WX,simprocAttr]
   rw[hq,if_pos (by omega)]
  ·simp(maxSteps:=1000000)(disch:=omega)only[push_cast,Vn,hal,h0,q1,q2,q3,q4,q5,q6,Yf,Tryz.f208,↓WX,simprocAttr]
   rw[hq,if_neg (by omega)]
 obtain⟨_,T,ho,rfl⟩:=this
 exact λst S=>Yd rfl rfl ho rfl
theorem PHas04_x (hn:30<=n) (f t d x:Int):∀st S,Yi E (Yb E n) st S 172 [.agg [.int .i64 f,.int .i64 t,.int .i64 d],.int .i64 x]=some (.bool (perF f t d x),S):=by
 obtain⟨m,rfl⟩:∃m,n=m+1:=⟨n-1,by omega⟩
 have ce:=PCheck04_x (n:=m) (by omega) f t d
 have hd:chkF f t d=0->1<=d/\d<=127:=λh=>by
  unfold chkF at h
  repeat' split at h
  all_goals first |omega | (cases h)
 have co:=λh=>POn_x (n:=m) (by omega) d x (hd h)
 unfold perF
 generalize chkF f t d=e at*
 generalize decide ((d.tdiv (2 ^ wdF x)).tmod 2=1)=b at*
 have:WO (Yb E (m+1) 172 [.agg [.int .i64 f,.int .i64 t,.int .i64 d],.int .i64 x] []) λr T=>r=.bool (decide (e=0) && (decide (f<=x) && (decide (x<=t) && b))):=by
  refine Ye Tryz.func172 rfl (by decide) rfl 26 rfl (λa hal ha=>?_)
  obtain⟨h0,h1⟩:=aQ2 ha
  clear ha
  by_cases q1:e=0
  case neg=>
   simp only[push_cast,hal,h0,ce,q1,Tryz.f172,↓WX,simprocAttr,WY]
  have co:=co q1
  subst q1
  by_cases q2:f<=x
  case neg=>
   simp only[push_cast,hal,h0,h1,ce,q2,Tryz.f172,↓WX,simprocAttr,WY]
  by_cases q3:x<=t
  case neg=>
   simp only[push_cast,hal,h0,h1,ce,q2,q3,Tryz.f172,↓WX,simprocAttr,WY]
  simp only[push_cast,hal,h0,h1,ce,co,q2,q3,Tryz.f172,↓WX,simprocAttr,WY]
 obtain⟨_,T,ho,rfl⟩:=this
 exact λst S=>Yd rfl rfl ho rfl
end
end Go.Proofs.YtaklebjoenophaaGreat.Dm
