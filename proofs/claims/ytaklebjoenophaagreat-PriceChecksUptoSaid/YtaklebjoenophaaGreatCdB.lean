/-
  The reference's check of a condition: some error or none.
  The reference's check of a condition, second part.
  The reference's check of a condition, third part: the parts, and all.
  Lists of violations that grow, whatever is in them; the reference's violations of the numbers of a rule.
-/
import Derived.Test.YtaklebjoenophaaGreatPoG
import Derived.Test.YtaklebjoenophaaGreatPlA
set_option maxHeartbeats 64000000
set_option maxRecDepth 100000
set_option linter.unusedSimpArgs false
set_option linter.unusedVariables false
namespace Go.Proofs.YtaklebjoenophaaGreat.Dm
open Go Gw
theorem plain_per:plainEqT Tryz.prog 66=true:=by kernel_rfl
theorem eq_per (a b c:Int):∃r,dEq Tryz.prog 10000 66 (.agg [.int .i64 a,.int .i64 b,.int .i64 c]) (.agg [.int .i64 0,.int .i64 0,.int .i64 0])=some r:=by
 rw[show (10000:Nat)=9998+1+1 from rfl]
 have hs:Tryz.prog.stoodInHeld 66=false:=by kernel_rfl
 by_cases e1:a=0 <;> by_cases e2:b=0 <;> by_cases e3:c=0 <;> simp(decide:=true)only[push_cast,dEq,dEqs,beq_self_eq_true,e1,e2,e3,decide_false,exists_eq']
theorem zeroT_per:Ji Tryz.prog 66=some (.agg [.int .i64 0,.int .i64 0,.int .i64 0]):=by kernel_rfl
section
variable {n : Nat}
theorem r04Check_c (hn:1<=n) (f t d:Int) (hf: -9223372036854775808<=f) (ht:t<=9223372036854775807):∃e:Int,(e=0->0<=f/\f<=t/\t<36525/\t-f<800/\1<=d/\d<=127)/\∀st S,Yi E (Yb E n) st S 220 [.agg [.int .i64 f,.int .i64 t,.int .i64 d]]=some (.int .i64 e,S):=by
 obtain⟨m,rfl⟩:∃m,n=m+1:=⟨n-1,by omega⟩
 have:WO (Yb E (m+1) 220 [.agg [.int .i64 f,.int .i64 t,.int .i64 d]] []) λr T=>∃e:Int,r=.int .i64 e/\(e=0->0<=f/\f<=t/\t<36525/\t-f<800/\1<=d/\d<=127):=by
  refine Ye Tryz.func220 rfl (by decide) rfl 32 rfl (λa hal ha=>?_)
  have h0:=aQ1 ha
  clear ha
  by_cases c1:f<0
  ·simp only[push_cast,hal,h0,c1,Tryz.f220,↓WX,simprocAttr]
   exact⟨_,rfl,by omega⟩
  by_cases c2:t<f
  ·simp only[push_cast,Vn,hal,h0,c1,c2,Tryz.f220,↓WX,simprocAttr]
   exact⟨_,rfl,by omega⟩
  by_cases c3:36525<=t
  ·simp only[push_cast,Vn,hal,h0,c1,c2,c3,Tryz.f220,↓WX,simprocAttr]
   exact⟨_,rfl,by omega⟩
  have hw:IntKind.i64.wrap (t-f)=t-f:=Yf (by omega) (by omega)
  by_cases c4:800<=t-f
  ·simp only[push_cast,Vn,hal,h0,c1,c2,c3,hw,c4,Tryz.f220,↓WX,simprocAttr]
   exact⟨_,rfl,by omega⟩
  by_cases c5:d<1
  ·simp only[push_cast,Vn,hal,h0,c1,c2,c3,hw,c4,c5,Tryz.f220,↓WX,simprocAttr]
   exact⟨_,rfl,by omega⟩
  by_cases c6:127<d
  ·simp only[push_cast,Vn,hal,h0,c1,c2,c3,hw,c4,c5,c6,Tryz.f220,↓WX,simprocAttr]
   exact⟨_,rfl,by omega⟩
  simp only[push_cast,Vn,hal,h0,c1,c2,c3,hw,c4,c5,c6,Tryz.f220,↓WX,simprocAttr]
  exact⟨_,rfl,by omega⟩
 obtain⟨_,T,ho,e,rfl,h⟩:=this
 exact⟨e,h,λst S=>Yd rfl rfl ho rfl⟩
theorem list20_c (hn:1<=n) (k:Int):∃b,∀st S,Yi E (Yb E n) st S 238 [.int .i64 k]=some (.bool b,S):=by
 obtain⟨m,rfl⟩:∃m,n=m+1:=⟨n-1,by omega⟩
 have:WO (Yb E (m+1) 238 [.int .i64 k] []) λr T=>∃b,r=.bool b:=by
  refine Ye Tryz.func238 rfl (by decide) rfl 13 rfl (λa hal ha=>?_)
  have h0:=aQ1 ha
  clear ha
  by_cases c1:k=2 <;> by_cases c2:k=3 <;> by_cases c3:k=4 <;> first |omega | (simp only[push_cast,hal,h0,c1,c2,c3,Tryz.f238,↓WX,simprocAttr];exact⟨_,rfl⟩)
 obtain⟨_,T,ho,b,rfl⟩:=this
 exact⟨b,λst S=>Yd rfl rfl ho rfl⟩
theorem codes20_c (hn:1<=n) (k:Int):∃b,∀st S,Yi E (Yb E n) st S 230 [.int .i64 k]=some (.bool b,S):=by
 obtain⟨m,rfl⟩:∃m,n=m+1:=⟨n-1,by omega⟩
 have:WO (Yb E (m+1) 230 [.int .i64 k] []) λr T=>∃b,r=.bool b:=by
  refine Ye Tryz.func230 rfl (by decide) rfl 13 rfl (λa hal ha=>?_)
  have h0:=aQ1 ha
  clear ha
  by_cases c1:k=11 <;> by_cases c2:k=13 <;> by_cases c3:k=14 <;> first |omega | (simp only[push_cast,hal,h0,c1,c2,c3,Tryz.f230,↓WX,simprocAttr];exact⟨_,rfl⟩)
 obtain⟨_,T,ho,b,rfl⟩:=this
 exact⟨b,λst S=>Yd rfl rfl ho rfl⟩
theorem period20_c (hn:1<=n) (k:Int):∃b,∀st S,Yi E (Yb E n) st S 229 [.int .i64 k]=some (.bool b,S):=by
 obtain⟨m,rfl⟩:∃m,n=m+1:=⟨n-1,by omega⟩
 have:WO (Yb E (m+1) 229 [.int .i64 k] []) λr T=>∃b,r=.bool b:=by
  refine Ye Tryz.func229 rfl (by decide) rfl 9 rfl (λa hal ha=>?_)
  have h0:=aQ1 ha
  clear ha
  by_cases c1:k=5 <;> by_cases c2:k=6 <;> first |omega | (simp only[push_cast,hal,h0,c1,c2,Tryz.f229,↓WX,simprocAttr];exact⟨_,rfl⟩)
 obtain⟨_,T,ho,b,rfl⟩:=this
 exact⟨b,λst S=>Yd rfl rfl ho rfl⟩
theorem numbers20_c (hn:1<=n) (k:Int):∃v:Int,(v=0∨v=1∨v=2)/\∀st S,Yi E (Yb E n) st S 239 [.int .i64 k]=some (.int .i64 v,S):=by
 obtain⟨m,rfl⟩:∃m,n=m+1:=⟨n-1,by omega⟩
 have:WO (Yb E (m+1) 239 [.int .i64 k] []) λr T=>∃v:Int,r=.int .i64 v/\(v=0∨v=1∨v=2):=by
  refine Ye Tryz.func239 rfl (by decide) rfl 19 rfl (λa hal ha=>?_)
  have h0:=aQ1 ha
  clear ha
  by_cases c1:k=8 <;> by_cases c2:k=12 <;> by_cases c3:k=7 <;> by_cases c4:k=9 <;> by_cases c5:k=10 <;> first |omega | (simp only[push_cast,hal,h0,c1,c2,c3,c4,c5,Tryz.f239,↓WX,simprocAttr];exact⟨_,rfl,by omega⟩)
 obtain⟨_,T,ho,v,rfl,h⟩:=this
 exact⟨v,h,λst S=>Yd rfl rfl ho rfl⟩
theorem extra20_c (hn:2<=n) (c:Cnd):∃b,∀st S,Yi E (Yb E n) st S 227 [.agg c.enc]=some (.bool b,S):=by
 obtain⟨m,rfl⟩:∃m,n=m+1:=⟨n-1,by omega⟩
 have hp:=Cnd.pure c
 cases c with |mk k l lx u v pf pt pd t tx=>?_
 simp only[Cnd.enc]at hp ⊢
 obtain⟨b1,cl⟩:=list20_c (n:=m) (by omega) k
 obtain⟨b2,cc⟩:=codes20_c (n:=m) (by omega) k
 obtain⟨b3,cp⟩:=period20_c (n:=m) (by omega) k
 obtain⟨w,hw,cn⟩:=numbers20_c (n:=m) (by omega) k
 obtain⟨b4,he⟩:=eq_per pf pt pd
 have:WO (Yb E (m+1) 227 [.agg [.int .i64 k,.sl 8 (Cnd.encs l) lx,.int .i64 u,.int .i64 v,.int .i64 pf,.int .i64 pt,.int .i64 pd,.sl 1 (t.map Cnd.encT) tx]] []) λr T=>∃b,r=.bool b:=by
  refine Ye Tryz.func227 rfl (by decide) rfl 57 rfl (λa hal ha=>?_)
  have h0:=aQ1 ha
  clear ha
  by_cases r0:(b1=false/\(0:Int)<(Cnd.encs l).length)∨(b2=false/\(0:Int)<t.length)
  ·cases b1 <;> cases b2 <;> by_cases q1:(0:Int)<(Cnd.encs l).length <;> by_cases q2:(0:Int)<t.length <;> first
    | (exfalso;rcases r0 with ⟨h,h'⟩ | ⟨h,h'⟩ <;> first |exact absurd h (by decide) |exact q1 h' |exact q2 h')
    | (simp only[push_cast,Vn,hal,h0,cl,cc,q1,q2,dUn,Tryz.f227,↓WX,simprocAttr,WY]
       exact⟨_,rfl⟩)
  refine Ya (λa T=>T=[Ob.row 8 [[.int .i64 k,.sl 8 (Cnd.encs l) lx,.int .i64 u,.int .i64 v,.int .i64 pf,.int .i64 pt,.int .i64 pd,.sl 1 (t.map Cnd.encT) tx]]]/\a.length=57/\a[1]?=some (.loc 0 0 0)) ?_ ?_
  ·simp only[push_cast,hal,h0,↓WX,simprocAttr]
  rintro a T ⟨rfl,hal,h1⟩
  refine Ya (λa T=>T=[Ob.row 8 [[.int .i64 k,.sl 8 (Cnd.encs l) lx,.int .i64 u,.int .i64 v,.int .i64 pf,.int .i64 pt,.int .i64 pd,.sl 1 (t.map Cnd.encT) tx]]]/\a.length=57/\a[1]?=some (.loc 0 0 0)) ?_ ?_
  ·cases b1 <;> cases b2 <;> by_cases q1:(0:Int)<(Cnd.encs l).length <;> by_cases q2:(0:Int)<t.length <;> first
    | (exfalso;exact r0 (.inl ⟨rfl,q1⟩))
    | (exfalso;exact r0 (.inr ⟨rfl,q2⟩))
    |simp only[push_cast,Vn,hal,h1,cl,cc,q1,q2,dUn,↓WX,simprocAttr,WY]
  rintro a T ⟨rfl,hal,h1⟩
  rcases hw with rfl |rfl |rfl <;> cases b3 <;> cases b4 <;> by_cases q1:u=0 <;> by_cases q2:v=0 <;>
   (simp only[push_cast,Vp,Vo,hal,h1,cp,cn,he,q1,q2,plain_per,dUn,zeroT_per,Tryz.f227,↓WX,simprocAttr,WY]
    exact⟨_,rfl⟩)
 obtain⟨_,T,ho,b,rfl⟩:=this
 exact⟨b,λst S=>Yd rfl (by rw[Yc,D.pure,hp];rfl) ho rfl⟩
end
def Cnd.Not1:Cnd->Prop
 | .mk k l _ _ _ _ _ _ _ _=>k=4->l.length=1
def Cnd.K1:Cnd->Prop
 | .mk k l _ _ _ _ _ _ _ _=>(1<=k/\k<=14)/\(k=4->l.length=1)
mutual
def Cnd.KG:Cnd->Prop
 | .mk k l _ _ _ _ _ _ _ _=>((1<=k/\k<=14)/\(k=4->l.length=1))/\Cnd.KGs l
def Cnd.KGs:List Cnd->Prop
 | []=>True
 |c::cs=>c.KG/\Cnd.KGs cs
end
theorem Cnd.KGs.of:∀ {l:List Cnd},(∀c∈l,c.KG)->Cnd.KGs l
 | [],_=>by rw[Cnd.KGs];trivial
 |c::cs,h=>by rw[Cnd.KGs];exact⟨h c (Uo ..),Cnd.KGs.of λd hd=>h d (Um _ hd)⟩
section
variable {n : Nat}
theorem wrong20_c (hn:2<=n) (c:Cnd):∃b,(b=false->c.Not1)/\∀st S,Yi E (Yb E n) st S 228 [.agg c.enc]=some (.bool b,S):=by
 obtain⟨m,rfl⟩:∃m,n=m+1:=⟨n-1,by omega⟩
 have hp:=Cnd.pure c
 cases c with |mk k l lx u v pf pt pd t tx=>?_
 obtain⟨K,hK⟩:∃K:Bool->Prop,∀b,K b↔(b=false->k=4->l.length=1):=⟨_,λ_=>Iff.rfl⟩
 have hkn:k≠4->∀b,K b:=λh b=>(hK b).2 λ_ h4=>absurd h4 h
 have hel:=Cnd.encs_len l
 simp only[Cnd.enc]at hp ⊢
 have:WO (Yb E (m+1) 228 [.agg [.int .i64 k,.sl 8 (Cnd.encs l) lx,.int .i64 u,.int .i64 v,.int .i64 pf,.int .i64 pt,.int .i64 pd,.sl 1 (t.map Cnd.encT) tx]] []) λr T=>∃b,r=.bool b/\K b:=by
  refine Ye Tryz.func228 rfl (by decide) rfl 76 rfl (λa hal ha=>?_)
  have h0:=aQ1 ha
  clear ha
  by_cases k2:k=2
  ·simp only[push_cast,hal,h0,k2,Tryz.f228,↓WX,simprocAttr]
   exact⟨_,rfl,hkn (by omega) _⟩
  by_cases k3:k=3
  ·simp only[push_cast,hal,h0,k3,Tryz.f228,↓WX,simprocAttr,WY]
   exact⟨_,rfl,hkn (by omega) _⟩
  by_cases k4:k=4
  ·by_cases q:(l.length:Int)=1
   ·simp only[push_cast,Vp,hal,h0,k4,q,hel,Tryz.f228,↓WX,simprocAttr,WY]
    exact⟨_,rfl,(hK _).2 λ_ _=>by omega⟩
   ·simp only[push_cast,Vo,hal,h0,k4,q,hel,Tryz.f228,↓WX,simprocAttr,WY]
    exact⟨_,rfl,(hK _).2 λh=>by first |cases h | (simp[q]at h)⟩
  by_cases k7:k=7
  ·by_cases c1:u<0 <;> by_cases c2:36525<=u <;>
    (simp only[push_cast,hal,h0,k7,c1,c2,Tryz.f228,↓WX,simprocAttr,WY]
     exact⟨_,rfl,hkn (by omega) _⟩)
  by_cases k8:k=8
  ·by_cases c1:u<0 <;> by_cases c2:1440<=u <;> by_cases c3:v<0 <;> by_cases c4:1440<=v <;>
    (simp only[push_cast,hal,h0,k8,c1,c2,c3,c4,Tryz.f228,↓WX,simprocAttr,WY]
     exact⟨_,rfl,hkn (by omega) _⟩)
  by_cases k9:k=9
  ·by_cases c1:u<0 <;> by_cases c2:6<u <;>
    (simp only[push_cast,Vn,hal,h0,k9,c1,c2,Tryz.f228,↓WX,simprocAttr,WY]
     exact⟨_,rfl,hkn (by omega) _⟩)
  by_cases k10:k=10
  ·by_cases c1:u<0 <;> by_cases c2:6<u <;>
    (simp only[push_cast,Vn,hal,h0,k10,c1,c2,Tryz.f228,↓WX,simprocAttr,WY]
     exact⟨_,rfl,hkn (by omega) _⟩)
  by_cases k12:k=12
  ·by_cases c1:u<1 <;> by_cases c2:v<u <;> by_cases c3:9999<v <;>
    (simp only[push_cast,Vn,hal,h0,k12,c1,c2,c3,Tryz.f228,↓WX,simprocAttr,WY]
     exact⟨_,rfl,hkn (by omega) _⟩)
  simp only[push_cast,hal,h0,k2,k3,k4,k7,k8,k9,k10,k12,Tryz.f228,↓WX,simprocAttr,WY]
  exact⟨_,rfl,hkn (by omega) _⟩
 obtain⟨_,T,ho,b,rfl,hb⟩:=this
 exact⟨b,(hK b).1 hb,λst S=>Yd rfl (by rw[Yc,D.pure,hp];rfl) ho rfl⟩
theorem rCode3_c {s:ByteArray} (hn:s.size+6<n) (hz:s.size<=9223372036854775807):∃b,∀st S,Yi E (Yb E n) st S 105 [.str s,.int .i64 3,.int .i64 3]=some (.bool b,S):=by
 obtain⟨m,rfl⟩:∃m,n=m+1:=⟨n-1,by omega⟩
 exact⟨_,λst S=>Yd rfl rfl (Ke (ref_Code_d (by omega) hz)) rfl⟩
theorem code20_c {s:ByteArray} (hn:s.size+10<n) (hz:s.size<=9223372036854775807) (k:Int):∃b,∀st S,Yi E (Yb E n) st S 231 [.int .i64 k,.str s]=some (.bool b,S):=by
 obtain⟨m,rfl⟩:∃m,n=m+1:=⟨n-1,by omega⟩
 have c1:=λst S=>rCarrier_c (n:=m) (s:=s) (by omega) hz st S
 have c2:=λst S=>rAirport_c (n:=m) (s:=s) (by omega) hz st S
 obtain⟨b3,c3⟩:=rCode3_c (n:=m) (s:=s) (by omega) hz
 have:WO (Yb E (m+1) 231 [.int .i64 k,.str s] []) λr T=>∃b,r=.bool b:=by
  refine Ye Tryz.func231 rfl (by decide) rfl 15 rfl (λa hal ha=>?_)
  obtain⟨h0,h1⟩:=aQ2 ha
  clear ha
  by_cases k1:k=11
  ·simp only[push_cast,hal,h0,h1,k1,c1,Tryz.f231,↓WX,simprocAttr]
   exact⟨_,rfl⟩
  by_cases k2:k=13
  ·simp only[push_cast,hal,h0,h1,k2,c2,Tryz.f231,↓WX,simprocAttr,WY]
   exact⟨_,rfl⟩
  simp only[push_cast,hal,h0,h1,k1,k2,c3,Tryz.f231,↓WX,simprocAttr,WY]
  exact⟨_,rfl⟩
 obtain⟨_,T,ho,b,rfl⟩:=this
 exact⟨b,λst S=>Yd rfl rfl ho rfl⟩
theorem has20_c {l:List ByteArray} {lx:Bool} (hl:l.length<=1048576) (hn:1048580<=n) (s:ByteArray):∃b,∀st S,Yi E (Yb E n) st S 190 [.sl 1 (l.map Cnd.encT) lx,.str s]=some (.bool b,S):=by
 obtain⟨m,rfl⟩:∃m,n=m+1:=⟨n-1,by omega⟩
 have:WO (Yb E (m+1) 190 [.sl 1 (l.map Cnd.encT) lx,.str s] []) λr T=>∃b,r=.bool b:=by
  refine Ye Tryz.func190 rfl (by decide) rfl 18 rfl (λa hal ha=>?_)
  obtain⟨h0,h1⟩:=aQ2 ha
  clear ha
  simp only[push_cast,↓WX,simprocAttr]
  refine Yk (λi a T=>a.length=18/\a[0]?=some (.sl 1 (l.map Cnd.encT) lx)/\a[1]?=some (.str s)/\a[5]?=some (.int .i64 i)) l.length ?_ (by omega) ?_
  ·simp only[push_cast,hal,h0,h1,simprocAttr,WY]
  rintro i a T hi ⟨hal,h0,h1,h5⟩
  rcases Kw hi with hlt |rfl
  case inr=>
   simp only[push_cast,hal,h0,h5,Tryz.f190,↓WX,simprocAttr,WY]
   exact⟨_,rfl⟩
  obtain⟨x,hx⟩:∃x,l[i]?=some x:=⟨l[i],by simp⟩
  have hltc:(i:Int)<l.length:=by omega
  by_cases q:x=s
  ·simp only[push_cast,hal,h0,h1,h5,hltc,hx,q,Yo,Tryz.f190,↓WX,simprocAttr]
   exact⟨_,rfl⟩
  ·simp(disch:=omega)only[push_cast,hal,h0,h1,h5,hltc,hlt,hx,q,Yo,Yf,↓WX,simprocAttr,WY]
 obtain⟨_,T,ho,b,rfl⟩:=this
 exact⟨b,λst S=>Yd rfl (by simp[Yc,Yg,D.pure,Cnd.encT_pure]) ho rfl⟩
end
theorem bulk_text:∀ {l:List ByteArray} {s:ByteArray},s∈l->s.size+1<=Jj (l.map Cnd.encT)
 | [],s,h=>by cases h
 |x::l,s,h=>by
  simp only[Uy,Jj,Yn,Zy]
  rcases List.mem_cons.1 h with rfl |h
  ·omega
  ·have:=bulk_text h;omega
theorem text_len:∀l:List ByteArray,l.length<=Jj (l.map Cnd.encT)
 | []=>Vt _
 |x::l=>by
  have:=text_len l
  simp only[Uy,Jj,Yn,Zy,Uu];omega
mutual
def Cnd.Wf:Cnd->Prop
 | .mk _ l _ _ _ pf pt _ _ _=>(-9223372036854775808<=pf/\pt<=9223372036854775807)/\Cnd.Wfs l
def Cnd.Wfs:List Cnd->Prop
 | []=>True
 |c::cs=>c.Wf/\Cnd.Wfs cs
end
theorem Cnd.Wfs.mem:∀ {l:List Cnd},Cnd.Wfs l->∀c∈l,c.Wf
 | [],_,c,h=>by cases h
 |x::l,hw,c,h=>by
  rw[Cnd.Wfs]at hw
  rcases List.mem_cons.1 h with rfl |h
  ·exact hw.1
  ·exact Cnd.Wfs.mem hw.2 c h
theorem Cnd.Wf.get {k u v pf pt pd:Int} {l:List Cnd} {lx tx:Bool} {t:List ByteArray} (h:Cnd.Wf (.mk k l lx u v pf pt pd t tx)):(-9223372036854775808<=pf/\pt<=9223372036854775807)/\∀c∈l,c.Wf:=by
 rw[Cnd.Wf]at h
 exact⟨h.1,λc hc=>h.2.mem c hc⟩
section
variable {n : Nat}
theorem part20_c (c:Cnd) (hw:c.Wf) (hb:Yn c.enc<=1048576) (hn:1050000<=n):∃e:Int,(e=0->c.K1)/\∀st S,Yi E (Yb E n) st S 200 [.agg c.enc]=some (.int .i64 e,S):=by
 obtain⟨m,rfl⟩:∃m,n=m+1:=⟨n-1,by omega⟩
 have hp:=Cnd.pure c
 obtain⟨b1,ce⟩:=extra20_c (n:=m) (by omega) c
 obtain⟨b2,hnw,cw⟩:=wrong20_c (n:=m) (by omega) c
 cases c with |mk k l lx u v pf pt pd t tx=>?_
 obtain⟨⟨w1,w2⟩,-⟩:=hw.get
 simp only[Cnd.enc]at hp hb ce cw ⊢
 simp only[Yn,Zy]at hb
 have htl:=text_len t
 obtain⟨K,hK⟩:∃K:Int->Prop,∀e,K e↔(e=0->(1<=k/\k<=14)/\(k=4->l.length=1)):=⟨_,λ_=>Iff.rfl⟩
 have hkn:∀e,e≠0->K e:=λe h=>(hK e).2 λh0=>absurd h0 h
 have hnw':b2=false->k=4->l.length=1:=hnw
 clear hnw
 obtain⟨b3,cp⟩:=period20_c (n:=m) (by omega) k
 obtain⟨b4,cc⟩:=codes20_c (n:=m) (by omega) k
 obtain⟨e4,-,c4⟩:=r04Check_c (n:=m) (by omega) pf pt pd w1 w2
 have:WO (Yb E (m+1) 200 [.agg [.int .i64 k,.sl 8 (Cnd.encs l) lx,.int .i64 u,.int .i64 v,.int .i64 pf,.int .i64 pt,.int .i64 pd,.sl 1 (t.map Cnd.encT) tx]] []) λr T=>∃e:Int,r=.int .i64 e/\K e:=by
  refine Ye Tryz.func200 rfl (by decide) rfl 57 rfl (λa hal ha=>?_)
  have h0:=aQ1 ha
  clear ha
  by_cases k1:k<1
  ·simp only[push_cast,hal,h0,k1,Tryz.f200,↓WX,simprocAttr]
   exact⟨_,rfl,hkn _ (by decide)⟩
  by_cases k2:14<k
  ·simp only[push_cast,Vn,hal,h0,k1,k2,Tryz.f200,↓WX,simprocAttr]
   exact⟨_,rfl,hkn _ (by decide)⟩
  cases b1
  case true=>
   simp only[push_cast,Vn,hal,h0,k1,k2,ce,Tryz.f200,↓WX,simprocAttr]
   exact⟨_,rfl,hkn _ (by decide)⟩
  cases b2
  case true=>
   simp only[push_cast,Vn,hal,h0,k1,k2,ce,cw,Tryz.f200,↓WX,simprocAttr]
   exact⟨_,rfl,hkn _ (by decide)⟩
  have hka:∀e,K e:=λe=>(hK e).2 λ_=>⟨⟨by omega,by omega⟩,hnw' rfl⟩
  clear hnw' hkn
  cases b3
  case true=>
   simp only[push_cast,Vn,hal,h0,k1,k2,ce,cw,cp,c4,Tryz.f200,↓WX,simprocAttr]
   exact⟨_,rfl,hka _⟩
  by_cases q:b4=true/\(t.length:Int)=0
  ·obtain⟨rfl,q⟩:=q
   simp only[push_cast,Vn,hal,h0,k1,k2,ce,cw,cp,cc,q,Tryz.f200,↓WX,simprocAttr]
   exact⟨_,rfl,hka _⟩
  obtain⟨r0,hr0⟩:∃r0:Bool,r0=(b4 && decide ((t.length:Int)=0)):=⟨_,rfl⟩
  have hr1:r0=false:=by
   rw[hr0]
   cases b4
   ·rfl
   ·exact Ud λh=>q ⟨rfl,h⟩
  have hr2:b4=true->decide ((t.length:Int)=0)=false:=λh=>by rw[hr1,h]at hr0;exact hr0.symm
  cases b4
  case' false=>
   simp only[push_cast,Vn,hal,h0,k1,k2,ce,cw,cp,cc,↓WX,simprocAttr]
  case' true=>
   have hr2:=hr2 rfl
   simp only[push_cast,Vn,hal,h0,k1,k2,ce,cw,cp,cc,hr2,↓WX,simprocAttr]
  all_goals
   refine Yk (λi a T=>T=[Ob.row 8 [[.int .i64 k,.sl 8 (Cnd.encs l) lx,.int .i64 u,.int .i64 v,.int .i64 pf,.int .i64 pt,.int .i64 pd,.sl 1 (t.map Cnd.encT) tx]]]/\a.length=57/\a[1]?=some (.loc 0 0 0)/\a[3]?=some (.int .i64 i)) t.length ?_ (by omega) ?_
   ·simp only[push_cast,hal,simprocAttr,WY]
   rintro i a T hi ⟨rfl,hal,h1,h3⟩
   rcases Kw hi with hlt |rfl
   case inr=>
    simp only[push_cast,hal,h1,h3,Tryz.f200,↓WX,simprocAttr,WY]
    exact⟨_,rfl,hka _⟩
   obtain⟨x,hx⟩:∃x,t[i]?=some x:=⟨t[i],by simp⟩
   have hltc:(i:Int)<t.length:=by omega
   have hne:¬i=t.length:=by omega
   have hxs:=bulk_text (Kx hx)
   obtain⟨d1,cd1⟩:=code20_c (n:=m) (s:=x) (by omega) (by omega) k
   cases d1
   case false=>
    simp only[push_cast,hal,h1,h3,hltc,hx,cd1,dUn,Tryz.f200,↓WX,simprocAttr,WY]
    exact⟨_,rfl,hka _⟩
   obtain⟨d2,cd2⟩:=has20_c (n:=m) (l:=t.take i) (lx:=false) (by rw[Ve];omega) (by omega) x
   rw[List.map_take]at cd2
   cases d2
   case true=>
    simp only[push_cast,hal,h1,h3,hltc,hx,cd1,cd2,hi,hne,Vt,Nat.sub_zero,List.drop_zero,Bool.and_false,dUn,Tryz.f200,↓WX,simprocAttr,WY]
    exact⟨_,rfl,hka _⟩
   simp(disch:=omega)only[push_cast,hal,h1,h3,hltc,hlt,hx,cd1,cd2,hi,hne,Vt,Nat.sub_zero,List.drop_zero,Bool.and_false,dUn,Yf,↓WX,simprocAttr,WY]
 obtain⟨_,T,ho,b,rfl,hb⟩:=this
 exact⟨b,(hK b).1 hb,λst S=>Yd rfl (by rw[Yc,D.pure,hp];rfl) ho rfl⟩
theorem parts20_c:∀(m:Nat) (n:Nat) (c:Cnd),c.Wf->Yn c.enc<=m->m<=1048576->2000000+m<=n->∃e:Int,(e=0->c.KG)/\∀st S,Yi E (Yb E n) st S 155 [.agg c.enc]=some (.int .i64 e,S)
 |0,n,.mk k l lx u v pf pt pd t tx,_,h,_,_=>by simp only[Cnd.enc,Yn,Zy]at h;omega
 |m+1,n,.mk k l lx u v pf pt pd t tx,hwf,h,hm,hn=>by
  obtain⟨n,rfl⟩:∃n',n=n'+1:=⟨n-1,by omega⟩
  have hp:=Cnd.pure (.mk k l lx u v pf pt pd t tx)
  obtain⟨e1,hk1,c1⟩:=part20_c (n:=n) (.mk k l lx u v pf pt pd t tx) hwf (by omega) (by omega)
  have hwl:=hwf.get.2
  have hk1':e1=0->(1<=k/\k<=14)/\(k=4->l.length=1):=hk1
  clear hk1
  obtain⟨K,hK⟩:∃K:Int->Prop,∀e,K e↔(e=0->((1<=k/\k<=14)/\(k=4->l.length=1))/\Cnd.KGs l):=⟨_,λ_=>Iff.rfl⟩
  have hkn:∀e,e≠0->K e:=λe h=>(hK e).2 λh0=>absurd h0 h
  obtain⟨P,hP0,hPs,hPl⟩:=takeP l Cnd.KG
  simp only[Cnd.enc]at h hp c1 ⊢
  simp only[Yn,Zy]at h
  have hl:=Cnd.len_le l
  have hel:=Cnd.encs_len l
  have:WO (Yb E (n+1) 155 [.agg [.int .i64 k,.sl 8 (Cnd.encs l) lx,.int .i64 u,.int .i64 v,.int .i64 pf,.int .i64 pt,.int .i64 pd,.sl 1 (t.map Cnd.encT) tx]] []) λd T=>∃e:Int,d=.int .i64 e/\K e:=by
   refine Ye Tryz.func155 rfl (by decide) rfl 27 rfl (λa hal ha=>?_)
   have h0:=aQ1 ha
   clear ha
   by_cases q1:e1=0
   case neg=>
    simp only[push_cast,Vo,hal,h0,c1,q1,Tryz.f155,↓WX,simprocAttr,WY]
    exact⟨_,rfl,hkn _ q1⟩
   subst q1
   simp only[push_cast,Vp,hal,h0,c1,↓WX,simprocAttr]
   refine Yk (λi a T=>(P i/\T=[Ob.row 8 [[.int .i64 k,.sl 8 (Cnd.encs l) lx,.int .i64 u,.int .i64 v,.int .i64 pf,.int .i64 pt,.int .i64 pd,.sl 1 (t.map Cnd.encT) tx]]])/\a.length=27/\a[1]?=some (.loc 0 0 0)/\a[4]?=some (.int .i64 i)) l.length ?_ (by omega) ?_
   ·simp only[push_cast,hal,simprocAttr,WY]
    exact hP0
   rintro i a T hi ⟨⟨hpi,rfl⟩,hal,h1,h4⟩
   rcases Kw hi with hlt |rfl
   case inr=>
    simp only[push_cast,hal,h1,h4,hel,Tryz.f155,↓WX,simprocAttr,WY]
    exact⟨_,rfl,(hK _).2 λ_=>⟨hk1' rfl,Cnd.KGs.of (hPl hpi)⟩⟩
   obtain⟨x,hx⟩:∃x,l[i]?=some x:=⟨l[i],by simp⟩
   have hltc:(i:Int)<l.length:=by omega
   have hb:=Cnd.bulk_get hx
   obtain⟨e2,hk2,cx⟩:=parts20_c m n x (hwl x (Kx hx)) (by omega) (by omega) (by omega)
   have hg:=Cnd.encs_get hx
   cases x with |mk k' l' lx' u' v' pf' pt' pd' t' tx'=>?_
   simp only[Cnd.enc]at cx hg
   by_cases q2:e2=0
   case neg=>
    simp only[push_cast,Vo,hal,h1,h4,hel,hltc,hg,cx,q2,Tryz.f155,↓WX,simprocAttr,WY]
    exact⟨_,rfl,hkn _ q2⟩
   subst q2
   have hp1:=hPs i _ hx hpi (hk2 rfl)
   simp(disch:=omega)only[push_cast,Vp,hal,h1,h4,hel,hltc,hlt,hg,cx,Yf,↓WX,simprocAttr,WY]
   exact hp1
  obtain⟨_,T,ho,e,rfl,he⟩:=this
  exact⟨e,(hK e).1 he,λst S=>Yd rfl (by rw[Yc,D.pure,hp];rfl) ho rfl⟩
theorem Check20_c (c:Cnd) (hw:c.Wf) (hb:Yn c.enc<=1048576) (hn:3100000<=n):∃e:Int,(e=0->c.KG)/\∀st S,Yi E (Yb E n) st S 108 [.agg c.enc]=some (.int .i64 e,S):=by
 obtain⟨m,rfl⟩:∃m,n=m+1:=⟨n-1,by omega⟩
 have hp:=Cnd.pure c
 have c1:=levels_c 1048576 m c hb (by omega) (by omega)
 have c2:=Size_c 1048576 m c hb (by omega) (by omega)
 obtain⟨e,hk,c3⟩:=parts20_c 1048576 m c hw hb (by omega) (by omega)
 generalize c.lev=lv at*
 generalize c.siz=sz at*
 obtain⟨K,hK⟩:∃K:Int->Prop,∀e,K e↔(e=0->c.KG):=⟨_,λ_=>Iff.rfl⟩
 have hk':K e:=(hK e).2 hk
 have hkn:∀e,e≠0->K e:=λe h=>(hK e).2 λh0=>absurd h0 h
 clear hk
 cases c with |mk k l lx u v pf pt pd t tx=>?_
 simp only[Cnd.enc]at hp c1 c2 c3 ⊢
 have:WO (Yb E (m+1) 108 [.agg [.int .i64 k,.sl 8 (Cnd.encs l) lx,.int .i64 u,.int .i64 v,.int .i64 pf,.int .i64 pt,.int .i64 pd,.sl 1 (t.map Cnd.encT) tx]] []) λd T=>∃e:Int,d=.int .i64 e/\K e:=by
  refine Ye Tryz.func108 rfl (by decide) rfl 13 rfl (λa hal ha=>?_)
  have h0:=aQ1 ha
  clear ha
  by_cases q1:(8:Int)<lv <;> by_cases q2:(128:Int)<sz <;>
   (simp only[push_cast,Vn,hal,h0,c1,c2,c3,q1,q2,Tryz.f108,↓WX,simprocAttr]
    first |exact⟨_,rfl,hk'⟩ |exact⟨_,rfl,hkn _ (by decide)⟩)
 obtain⟨_,T,ho,e,rfl,he⟩:=this
 exact⟨e,(hK e).1 he,λst S=>Yd rfl (by rw[Yc,D.pure,hp];rfl) ho rfl⟩
end
def FS (T:List Ob) (a:Option D) (m z:Nat):Prop:=∃d fs,a=some d/\GL 2 encF T d fs/\fs.length<=m/\∀f∈fs,f.2.size<=z
def FR (d:D) (m z:Nat):Prop:=∃fs:List (Int×ByteArray),FZ d fs/\fs.length<=m/\∀f∈fs,f.2.size<=z
theorem GL_fz {T:List Ob} {d:D} {fs:List (Int×ByteArray)} (h:GL 2 encF T d fs):∃d',Xp T 40 d=some d'/\FZ d' fs:=by
 rcases h with ⟨rfl,rfl⟩ | ⟨k,rfl,hk⟩
 ·exact⟨_,rfl,.inl ⟨rfl,rfl⟩⟩
 ·have:=freeze_os (n:=38) (x:=false) hk (encF_pure fs)
  rw[Uq]at this
  exact⟨_,this,.inr ⟨_,rfl⟩⟩
theorem app_s {T:List Ob} {d:D} {fs:List (Int×ByteArray)} {z:Nat} (h:GL 2 encF T d fs) (hl:fs.length<=4999999999999) (hz:∀f∈fs,f.2.size<=z) (b:Bool) (e:Int) (s:ByteArray) (hs:s.size<=z):
  ∃d' T' fs',(b=true->Zb Tryz.prog T 51 51 d (.sl 2 [[.int .i64 e,.str s]] true)=some (d',T'))/\(b=false->d'=d/\T'=T)/\GL 2 encF T' d' fs'/\fs'.length<=fs.length+1/\(∀f∈fs',f.2.size<=z)/\KeepF T T':=by
 obtain⟨d',T',h1,h2,h3,h4⟩:=app_if h (by omega) b e s
 refine⟨d',T',_,h1,h2,h3,by rw[Ku];have:=ifF_len b e s;omega,λf hf=>?_,h4⟩
 rcases List.mem_append.1 hf with hf |hf
 ·exact hz f hf
 ·unfold ifF at hf
  cases b
  ·simp at hf
  ·have:f=(e,s):=by simpa using hf
   rw[this];exact hs
abbrev SZ (P:Prop) (fs:List (Int×ByteArray)) (z:Nat):Prop:=(∀f∈fs,f.2.size<=z)/\(fs=[]->P)
theorem SZ.mono {P Q:Prop} {fs:List (Int×ByteArray)} {z:Nat} (h:SZ P fs z) (f:P->Q):SZ Q fs z:=⟨h.1,λe=>f (h.2 e)⟩
theorem SZ.any {P:Prop} {fs:List (Int×ByteArray)} {z:Nat} (h:SZ False fs z):SZ P fs z:=h.mono False.elim
theorem SZ.nil {P:Prop} {z:Nat} (h:P):SZ P [] z:=⟨λf h=>(by cases h),λ_=>h⟩
def FSP (P:Prop) (T:List Ob) (a:Option D) (m z:Nat):Prop:=∃d fs,a=some d/\GL 2 encF T d fs/\fs.length<=m/\SZ P fs z
def FRP (P:Prop) (d:D) (m z:Nat):Prop:=∃fs:List (Int×ByteArray),FZ d fs/\fs.length<=m/\SZ P fs z
theorem FRP.fr {P:Prop} {d:D} {m z:Nat} (h:FRP P d m z):FR d m z:=by
 obtain⟨fs,h1,h2,h3⟩:=h
 exact⟨fs,h1,h2,h3.1⟩
theorem app_sP {P:Prop} {T:List Ob} {d:D} {fs:List (Int×ByteArray)} {z:Nat} (h:GL 2 encF T d fs) (hl:fs.length<=4999999999999) (hz:SZ P fs z) (b:Bool) (e:Int) (s:ByteArray) (hs:s.size<=z):
  ∃d' T' fs',(b=true->Zb Tryz.prog T 51 51 d (.sl 2 [[.int .i64 e,.str s]] true)=some (d',T')/\SZ False fs' z)/\(b=false->d'=d/\T'=T)/\GL 2 encF T' d' fs'/\fs'.length<=fs.length+1/\SZ P fs' z/\KeepF T T':=by
 obtain⟨d',T',h1,h2,h3,h4⟩:=app_if h (by omega) b e s
 have hsz:∀f∈fs++ifF b e s,f.2.size<=z:=λf hf=>by
  rcases List.mem_append.1 hf with hf |hf
  ·exact hz.1 f hf
  ·unfold ifF at hf
   cases b
   ·simp at hf
   ·have:f=(e,s):=by simpa using hf
    rw[this];exact hs
 refine⟨d',T',_,λhb=>⟨h1 hb,hsz,λhf=>?_⟩,h2,h3,by rw[Ku];have:=ifF_len b e s;omega,⟨hsz,λhf=>hz.2 (List.append_eq_nil_iff.1 hf).1⟩,h4⟩
 subst hb
 cases (List.append_eq_nil_iff.1 hf).2
theorem encZ_pure (l:List Int):Zc (l.map encZ)=true:=by
 induction l with
 |nil=>rfl
 |cons f fs ih=>rw[Uy,Zw,ih];rfl
def combT:ByteArray:=ByteArray.mk #[99,111,109,98,105,110,101,32]
section
variable {n : Nat}
theorem list21_d {l:List Int} {lx:Bool} (hl:l.length<=1048576) (hn:1048700<=n):
  WO (Yb E (n+1) 109 [.sl 1 (l.map encZ) lx] []) λd T=>∃fs,GL 2 encF T d fs/\fs.length<=2*l.length/\∀f∈fs,f.2.size<=30:=by
 refine Ye Tryz.func109 rfl (by decide) rfl 58 rfl (λa hal ha=>?_)
 have h0:=aQ1 ha
 clear ha
 simp only[push_cast,↓WX,simprocAttr]
 refine Yk (λi a T=>FS T a[3]? (2*i) 30/\a.length=58/\a[0]?=some (.sl 1 (l.map encZ) lx)/\a[4]?=some (.int .i64 i)) l.length ?_ (by omega) ?_
 ·simp only[push_cast,hal,h0,FS,simprocAttr,WY]
  exact⟨_,_,rfl,GL.nil,Vt _,λf h=>by cases h⟩
 rintro i a T hi ⟨⟨d,fs,h3,hg,hfl,hfz⟩,hal,h0,h4⟩
 rcases Kw hi with hlt |rfl
 case inr=>
  simp only[push_cast,hal,h0,h3,h4,Tryz.f109,↓WX,simprocAttr,WY]
  exact⟨fs,hg,hfl,hfz⟩
 obtain⟨x,hx⟩:∃x,l[i]?=some x:=⟨l[i],by simp⟩
 have hltc:(i:Int)<l.length:=by omega
 obtain⟨q,hq,cq⟩:=Wb.rdecW (n:=n) (i:=i) (by omega) (by omega)
 have hsz:combT.size=8:=rfl
 have mq:=mx_of (a:=combT) (b:=q) (by omega)
 have hat:(combT++q).size<=30:=by rw[ba_len];omega
 unfold combT at mq
 refine Ya (λa V=>V=T/\gQ a 58 (a[4]?=some (.int .i64 i)) [(0,.sl 1 (l.map encZ) lx),(3,d)]) ?_ ?_
 ·simp only[push_cast,hal,h0,h3,h4,hltc,↓WX,simprocAttr]
 rintro a V ⟨rfl,hal,h0,h3,h4⟩
 rw[Zx,Yx]
 refine Ya (λa W=>W=V/\gQ a 58 (a[6]?=some (.bool false)) [(0,.sl 1 (l.map encZ) lx),(3,d),(4,.int .i64 i),(5,.str (combT++q))]) ?_ ?_
 ·unfold combT
  simp only[push_cast,Vn,hal,h0,h3,h4,cq,mq,↓WX,simprocAttr]
 rintro a W ⟨rfl,hal,h0,h3,h4,h5,h6⟩
 generalize combT++q=at0 at*
 refine Ya (λa V=>(V=W/\∃b,a[6]?=some (.bool b))/\gQ a 58 (a[5]?=some (.str at0)) [(0,.sl 1 (l.map encZ) lx),(3,d),(4,.int .i64 i)]) ?_ ?_
 ·simp only[push_cast,↓WX,simprocAttr]
  refine Yk (λk a V=>(V=W/\∃b,a[6]?=some (.bool b))/\a.length=58/\a[0]?=some (.sl 1 (l.map encZ) lx)/\a[3]?=some (d)/\a[4]?=some (.int .i64 i)/\a[5]?=some (.str at0)/\a[7]?=some (.int .i64 k)) i ?_ (by omega) ?_
  ·simp only[push_cast,hal,h0,h3,h4,h5,h6,simprocAttr,WY]
   exact⟨_,rfl⟩
  rintro k a V hk ⟨⟨rfl,b,h6⟩,hal,h0,h3,h4,h5,h7⟩
  rcases Kw hk with hkt |rfl
  case inr=>
   simp only[push_cast,hal,h0,h3,h4,h5,h6,h7,↓WX,simprocAttr,WY]
   exact⟨_,rfl⟩
  obtain⟨y,hy⟩:∃y,l[k]?=some y:=⟨l[k]'(by omega),by simp⟩
  have hktc:(k:Int)<i:=by omega
  have hkl:k<l.length:=by omega
  cases b
  ·simp(disch:=omega)only[push_cast,hal,h0,h3,h4,h5,h6,h7,hktc,hkt,hx,hy,Yf,↓WX,simprocAttr,WY]
   exact⟨_,rfl⟩
  ·simp(disch:=omega)only[push_cast,hal,h0,h3,h4,h5,h6,h7,hktc,hkt,Yf,↓WX,simprocAttr,WY]
   exact⟨_,rfl⟩
 rintro a V ⟨⟨rfl,b,h6⟩,hal,h0,h3,h4,h5⟩
 refine Ya (λa V'=>FS V' a[3]? (2*i+1) 30/\gQ a 58 (a[6]?=some (.bool b)) [(0,.sl 1 (l.map encZ) lx),(4,.int .i64 i),(5,.str at0)]) ?_ ?_
 ·obtain⟨d1,T1,fs1,p1,q1,g1,l1,z1,k1⟩:=app_s hg (by omega) hfz true 2 at0 hat
  replace p1:=p1 rfl
  by_cases c1:x<1
  ·simp only[push_cast,hal,h0,h3,h4,h5,h6,hx,c1,p1,FS,↓WX,simprocAttr]
   exact⟨_,_,rfl,g1,by omega,z1⟩
  by_cases c2:9999<x
  ·simp only[push_cast,Vn,hal,h0,h3,h4,h5,h6,hx,c1,c2,p1,FS,↓WX,simprocAttr]
   exact⟨_,_,rfl,g1,by omega,z1⟩
  simp only[push_cast,Vn,hal,h0,h3,h4,h5,h6,hx,c1,c2,FS,↓WX,simprocAttr]
  exact⟨_,_,rfl,hg,by omega,hfz⟩
 rintro a V' ⟨⟨d1,fs1,h3,g1,l1,z1⟩,hal,h0,h4,h5,h6⟩
 obtain⟨d2,T2,fs2,p2,q2,g2,l2,z2,k2⟩:=app_s g1 (by omega) z1 b 6 at0 hat
 cases b
 ·simp(disch:=omega)only[push_cast,hal,h0,h3,h4,h6,Yf,FS,↓WX,simprocAttr,WY]
  exact⟨hlt,_,_,rfl,g1,by omega,z1⟩
 ·replace p2:=p2 rfl
  simp(disch:=omega)only[push_cast,hal,h0,h3,h4,h5,h6,p2,Yf,FS,↓WX,simprocAttr,WY]
  exact⟨hlt,_,_,rfl,g2,by omega,z2⟩
theorem list21_c {l:List Int} {lx:Bool} (hl:l.length<=1048576) (hn:1048701<=n):∃d,FR d (2*l.length) 30/\∀st S,Yi E (Yb E n) st S 109 [.sl 1 (l.map encZ) lx]=some (d,S):=by
 obtain⟨m,rfl⟩:∃m,n=m+1:=⟨n-1,by omega⟩
 obtain⟨d,T,ho,fs,hg,h1,h2⟩:=list21_d (n:=m) (lx:=lx) hl (by omega)
 obtain⟨d',f,hz⟩:=GL_fz hg
 exact⟨d',⟨fs,hz,h1,h2⟩,λst S=>Yd rfl (by simp[Yc,Yg,D.pure,encZ_pure]) ho f⟩
end
end Go.Proofs.YtaklebjoenophaaGreat.Dm
