/-
  Small functions that a price asks: near, times, covers; local times, days; surcharges.
  The reference's percentages and surcharges: they answer.
  The reference's levels of surcharges, local times and days: they answer.
  The machine at the reference's violations of configurations.
  The machine at the reference's violations of configurations: cabins, and all.
  The reference's violations of configurations, of any size that the bound allows.
  The reference's violations of configurations of any size: a list, and empty only where the configurations are small.
  The reference's violations of cabins and of configurations of any size: none, then they are small.
  The machine at minimum connecting times: Check and Fits, the program's and the reference's.
  The example of the prices holds: a closed run.
-/
import Derived.Test.YtaklebjoenophaaGreatEnvB
import Derived.Test.YtaklebjoenophaaGreatWq
set_option maxHeartbeats 64000000
set_option maxRecDepth 100000
set_option linter.unusedSimpArgs false
set_option linter.unusedVariables false
namespace Go.Proofs.YtaklebjoenophaaGreat.Dm
open Go Gw
structure Wnt where
 car:ByteArray
 num:Int
 day:Int
 fr:ByteArray
 to:ByteArray
 dep:Int
 arr:Int
 cls:ByteArray
def Wnt.enc (w:Wnt):List D:=[.str w.car,.int .i64 w.num,.int .i64 w.day,.str w.fr,.str w.to,.int .i64 w.dep,.int .i64 w.arr,.str w.cls]
theorem Wnt_pure (r:Wnt):Yp r.enc=true:=rfl
theorem Jd (l:List Wnt):Zc (l.map Wnt.enc)=true:=by
 induction l with
 |nil=>rfl
 |cons f fs ih=>rw[Uy,Zw,ih,Wnt_pure];rfl
def Wnt.tm (w:Wnt):Prop:=0<=w.dep/\w.dep<52596000/\0<=w.arr/\w.arr<52596000
def cvF:List Prt->Int->Int->Bool
 | [],k,n=>decide (k=n)
 |x::xs,k,n=>if x.fr=k/\k<x.to/\x.to<=n then cvF xs x.to n else false
theorem cvF_drop {l:List Prt} {i:Nat} {x:Prt} (hx:l[i]?=some x) (k n:Int):cvF (l.drop i) k n=if x.fr=k/\k<x.to/\x.to<=n then cvF (l.drop (i+1)) x.to n else false:=by
 obtain⟨ha,rfl⟩:=Kr.1 hx
 rw[List.drop_eq_getElem_cons ha]
 rfl
section
variable {n : Nat}
theorem near28_c (hn:1<=n) (x:Int):∃b,(b=true-> -1099511627776<=x/\x<=1099511627776)/\∀st S,Yi E (Yb E n) st S 18 [.int .i64 x]=some (.bool b,S):=by
 obtain⟨m,rfl⟩:∃m,n=m+1:=⟨n-1,by omega⟩
 have:WO (Yb E (m+1) 18 [.int .i64 x] []) λr T=>∃b,r=.bool b/\(b=true-> -1099511627776<=x/\x<=1099511627776):=by
  refine Ye Tryz.func18 rfl (by decide) rfl 9 rfl (λa hal ha=>?_)
  have h0:=aQ1 ha
  clear ha
  by_cases c1:x>= -1099511627776
  case neg=>
   have d1:decide (x>= -1099511627776)=false:=Ud c1
   simp only[push_cast,hal,h0,d1,Tryz.f18,↓WX,simprocAttr]
   exact⟨_,rfl,λh=>by cases h⟩
  have d1:decide (x>= -1099511627776)=true:=Ue c1
  by_cases c2:x<=1099511627776
  case neg=>
   have d2:decide (x<=1099511627776)=false:=Ud c2
   simp only[push_cast,hal,h0,d1,d2,Tryz.f18,↓WX,simprocAttr]
   exact⟨_,rfl,λh=>by cases h⟩
  have d2:decide (x<=1099511627776)=true:=Ue c2
  simp only[push_cast,hal,h0,d1,d2,Tryz.f18,↓WX,simprocAttr]
  exact⟨_,rfl,λ_=>⟨c1,c2⟩⟩
 obtain⟨_,T,ho,b,rfl,hb⟩:=this
 exact⟨b,hb,λst S=>Yd rfl rfl ho rfl⟩
theorem times28_c (l:List Wnt) (lx:Bool) (hl:l.length<=1048576) (hn:1048580<=n):∃b,(b=true->∀w∈l,w.tm)/\∀st S,Yi E (Yb E n) st S 19 [.sl 8 (l.map Wnt.enc) lx]=some (.bool b,S):=by
 obtain⟨m,rfl⟩:∃m,n=m+1:=⟨n-1,by omega⟩
 have:WO (Yb E (m+1) 19 [.sl 8 (l.map Wnt.enc) lx] []) λr T=>∃b,r=.bool b/\(b=true->∀w∈l,w.tm):=by
  refine Ye Tryz.func19 rfl (by decide) rfl 44 rfl (λa hal ha=>?_)
  have h0:=aQ1 ha
  clear ha
  simp only[push_cast,↓WX,simprocAttr]
  refine Yk (λi a T=>(T=[]/\∀w∈l.take i,w.tm)/\a.length=44/\a[0]?=some (.sl 8 (l.map Wnt.enc) lx)/\a[3]?=some (.int .i64 i)) l.length ?_ (by omega) ?_
  ·simp only[push_cast,hal,h0,simprocAttr,WY]
   exact λw hw=>by cases hw
  rintro i a T hi ⟨⟨rfl,e⟩,hal,h0,h3⟩
  rcases Kw hi with hlt |rfl
  case inr=>
   simp only[push_cast,hal,h0,h3,Tryz.f19,↓WX,simprocAttr,WY]
   exact⟨_,rfl,λ_=>by rw[Vi]at e;exact e⟩
  have hltc:(i:Int)<l.length:=by omega
  obtain⟨x,hx⟩:∃x,l[i]?=some x:=⟨l[i],by simp⟩
  by_cases c1:x.dep<0
  ·have d1:decide (x.dep<0)=true:=Ue c1
   simp only[push_cast,hal,h0,h3,hltc,hx,d1,Wnt.enc,Tryz.f19,↓WX,simprocAttr]
   exact⟨_,rfl,λh=>by cases h⟩
  have d1:decide (x.dep<0)=false:=Ud c1
  by_cases c2:x.dep>=52596000
  ·have d2:decide (x.dep>=52596000)=true:=Ue c2
   simp only[push_cast,hal,h0,h3,hltc,hx,d1,d2,Wnt.enc,Tryz.f19,↓WX,simprocAttr]
   exact⟨_,rfl,λh=>by cases h⟩
  have d2:decide (x.dep>=52596000)=false:=Ud c2
  by_cases c3:x.arr<0
  ·have d3:decide (x.arr<0)=true:=Ue c3
   simp only[push_cast,hal,h0,h3,hltc,hx,d1,d2,d3,Wnt.enc,Tryz.f19,↓WX,simprocAttr]
   exact⟨_,rfl,λh=>by cases h⟩
  have d3:decide (x.arr<0)=false:=Ud c3
  by_cases c4:x.arr>=52596000
  ·have d4:decide (x.arr>=52596000)=true:=Ue c4
   simp only[push_cast,hal,h0,h3,hltc,hx,d1,d2,d3,d4,Wnt.enc,Tryz.f19,↓WX,simprocAttr]
   exact⟨_,rfl,λh=>by cases h⟩
  have d4:decide (x.arr>=52596000)=false:=Ud c4
  simp(disch:=omega)only[push_cast,hal,h0,h3,hltc,hlt,hx,d1,d2,d3,d4,Wnt.enc,Yf,↓WX,simprocAttr,WY]
  intro w hw
  rw[List.take_add_one,hx]at hw
  rcases List.mem_append.1 hw with hw |hw
  ·exact e w hw
  ·obtain rfl:w=x:=by simpa using hw
   exact⟨by omega,by omega,by omega,by omega⟩
 obtain⟨_,T,ho,b,rfl,hb⟩:=this
 exact⟨b,hb,λst S=>Yd rfl (by simp only[Yc,Yg,D.pure,Jd,Ua]) ho rfl⟩
theorem covers28_c (l:List Prt) (lx:Bool) (k:Int) (hl:l.length<=1048576) (hn:1048580<=n):∀st S,Yi E (Yb E n) st S 32 [.sl 4 (l.map Prt.enc) lx,.int .i64 k]=some (.bool (cvF l 0 k),S):=by
 obtain⟨m,rfl⟩:∃m,n=m+1:=⟨n-1,by omega⟩
 have:WO (Yb E (m+1) 32 [.sl 4 (l.map Prt.enc) lx,.int .i64 k] []) λr T=>r=.bool (cvF l 0 k):=by
  refine Ye Tryz.func32 rfl (by decide) rfl 46 rfl (λa hal ha=>?_)
  obtain⟨h0,h1⟩:=aQ2 ha
  clear ha
  simp only[push_cast,↓WX,simprocAttr]
  refine Yk (λi a T=>(T=[]/\∃t:Int,a[5]?=some (.int .i64 t)/\cvF l 0 k=cvF (l.drop i) t k)/\a.length=46/\a[0]?=some (.sl 4 (l.map Prt.enc) lx)/\a[1]?=some (.int .i64 k)/\a[6]?=some (.int .i64 i)) l.length ?_ (by omega) ?_
  ·simp only[push_cast,hal,h0,h1,simprocAttr,WY]
   exact⟨_,rfl,rfl⟩
  rintro i a T hi ⟨⟨rfl,t,h5,e⟩,hal,h0,h1,h6⟩
  rcases Kw hi with hlt |rfl
  case inr=>
   simp only[push_cast,hal,h0,h1,h5,h6,Tryz.f32,↓WX,simprocAttr,WY]
   rw[e,List.drop_of_length_le (Uk _)]
   rfl
  have hltc:(i:Int)<l.length:=by omega
  obtain⟨x,hx⟩:∃x,l[i]?=some x:=⟨l[i],by simp⟩
  rw[cvF_drop hx]at e
  by_cases c1:x.fr=t
  case neg=>
   have d1:decide (x.fr=t)=false:=Ud c1
   rw[if_neg (λh=>c1 h.1)]at e
   simp only[push_cast,decide_not,hal,h0,h5,h6,hltc,hx,d1,Prt.enc,Tryz.f32,↓WX,simprocAttr,WY]
   rw[e]
  have d1:decide (x.fr=t)=true:=Ue c1
  by_cases c2:x.to<=t
  ·have d2:decide (x.to<=t)=true:=Ue c2
   rw[if_neg (λh=>by omega)]at e
   simp only[push_cast,decide_not,hal,h0,h5,h6,hltc,hx,d1,d2,Prt.enc,Tryz.f32,↓WX,simprocAttr,WY]
   rw[e]
  have d2:decide (x.to<=t)=false:=Ud c2
  by_cases c3:x.to>k
  ·have d3:decide (x.to>k)=true:=Ue c3
   rw[if_neg (λh=>by omega)]at e
   simp only[push_cast,decide_not,Vn,hal,h0,h1,h5,h6,hltc,hx,d1,d2,d3,Prt.enc,Tryz.f32,↓WX,simprocAttr,WY]
   rw[e]
  have d3:decide (x.to>k)=false:=Ud c3
  rw[if_pos ⟨c1,by omega,by omega⟩]at e
  simp(disch:=omega)only[push_cast,decide_not,Vn,hal,h0,h1,h5,h6,hltc,hlt,hx,d1,d2,d3,Prt.enc,Yf,↓WX,simprocAttr,WY]
  exact⟨_,rfl,e⟩
 obtain⟨_,T,ho,rfl⟩:=this
 exact λst S=>Yd rfl (by simp only[Yc,Yg,D.pure,Jr,Ua]) ho rfl
end
section
variable {n : Nat}
theorem amount02_c (hn:1<=n) (x:Int):∃b,(b=true-> -1099511627776<=x/\x<=1099511627776)/\∀st S,Yi E (Yb E n) st S 193 [.int .i64 x]=some (.bool b,S):=by
 obtain⟨m,rfl⟩:∃m,n=m+1:=⟨n-1,by omega⟩
 have:WO (Yb E (m+1) 193 [.int .i64 x] []) λr T=>∃b,r=.bool b/\(b=true-> -1099511627776<=x/\x<=1099511627776):=by
  refine Ye Tryz.func193 rfl (by decide) rfl 9 rfl (λa hal ha=>?_)
  have h0:=aQ1 ha
  clear ha
  by_cases c1:x>= -1099511627776
  case neg=>
   have d1:decide (x>= -1099511627776)=false:=Ud c1
   simp only[push_cast,hal,h0,d1,Tryz.f193,↓WX,simprocAttr]
   exact⟨_,rfl,λh=>by cases h⟩
  have d1:decide (x>= -1099511627776)=true:=Ue c1
  by_cases c2:x<=1099511627776
  case neg=>
   have d2:decide (x<=1099511627776)=false:=Ud c2
   simp only[push_cast,hal,h0,d1,d2,Tryz.f193,↓WX,simprocAttr]
   exact⟨_,rfl,λh=>by cases h⟩
  have d2:decide (x<=1099511627776)=true:=Ue c2
  simp only[push_cast,hal,h0,d1,d2,Tryz.f193,↓WX,simprocAttr]
  exact⟨_,rfl,λ_=>⟨c1,c2⟩⟩
 obtain⟨_,T,ho,b,rfl,hb⟩:=this
 exact⟨b,hb,λst S=>Yd rfl rfl ho rfl⟩
theorem floor02_c (hn:1<=n) (x y:Int) (hy:0<y):∃q r:Int,∀st S,Yi E (Yb E n) st S 194 [.int .i64 x,.int .i64 y]=some (.tup [.int .i64 q,.int .i64 r],S):=by
 obtain⟨m,rfl⟩:∃m,n=m+1:=⟨n-1,by omega⟩
 have:WO (Yb E (m+1) 194 [.int .i64 x,.int .i64 y] []) λr T=>∃p q:Int,r=.tup [.int .i64 p,.int .i64 q]:=by
  refine Ye Tryz.func194 rfl (by decide) rfl 23 rfl (λa hal ha=>?_)
  obtain⟨h0,h1⟩:=aQ2 ha
  clear ha
  have hy0:¬y=0:=by omega
  by_cases c1:x.tmod y<0
  ·simp only[push_cast,hal,h0,h1,hy0,c1,Tryz.f194,↓WX,simprocAttr]
   exact⟨_,_,rfl⟩
  ·simp only[push_cast,hal,h0,h1,hy0,c1,Tryz.f194,↓WX,simprocAttr]
   exact⟨_,_,rfl⟩
 obtain⟨_,T,ho,q,r,rfl⟩:=this
 exact⟨q,r,λst S=>Yd rfl rfl ho rfl⟩
theorem size02_c (hn:1<=n) (x:Int):∃z:Int,((-1099511627776<=x/\x<=1099511627776/\x≠0)->0<z)/\∀st S,Yi E (Yb E n) st S 195 [.int .i64 x]=some (.int .i64 z,S):=by
 obtain⟨m,rfl⟩:∃m,n=m+1:=⟨n-1,by omega⟩
 have:WO (Yb E (m+1) 195 [.int .i64 x] []) λr T=>∃z:Int,r=.int .i64 z/\((-1099511627776<=x/\x<=1099511627776/\x≠0)->0<z):=by
  refine Ye Tryz.func195 rfl (by decide) rfl 8 rfl (λa hal ha=>?_)
  have h0:=aQ1 ha
  clear ha
  by_cases c1:x<0
  ·simp only[push_cast,ne_eq,hal,h0,c1,Tryz.f195,↓WX,simprocAttr]
   refine⟨_,rfl,λh=>?_⟩
   rw[Yf (by omega) (by omega)]
   omega
  ·simp only[push_cast,ne_eq,hal,h0,c1,Tryz.f195,↓WX,simprocAttr]
   exact⟨_,rfl,λh=>by omega⟩
 obtain⟨_,T,ho,z,rfl,hz⟩:=this
 exact⟨z,hz,λst S=>Yd rfl rfl ho rfl⟩
theorem percent02_c (hn:2<=n) (x y:Int):∃q e:Int,∀st S,Yi E (Yb E n) st S 143 [.int .i64 x,.int .i64 y]=some (.tup [.int .i64 q,.int .i64 e],S):=by
 obtain⟨m,rfl⟩:∃m,n=m+1:=⟨n-1,by omega⟩
 obtain⟨b1,hb1,k1⟩:=amount02_c (n:=m) (by omega) x
 obtain⟨b2,hb2,k2⟩:=amount02_c (n:=m) (by omega) y
 obtain⟨q1,r1,k3⟩:=floor02_c (n:=m) (by omega) y 10000 (by omega)
 obtain⟨z1,hz1,k4⟩:=size02_c (n:=m) (by omega) q1
 obtain⟨z2,hz2,k5⟩:=size02_c (n:=m) (by omega) x
 have:WO (Yb E (m+1) 143 [.int .i64 x,.int .i64 y] []) λr T=>∃p q:Int,r=.tup [.int .i64 p,.int .i64 q]:=by
  refine Ye Tryz.func143 rfl (by decide) rfl 54 rfl (λa hal ha=>?_)
  obtain⟨h0,h1⟩:=aQ2 ha
  clear ha
  cases b1
  ·simp only[push_cast,hal,h0,k1,Tryz.f143,↓WX,simprocAttr,WY]
   exact⟨_,_,rfl⟩
  cases b2
  ·simp only[push_cast,hal,h0,h1,k1,k2,Tryz.f143,↓WX,simprocAttr,WY]
   exact⟨_,_,rfl⟩
  have hx:=hb1 rfl
  refine Ya (λa V=>V=[]/\gQ a 54 (a[1]?=some (.int .i64 y)) [(0,.int .i64 x)]) ?_ ?_
  ·simp only[push_cast,hal,h0,h1,↓WX,simprocAttr]
  rintro a V ⟨rfl,hal,h0,h1⟩
  refine Ya (λa V=>V=[]/\gQ a 54 (a[1]?=some (.int .i64 y)) [(0,.int .i64 x)]) ?_ ?_
  ·simp only[push_cast,hal,h0,h1,k1,k2,↓WX,simprocAttr,WY]
  rintro a V ⟨rfl,hal,h0,h1⟩
  refine Ya (λa V=>V=[]/\gQ a 54 (a[7]?=some (.int .i64 r1)) [(0,.int .i64 x),(1,.int .i64 y),(6,.int .i64 q1)]) ?_ ?_
  ·simp only[push_cast,hal,h0,h1,k3,↓WX,simprocAttr]
  rintro a V ⟨rfl,hal,h0,h1,h6,h7⟩
  obtain⟨fq,fr,hf⟩:∃fq fr:Int->Int,∀(x:Int) st S,Yi E (Yb E m) st S 194 [.int .i64 x,.int .i64 20000]=some (.tup [.int .i64 (fq x),.int .i64 (fr x)],S):=
   ⟨λx=>(floor02_c (n:=m) (by omega) x 20000 (by omega)).choose,λx=>(floor02_c (n:=m) (by omega) x 20000 (by omega)).choose_spec.choose,λx=>(floor02_c (n:=m) (by omega) x 20000 (by omega)).choose_spec.choose_spec⟩
  obtain⟨fb,hfb⟩:∃fb:Int->Bool,∀(x:Int) st S,Yi E (Yb E m) st S 193 [.int .i64 x]=some (.bool (fb x),S):=
   ⟨λx=>(amount02_c (n:=m) (by omega) x).choose,λx=>(amount02_c (n:=m) (by omega) x).choose_spec.2⟩
  have hz0:x≠0->¬z2=0:=λh=>by have:=hz2 ⟨by omega,by omega,h⟩;omega
  by_cases c3:x=0
  ·have d3:decide (x=0)=true:=Ue c3
   refine Ya (λa V=>V=[]/\gQ a 54 (a[7]?=some (.int .i64 r1)) [(0,.int .i64 x),(6,.int .i64 q1)]) ?_ ?_
   ·simp only[push_cast,decide_not,hal,h0,h6,h7,d3,↓WX,simprocAttr,WY]
   rintro a V ⟨rfl,hal,h0,h6,h7⟩
   refine Ya (λa V=>V=[]/\(∃z,a[8]?=some (.int .i64 z))/\gQ a 54 (a[6]?=some (.int .i64 q1)) [(0,.int .i64 x)]) ?_ ?_
   ·simp only[push_cast,hal,h0,h6,h7,hf,↓WX,simprocAttr]
    exact⟨_,rfl⟩
   rintro a V ⟨rfl,⟨z,h8⟩,hal,h0,h6⟩
   cases e:fb (IntKind.i64.wrap (IntKind.i64.wrap (x*q1)+z))
   ·simp only[push_cast,hal,h0,h6,h8,hfb,e,Tryz.f143,↓WX,simprocAttr,WY]
    exact⟨_,_,rfl⟩
   ·simp only[push_cast,hal,h0,h6,h8,hfb,e,Tryz.f143,↓WX,simprocAttr,WY]
    exact⟨_,_,rfl⟩
  ·have d3:decide (x=0)=false:=Ud c3
   have hz3:=hz0 c3
   cases e3:decide (z1>IntKind.i64.wrap (Int.tdiv 2199023255552 z2))
   case true=>
    simp only[push_cast,decide_not,Vn,hal,h0,h6,d3,k4,k5,hz3,e3,Tryz.f143,↓WX,simprocAttr,WY]
    exact⟨_,_,rfl⟩
   refine Ya (λa V=>V=[]/\gQ a 54 (a[7]?=some (.int .i64 r1)) [(0,.int .i64 x),(6,.int .i64 q1)]) ?_ ?_
   ·simp only[push_cast,decide_not,Vn,hal,h0,h6,h7,d3,k4,k5,hz3,e3,↓WX,simprocAttr,WY]
   rintro a V ⟨rfl,hal,h0,h6,h7⟩
   refine Ya (λa V=>V=[]/\(∃z,a[8]?=some (.int .i64 z))/\gQ a 54 (a[6]?=some (.int .i64 q1)) [(0,.int .i64 x)]) ?_ ?_
   ·simp only[push_cast,hal,h0,h6,h7,hf,↓WX,simprocAttr]
    exact⟨_,rfl⟩
   rintro a V ⟨rfl,⟨z,h8⟩,hal,h0,h6⟩
   cases e:fb (IntKind.i64.wrap (IntKind.i64.wrap (x*q1)+z))
   ·simp only[push_cast,hal,h0,h6,h8,hfb,e,Tryz.f143,↓WX,simprocAttr,WY]
    exact⟨_,_,rfl⟩
   ·simp only[push_cast,hal,h0,h6,h8,hfb,e,Tryz.f143,↓WX,simprocAttr,WY]
    exact⟨_,_,rfl⟩
 obtain⟨_,T,ho,q,r,rfl⟩:=this
 exact⟨q,r,λst S=>Yd rfl rfl ho rfl⟩
end
section
variable {n : Nat}
end
/-! ### Appends of violations -/
theorem sz_fault:Yw Tryz.prog 112=some 2:=by kernel_rfl
theorem ze_fault:Ji Tryz.prog 112=some (.agg [.int .i64 0,.str (ByteArray.mk #[])]):=by kernel_rfl
theorem by_fault24:Kl Tryz.prog 112=24:=by kernel_rfl
def FaultOb (o:Ob):Prop:=∃fs:List (Int×ByteArray),o=.row 2 (fs.map encF)
def KeepF (T T':List Ob):Prop:=∀(j:Nat) (ob:Ob),¬FaultOb ob->T[j]?=some ob->T'[j]?=some ob
theorem KeepF.refl {T:List Ob}:KeepF T T:=λ_ _ _ h=>h
theorem KeepF.trans {T U V:List Ob} (h:KeepF T U) (g:KeepF U V):KeepF T V:=λj ob n hj=>g j ob n (h j ob n hj)
theorem KeepF.push {T:List Ob} {o:Ob}:KeepF T (T++[o]):=λ_ _ _ h=>Ym h
theorem not_fault2 {s:ByteArray} {d:D}:¬FaultOb (.row 2 [[.str s,d]]):=by
 rintro⟨fs,h⟩
 injection h with _ h
 cases fs with
 |nil=>cases h
 |cons f fs=>
  rw[Uy]at h
  injection h with h _
  simp[encF]at h
theorem not_fault4 {a b c d:D}:¬FaultOb (.row 4 [[a,b,c,d]]):=by
 rintro⟨fs,h⟩
 injection h with h
 omega
theorem app_if {T:List Ob} {d:D} {fs:List (Int×ByteArray)} (h:GL 2 encF T d fs) (hl:fs.length<=5000000000000) (b:Bool) (e:Int) (s:ByteArray):
  ∃d' T',(b=true->Zb Tryz.prog T 51 51 d (.sl 2 [[.int .i64 e,.str s]] true)=some (d',T'))/\(b=false->d'=d/\T'=T)/\GL 2 encF T' d' (fs++ifF b e s)/\KeepF T T':=by
 cases b
 ·exact⟨d,T,(λh=>by cases h),λ_=>⟨rfl,rfl⟩,by rw[ifF,if_neg (by simp),Ur];exact h,KeepF.refl⟩
 ·obtain⟨S',h1,h2,h3,h4,h5⟩:=app_glB el_fault sz_fault ze_fault rfl (by rw[by_fault24];omega) (by unfold maxLen;omega) h (e,s)
  refine⟨_,S',λ_=>h1,(λh=>by cases h),by rw[ifF,if_pos rfl];exact h2,λj ob hn hj=>h4 j ob (λn e=>?_) hj⟩
  rcases h with ⟨e',-⟩ | ⟨k,e',hk⟩
  ·rw[e]at e';cases e'
  ·rw[e]at e'
   cases e'
   rw[hk]at hj
   exact hn ⟨fs,(Kz hj).symm⟩
theorem app_fls {T:List Ob} {d x:D} {fs gs:List (Int×ByteArray)} (h:GL 2 encF T d fs) (hx:FLs 2 encF x gs) (hl:fs.length+gs.length<=5000000000000):
  ∃d' T',Zb Tryz.prog T 51 51 d x=some (d',T')/\GL 2 encF T' d' (fs++gs)/\KeepF T T':=by
 have hb:Kl Tryz.prog 112=24:=by kernel_rfl
 have hsrc:Jw T (1+1) x=some (gs.map encF):=by
  rcases hx with ⟨rfl,rfl⟩ | ⟨y,rfl⟩
  ·rfl
  ·simp[Jw]
 have hold:Jw T (1+1) d=some (fs.map encF):=by
  rcases h with ⟨rfl,rfl⟩ | ⟨k,rfl,hk⟩
  ·rfl
  ·have:(List.map encF fs).take fs.length=List.map encF fs:=List.take_of_length_le (by simp)
   simp[Jw,hk,this]
 by_cases hg:gs=[]
 ·subst hg
  refine⟨d,T,?_,by rw[Ur];exact h,KeepF.refl⟩
  unfold Zb
  rw[if_pos rfl,el_fault]
  dsimp only
  rw[sz_fault,ze_fault]
  dsimp only
  rw[if_pos (show (D.agg [D.int IntKind.i64 0,D.str (ByteArray.mk #[])]).cells.length=1+1 from rfl),hold,hsrc]
  simp
 ·have hgl:¬(gs.map encF).length=0:=by
   rw[Uq]
   exact λe=>hg (Ug e)
  have hm:(fs.map encF).length+(gs.map encF).length<=maxLen/\((fs.map encF).length+(gs.map encF).length)*24<=140737488355328:=by
   simp only[Uq,maxLen];omega
  rcases h with ⟨rfl,rfl⟩ | ⟨k,rfl,hk⟩
  ·refine⟨.os T.length 0 gs.length false,T++[.row 2 (gs.map encF)],?_,.inr ⟨T.length,rfl,Yl⟩,KeepF.push⟩
   unfold Zb
   rw[if_pos rfl,el_fault]
   dsimp only
   rw[sz_fault,ze_fault]
   dsimp only
   rw[if_pos (show (D.agg [D.int IntKind.i64 0,D.str (ByteArray.mk #[])]).cells.length=1+1 from rfl),hold,hsrc]
   dsimp only
   rw[if_neg hgl,hb,if_pos hm,Uq]
  ·refine⟨.os T.length 0 (fs++gs).length false,T.set k .dead++[.row 2 ((fs++gs).map encF)],?_,.inr ⟨T.length,rfl,get_end'⟩,λj ob hn hj=>?_⟩
   ·unfold Zb
    rw[if_pos rfl,el_fault]
    dsimp only
    rw[sz_fault,ze_fault]
    dsimp only
    rw[if_pos (show (D.agg [D.int IntKind.i64 0,D.str (ByteArray.mk #[])]).cells.length=1+1 from rfl),hold,hsrc]
    dsimp only
    rw[if_neg hgl,hb,if_pos hm]
    simp[hk]
   ·refine Ym ?_
    rw[Kt]
    ·exact hj
    ·rintro rfl
     rw[hk]at hj
     exact hn ⟨fs,(Kz hj).symm⟩
/-! ### Texts and numbers -/
theorem ba_len (a b:ByteArray):(a++b).size=a.size+b.size:=ByteArray.size_append
theorem mx_of {a b:ByteArray} (h:a.size+b.size<=1000):¬IntKind.i64.max<(a.size:Int)+(b.size:Int):=by
 show ¬(9223372036854775807:Int)<_
 omega
theorem lett_cls (s:ByteArray):lettS s 1=clsB s:=by
 unfold lettS clsB
 by_cases h:s.size=1
 ·rw[h]
  simp only[WY]
  obtain⟨b,hb⟩:=byte_at' (s:=s) (i:=0) (by omega)
  simp[evr,hb]
 ·rw[Ud h];rfl
theorem r01_class {n:Nat} {s:ByteArray} (hn:s.size+5<n) (hz:s.size<=9223372036854775807) (st:Bool) (S:List Ob):Yi E (Yb E n) st S 107 [.str s]=some (.bool (clsB s),S):=by
 obtain⟨m,rfl⟩:∃m,n=m+2:=⟨n-2,by omega⟩
 have q:∀st S,Yi E (Yb E (m+1)) st S 149 [.str s,.int .i64 1]=some (.bool (clsB s),S):=λst S=>by
  rw[<-lett_cls]
  exact Yd rfl rfl (Ke (letters_d (k:=1) (by omega) hz)) rfl
 have:WO (Yb E (m+2) 107 [.str s] []) λd T=>d=.bool (clsB s)/\T=[]:=by
  refine Ye Tryz.func107 rfl (by decide) rfl 5 rfl (λa hal ha=>?_)
  have h0:=aQ1 ha
  clear ha
  simp only[push_cast,decide_not,Up,decide_eq_false_iff_not,bne_eq_false_iff_eq,beq_eq_false_iff_ne,Vn,ne_eq,Vp,Vo,hal,h0,q,Tryz.f107,↓WX,simprocAttr]
 exact Yd rfl rfl (Ke this) rfl
/-! ### Classes that occur before -/
/-! ### The violations of the classes of a cabin -/
structure CfgZ (n:Nat) (c:Cfg):Prop where
 eq:c.equip.size+20<n/\c.equip.size<=9223372036854775807
 nm:∀y∈c.cabs,y.name.size+20<n/\y.name.size<=9223372036854775807
 cl:∀y∈c.cabs,∀z∈y.cls,z.code.size+20<n/\z.code.size<=9223372036854775807
namespace Wb
structure CfgB (c:Cfg):Prop where
 eq:c.equip.size<=1048576
 nm:∀y∈c.cabs,y.name.size<=1048576
 cl:∀y∈c.cabs,∀z∈y.cls,z.code.size<=1048576
 cabs:c.cabs.length<=262144
 cls:∀y∈c.cabs,y.cls.length<=1048576
theorem CfgB.z {c:Cfg} (h:CfgB c) {n:Nat} (hn:2000000<=n):CfgZ n c:=
 ⟨by have:=h.eq;omega,λy hy=>by have:=h.nm y hy;omega,λy hy z hz=>by have:=h.cl y hy z hz;omega⟩
def digs:ByteArray:=ByteArray.mk #[48,49,50,51,52,53,54,55,56,57]
theorem digW:∀(k:Nat) {n i:Nat},k<=10->i<10 ^ (k+1)->k+2<=n->∃s:ByteArray,s.size<=k+1/\∀st S,Yi E (Yb E n) st S 101 [.int .u64 i]=some (.str s,S)
 |k,n,i,hk,hi,hn=>by
  obtain⟨m,rfl⟩:∃m,n=m+1:=⟨n-1,by omega⟩
  have hbig:10 ^ (k+1)<=10 ^ 11:=Nat.pow_le_pow_right (by omega) (by omega)
  have w1:∀j:Nat,j<10->IntKind.u64.wrap ((j:Int)+1)=(j:Int)+1:=λj hj=>Int.emod_eq_of_lt (by omega) (by show (j:Int)+1<18446744073709551616;omega)
  have s1:∀j:Nat,j<10->(ByteArray.extract digs j (j+1)).size=1:=λj hj=>by
   rw[ByteArray.size_extract]
   show min (j+1) 10-j=1
   omega
  by_cases h10:i<10
  ·have:WO (Yb E (m+1) 101 [.int .u64 i] []) λd T=>d=.str (ByteArray.extract digs i (i+1)):=by
    refine Ye Tryz.func101 rfl (by decide) rfl 19 rfl (λa hal ha=>?_)
    have h0:=aQ1 ha
    clear ha
    have hc:(i:Int)<10:=by omega
    have q1:(0:Int)<=(i:Int)+1:=by omega
    have q2:((i:Int)+1).toNat=i+1:=by omega
    have q3:i<=i+1:=by omega
    have q4:i+1<=10:=by omega
    have q5:(ByteArray.mk #[48,49,50,51,52,53,54,55,56,57]).size=10:=rfl
    unfold digs
    simp only[push_cast,hal,h0,hc,w1 i h10,q1,q2,q3,q4,q5,Tryz.f101,↓WX,simprocAttr,WY]
   obtain⟨d,T,ho,rfl⟩:=this
   exact⟨_,by rw[s1 i h10];omega,λst S=>Yd rfl rfl ho rfl⟩
  ·obtain⟨k',rfl⟩:∃k',k=k'+1:=⟨k-1,by
    rcases Nat.eq_zero_or_pos k with rfl |h
    ·simp at hi;omega
    ·omega⟩
   obtain⟨s,hs,cs⟩:=digW k' (n:=m) (i:=i / 10) (by omega) (by rw[Nat.pow_succ]at hi;omega) (by omega)
   have hs2:=s1 (i % 10) (by omega)
   refine⟨s++ByteArray.extract digs (i % 10) (i % 10+1),by rw[ba_len,hs2];omega,?_⟩
   have:WO (Yb E (m+1) 101 [.int .u64 i] []) λd T=>d=.str (s++ByteArray.extract digs (i % 10) (i % 10+1)):=by
    refine Ye Tryz.func101 rfl (by decide) rfl 19 rfl (λa hal ha=>?_)
    have h0:=aQ1 ha
    clear ha
    have hc:¬(i:Int)<10:=by omega
    obtain⟨r,hr⟩:∃r,r=i % 10:=⟨_,rfl⟩
    obtain⟨q,hq⟩:∃q,q=i / 10:=⟨_,rfl⟩
    have hrl:r<10:=by omega
    have t1:(i:Int).tmod 10=r:=by rw[hr];exact (Int.ofNat_tmod i 10).symm
    have t2:IntKind.u64.wrap ((i:Int).tdiv 10)=q:=by
     rw[Int.tdiv_eq_ediv_of_nonneg (by omega),show (i:Int) / 10=(q:Nat) by omega]
     exact Int.emod_eq_of_lt (by omega) (by show (q:Int)<18446744073709551616;omega)
    have m1:=mx_of (a:=s) (b:=ByteArray.extract digs r (r+1)) (by rw[s1 r hrl];omega)
    have q1:(0:Int)<=(r:Int)+1:=by omega
    have q2:((r:Int)+1).toNat=r+1:=by omega
    have q3:r<=r+1:=by omega
    have q4:r+1<=10:=by omega
    have q5:(ByteArray.mk #[48,49,50,51,52,53,54,55,56,57]).size=10:=rfl
    rw[<-hq]at cs
    rw[<-hr]
    unfold digs at m1 ⊢
    simp only[push_cast,Vn,hal,h0,hc,t1,t2,w1 r hrl,cs,m1,q1,q2,q3,q4,q5,Tryz.f101,↓WX,simprocAttr,WY]
   obtain⟨d,T,ho,rfl⟩:=this
   exact λst S=>Yd rfl rfl ho rfl
theorem rdecW {n i:Nat} (hn:20<=n) (hi:i<1000000000):∃s:ByteArray,s.size<=10/\∀st S,Yi E (Yb E n) st S 42 [.int .i64 i]=some (.str s,S):=by
 obtain⟨m,rfl⟩:∃m,n=m+1:=⟨n-1,by omega⟩
 obtain⟨s,hs,cs⟩:=digW 9 (n:=m) (i:=i) (by omega) (by omega) (by omega)
 refine⟨s,hs,?_⟩
 have:WO (Yb E (m+1) 42 [.int .i64 i] []) λd T=>d=.str s:=by
  refine Ye Tryz.func42 rfl (by decide) rfl 15 rfl (λa hal ha=>?_)
  have h0:=aQ1 ha
  clear ha
  have hc:¬(i:Int)<0:=by omega
  have w1:IntKind.u64.wrap (i:Int)=i:=Int.emod_eq_of_lt (by omega) (by show (i:Int)<18446744073709551616;omega)
  simp only[push_cast,hal,h0,hc,w1,cs,Tryz.f42,↓WX,simprocAttr]
 obtain⟨d,T,ho,rfl⟩:=this
 exact λst S=>Yd rfl rfl ho rfl
/-! ### Classes that occur before: one answer or the other -/
end Wb
namespace Wb
theorem app_w {T:List Ob} {d:D} {fs:List (Int×ByteArray)} (h:GL 2 encF T d fs) (hl:fs.length<=4999999999999) (b:Bool) (e:Int) (s:ByteArray):
  ∃d' T' fs',(b=true->Zb Tryz.prog T 51 51 d (.sl 2 [[.int .i64 e,.str s]] true)=some (d',T'))/\(b=false->d'=d/\T'=T)/\GL 2 encF T' d' fs'/\fs'.length<=fs.length+1/\(b=true∨fs≠[]->fs'≠[])/\KeepF T T':=by
 obtain⟨d',T',h1,h2,h3,h4⟩:=app_if h (by omega) b e s
 refine⟨d',T',_,h1,h2,h3,by rw[Ku];have:=ifF_len b e s;omega,?_,h4⟩
 rintro (hb |hb)
 ·rw[hb,ifF,if_pos rfl];simp
 ·simp[hb]
end Wb
namespace Wb
theorem app_e {T:List Ob} {d:D} {fs:List (Int×ByteArray)} (h:GL 2 encF T d fs) (hl:fs.length<=4999999999999) (b:Bool) (e:Int) (s:ByteArray):
  ∃d' T' fs',(b=true->Zb Tryz.prog T 51 51 d (.sl 2 [[.int .i64 e,.str s]] true)=some (d',T'))/\(b=false->d'=d/\T'=T)/\GL 2 encF T' d' fs'/\fs'.length<=fs.length+1/\(fs'=[]->fs=[]/\b=false)/\KeepF T T':=by
 obtain⟨d',T',fs',h1,h2,h3,h4,h5,h6⟩:=app_w h hl b e s
 refine⟨d',T',fs',h1,h2,h3,h4,λh0=>?_,h6⟩
 cases b
 ·refine⟨Classical.byContradiction λhf=>h5 (.inr hf) h0,rfl⟩
 ·exact absurd h0 (h5 (.inl rfl))
end Wb
def sameC (c q:Cnn):Bool:=(q.a.toList == c.a.toList) && (q.i.toList == c.i.toList) && (q.o.toList == c.o.toList)
def badC (c:Cnn):Bool:= !(eqS c.a emp || lettS c.a 3) || !(eqS c.i emp || carS c.i) || !(eqS c.o emp || carS c.o)
def outC (c:Cnn):Bool:=decide (c.m<0) || decide (1440<c.m)
def conS (i:Nat):ByteArray:=ByteArray.mk #[99,111,110,110,101,99,116,32]++dec2 i
def conF (i:Nat) (pre:List Cnn) (c:Cnn):List (Int×ByteArray):=ifF (badC c) 5 (conS i)++ifF (outC c) 2 (conS i)++ifF (pre.any (sameC c)) 6 (conS i)
def conL (l:List Cnn):Nat->List (Int×ByteArray)
 |0=>[]
 |i+1=>conL l i++match l[i]? with
  |some c=>conF i (l.take i) c
  |none=>[]
theorem ex28_d:isT (Yb E 400 9 [] [])=true:=by kernel_rfl
theorem ex28_c {n:Nat} (hn:400<=n) (st:Bool) (S:List Ob):Yi E (Yb E n) st S 9 []=some (.bool true,S):=by
 obtain⟨T,hT⟩:=isT_spec ex28_d
 exact callD_up hn (Yd rfl rfl hT rfl)
end Go.Proofs.YtaklebjoenophaaGreat.Dm
