/-
  The reference's calendar and periods: weekdays, bits, whether a day is in a period, its days, what two have in common; UTC; dates as text. Some answer of each.
  The reference's dates as text, and UTC: some answer.
-/
import Derived.Test.YtkemehicndccmaaGreatDoorTfD
set_option linter.unusedSimpArgs false
set_option linter.unusedVariables false
namespace Go.Proofs.YtkemehicndccmaaGreatDoor.Dm
open Go Gw
set_option linter.unusedSimpArgs false
set_option linter.unusedSimpArgs false
section
variable {n : Nat}
theorem tmod_pos {a b:Int} (hb:0<b): -b<a.tmod b∧a.tmod b<b:=by
 rcases Int.le_total 0 a with h |h
 ·exact⟨by have:=Int.tmod_nonneg b h;omega,Int.tmod_lt_of_pos a hb⟩
 ·have h1:0≤ -a:=by omega
  have h2:=Int.tmod_nonneg b h1
  have h3:=Int.tmod_lt_of_pos (-a) hb
  rw[Int.neg_tmod]at h2 h3
  omega
theorem Weekday_c (hn:1≤n) (x:Int):∃w:Nat,w≤6∧∀st S,callD E (dcall E n) st S 148 [.int .i64 x]=some (.int .i64 w,S):=by
 obtain⟨m,rfl⟩:∃m,n=m+1:=⟨n-1,by omega⟩
 obtain⟨h1,h2⟩:=tmod_pos (a:=x) (b:=7) (by omega)
 obtain⟨y,hy⟩:∃y,y=x.tmod 7:=⟨_,rfl⟩
 rw[←hy]at h1 h2
 have w1:IntKind.i64.wrap (y+12)=y+12:=wrap_ok (by omega) (by omega)
 have h4:=Int.tmod_lt_of_pos (y+12) (b:=7) (by omega)
 obtain⟨w,hw⟩:=Int.eq_ofNat_of_zero_le (Int.tmod_nonneg (a:=y+12) 7 (by omega))
 have:WO (dcall E (m+1) 148 [.int .i64 x] []) fun r T=>r=.int .i64 w:=by
  refine wo_dcall Tryz.func148 rfl (by decide) rfl 7 rfl (fun a hal ha=>?_)
  have h0:a[0]? =some (.int .i64 x):=ha 0 (by simp)
  clear ha
  simp(maxSteps:=1000000)(disch:=omega)only[push_cast,hal,h0,←hy,w1,hw,Tryz.f148,↓WX,simprocAttr]
 obtain⟨_,T,ho,rfl⟩:=this
 exact⟨w,by omega,fun st S=>callD_pure rfl rfl ho rfl⟩
def P2 (i:Nat) (v:Int):Prop:=(i=0∧v=1)∨(i=1∧v=2)∨(i=2∧v=4)∨(i=3∧v=8)∨(i=4∧v=16)∨(i=5∧v=32)∨(i=6∧v=64)
theorem bit04_c (hn:20≤n) (x:Int):∃v:Int,1≤v∧v≤64∧∀st S,callD E (dcall E n) st S 138 [.int .i64 x]=some (.int .i64 v,S):=by
 obtain⟨m,rfl⟩:∃m,n=m+1:=⟨n-1,by omega⟩
 obtain⟨w,hw,cw⟩:=Weekday_c (n:=m) (by omega) x
 have:WO (dcall E (m+1) 138 [.int .i64 x] []) fun r T=>∃v:Int,r=.int .i64 v∧1≤v∧v≤64:=by
  refine wo_dcall Tryz.func138 rfl (by decide) rfl 14 rfl (fun a hal ha=>?_)
  have h0:a[0]? =some (.int .i64 x):=ha 0 (by simp)
  clear ha
  simp(maxSteps:=1000000)(disch:=omega)only[push_cast,↓WX,simprocAttr]
  refine wl_loop (fun i a T=>(∃v:Int,a[3]? =some (.int .i64 v)∧P2 i v)∧a.length=14∧a[0]? =some (.int .i64 x)∧a[4]? =some (.int .i64 i)) w ?_ (by omega) ?_
  ·simp(maxSteps:=1000000)(disch:=omega)only[push_cast,hal,h0,Int.natCast_zero,simprocAttr]
   exact⟨_,rfl,.inl ⟨rfl,rfl⟩⟩
  clear hal h0 a
  rintro i a T hi ⟨⟨v,h3,hv⟩,hal,h0,h4⟩
  rcases Nat.lt_or_eq_of_le hi with hlt |rfl
  case inr=>
   simp(maxSteps:=1000000)(disch:=omega)only[push_cast,hal,h0,h3,h4,cw,Int.lt_irrefl,Tryz.f138,↓WX,simprocAttr]
   refine⟨_,rfl,?_,?_⟩ <;> unfold P2 at hv <;> omega
  have hltc:(i:Int)<w:=by omega
  have w1:IntKind.i64.wrap (2*v)=2*v:=by unfold P2 at hv;exact wrap_ok (by omega) (by omega)
  simp(maxSteps:=1000000)(disch:=omega)only[push_cast,hal,h0,h3,h4,cw,hltc,hlt,w1,wrap_ok,Int.natCast_add,Int.natCast_one,↓WX,simprocAttr]
  exact⟨_,rfl,by unfold P2 at hv ⊢;omega⟩
 obtain⟨_,T,ho,v,rfl,h1,h2⟩:=this
 exact⟨v,h1,h2,fun st S=>callD_pure rfl rfl ho rfl⟩
theorem Has04_c (hn:30≤n) (f t d:Int) (hf: -9223372036854775808≤f) (ht:t≤9223372036854775807) (x:Int):∃b,∀st S,callD E (dcall E n) st S 112 [.agg [.int .i64 f,.int .i64 t,.int .i64 d],.int .i64 x]=some (.bool b,S):=by
 obtain⟨m,rfl⟩:∃m,n=m+1:=⟨n-1,by omega⟩
 obtain⟨e,he,ce⟩:=r04Check_c (n:=m) (by omega) f t d hf ht
 obtain⟨v,hv1,hv2,cv⟩:=bit04_c (n:=m) (by omega) x
 have hv0:¬v=0:=by omega
 have:WO (dcall E (m+1) 112 [.agg [.int .i64 f,.int .i64 t,.int .i64 d],.int .i64 x] []) fun r T=>∃b,r=.bool b:=by
  refine wo_dcall Tryz.func112 rfl (by decide) rfl 29 rfl (fun a hal ha=>?_)
  have h0:a[0]? =some (.agg [.int .i64 f,.int .i64 t,.int .i64 d]):=ha 0 (by simp)
  have h1:a[1]? =some (.int .i64 x):=ha 1 (by simp)
  clear ha
  by_cases q1:e=0
  case neg=>
   simp(maxSteps:=1000000)(disch:=omega)only[push_cast,hal,h0,ce,q1,decide_false,Tryz.f112,↓WX,simprocAttr]
   exact⟨_,rfl⟩
  subst q1
  by_cases q2:f≤x
  case neg=>
   simp(maxSteps:=1000000)(disch:=omega)only[push_cast,hal,h0,h1,ce,q2,decide_true,decide_false,Tryz.f112,↓WX,simprocAttr]
   exact⟨_,rfl⟩
  by_cases q3:x≤t
  case neg=>
   simp(maxSteps:=1000000)(disch:=omega)only[push_cast,hal,h0,h1,ce,q2,q3,decide_true,decide_false,Tryz.f112,↓WX,simprocAttr]
   exact⟨_,rfl⟩
  simp(maxSteps:=1000000)(disch:=omega)only[push_cast,hal,h0,h1,ce,cv,q2,q3,hv0,decide_true,Tryz.f112,↓WX,simprocAttr]
  exact⟨_,rfl⟩
 obtain⟨_,T,ho,b,rfl⟩:=this
 exact⟨b,fun st S=>callD_pure rfl rfl ho rfl⟩
theorem app_i {S:List Ob} {d:D} {l:List Int} (h:GL 1 encI S d l) (hl:l.length≤1000) (e:Int):
  ∃d' S',dAppend Tryz.prog S 120 120 d (.sl 1 [[.int .i64 e]] true)=some (d',S')∧GL 1 encI S' d' (l++[e])∧KeepI S S':=by
 obtain⟨S',h1,h2,h3,h4,h5⟩:=app_gl (t:=120) (e:=3) (z:=.int .i64 0) (n:=0) (by kernel_rfl) (by kernel_rfl) (by kernel_rfl) rfl (Nat.le_of_ble_eq_true (by kernel_rfl)) h (by omega) e
 exact⟨_,S',h1,h2,h5⟩
set_option maxHeartbeats 4000000 in
set_option maxRecDepth 100000 in
theorem Days04_d (hn:900≤n) {f t d:Int} (hf: -9223372036854775808≤f) (ht:t≤9223372036854775807):WO (dcall E (n+1) 84 [.agg [.int .i64 f,.int .i64 t,.int .i64 d]] []) fun r T=>∃l,GL 1 encI T r l∧l.length≤800∧∀x∈l,0≤x∧x<36525:=by
 obtain⟨e,he,ce⟩:=r04Check_c (n:=n) (by omega) f t d hf ht
 refine wo_dcall Tryz.func84 rfl (by decide) rfl 26 rfl (fun a hal ha=>?_)
 have h0:a[0]? =some (.agg [.int .i64 f,.int .i64 t,.int .i64 d]):=ha 0 (by simp)
 clear ha
 obtain⟨S0,hS0⟩:∃S0,S0=[Ob.row 3 [[.int .i64 f,.int .i64 t,.int .i64 d]]]:=⟨_,rfl⟩
 have g0:S0[0]? =some (.row 3 [[.int .i64 f,.int .i64 t,.int .i64 d]]):=by rw[hS0];rfl
 refine wc_scut (fun a V=>V=S0∧a.length=26∧a[1]? =some (.loc 0 0 0)) ?_ ?_
 ·simp(maxSteps:=1000000)(disch:=omega)only[push_cast,hal,h0,↓WX,simprocAttr]
  exact hS0.symm
 clear hal h0 a
 rintro a V ⟨rfl,hal,h1⟩
 refine wc_scut (fun a W=>W=V∧a.length=26∧a[1]? =some (.loc 0 0 0)∧a[3]? =some (.nils)) ?_ ?_
 ·simp(maxSteps:=1000000)(disch:=omega)only[push_cast,hal,h1,↓WX,simprocAttr]
 clear hal h1 a
 rintro a W ⟨rfl,hal,h1,h3⟩
 by_cases q:e=0
 case neg=>
  simp(maxSteps:=1000000)(disch:=omega)only[push_cast,hal,h1,g0,↓WX,simprocAttr]
  refine wl_loop (fun i a T=>(i=0∧T=W)∧a.length=26∧a[1]? =some (.loc 0 0 0)∧a[3]? =some (.nils)∧a[4]? =some (.int .i64 f)) 0 ?_ (by omega) ?_
  ·simp(maxSteps:=1000000)(disch:=omega)only[push_cast,hal,h1,h3,simprocAttr]
  clear hal h1 h3 a
  rintro i a T hi ⟨⟨rfl,rfl⟩,hal,h1,h3,h4⟩
  simp(maxSteps:=1000000)(disch:=omega)only[push_cast,hal,h1,h3,g0,ce,q,decide_false,Tryz.f84,↓WX,simprocAttr]
  exact⟨[],GL.nil,by simp,fun x h=>by cases h⟩
 subst q
 obtain⟨u1,u2,u3,u4,-,-⟩:=he rfl
 simp(maxSteps:=1000000)(disch:=omega)only[push_cast,hal,h1,g0,↓WX,simprocAttr]
 refine wl_loop (fun i a T=>(KeepI W T∧∃d l,a[3]? =some d∧GL 1 encI T d l∧l.length≤i∧∀x∈l,0≤x∧x<36525)∧a.length=26∧a[1]? =some (.loc 0 0 0)∧a[4]? =some (.int .i64 (f+i))) (t-f+1).toNat ?_ (by omega) ?_
 ·simp(maxSteps:=1000000)(disch:=omega)only[push_cast,hal,h1,h3,Int.natCast_zero,Int.add_zero,simprocAttr]
  exact⟨KeepI.refl,_,[],rfl,GL.nil,by simp,fun x h=>by cases h⟩
 clear hal h1 h3 a
 rintro i a T hi ⟨⟨k1,d1,l1,h3,g1,hl1,hx1⟩,hal,h1,h4⟩
 have v0:=k1 _ _ _ (by decide) g0
 rcases Nat.lt_or_eq_of_le hi with hlt |rfl
 case inr=>
  have q:¬f+((t-f+1).toNat:Int)≤t:=by omega
  have hw8:(t-f+1).toNat≤800:=by omega
  generalize (t-f+1).toNat=w at*
  simp(maxSteps:=1000000)(disch:=omega)only[push_cast,hal,h1,h3,h4,v0,ce,q,decide_true,decide_false,Tryz.f84,↓WX,simprocAttr]
  exact⟨_,g1,by omega,hx1⟩
 have q:f+(i:Int)≤t:=by omega
 obtain⟨b,cb⟩:=Has04_c (n:=n) (by omega) f t d hf ht (f+i)
 obtain⟨d2,T2,p2,g2,k2⟩:=app_i g1 (by omega) (f+i)
 have w1:IntKind.i64.wrap (f+i+1)=f+((i+1:Nat):Int):=by rw[wrap_ok (by omega) (by omega)];omega
 obtain⟨fi1,hfi1⟩:∃z,z=f+((i+1:Nat):Int):=⟨_,rfl⟩
 rw[←hfi1]at w1
 obtain⟨fi,hfi⟩:∃z,z=f+(i:Int):=⟨_,rfl⟩
 rw[←hfi]at h4 cb p2 w1 q
 cases b
 ·simp(maxSteps:=1000000)(disch:=omega)only[push_cast,hal,h1,h3,h4,v0,ce,q,cb,hlt,w1,decide_true,↓WX,simprocAttr]
  exact⟨⟨k1,_,_,rfl,g1,by omega,hx1⟩,by omega⟩
 ·simp(maxSteps:=1000000)(disch:=omega)only[push_cast,hal,h1,h3,h4,v0,ce,q,cb,p2,hlt,w1,decide_true,↓WX,simprocAttr]
  refine⟨⟨k1.trans k2,_,_,rfl,g2,by simp;omega,fun x hx=>?_⟩,by omega⟩
  rcases List.mem_append.1 hx with hx |hx
  ·exact hx1 x hx
  ·have:x=f+i:=by simpa using hx
   omega
theorem Days04_c (hn:901≤n) {f t d:Int} (hf: -9223372036854775808≤f) (ht:t≤9223372036854775807):∃r l,FLs 1 encI r l∧l.length≤800∧(∀x∈l,0≤x∧x<36525)∧∀st S,callD E (dcall E n) st S 84 [.agg [.int .i64 f,.int .i64 t,.int .i64 d]]=some (r,S):=by
 obtain⟨m,rfl⟩:∃m,n=m+1:=⟨n-1,by omega⟩
 obtain⟨r,T,ho,l,g,h1,h2⟩:=Days04_d (n:=m) (d:=d) (by omega) hf ht
 obtain⟨r',hr,hf'⟩:=g.fls (encI_pure l)
 exact⟨r',l,hf',h1,h2,fun st S=>callD_pure rfl rfl ho hr⟩
set_option maxHeartbeats 4000000 in
set_option maxRecDepth 100000 in
theorem of04_d {S:List Ob} {d:D} {l:List Int} (h:GL 1 encI S d l) (hl:l.length≤800) (hn:900≤n):WO (dcall E (n+1) 119 [d] S) fun r T=>ExtS S T∧∃(x y z:Int) (b:Bool),r=.tup [.agg [.int .i64 x,.int .i64 y,.int .i64 z],.bool b]:=by
 refine wo_dcall Tryz.func119 rfl (by decide) rfl 46 rfl (fun a hal ha=>?_)
 have h0:a[0]? =some (d):=ha 0 (by simp)
 clear ha
 rcases h with ⟨rfl,rfl⟩ | ⟨k,rfl,hk⟩
 ·simp(maxSteps:=1000000)(disch:=omega)only[push_cast,hal,h0,set_end,get_end,decide_true,Tryz.f119,↓WX,simprocAttr]
  exact⟨fun _ _ h=>get_old h,_,_,_,_,rfl⟩
 by_cases hz:l=[]
 ·subst hz
  simp(maxSteps:=1000000)(disch:=omega)only[push_cast,hal,h0,set_end,get_end,decide_true,Int.natCast_zero,Tryz.f119,↓WX,simprocAttr]
  exact⟨fun _ _ h=>get_old h,_,_,_,_,rfl⟩
 obtain⟨x0,hx0⟩:∃x,l[0]? =some x:=⟨l[0]'((List.length_pos_iff.2 hz)),by simp⟩
 have hlp:=(List.length_pos_iff.2 hz)
 obtain⟨x1,hx1⟩:∃x,l[l.length-1]? =some x:=⟨l[l.length-1]'(by omega),by simp⟩
 have q0:¬(l.length:Int)=0:=by omega
 have hlpc:(0:Int)<l.length:=by omega
 have q1:IntKind.i64.wrap ((l.length:Int)-1)=((l.length-1:Nat):Int):=by rw[wrap_ok (by omega) (by omega)];omega
 have q2:l.length-1<l.length:=by omega
 obtain⟨l1,hl1⟩:∃z,z=l.length-1:=⟨_,rfl⟩
 rw[←hl1]at q1 q2 hx1
 obtain⟨T0,hT0⟩:∃T0,T0=S++[Ob.row 3 [[.int .i64 0,.int .i64 0,.int .i64 0]]]:=⟨_,rfl⟩
 have e0:ExtS S T0:=by rw[hT0];exact fun _ _ h=>get_old h
 have k0:=e0 _ _ hk
 refine wc_scut (fun a V=>V=T0∧a.length=46∧a[0]? =some (.os k 0 l.length false)∧a[2]? =some (.loc S.length 0 0)∧a[3]? =some (.bool false)) ?_ ?_
 ·simp(maxSteps:=1000000)(disch:=omega)only[push_cast,hal,h0,↓WX,simprocAttr]
  exact hT0.symm
 clear hal h0 a
 rintro a V ⟨rfl,hal,h0,h2,h3⟩
 refine wc_scut (fun a W=>W=V∧a.length=46∧a[0]? =some (.os k 0 l.length false)∧a[2]? =some (.loc S.length 0 0)∧a[3]? =some (.bool false)) ?_ ?_
 ·simp(maxSteps:=1000000)(disch:=omega)only[push_cast,hal,h0,h2,h3,q0,decide_false,↓WX,simprocAttr]
 clear hal h0 h2 h3 a
 rintro a W ⟨rfl,hal,h0,h2,h3⟩
 have t0:W[S.length]? =some (.row 3 [[.int .i64 0,.int .i64 0,.int .i64 0]]):=by rw[hT0];exact get_end
 refine wc_scut (fun a V=>(∃z:Int,V=W++[Ob.row 3 [[.int .i64 x0,.int .i64 x1,.int .i64 z]]])∧a.length=46∧a[0]? =some (.os k 0 l.length false)∧a[2]? =some (.loc S.length 0 0)∧a[3]? =some (.bool false)∧a[4]? =some (.loc W.length 0 0)) ?_ ?_
 ·simp(maxSteps:=1000000)(disch:=omega)only[push_cast,hal,h0,h2,h3,k0,hx0,hlpc,q1,q2,hx1,set_end,get_end,encI,Int.toNat_zero,↓WX,simprocAttr]
  exact⟨_,rfl⟩
 clear hal h0 h2 h3 a
 rintro a V ⟨⟨z,hV⟩,hal,h0,h2,h3,h4⟩
 refine wc_scut (fun a V=>(∃z:Int,V=W++[Ob.row 3 [[.int .i64 x0,.int .i64 x1,.int .i64 z]]])∧a.length=46∧a[2]? =some (.loc S.length 0 0)∧a[4]? =some (.loc W.length 0 0)) ?_ ?_
 ·simp(maxSteps:=1000000)(disch:=omega)only[push_cast,↓WX,simprocAttr]
  refine wl_loop (fun i a V=>(∃z:Int,V=W++[Ob.row 3 [[.int .i64 x0,.int .i64 x1,.int .i64 z]]])∧a.length=46∧a[0]? =some (.os k 0 l.length false)∧a[2]? =some (.loc S.length 0 0)∧a[4]? =some (.loc W.length 0 0)∧a[5]? =some (.int .i64 i)) l.length ?_ (by omega) ?_
  ·simp(maxSteps:=1000000)(disch:=omega)only[push_cast,hal,h0,h2,h4,Int.natCast_zero,simprocAttr]
   exact⟨z,hV⟩
  clear hal h0 h2 h3 h4 a
  clear hV z
  rintro i a V hi ⟨⟨z,hV⟩,hal,h0,h2,h4,h5⟩
  have k1:V[k]? =some (.row 1 (l.map encI)):=by rw[hV];exact get_old k0
  have v1:V[W.length]? =some (.row 3 [[.int .i64 x0,.int .i64 x1,.int .i64 z]]):=by rw[hV];exact get_end
  rcases Nat.lt_or_eq_of_le hi with hlt |rfl
  case inr=>
   simp(maxSteps:=1000000)(disch:=omega)only[push_cast,hal,h0,h2,h4,h5,Int.lt_irrefl,↓WX,simprocAttr]
   exact⟨z,hV⟩
  obtain⟨x,hx⟩:∃x,l[i]? =some x:=⟨l[i],by simp⟩
  have hltc:(i:Int)<l.length:=by omega
  obtain⟨v,hv1,hv2,cv⟩:=bit04_c (n:=n) (by omega) x
  have hv0:¬v=0:=by omega
  by_cases q:(IntKind.i64.wrap (z.tdiv v)).tmod 2=0
  ·simp(maxSteps:=1000000)(disch:=omega)only[push_cast,hal,h0,h2,h4,h5,k1,v1,hx,hlt,hltc,cv,hv0,q,encI,decide_true,wrap_ok,Int.natCast_add,Int.natCast_one,↓WX,simprocAttr]
   exact⟨IntKind.i64.wrap (z+v),by rw[hV];simp⟩
  ·simp(maxSteps:=1000000)(disch:=omega)only[push_cast,hal,h0,h2,h4,h5,k1,v1,hx,hlt,hltc,cv,hv0,q,encI,decide_false,wrap_ok,Int.natCast_add,Int.natCast_one,↓WX,simprocAttr]
   exact⟨z,hV⟩
 clear hal h0 h2 h3 h4 a
 clear hV z
 rintro a V ⟨⟨z,hV⟩,hal,h2,h4⟩
 have v1:V[W.length]? =some (.row 3 [[.int .i64 x0,.int .i64 x1,.int .i64 z]]):=by rw[hV];exact get_end
 have v2:V[S.length]? =some (.row 3 [[.int .i64 0,.int .i64 0,.int .i64 0]]):=by rw[hV];exact get_old t0
 have hsl:S.length<V.length:=(List.getElem?_eq_some_iff.1 v2).1
 have v3:∀o,(V.set S.length o)[S.length]? =some o:=fun o=>by simp[hsl]
 simp(maxSteps:=1000000)(disch:=omega)only[push_cast,hal,h2,h4,v1,v2,v3,Tryz.f119,↓WX,simprocAttr]
 refine⟨fun j o hj=>?_,_,_,_,_,rfl⟩
 have hj':V[j]? =some o:=by rw[hV];exact get_old (e0 _ _ hj)
 have hne:S.length≠j:=fun e=>by subst e;simp at hj
 rw[List.getElem?_set_ne hne];exact hj'
set_option maxHeartbeats 4000000 in
set_option maxRecDepth 100000 in
theorem Meet04_c (hn:1000≤n) {f t d f' t' d':Int} (hf: -9223372036854775808≤f) (ht:t≤9223372036854775807) (hf': -9223372036854775808≤f') (ht':t'≤9223372036854775807):∃(x y z:Int) (b:Bool),∀st S,callD E (dcall E n) st S 88 [.agg [.int .i64 f,.int .i64 t,.int .i64 d],.agg [.int .i64 f',.int .i64 t',.int .i64 d']]=some (.tup [.agg [.int .i64 x,.int .i64 y,.int .i64 z],.bool b],S):=by
 obtain⟨n,rfl⟩:∃m,n=m+1:=⟨n-1,by omega⟩
 obtain⟨r,l,hr,hl,hx,cd⟩:=Days04_c (n:=n) (d:=d) (by omega) hf ht
 have:WO (dcall E (n+1) 88 [.agg [.int .i64 f,.int .i64 t,.int .i64 d],.agg [.int .i64 f',.int .i64 t',.int .i64 d']] []) fun r T=>∃(x y z:Int) (b:Bool),r=.tup [.agg [.int .i64 x,.int .i64 y,.int .i64 z],.bool b]:=by
  refine wo_dcall Tryz.func88 rfl (by decide) rfl 34 rfl (fun a hal ha=>?_)
  have h0:a[0]? =some (.agg [.int .i64 f,.int .i64 t,.int .i64 d]):=ha 0 (by simp)
  have h1:a[1]? =some (.agg [.int .i64 f',.int .i64 t',.int .i64 d']):=ha 1 (by simp)
  clear ha
  obtain⟨S0,hS0⟩:∃S0,S0=[Ob.row 3 [[.int .i64 f,.int .i64 t,.int .i64 d]],Ob.row 3 [[.int .i64 f',.int .i64 t',.int .i64 d']],Ob.row 3 [[.int .i64 0,.int .i64 0,.int .i64 0]]]:=⟨_,rfl⟩
  have g0:S0[0]? =some (.row 3 [[.int .i64 f,.int .i64 t,.int .i64 d]]):=by rw[hS0];rfl
  have g1:S0[1]? =some (.row 3 [[.int .i64 f',.int .i64 t',.int .i64 d']]):=by rw[hS0];rfl
  have g2:S0[2]? =some (.row 3 [[.int .i64 0,.int .i64 0,.int .i64 0]]):=by rw[hS0];rfl
  refine wc_scut (fun a V=>V=S0∧a.length=34∧a[2]? =some (.loc 0 0 0)∧a[3]? =some (.loc 1 0 0)∧a[4]? =some (.loc 2 0 0)∧a[5]? =some (.bool false)) ?_ ?_
  ·simp(maxSteps:=1000000)(disch:=omega)only[push_cast,hal,h0,h1,↓WX,simprocAttr]
   exact hS0.symm
  clear hal h0 h1 a
  rintro a V ⟨rfl,hal,h2,h3,h4,h5⟩
  refine wc_scut (fun a W=>W=V∧a.length=34∧a[3]? =some (.loc 1 0 0)∧a[4]? =some (.loc 2 0 0)∧a[6]? =some (r)) ?_ ?_
  ·simp(maxSteps:=1000000)(disch:=omega)only[push_cast,hal,h2,h3,h4,g0,cd,↓WX,simprocAttr]
  clear hal h2 h3 h4 h5 a
  rintro a W ⟨rfl,hal,h3,h4,h6⟩
  refine wc_scut (fun a V=>V=W∧a.length=34∧a[3]? =some (.loc 1 0 0)∧a[4]? =some (.loc 2 0 0)∧a[6]? =some (r)∧a[7]? =some (.nils)) ?_ ?_
  ·simp(maxSteps:=1000000)(disch:=omega)only[push_cast,hal,h3,h4,h6,↓WX,simprocAttr]
  clear hal h3 h4 h6 a
  rintro a V ⟨rfl,hal,h3,h4,h6,h7⟩
  refine wc_scut (fun a T=>(KeepI V T∧∃d l,a[7]? =some d∧GL 1 encI T d l∧l.length≤800)∧a.length=34∧a[4]? =some (.loc 2 0 0)) ?_ ?_
  ·rcases hr with ⟨rfl,rfl⟩ | ⟨y,rfl⟩
   ·simp(maxSteps:=1000000)(disch:=omega)only[push_cast,↓WX,simprocAttr]
    refine wl_loop (fun i a T=>(i=0∧T=V)∧a.length=34∧a[3]? =some (.loc 1 0 0)∧a[4]? =some (.loc 2 0 0)∧a[6]? =some (.nils)∧a[7]? =some (.nils)∧a[8]? =some (.int .i64 0)) 0 ?_ (by omega) ?_
    ·simp(maxSteps:=1000000)(disch:=omega)only[push_cast,hal,h3,h4,h6,h7,simprocAttr]
    clear hal h3 h4 h6 h7 a
    rintro i a T hi ⟨⟨rfl,rfl⟩,hal,h3,h4,h6,h7,h8⟩
    simp(maxSteps:=1000000)(disch:=omega)only[push_cast,hal,h4,h6,h7,h8,Int.lt_irrefl,↓WX,simprocAttr]
    exact⟨KeepI.refl,_,[],rfl,GL.nil,by simp⟩
   ·simp(maxSteps:=1000000)(disch:=omega)only[push_cast,↓WX,simprocAttr]
    refine wl_loop (fun i a T=>(KeepI V T∧∃d l,a[7]? =some d∧GL 1 encI T d l∧l.length≤i)∧a.length=34∧a[3]? =some (.loc 1 0 0)∧a[4]? =some (.loc 2 0 0)∧a[6]? =some (.sl 1 (l.map encI) y)∧a[8]? =some (.int .i64 i)) l.length ?_ (by omega) ?_
    ·simp(maxSteps:=1000000)(disch:=omega)only[push_cast,hal,h3,h4,h6,h7,Int.natCast_zero,simprocAttr]
     exact⟨KeepI.refl,_,[],rfl,GL.nil,by simp⟩
    clear hal h3 h4 h6 h7 a
    rintro i a T hi ⟨⟨k1,d1,l1,h7,e1,hl1⟩,hal,h3,h4,h6,h8⟩
    have v1:=k1 _ _ _ (by decide) g1
    rcases Nat.lt_or_eq_of_le hi with hlt |rfl
    case inr=>
     simp(maxSteps:=1000000)(disch:=omega)only[push_cast,hal,h4,h6,h7,h8,Int.lt_irrefl,↓WX,simprocAttr]
     exact⟨k1,_,_,rfl,e1,by omega⟩
    obtain⟨x,hx⟩:∃x,l[i]? =some x:=⟨l[i],by simp⟩
    have hltc:(i:Int)<l.length:=by omega
    obtain⟨b,cb⟩:=Has04_c (n:=n) (by omega) f' t' d' hf' ht' x
    obtain⟨d2,T2,p2,e2,k2⟩:=app_i e1 (by omega) x
    cases b
    ·simp(maxSteps:=1000000)(disch:=omega)only[push_cast,hal,h3,h4,h6,h7,h8,v1,hx,hlt,hltc,cb,encI,wrap_ok,Int.natCast_add,Int.natCast_one,↓WX,simprocAttr]
     exact⟨k1,_,_,rfl,e1,by omega⟩
    ·simp(maxSteps:=1000000)(disch:=omega)only[push_cast,hal,h3,h4,h6,h7,h8,v1,hx,hlt,hltc,cb,p2,encI,wrap_ok,Int.natCast_add,Int.natCast_one,↓WX,simprocAttr]
     exact⟨k1.trans k2,_,_,rfl,e2,by simp;omega⟩
  clear hal h3 h4 h6 h7 a
  rintro a T ⟨⟨k1,d1,l1,h7,e1,hl1⟩,hal,h4⟩
  have v2:=k1 _ _ _ (by decide) g2
  obtain⟨m,rfl⟩:∃m,n=m+1:=⟨n-1,by omega⟩
  obtain⟨_,T2,ho,ee,x,y,z,b,rfl⟩:=of04_d (n:=m) e1 hl1 (by omega)
  have v3:=ee _ _ v2
  have hl3:2<T2.length:=(List.getElem?_eq_some_iff.1 v3).1
  have v4:∀o,(T2.set 2 o)[2]? =some o:=fun o=>by simp[hl3]
  by_cases hp:d1.pure=true
  ·have hn:d1=.nils:=by
    rcases e1 with ⟨rfl,-⟩ | ⟨k,rfl,-⟩
    ·rfl
    ·cases hp
   subst hn
   rcases e1 with ⟨-,rfl⟩ | ⟨k,e,-⟩
   case inr=>cases e
   obtain⟨_,T3,ho3,-,x3,y3,z3,b3,rfl⟩:=of04_d (S:=[]) (n:=m) GL.nil hl1 (by omega)
   have co:=fun st=>callD_pure (st:=st) (S:=T) (f:=119) rfl rfl ho3 rfl
   have hl2:2<T.length:=(List.getElem?_eq_some_iff.1 v2).1
   have v5:∀o,(T.set 2 o)[2]? =some o:=fun o=>by simp[hl2]
   simp(maxSteps:=1000000)(disch:=omega)only[push_cast,hal,h4,h7,co,v2,v5,Tryz.f88,↓WX,simprocAttr]
   exact⟨_,_,_,_,rfl⟩
  ·have co:=(callD_own (S:=T) (f:=119) rfl (by simpa [pureL_cons,pureL_nil] using hp)).trans ho
   simp(maxSteps:=1000000)(disch:=omega)only[push_cast,hal,h4,h7,co,v3,v4,Tryz.f88,↓WX,simprocAttr]
   exact⟨_,_,_,_,rfl⟩
 obtain⟨_,T,ho,x,y,z,b,rfl⟩:=this
 exact⟨x,y,z,b,fun st S=>callD_pure rfl rfl ho rfl⟩
end
end Go.Proofs.YtkemehicndccmaaGreatDoor.Dm
namespace Go.Proofs.YtkemehicndccmaaGreatDoor.Dm
open Go Gw
set_option linter.unusedSimpArgs false
set_option linter.unusedSimpArgs false
section
variable {n : Nat}
theorem size2 (a b:Int):(bytesStr [a,b]).size=2:=rfl
theorem two03_c (hn:1≤n):∃f:Int→ByteArray,(∀v,(f v).size=2)∧∀v st S,callD E (dcall E n) st S 118 [.int .i64 v]=some (.str (f v),S):=by
 obtain⟨m,rfl⟩:∃m,n=m+1:=⟨n-1,by omega⟩
 have:∀v:Int,∃s:ByteArray,s.size=2∧∀st S,callD E (dcall E (m+1)) st S 118 [.int .i64 v]=some (.str s,S):=fun v=>by
  have:WO (dcall E (m+1) 118 [.int .i64 v] []) fun r T=>∃a b,r=.str (bytesStr [a,b]):=by
   refine wo_dcall Tryz.func118 rfl (by decide) rfl 13 rfl (fun a hal ha=>?_)
   have h0:a[0]? =some (.int .i64 v):=ha 0 (by simp)
   clear ha
   simp(maxSteps:=1000000)(disch:=omega)only[push_cast,hal,h0,Tryz.f118,↓WX,simprocAttr]
   exact⟨_,_,rfl⟩
  obtain⟨_,T,ho,a,b,rfl⟩:=this
  exact⟨_,size2 a b,fun st S=>callD_pure rfl rfl ho rfl⟩
 obtain⟨f,hf⟩:=Classical.skolem.1 this
 exact⟨f,fun v=>(hf v).1,fun v=>(hf v).2⟩
set_option maxHeartbeats 1000000 in
theorem Length03_c (hn:1≤n) (y k:Int):∃v:Int,28≤v∧v≤31∧∀st S,callD E (dcall E n) st S 140 [.int .i64 y,.int .i64 k]=some (.int .i64 v,S):=by
 obtain⟨m,rfl⟩:∃m,n=m+1:=⟨n-1,by omega⟩
 have:WO (dcall E (m+1) 140 [.int .i64 y,.int .i64 k] []) fun r T=>∃v:Int,r=.int .i64 v∧28≤v∧v≤31:=by
  refine wo_dcall Tryz.func140 rfl (by decide) rfl 16 rfl (fun a hal ha=>?_)
  have h0:a[0]? =some (.int .i64 y):=ha 0 (by simp)
  have h1:a[1]? =some (.int .i64 k):=ha 1 (by simp)
  clear ha
  by_cases q1:k=4
  ·simp(maxSteps:=1000000)(disch:=omega)only[push_cast,hal,h1,q1,decide_true,Tryz.f140,↓WX,simprocAttr]
   exact⟨_,rfl,by omega,by omega⟩
  by_cases q2:k=6
  ·simp(maxSteps:=1000000)(disch:=omega)only[push_cast,hal,h1,q2,decide_true,decide_false,Tryz.f140,↓WX,simprocAttr]
   exact⟨_,rfl,by omega,by omega⟩
  by_cases q3:k=9
  ·simp(maxSteps:=1000000)(disch:=omega)only[push_cast,hal,h1,q3,decide_true,decide_false,Tryz.f140,↓WX,simprocAttr]
   exact⟨_,rfl,by omega,by omega⟩
  by_cases q4:k=11
  ·simp(maxSteps:=1000000)(disch:=omega)only[push_cast,hal,h1,q4,decide_true,decide_false,Tryz.f140,↓WX,simprocAttr]
   exact⟨_,rfl,by omega,by omega⟩
  by_cases q5:k=2
  ·by_cases q6:y.tmod 4=0
   ·simp(maxSteps:=1000000)(disch:=omega)only[push_cast,hal,h0,h1,q5,q6,decide_true,decide_false,Tryz.f140,↓WX,simprocAttr]
    exact⟨_,rfl,by omega,by omega⟩
   ·simp(maxSteps:=1000000)(disch:=omega)only[push_cast,hal,h0,h1,q5,q6,decide_true,decide_false,Tryz.f140,↓WX,simprocAttr]
    exact⟨_,rfl,by omega,by omega⟩
  simp(maxSteps:=1000000)(disch:=omega)only[push_cast,hal,h1,q1,q2,q3,q4,q5,decide_false,Tryz.f140,↓WX,simprocAttr]
  exact⟨_,rfl,by omega,by omega⟩
 obtain⟨_,T,ho,v,rfl,h1,h2⟩:=this
 exact⟨v,h1,h2,fun st S=>callD_pure rfl rfl ho rfl⟩
set_option maxHeartbeats 2000000 in
theorem Date03_c (hn:1400≤n) {x:Int} (u0:0≤x) (u1:x<36525):∃(y k d:Int),∀st S,callD E (dcall E n) st S 117 [.int .i64 x]=some (.tup [.int .i64 y,.int .i64 k,.int .i64 d],S):=by
 obtain⟨m,rfl⟩:∃m,n=m+1:=⟨n-1,by omega⟩
 have:WO (dcall E (m+1) 117 [.int .i64 x] []) fun r T=>∃(y k d:Int),r=.tup [.int .i64 y,.int .i64 k,.int .i64 d]:=by
  refine wo_dcall Tryz.func117 rfl (by decide) rfl 33 rfl (fun a hal ha=>?_)
  have h0:a[0]? =some (.int .i64 x):=ha 0 (by simp)
  clear ha
  have q1:¬x<0:=by omega
  have q2:¬36525≤x:=by omega
  rw[wc_asc,wc_asc]
  refine wc_scut (fun a T=>a.length=33∧a[0]? =some (.int .i64 x)∧a[5]? =some (.int .i64 2000)∧a[6]? =some (.int .i64 1)) ?_ ?_
  ·simp(maxSteps:=1000000)(disch:=omega)only[push_cast,hal,h0,q1,q2,decide_false,↓WX,simprocAttr]
  clear hal h0 a
  rintro a T ⟨hal,h0,h5,h6⟩
  simp(maxSteps:=1000000)(disch:=omega)only[push_cast,↓WX]
  refine wl_loop (fun i a T=>∃x y k:Int,(0≤x∧x≤36525-28*i)∧a.length=33∧a[0]? =some (.int .i64 x)∧a[5]? =some (.int .i64 y)∧a[6]? =some (.int .i64 k)) 1305 ?_ (by omega) ?_
  ·simp(maxSteps:=1000000)(disch:=omega)only[push_cast,hal,h0,h5,h6,simprocAttr]
   exact⟨x,_,_,⟨u0,by omega⟩,rfl,rfl,rfl⟩
  clear hal h0 h5 h6 a
  rintro i a T hi ⟨x,y,k,⟨hx0,hx1⟩,hal,h0,h5,h6⟩
  obtain⟨v,hv1,hv2,cv⟩:=Length03_c (n:=m) (by omega) y k
  by_cases q:v≤x
  case neg=>
   simp(maxSteps:=1000000)(disch:=omega)only[push_cast,hal,h0,h5,h6,cv,q,decide_false,Tryz.f117,↓WX,simprocAttr]
   exact⟨_,_,_,rfl⟩
  have hlt:i<1305:=by omega
  have w1:IntKind.i64.wrap (x-v)=x-v:=wrap_ok (by omega) (by omega)
  obtain⟨z,hz⟩:∃z,z=x-v:=⟨_,rfl⟩
  rw[←hz]at w1
  have hzz:0≤z∧z≤36525-28*((i+1:Nat):Int):=by omega
  obtain⟨i1,hi1⟩:∃i1:Int,i1=((i+1:Nat):Int):=⟨_,rfl⟩
  by_cases q2:IntKind.i64.wrap (k+1)=13
  ·simp(maxSteps:=1000000)(disch:=omega)only[push_cast,hal,h0,h5,h6,cv,q,q2,hlt,←hz,w1,decide_true,↓WX,simprocAttr]
   exact⟨_,_,_,by omega,rfl,rfl,rfl⟩
  ·simp(maxSteps:=1000000)(disch:=omega)only[push_cast,hal,h0,h5,h6,cv,q,q2,hlt,←hz,w1,decide_true,decide_false,↓WX,simprocAttr]
   exact⟨_,_,_,by omega,rfl,rfl,rfl⟩
 obtain⟨_,T,ho,y,k,d,rfl⟩:=this
 exact⟨y,k,d,fun st S=>callD_pure rfl rfl ho rfl⟩
def dashT:ByteArray:=ByteArray.mk #[45]
set_option maxHeartbeats 2000000 in
theorem Print03_c (hn:1500≤n) {x:Int} (u0:0≤x) (u1:x<36525):∃s:ByteArray,s.size≤10∧∀st S,callD E (dcall E n) st S 87 [.int .i64 x]=some (.str s,S):=by
 obtain⟨m,rfl⟩:∃m,n=m+1:=⟨n-1,by omega⟩
 obtain⟨y,k,d,cd⟩:=Date03_c (n:=m) (by omega) u0 u1
 obtain⟨f,hf,cf⟩:=two03_c (n:=m) (by omega)
 have:WO (dcall E (m+1) 87 [.int .i64 x] []) fun r T=>∃s:ByteArray,r=.str s∧s.size≤10:=by
  refine wo_dcall Tryz.func87 rfl (by decide) rfl 29 rfl (fun a hal ha=>?_)
  have h0:a[0]? =some (.int .i64 x):=ha 0 (by simp)
  clear ha
  by_cases q:y=0
  ·simp(maxSteps:=1000000)(disch:=omega)only[push_cast,hal,h0,cd,q,decide_true,Tryz.f87,↓WX,simprocAttr]
   exact⟨_,rfl,by decide⟩
  have hd:dashT.size=1:=rfl
  have e1:=hf (IntKind.i64.wrap (y.tdiv 100))
  have e2:=hf (y.tmod 100)
  have e3:=hf k
  have e4:=hf d
  obtain⟨s1,hs1⟩:∃s,s=f (IntKind.i64.wrap (y.tdiv 100)):=⟨_,rfl⟩
  obtain⟨s2,hs2⟩:∃s,s=f (y.tmod 100):=⟨_,rfl⟩
  obtain⟨s3,hs3⟩:∃s,s=f k:=⟨_,rfl⟩
  obtain⟨s4,hs4⟩:∃s,s=f d:=⟨_,rfl⟩
  rw[←hs1]at e1
  rw[←hs2]at e2
  rw[←hs3]at e3
  rw[←hs4]at e4
  have m1:=mx_of (a:=s1) (b:=s2) (by omega)
  have m2:=mx_of (a:=s1++s2) (b:=dashT) (by rw[ba_len];omega)
  have m3:=mx_of (a:=s1++s2++dashT) (b:=s3) (by rw[ba_len,ba_len];omega)
  have m4:=mx_of (a:=s1++s2++dashT++s3) (b:=dashT) (by rw[ba_len,ba_len,ba_len];omega)
  have m5:=mx_of (a:=s1++s2++dashT++s3++dashT) (b:=s4) (by rw[ba_len,ba_len,ba_len,ba_len];omega)
  have hsz:(s1++s2++dashT++s3++dashT++s4).size≤10:=by rw[ba_len,ba_len,ba_len,ba_len,ba_len];omega
  unfold dashT at m1 m2 m3 m4 m5 hsz
  simp(maxSteps:=1000000)(disch:=omega)only[push_cast,gt_iff_lt,hal,h0,cd,q,cf,←hs1,←hs2,←hs3,←hs4,m1,m2,m3,m4,m5,decide_false,Tryz.f87,↓WX,simprocAttr]
  exact⟨_,rfl,hsz⟩
 obtain⟨_,T,ho,s,rfl,hs⟩:=this
 exact⟨s,hs,fun st S=>callD_pure rfl rfl ho rfl⟩
set_option maxHeartbeats 4000000 in
theorem UTC05_c (hn:1048600≤n) (o:Int) (l:List Shf) (lx:Bool) (hl:l.length≤1048576) (x:Int):∃v:Int,∀st S,callD E (dcall E n) st S 139 [.agg [.int .i64 o,.sl 2 (l.map Shf.enc) lx],.int .i64 x]=some (.int .i64 v,S):=by
 obtain⟨m,rfl⟩:∃m,n=m+1:=⟨n-1,by omega⟩
 have:WO (dcall E (m+1) 139 [.agg [.int .i64 o,.sl 2 (l.map Shf.enc) lx],.int .i64 x] []) fun r T=>∃v:Int,r=.int .i64 v:=by
  refine wo_dcall Tryz.func139 rfl (by decide) rfl 43 rfl (fun a hal ha=>?_)
  have h0:a[0]? =some (.agg [.int .i64 o,.sl 2 (l.map Shf.enc) lx]):=ha 0 (by simp)
  have h1:a[1]? =some (.int .i64 x):=ha 1 (by simp)
  clear ha
  simp(maxSteps:=1000000)(disch:=omega)only[push_cast,hal,h0,h1,↓WX,simprocAttr]
  refine wl_loop (fun i a T=>(T=[Ob.row 2 [[.int .i64 o,.sl 2 (l.map Shf.enc) lx]]]∧∃u:Int,a[5]? =some (.int .i64 u))∧a.length=43∧a[1]? =some (.int .i64 x)∧a[2]? =some (.loc 0 0 0)∧a[6]? =some (.int .i64 i)) l.length ?_ (by omega) ?_
  ·simp(maxSteps:=1000000)(disch:=omega)only[push_cast,hal,h1,Int.natCast_zero,simprocAttr]
   exact⟨_,rfl⟩
  clear hal h0 h1 a
  rintro i a T hi ⟨⟨rfl,u,h5⟩,hal,h1,h2,h6⟩
  rcases Nat.lt_or_eq_of_le hi with hlt |rfl
  case inr=>
   simp(maxSteps:=1000000)(disch:=omega)only[push_cast,hal,h2,h5,h6,Int.lt_irrefl,Tryz.f139,↓WX,simprocAttr]
   exact⟨_,rfl⟩
  obtain⟨y,hy⟩:∃y,l[i]? =some y:=⟨l[i],by simp⟩
  have hltc:(i:Int)<l.length:=by omega
  by_cases q:u<y.tm
  ·simp(maxSteps:=1000000)(disch:=omega)only[push_cast,hal,h2,h5,h6,hltc,hy,q,Shf.enc,Tryz.f139,↓WX,simprocAttr]
   exact⟨_,rfl⟩
  by_cases q2:y.tm<IntKind.i64.wrap (x-y.off)
  ·simp(maxSteps:=1000000)(disch:=omega)only[push_cast,hal,h1,h2,h5,h6,hltc,hlt,hy,q,q2,Shf.enc,dMins,dMin2,wrap_ok,Int.natCast_add,Int.natCast_one,↓WX,simprocAttr]
   exact⟨_,rfl⟩
  ·simp(maxSteps:=1000000)(disch:=omega)only[push_cast,hal,h1,h2,h5,h6,hltc,hlt,hy,q,q2,Shf.enc,dMins,dMin2,wrap_ok,Int.natCast_add,Int.natCast_one,↓WX,simprocAttr]
   exact⟨_,rfl⟩
 obtain⟨_,T,ho,v,rfl⟩:=this
 exact⟨v,fun st S=>callD_pure rfl (by simp only[pureL_cons,pureL_nil,D.pure,Shfs_pure,Bool.and_self]) ho rfl⟩
set_option maxHeartbeats 2000000 in
theorem UTC05n_c (hn:10≤n) (o x:Int):∃v:Int,∀st S,callD E (dcall E n) st S 139 [.agg [.int .i64 o,.nils],.int .i64 x]=some (.int .i64 v,S):=by
 obtain⟨m,rfl⟩:∃m,n=m+1:=⟨n-1,by omega⟩
 have:WO (dcall E (m+1) 139 [.agg [.int .i64 o,.nils],.int .i64 x] []) fun r T=>∃v:Int,r=.int .i64 v:=by
  refine wo_dcall Tryz.func139 rfl (by decide) rfl 43 rfl (fun a hal ha=>?_)
  have h0:a[0]? =some (.agg [.int .i64 o,.nils]):=ha 0 (by simp)
  have h1:a[1]? =some (.int .i64 x):=ha 1 (by simp)
  clear ha
  simp(maxSteps:=1000000)(disch:=omega)only[push_cast,hal,h0,h1,↓WX,simprocAttr]
  refine wl_loop (fun i a T=>(T=[Ob.row 2 [[.int .i64 o,.nils]]]∧∃u:Int,a[5]? =some (.int .i64 u))∧a.length=43∧a[1]? =some (.int .i64 x)∧a[2]? =some (.loc 0 0 0)∧a[6]? =some (.int .i64 0)) 0 ?_ (by omega) ?_
  ·simp(maxSteps:=1000000)(disch:=omega)only[push_cast,hal,h1,simprocAttr]
   exact⟨_,rfl⟩
  clear hal h0 h1 a
  rintro i a T hi ⟨⟨rfl,u,h5⟩,hal,h1,h2,h6⟩
  simp(maxSteps:=1000000)(disch:=omega)only[push_cast,hal,h2,h5,h6,Int.lt_irrefl,Tryz.f139,↓WX,simprocAttr]
  exact⟨_,rfl⟩
 obtain⟨_,T,ho,v,rfl⟩:=this
 exact⟨v,fun st S=>callD_pure rfl rfl ho rfl⟩
end
end Go.Proofs.YtkemehicndccmaaGreatDoor.Dm
