/-
  The law ShopClasses: the combinations of classes on sale are those of the chapter, and each can be sold.
-/
import Derived.Test.YtkemehicndccmaaGreatDoorShF
import Derived.Test.YtkemehicndccmaaGreatDoorTfA
set_option linter.unusedSimpArgs false
set_option linter.unusedVariables false
namespace Go.Proofs.YtkemehicndccmaaGreatDoor.Dm
open Go Gw
set_option linter.unusedSimpArgs false
set_option linter.unusedSimpArgs false
theorem allF_open {s:Stk} {ids:List Lid} {c:ByteArray×Int} (h:c∈allF s ids):c.2=openF s ids c.1:=by
 unfold allF at h
 split at h
 ·rcases ids with _ | ⟨id,rest⟩
  ·cases h
  ·dsimp only at h
   unfold outF at h
   obtain⟨p,-,rfl⟩:=List.mem_map.1 h
   rfl
 ·cases h
theorem cmbF_open {s:Stk} {n:Int} {cv:List (List Lid)}:∀i,i≤cv.length→∀b∈cmbF s n (cv.take i),∀(k:Nat) (ids:List Lid) (c:ByteArray),cv[k]? =some ids→b[k]? =some c→n≤openF s ids c
 |0,_,b,h,k,ids,c,_,hc=>by
  have:b=[]:=by simpa [cmbF] using h
  rw[this]at hc
  simp at hc
 |i+1,hi,b,h,k,ids,c,hk,hc=>by
  rw[cmbF_succ (List.getElem?_eq_getElem (show i<cv.length by omega))]at h
  unfold stepC pickN at h
  obtain⟨b0,h0,h1⟩:=List.mem_flatMap.1 h
  obtain⟨c0,hc0,h2⟩:=List.mem_filterMap.1 h1
  have hl:=cmbF_el i (by omega) b0 h0
  by_cases q:n≤c0.2
  ·rw[if_pos q]at h2
   cases h2
   rcases Nat.lt_or_ge k i with hlt |hge
   ·rw[List.getElem?_append_left (by omega)]at hc
    exact cmbF_open i (by omega) b0 h0 k ids c hk hc
   ·have hkl:k<(b0++[c0.1]).length:=(List.getElem?_eq_some_iff.1 hc).1
    rw[List.length_append,hl,List.length_singleton]at hkl
    obtain rfl:k=i:=by omega
    rw[List.getElem?_append_right (by omega),hl,Nat.sub_self]at hc
    have:c0.1=c:=by simpa using hc
    rw[List.getElem?_eq_getElem (show k<cv.length by omega)]at hk
    cases hk
    rw[←this,←allF_open hc0]
    exact q
  ·rw[if_neg q]at h2;cases h2
theorem ex30_d:isT (dcall E 400 5 [] [])=true:=by kernel_rfl
section
variable {n k kr mx : Nat} {F : Nat → Ob → Prop} {T U : List Ob} {g : List Cfg} {s : Stk}
theorem Two.ext (h:Two F T k kr g mx s) (hx:ExtS T U):Two F U k kr g mx s:=by
 obtain⟨lab,⟨hf,m,ps,h1⟩,⟨-,rd,rows,h2⟩,h3⟩:=h.ex
 have hfu:FreshL U lab:=fun x hxl=>hf x (Nat.le_trans hx.len hxl)
 exact⟨⟨lab,⟨hfu,m,ps,h1.keep (KeepO.ext hx)⟩,⟨hfu,rd,rows,h2.keep (KeepO.ext hx)⟩,fun x o hxo=>⟨hx x o (h3 x o hxo).1,(h3 x o hxo).2⟩⟩,h.ok,h.l,h.m⟩
theorem app_cov {B:Nat} {d:D} {cv:List (D×List Lid)} (h:GL 1 encCv T d cv) (ho:∀k n,d=.os k 0 n false→B≤k) (hB:B≤T.length) (hl:cv.length≤10) (u:Dtd):
  ∃d' T',dAppend Tryz.prog T 48 48 d (.sl 1 [[.sl 4 [u.id.enc] true]] true)=some (d',T')∧GL 1 encCv T' d' (cv++[(.sl 4 [u.id.enc] true,[u.id])])∧(∀k o,k<B→T[k]? =some o→T'[k]? =some o)∧∀k n,d'=.os k 0 n false→B≤k:=by
 obtain⟨S',h1,h2,h3,h4,h5⟩:=app_gl (t:=48) (e:=54) (z:=.nils) (n:=0) (by kernel_rfl) (by kernel_rfl) (by kernel_rfl) rfl (Nat.le_of_ble_eq_true (by kernel_rfl)) h (by omega) (.sl 4 [u.id.enc] true,[u.id])
 refine⟨_,S',h1,h2,fun k o hk hko=>h4 k o (fun n hd=>by have:=ho k n hd;omega) hko,fun k n e=>?_⟩
 have e1:=(D.os.inj e).1
 rw[←e1]
 exact hB
set_option maxHeartbeats 64000000 in
set_option maxRecDepth 100000 in
theorem ShopClasses_d (hn:1000000100≤n) {m:Mkt} (hm:MktB m) (x q t0 t1 t2:Int):
  ∃T,dcall E (n+1) 3 [.agg m.enc,.int .i64 x,.int .i64 q,.agg [.int .i64 t0,.int .i64 t1,.int .i64 t2]] []=some (.bool true,T):=by
 have cw:∀st S,callD E (dcall E n) st S 5 []=some (.bool true,S):=fun st S=>by
  obtain⟨T,hT⟩:=isT_spec ex30_d
  exact callD_pure rfl rfl (dcall_le (by omega) _ _ _ _ hT) rfl
 obtain⟨bf,hbf,cf⟩:=fits30_c (n:=n) (by omega) hm
 have cid:=fun (y:Dtd) st S=>id30_c (n:=n) (by omega) y st S
 obtain⟨enc,henc⟩:∃enc,enc=m.enc:=⟨_,rfl⟩
 obtain⟨e0,e1,e2,e3,e4,e5,e6,e7,e8,e9,e10,e11,hmE,hone⟩:∃e0 e1 e2 e3 e4 e5 e6 e7 e8 e9 e10 e11,m.enc=[e0,e1,e2,e3,e4,e5,e6,e7,e8,e9,e10,e11]∧(e0.one=true∧e1.one=true∧e2.one=true∧e3.one=true∧e4.one=true∧e5.one=true∧e6.one=true∧e7.one=true∧e8.one=true∧e9.one=true∧e10.one=true∧e11.one=true):=⟨_,_,_,_,_,_,_,_,_,_,_,_,rfl,rfl,rfl,rfl,rfl,rfl,rfl,rfl,rfl,rfl,rfl,rfl,rfl⟩
 simp only[D.one]at hone
 obtain⟨n0,n1,n2,n3,n4,n5,n6,n7,n8,n9,n10,n11⟩:=hone
 have cst:=fun hb (S:List Ob)=>gen_of (n:=n) (f:=6) (by omega) rfl (stocks30_d (n:=n-1) (by omega) hm (hbf hb) x (S:=S))
 have clg:=fun hb=>legs30_c (n:=n) (by omega) hm (hbf hb) x
 have hgl:=fun hb=>(hbf hb).g
 rw[hmE]at cf cst clg ⊢
 clear henc enc hmE hbf
 have:WO (dcall E (n+1) 3 [.agg [e0,e1,e2,e3,e4,e5,e6,e7,e8,e9,e10,e11],.int .i64 x,.int .i64 q,.agg [.int .i64 t0,.int .i64 t1,.int .i64 t2]] []) fun r T=>r=.bool true:=by
  refine wo_dcall Tryz.func3 rfl (by decide) rfl 148 rfl (fun a hal ha=>?_)
  have h0:a[0]? =some (.agg [e0,e1,e2,e3,e4,e5,e6,e7,e8,e9,e10,e11]):=ha 0 (by simp)
  have h1:a[1]? =some (.int .i64 x):=ha 1 (by simp)
  have h2:a[2]? =some (.int .i64 q):=ha 2 (by simp)
  have h3:a[3]? =some (.agg [.int .i64 t0,.int .i64 t1,.int .i64 t2]):=ha 3 (by simp)
  clear ha
  obtain⟨S0,hS0⟩:∃S0,S0=[Ob.row 12 [[e0,e1,e2,e3,e4,e5,e6,e7,e8,e9,e10,e11]],Ob.row 3 [[.int .i64 t0,.int .i64 t1,.int .i64 t2]]]:=⟨_,rfl⟩
  have g0:S0[0]? =some (.row 12 [[e0,e1,e2,e3,e4,e5,e6,e7,e8,e9,e10,e11]]):=by rw[hS0];rfl
  have g1:S0[1]? =some (.row 3 [[.int .i64 t0,.int .i64 t1,.int .i64 t2]]):=by rw[hS0];rfl
  refine wc_scut (fun a V=>V=S0∧a.length=148∧a[1]? =some (.int .i64 x)∧a[2]? =some (.int .i64 q)∧a[4]? =some (.loc 0 0 0)∧a[7]? =some (.loc 1 0 0)) ?_ ?_
  ·simp(maxSteps:=1000000)(disch:=omega)only[push_cast,hal,h0,h1,h2,h3,n0,n1,n2,n3,n4,n5,n6,n7,n8,n9,n10,n11,↓WX,simprocAttr]
   exact hS0.symm
  clear hal h0 h1 h2 h3 a
  clear hS0
  rintro a V ⟨rfl,hal,h1,h2,h4,h7⟩
  cases bf
  case false=>
   simp(maxSteps:=1000000)(disch:=omega)only[push_cast,hal,h4,g0,cf,cw,dUn,Bool.not_false,Tryz.f3,↓WX,simprocAttr]
  by_cases bq:20<q
  ·simp(maxSteps:=1000000)(disch:=omega)only[push_cast,gt_iff_lt,hal,h2,h4,g0,cf,cw,bq,dUn,Bool.not_true,Tryz.f3,↓WX,simprocAttr]
  have hgl:=hgl rfl
  obtain⟨rl,l,hrl,hll,hly,cl⟩:=clg rfl
  obtain⟨_,T1,cs,p,r,s,rfl,hT⟩:=cst rfl V
  refine wc_scut (fun a W=>W=V∧a.length=148∧a[1]? =some (.int .i64 x)∧a[2]? =some (.int .i64 q)∧a[4]? =some (.loc 0 0 0)∧a[7]? =some (.loc 1 0 0)) ?_ ?_
  ·simp(maxSteps:=1000000)(disch:=omega)only[push_cast,gt_iff_lt,hal,h1,h2,h4,h7,g0,cf,bq,dUn,Bool.not_true,↓WX,simprocAttr]
  clear hal h1 h2 h4 h7 a
  rintro a W ⟨rfl,hal,h1,h2,h4,h7⟩
  refine wc_scut (fun a V=>V=T1∧a.length=148∧a[1]? =some (.int .i64 x)∧a[2]? =some (.int .i64 q)∧a[4]? =some (.loc 0 0 0)∧a[7]? =some (.loc 1 0 0)∧a[9]? =some (.loc p 0 0)∧a[10]? =some (.loc r 0 0)∧a[11]? =some (.bool true)) ?_ ?_
  ·simp(maxSteps:=1000000)(disch:=omega)only[push_cast,hal,h1,h2,h4,h7,g0,cs,↓WX,simprocAttr]
  clear hal h1 h2 h4 h7 a
  rintro a V ⟨rfl,hal,h1,h2,h4,h7,h9,h10,h11⟩
  have v0:=hT.get g0
  have v1:=hT.get g1
  refine wc_scut (fun a W=>W=V∧a.length=148∧a[1]? =some (.int .i64 x)∧a[2]? =some (.int .i64 q)∧a[4]? =some (.loc 0 0 0)∧a[7]? =some (.loc 1 0 0)∧a[9]? =some (.loc p 0 0)∧a[10]? =some (.loc r 0 0)) ?_ ?_
  ·simp(maxSteps:=1000000)(disch:=omega)only[push_cast,hal,h1,h2,h4,h7,h9,h10,h11,dUn,Bool.not_true,↓WX,simprocAttr]
  clear hal h1 h2 h4 h7 h9 h10 h11 a
  rintro a W1 ⟨rfl,hal,h1,h2,h4,h7,h9,h10⟩
  refine wc_scut (fun a W=>W=W1∧a.length=148∧a[1]? =some (.int .i64 x)∧a[2]? =some (.int .i64 q)∧a[4]? =some (.loc 0 0 0)∧a[7]? =some (.loc 1 0 0)∧a[9]? =some (.loc p 0 0)∧a[10]? =some (.loc r 0 0)∧a[12]? =some (rl)) ?_ ?_
  ·simp(maxSteps:=1000000)(disch:=omega)only[push_cast,hal,h1,h2,h4,h7,h9,h10,v0,cl,↓WX,simprocAttr]
  clear hal h1 h2 h4 h7 h9 h10 a
  rintro a W2 ⟨rfl,hal,h1,h2,h4,h7,h9,h10,h12⟩
  refine wc_scut (fun a W=>W=W2∧a.length=148∧a[1]? =some (.int .i64 x)∧a[2]? =some (.int .i64 q)∧a[4]? =some (.loc 0 0 0)∧a[7]? =some (.loc 1 0 0)∧a[9]? =some (.loc p 0 0)∧a[10]? =some (.loc r 0 0)∧a[12]? =some (rl)∧a[13]? =some (.nils)) ?_ ?_
  ·simp(maxSteps:=1000000)(disch:=omega)only[push_cast,hal,h1,h2,h4,h7,h9,h10,h12,↓WX,simprocAttr]
  clear hal h1 h2 h4 h7 h9 h10 h12 a
  rintro a W ⟨rfl,hal,h1,h2,h4,h7,h9,h10,h12,h13⟩
  have hok:∀y∈l,y.id.Ok:=fun y hy=>by
   have hb:=hly y hy
   exact⟨Nat.le_trans hb.car (by decide),hb.num,hb.day,Nat.le_trans hb.frm (by decide),trivial⟩
  refine wc_scut (fun a T=>(ExtS W T∧∃d cv,a[13]? =some d∧GL 1 encCv T d cv∧cv.length≤3∧∀v∈cv,∃u∈l,v=(.sl 4 [u.id.enc] true,[u.id]))∧a.length=148∧a[2]? =some (.int .i64 q)∧a[9]? =some (.loc p 0 0)∧a[10]? =some (.loc r 0 0)) ?_ ?_
  ·simp(maxSteps:=1000000)(disch:=omega)only[push_cast,↓WX,simprocAttr]
   refine wl_loop (fun i a T=>(ExtS W T∧∃d cv,a[13]? =some d∧GL 1 encCv T d cv∧(∀k n,d=.os k 0 n false→W.length≤k)∧cv.length≤i∧∀v∈cv,∃u∈l,v=(.sl 4 [u.id.enc] true,[u.id]))∧a.length=148∧a[1]? =some (.int .i64 x)∧a[2]? =some (.int .i64 q)∧a[4]? =some (.loc 0 0 0)∧a[7]? =some (.loc 1 0 0)∧a[9]? =some (.loc p 0 0)∧a[10]? =some (.loc r 0 0)∧a[12]? =some (rl)∧a[14]? =some (.int .i64 i)) 3 ?_ (by omega) ?_
   ·simp(maxSteps:=1000000)(disch:=omega)only[push_cast,hal,h1,h2,h4,h7,h9,h10,h12,h13,Int.natCast_zero,simprocAttr]
    exact⟨fun _ _ h=>h,_,[],rfl,GL.nil,(fun k n e=>by cases e),by simp,fun v h=>by cases h⟩
   clear hal h1 h2 h4 h7 h9 h10 h12 h13 a
   rintro i a T hi ⟨⟨hxT,d,cv,h13,hg,hown,hcl,hall⟩,hal,h1,h2,h4,h7,h9,h10,h12,h14⟩
   have v7:=hxT _ _ v1
   have hc10:cv.length≤10:=by omega
   rcases (show i=0∨i=1∨i=2∨i=3 by omega) with rfl |rfl |rfl |rfl
   ·by_cases c1:0≤t0
    case neg=>
     simp(maxSteps:=1000000)(disch:=omega)only[push_cast,hal,h1,h2,h4,h7,h9,h10,h12,h13,h14,v7,c1,decide_false,wrap_ok,↓WX,simprocAttr]
     exact⟨hxT,_,_,rfl,hg,hown,by omega,hall⟩
    rcases hrl with ⟨rfl,rfl⟩ | ⟨y,rfl⟩
    ·have c2:¬t0<(0:Int):=by omega
     simp(maxSteps:=1000000)(disch:=omega)only[push_cast,hal,h1,h2,h4,h7,h9,h10,h12,h13,h14,v7,c1,c2,decide_true,decide_false,wrap_ok,↓WX,simprocAttr]
     exact⟨hxT,_,_,rfl,hg,hown,by omega,hall⟩
    by_cases c2:t0<(l.length:Int)
    case neg=>
     simp(maxSteps:=1000000)(disch:=omega)only[push_cast,hal,h1,h2,h4,h7,h9,h10,h12,h13,h14,v7,c1,c2,decide_true,decide_false,wrap_ok,↓WX,simprocAttr]
     exact⟨hxT,_,_,rfl,hg,hown,by omega,hall⟩
    obtain⟨j,hj⟩:=Int.eq_ofNat_of_zero_le c1
    have hjl:j<l.length:=by omega
    have hjlc:(j:Int)<l.length:=by omega
    have hjn:(0:Int)≤j:=by omega
    obtain⟨u,hu⟩:∃u,l[j]? =some u:=⟨l[j],by simp⟩
    have ci:=cid u
    obtain⟨d2,T2,p2,g2,x2,o2⟩:=app_cov hg hown hxT.len hc10 u
    simp only[Dtd.enc,Dtd.id,Lid.enc]at ci p2
    subst hj
    simp(maxSteps:=1000000)(disch:=omega)only[push_cast,hal,h1,h2,h4,h7,h9,h10,h12,h13,h14,v7,hjn,hjlc,hu,ci,p2,Dtd.enc,decide_true,wrap_ok,↓WX,simprocAttr]
    refine⟨fun k o hk=>x2 k o (List.getElem?_eq_some_iff.1 hk).1 (hxT k o hk),_,_,rfl,g2,o2,by rw[List.length_append,List.length_singleton];omega,fun v hv=>?_⟩
    rcases List.mem_append.1 hv with hv |hv
    ·exact hall v hv
    ·exact⟨u,List.mem_of_getElem? hu,by simpa using hv⟩
   ·by_cases c1:0≤t1
    case neg=>
     simp(maxSteps:=1000000)(disch:=omega)only[push_cast,hal,h1,h2,h4,h7,h9,h10,h12,h13,h14,v7,c1,decide_false,wrap_ok,↓WX,simprocAttr]
     exact⟨hxT,_,_,rfl,hg,hown,by omega,hall⟩
    rcases hrl with ⟨rfl,rfl⟩ | ⟨y,rfl⟩
    ·have c2:¬t1<(0:Int):=by omega
     simp(maxSteps:=1000000)(disch:=omega)only[push_cast,hal,h1,h2,h4,h7,h9,h10,h12,h13,h14,v7,c1,c2,decide_true,decide_false,wrap_ok,↓WX,simprocAttr]
     exact⟨hxT,_,_,rfl,hg,hown,by omega,hall⟩
    by_cases c2:t1<(l.length:Int)
    case neg=>
     simp(maxSteps:=1000000)(disch:=omega)only[push_cast,hal,h1,h2,h4,h7,h9,h10,h12,h13,h14,v7,c1,c2,decide_true,decide_false,wrap_ok,↓WX,simprocAttr]
     exact⟨hxT,_,_,rfl,hg,hown,by omega,hall⟩
    obtain⟨j,hj⟩:=Int.eq_ofNat_of_zero_le c1
    have hjl:j<l.length:=by omega
    have hjlc:(j:Int)<l.length:=by omega
    have hjn:(0:Int)≤j:=by omega
    obtain⟨u,hu⟩:∃u,l[j]? =some u:=⟨l[j],by simp⟩
    have ci:=cid u
    obtain⟨d2,T2,p2,g2,x2,o2⟩:=app_cov hg hown hxT.len hc10 u
    simp only[Dtd.enc,Dtd.id,Lid.enc]at ci p2
    subst hj
    simp(maxSteps:=1000000)(disch:=omega)only[push_cast,hal,h1,h2,h4,h7,h9,h10,h12,h13,h14,v7,hjn,hjlc,hu,ci,p2,Dtd.enc,decide_true,wrap_ok,↓WX,simprocAttr]
    refine⟨fun k o hk=>x2 k o (List.getElem?_eq_some_iff.1 hk).1 (hxT k o hk),_,_,rfl,g2,o2,by rw[List.length_append,List.length_singleton];omega,fun v hv=>?_⟩
    rcases List.mem_append.1 hv with hv |hv
    ·exact hall v hv
    ·exact⟨u,List.mem_of_getElem? hu,by simpa using hv⟩
   ·by_cases c1:0≤t2
    case neg=>
     simp(maxSteps:=1000000)(disch:=omega)only[push_cast,hal,h1,h2,h4,h7,h9,h10,h12,h13,h14,v7,c1,decide_false,wrap_ok,↓WX,simprocAttr]
     exact⟨hxT,_,_,rfl,hg,hown,by omega,hall⟩
    rcases hrl with ⟨rfl,rfl⟩ | ⟨y,rfl⟩
    ·have c2:¬t2<(0:Int):=by omega
     simp(maxSteps:=1000000)(disch:=omega)only[push_cast,hal,h1,h2,h4,h7,h9,h10,h12,h13,h14,v7,c1,c2,decide_true,decide_false,wrap_ok,↓WX,simprocAttr]
     exact⟨hxT,_,_,rfl,hg,hown,by omega,hall⟩
    by_cases c2:t2<(l.length:Int)
    case neg=>
     simp(maxSteps:=1000000)(disch:=omega)only[push_cast,hal,h1,h2,h4,h7,h9,h10,h12,h13,h14,v7,c1,c2,decide_true,decide_false,wrap_ok,↓WX,simprocAttr]
     exact⟨hxT,_,_,rfl,hg,hown,by omega,hall⟩
    obtain⟨j,hj⟩:=Int.eq_ofNat_of_zero_le c1
    have hjl:j<l.length:=by omega
    have hjlc:(j:Int)<l.length:=by omega
    have hjn:(0:Int)≤j:=by omega
    obtain⟨u,hu⟩:∃u,l[j]? =some u:=⟨l[j],by simp⟩
    have ci:=cid u
    obtain⟨d2,T2,p2,g2,x2,o2⟩:=app_cov hg hown hxT.len hc10 u
    simp only[Dtd.enc,Dtd.id,Lid.enc]at ci p2
    subst hj
    simp(maxSteps:=1000000)(disch:=omega)only[push_cast,hal,h1,h2,h4,h7,h9,h10,h12,h13,h14,v7,hjn,hjlc,hu,ci,p2,Dtd.enc,decide_true,wrap_ok,↓WX,simprocAttr]
    refine⟨fun k o hk=>x2 k o (List.getElem?_eq_some_iff.1 hk).1 (hxT k o hk),_,_,rfl,g2,o2,by rw[List.length_append,List.length_singleton];omega,fun v hv=>?_⟩
    rcases List.mem_append.1 hv with hv |hv
    ·exact hall v hv
    ·exact⟨u,List.mem_of_getElem? hu,by simpa using hv⟩
   ·simp(maxSteps:=1000000)(disch:=omega)only[push_cast,hal,h2,h9,h10,h13,h14,Int.lt_irrefl,↓WX,simprocAttr]
    exact⟨hxT,_,_,rfl,hg,by omega,hall⟩
  clear hal h1 h2 h4 h7 h9 h10 h12 h13 a
  rintro a T ⟨⟨hxT,dc,cv,h13,hg,hcl,hall⟩,hal,h2,h9,h10⟩
  have hcv:∀v∈cv,FLs 4 Lid.enc v.1 v.2∧v.2.length≤20∧∀id∈v.2,id.Ok:=fun v hv=>by
   obtain⟨u,hu,rfl⟩:=hall v hv
   exact⟨.inr ⟨true,rfl⟩,by simp,by simpa using hok u hu⟩
  have hT2:=hT.ext hxT
  have hok9:=hT.ok.ok
  have hsl:=hT.l
  have hsm:=hT.m
  obtain⟨lab,⟨-,mm,ps,hA⟩,⟨-,rd,rows,hB⟩,-⟩:=hT2.ex
  have hrows:rows.length≤100:=by
   have:=congrArg List.length hB.legs
   rw[List.length_map]at this
   omega
  obtain⟨dx,TX,xs,cx,ex,ox,mx'⟩:=Classes_c (n:=n) (by omega) hA hok9 hg.lz (by omega) hcv q
  obtain⟨dy,TY,ys,cy,ey,oy,my'⟩:=rClasses_c (n:=n) (by omega) (hB.keep (lab':=lab) (KeepO.ext ex)) hok9 hrows (by rw[hsl];omega) (hg.ext ex).lz (by omega) (fun v hv=>⟨(hcv v hv).1,(hcv v hv).2.1⟩) q
  have hA':=hA.keep (lab':=lab) (KeepO.ext (fun k o h=>ey k o (ex k o h)))
  have hg':=(hg.ext ex).ext ey
  have hmm:xs.map (·.2)=ys.map (·.2):=by rw[mx',my']
  have hxl:xs.length≤1000000000:=by
   have h1:=congrArg List.length mx'
   rw[List.length_map]at h1
   by_cases hc:1≤q∧cv≠[]∧cv.length≤3
   ·rw[if_pos hc]at h1
    have h2:=cmbF_len hok9 q (cv.map (·.2)) cv.length (by simp)
    rw[List.take_of_length_le (by simp)]at h2
    have h3:1000 ^ cv.length≤1000 ^ 3:=Nat.pow_le_pow_right (by decide) hcl
    have h4:1000 ^ 3=1000000000:=by decide
    omega
   ·rw[if_neg hc]at h1
    simp at h1
    rw[h1]
    exact Nat.zero_le _
  have hlxy:ys.length=xs.length:=by have:=congrArg List.length hmm;simpa using this.symm
  refine wc_scut (fun a W=>W=TY∧a.length=148∧a[2]? =some (.int .i64 q)∧a[9]? =some (.loc p 0 0)∧a[13]? =some (dc)∧a[15]? =some (dx)∧a[16]? =some (dy)) ?_ ?_
  ·simp(maxSteps:=1000000)(disch:=omega)only[push_cast,hal,h2,h9,h10,h13,cx,cy,↓WX,simprocAttr]
  clear hal h2 h9 h10 h13 a
  rintro a W3 ⟨rfl,hal,h2,h9,h13,h15,h16⟩
  have lx:=len_ls Tryz.underlying55 (ox.gl.ext ey).lz
  have ly:=len_ls Tryz.underlying55 oy.gl.lz
  have lc:=len_ls Tryz.underlying48 hg'.lz
  rw[hlxy]at ly
  simp only[push_cast]at lx ly lc
  refine wc_scut (fun a W=>W=W3∧a.length=148∧a[2]? =some (.int .i64 q)∧a[9]? =some (.loc p 0 0)∧a[13]? =some (dc)∧a[15]? =some (dx)∧a[16]? =some (dy)) ?_ ?_
  ·simp(maxSteps:=1000000)(disch:=omega)only[push_cast,not_true_eq_false,hal,h2,h9,h13,h15,h16,lx,ly,↓WX,simprocAttr]
  clear hal h2 h9 h13 h15 h16 a
  rintro a W4 ⟨rfl,hal,h2,h9,h13,h15,h16⟩
  simp(maxSteps:=1000000)(disch:=omega)only[push_cast,↓WX,simprocAttr]
  refine wl_loop (fun i a T=>T=W4∧a.length=148∧a[2]? =some (.int .i64 q)∧a[9]? =some (.loc p 0 0)∧a[13]? =some (dc)∧a[15]? =some (dx)∧a[16]? =some (dy)∧a[17]? =some (.int .i64 i)) xs.length ?_ (by omega) ?_
  ·simp(maxSteps:=1000000)(disch:=omega)only[push_cast,hal,h2,h9,h13,h15,h16,Int.natCast_zero,simprocAttr]
  clear hal h2 h9 h13 h15 h16 a
  rintro i a T' hi ⟨rfl,hal,h2,h9,h13,h15,h16,h17⟩
  rcases Nat.lt_or_eq_of_le hi with hlt |rfl
  case inr=>
   simp(maxSteps:=1000000)(disch:=omega)only[push_cast,hal,h15,h17,lx,Int.lt_irrefl,cw,Tryz.f3,↓WX,simprocAttr]
  have hltc:(i:Int)<xs.length:=by omega
  obtain⟨u,hu⟩:∃u,xs[i]? =some u:=⟨xs[i],by simp⟩
  obtain⟨w,hw⟩:∃w,ys[i]? =some w:=⟨ys[i]'(by omega),by simp⟩
  have huw:u.2=w.2:=by
   have h1:(xs.map (·.2))[i]? =some u.2:=by rw[List.getElem?_map,hu];rfl
   have h2:(ys.map (·.2))[i]? =some w.2:=by rw[List.getElem?_map,hw];rfl
   rw[hmm,h2]at h1
   exact (Option.some.inj h1).symm
  have hcond:1≤q∧cv≠[]∧cv.length≤3:=by
   refine Classical.byContradiction fun hc=>?_
   rw[if_neg hc]at mx'
   have:=congrArg List.length mx'
   simp at this
   rw[this]at hlt
   simp at hlt
  rw[if_pos hcond]at mx'
  have hub:u.2∈cmbF s q ((cv.map (·.2)).take cv.length):=by
   rw[List.take_of_length_le (by simp),←mx']
   exact List.mem_map_of_mem (List.mem_of_getElem? hu)
  have hbl:=cmbF_el cv.length (by simp) _ hub
  have hbo:=cmbF_open cv.length (by simp) _ hub
  have hbne:u.2≠[]:=fun e=>hcond.2.1 (List.eq_nil_of_length_eq_zero (by rw[←hbl,e];rfl))
  have eu:=(ox.ext ey).el u (List.mem_of_getElem? hu)
  have ew:=oy.el w (List.mem_of_getElem? hw)
  rw[←huw]at ew
  obtain⟨du,b⟩:=u
  obtain⟨dw,b'⟩:=w
  dsimp only at huw hbl hbo hbne eu ew
  subst huw
  rcases eu with ⟨-,e⟩ | ⟨-,qx,rfl,hqx⟩
  ·exact absurd e hbne
  rcases ew with ⟨-,e⟩ | ⟨-,qy,rfl,hqy⟩
  ·exact absurd e hbne
  rcases ox.gl.ext ey with ⟨rfl,e⟩ | ⟨kx,rfl,hkx⟩
  ·rw[e]at hlt;simp at hlt
  rcases oy.gl with ⟨rfl,e⟩ | ⟨ky,rfl,hky⟩
  ·rw[e]at hlxy;rw[←hlxy]at hlt;simp at hlt
  rcases hg' with ⟨rfl,e⟩ | ⟨kc,rfl,hkc⟩
  ·exact absurd e hcond.2.1
  have hlty:i<ys.length:=by omega
  refine wc_scut (fun a V=>V=T'∧a.length=148∧a[2]? =some (.int .i64 q)∧a[9]? =some (.loc p 0 0)∧a[13]? =some (.os kc 0 cv.length false)∧a[15]? =some (.os kx 0 xs.length false)∧a[16]? =some (.os ky 0 ys.length false)∧a[17]? =some (.int .i64 i)) ?_ ?_
  ·simp(maxSteps:=1000000)(disch:=omega)only[push_cast,hal,h2,h9,h13,h15,h16,h17,hltc,↓WX,simprocAttr]
  clear hal h2 h9 h13 h15 h16 h17 a
  rintro a V ⟨rfl,hal,h2,h9,h13,h15,h16,h17⟩
  rw[wc_seq,wc_block]
  refine wc_scut (fun a V'=>V'=V∧a.length=148∧a[2]? =some (.int .i64 q)∧a[9]? =some (.loc p 0 0)∧a[13]? =some (.os kc 0 cv.length false)∧a[15]? =some (.os kx 0 xs.length false)∧a[16]? =some (.os ky 0 ys.length false)∧a[17]? =some (.int .i64 i)) ?_ ?_
  ·simp(maxSteps:=1000000)(disch:=omega)only[push_cast,not_true_eq_false,hal,h2,h9,h13,h15,h16,h17,hkx,hky,hlt,hlty,hu,hw,hbl,↓WX,simprocAttr]
  clear hal h2 h9 h13 h15 h16 h17 a
  rintro a V' ⟨rfl,hal,h2,h9,h13,h15,h16,h17⟩
  simp(maxSteps:=1000000)(disch:=omega)only[push_cast,↓WX,simprocAttr]
  refine wl_loop (fun k a T=>T=V'∧a.length=148∧a[2]? =some (.int .i64 q)∧a[9]? =some (.loc p 0 0)∧a[13]? =some (.os kc 0 cv.length false)∧a[15]? =some (.os kx 0 xs.length false)∧a[16]? =some (.os ky 0 ys.length false)∧a[17]? =some (.int .i64 i)∧a[18]? =some (.int .i64 k)) b.length ?_ (by omega) ?_
  ·simp(maxSteps:=1000000)(disch:=omega)only[push_cast,hal,h2,h9,h13,h15,h16,h17,Int.natCast_zero,simprocAttr]
  clear hal h2 h9 h13 h15 h16 h17 a
  rintro j a T'' hj ⟨rfl,hal,h2,h9,h13,h15,h16,h17,h18⟩
  rcases Nat.lt_or_eq_of_le hj with hjt |rfl
  case inr=>
   simp(maxSteps:=1000000)(disch:=omega)only[push_cast,hal,h2,h9,h13,h15,h16,h17,h18,hkx,hlt,hu,Int.lt_irrefl,wrap_ok,Int.natCast_add,Int.natCast_one,↓WX,simprocAttr]
  have hjtc:(j:Int)<b.length:=by omega
  have hjc:j<cv.length:=by omega
  obtain⟨c,hc⟩:∃c,b[j]? =some c:=⟨b[j],by simp⟩
  obtain⟨v,hv⟩:∃v,cv[j]? =some v:=⟨cv[j],by simp⟩
  obtain⟨h1v,h2v,h3v⟩:=hcv v (List.mem_of_getElem? hv)
  have ho:=hbo j v.2 c (by rw[List.getElem?_map,hv];rfl) hc
  have ho':¬openF s v.2 c<q:=by omega
  have co:=fun st=>OOpen_c (n:=n) (by omega) hA' hok9 h2v h3v h1v c st
  refine wc_scut (fun a V=>V=T''∧a.length=148∧a[2]? =some (.int .i64 q)∧a[9]? =some (.loc p 0 0)∧a[13]? =some (.os kc 0 cv.length false)∧a[15]? =some (.os kx 0 xs.length false)∧a[16]? =some (.os ky 0 ys.length false)∧a[17]? =some (.int .i64 i)∧a[18]? =some (.int .i64 j)) ?_ ?_
  ·simp(maxSteps:=1000000)(disch:=omega)only[push_cast,hal,h2,h9,h13,h15,h16,h17,h18,hkx,hlt,hu,hjtc,↓WX,simprocAttr]
  clear hal h2 h9 h13 h15 h16 h17 h18 a
  rintro a V ⟨rfl,hal,h2,h9,h13,h15,h16,h17,h18⟩
  rw[wc_seq,wc_block]
  simp(maxSteps:=1000000)(disch:=omega)only[push_cast,hal,h2,h9,h13,h15,h16,h17,h18,hkx,hky,hkc,hqx,hqy,hlt,hlty,hu,hw,hjt,hjc,hc,hv,co,ho',str_eq,decide_true,Bool.not_true,wrap_ok,Int.natCast_add,Int.natCast_one,↓WX,simprocAttr]
 obtain⟨_,T,ho,rfl⟩:=this
 exact⟨T,ho⟩
end
end Go.Proofs.YtkemehicndccmaaGreatDoor.Dm
