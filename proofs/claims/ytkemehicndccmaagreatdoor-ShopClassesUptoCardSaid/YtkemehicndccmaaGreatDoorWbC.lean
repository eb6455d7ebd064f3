/-
  The reference's violations of cabins and of configurations of any size: none, then they are small.
-/
import Derived.Test.YtkemehicndccmaaGreatDoorWbA
set_option linter.unusedSimpArgs false
set_option linter.unusedVariables false
namespace Go.Proofs.YtkemehicndccmaaGreatDoor.Dm
open Go Gw
set_option linter.unusedSimpArgs false
set_option linter.unusedSimpArgs false
namespace Wb

def FE (T:List Ob) (a:Option D) (m:Nat) (p:Prop):Prop:=∃d fs,a=some d∧GL 2 encF T d fs∧fs.length≤m∧(fs=[]→p)
theorem app_e {T:List Ob} {d:D} {fs:List (Int×ByteArray)} (h:GL 2 encF T d fs) (hl:fs.length≤4999999999999) (b:Bool) (e:Int) (s:ByteArray):
  ∃d' T' fs',(b=true→dAppend Tryz.prog T 66 66 d (.sl 2 [[.int .i64 e,.str s]] true)=some (d',T'))∧(b=false→d'=d∧T'=T)∧GL 2 encF T' d' fs'∧fs'.length≤fs.length+1∧(fs'=[]→fs=[]∧b=false)∧KeepF T T':=by
 obtain⟨d',T',fs',h1,h2,h3,h4,h5,h6⟩:=app_w h hl b e s
 refine⟨d',T',fs',h1,h2,h3,h4,fun h0=>?_,h6⟩
 cases b
 ·refine⟨Classical.byContradiction fun hf=>h5 (.inr hf) h0,rfl⟩
 ·exact absurd h0 (h5 (.inl rfl))
set_option maxHeartbeats 16000000 in
set_option maxRecDepth 100000 in
theorem cabinsW_d {n:Nat} {c:Cfg} {p:ByteArray} (hn:3000010≤n) (hc:CfgB c) (hp:p.size≤600):
  WO (dcall E (n+1) 41 [.agg c.enc,.str p] []) fun d T=>∃fs,GL 2 encF T d fs∧fs.length≤3145732*c.cabs.length∧(fs=[]→∀y∈c.cabs,y.cls.length≤26):=by
 have hl:=hc.cabs
 refine wo_dcall Tryz.func41 rfl (by decide) rfl 88 rfl (fun a hal ha=>?_)
 have h0:a[0]? =some (.agg c.enc):=ha 0 (by simp)
 have h1:a[1]? =some (.str p):=ha 1 (by simp)
 clear ha
 simp only[Cfg.enc]at h0
 simp(maxSteps:=1000000)(disch:=omega)only[push_cast,h0,↓WX,simprocAttr]
 refine wl_loop (fun i a T=>(T[0]? =some (.row 2 [[.str c.equip,.sl 4 (c.cabs.map Cab.enc) c.cabsx]])∧FE T a[5]? (3145732*i) (∀y∈c.cabs.take i,y.cls.length≤26))∧a.length=88∧a[1]? =some (.str p)∧a[2]? =some (.loc 0 0 0)∧a[6]? =some (.int .i64 i)) c.cabs.length ?_ (by omega) ?_
 ·simp(maxSteps:=1000000)(disch:=omega)only[push_cast,hal,h1,Int.natCast_zero,FE,simprocAttr]
  exact⟨_,_,rfl,GL.nil,Nat.zero_le _,fun _ y hy=>by simp at hy⟩
 clear hal h0 h1 a
 rintro i a T hi ⟨⟨hT0,d,fs,h5,hg,hfl,hfe⟩,hal,h1,h2,h6⟩
 rcases Nat.lt_or_eq_of_le hi with hlt |rfl
 case inr=>
  rw[List.take_length]at hfe
  simp(maxSteps:=1000000)(disch:=omega)only[push_cast,hal,h2,h5,h6,Nat.lt_irrefl,hT0,Tryz.f41,↓WX,simprocAttr]
  exact⟨fs,hg,hfl,hfe⟩
 obtain⟨y,hy⟩:∃y,c.cabs[i]? =some y:=⟨c.cabs[i],by simp⟩
 have hym:=List.mem_of_getElem? hy
 have hly:=hc.cls y hym
 have hmi:3145732*i+3145732≤3145732*262144:=by omega
 obtain⟨q,hq,cp⟩:=placeW (n:=n) (i:=i) (p:=p) (w:=ByteArray.mk #[99,97,98,105,110]) (by omega) (by omega) (by omega) (by decide)
 have hnm:=hc.nm y hym
 have cc:=rcode_c (n:=n) (s:=y.name) (l:=1) (m:=8) (by omega) (by omega)
 have cr:=rRng_c (n:=n) (by omega) y
 obtain⟨xs,gs,hxs,hgl,ck⟩:=classesW (n:=n) (p:=q) (by omega) hc hy (by omega)
 have hca:c.enc=[.str c.equip,.sl 4 (c.cabs.map Cab.enc) c.cabsx]:=rfl
 rw[hca]at ck
 have hcb:y.enc=[.str y.name,.int .i64 y.seats,.int .i64 y.over,.sl 2 (y.cls.map Cls.enc) y.clsx]:=rfl
 rw[hcb]at cr
 generalize hb1:codeS y.name 1 8=b1 at*
 generalize hb3:rngB y=b3 at*
 refine wc_scut (fun a T'=>T'=T∧a.length=88∧a[1]? =some (.str p)∧a[2]? =some (.loc 0 0 0)∧a[5]? =some (d)∧a[6]? =some (.int .i64 i)) ?_ ?_
 ·simp(maxSteps:=1000000)(disch:=omega)only[push_cast,hal,h1,h2,h5,h6,hlt,hT0,↓WX,simprocAttr]
 clear hal h1 h2 h5 h6 a
 rintro a T' ⟨rfl,hal,h1,h2,h5,h6⟩
 rw[wc_seq,wc_block]
 obtain⟨S0,hS0⟩:∃S0,S0=T'++[cabR y]:=⟨_,rfl⟩
 have hT0':S0[0]? =some (.row 2 [[.str c.equip,.sl 4 (c.cabs.map Cab.enc) c.cabsx]]):=by rw[hS0];exact get_old hT0
 have hy0:S0[T'.length]? =some (cabR y):=by rw[hS0];exact get_end
 have hg0:GL 2 encF S0 d fs:=by rw[hS0];exact hg.push _
 refine wc_scut (fun a V=>V=S0∧a.length=88∧a[1]? =some (.str p)∧a[2]? =some (.loc 0 0 0)∧a[5]? =some (d)∧a[6]? =some (.int .i64 i)∧a[7]? =some (.str q)∧a[8]? =some (.loc T'.length 0 0)∧a[9]? =some (.bool false)) ?_ ?_
 ·simp(maxSteps:=1000000)(disch:=omega)only[push_cast,hal,h1,h2,h5,h6,hT0,hy,cp,set_end,get_end,Cab.enc,↓WX,simprocAttr]
  exact hS0.symm
 clear hal h1 h2 h5 h6 a
 rintro a V ⟨rfl,hal,h1,h2,h5,h6,h7,h8,h9⟩
 refine wc_scut (fun a V'=>(V'=V∧∃b,a[9]? =some (.bool b))∧a.length=88∧a[1]? =some (.str p)∧a[2]? =some (.loc 0 0 0)∧a[5]? =some (d)∧a[6]? =some (.int .i64 i)∧a[7]? =some (.str q)∧a[8]? =some (.loc T'.length 0 0)) ?_ ?_
 ·simp(maxSteps:=1000000)(disch:=omega)only[push_cast,↓WX,simprocAttr]
  refine wl_loop (fun w a U=>(U=V∧∃b,a[9]? =some (.bool b))∧a.length=88∧a[1]? =some (.str p)∧a[2]? =some (.loc 0 0 0)∧a[5]? =some (d)∧a[6]? =some (.int .i64 i)∧a[7]? =some (.str q)∧a[8]? =some (.loc T'.length 0 0)∧a[10]? =some (.int .i64 w)) i ?_ (by omega) ?_
  ·simp(maxSteps:=1000000)(disch:=omega)only[push_cast,hal,h1,h2,h5,h6,h7,h8,h9,Int.natCast_zero,simprocAttr]
   exact⟨_,rfl⟩
  clear hal h1 h2 h5 h6 h7 h8 h9 a
  rintro w a U hw ⟨⟨rfl,b,h9⟩,hal,h1,h2,h5,h6,h7,h8,h10⟩
  rcases Nat.lt_or_eq_of_le hw with hwl |rfl
  ·obtain⟨y',hy'⟩:∃y',c.cabs[w]? =some y':=⟨c.cabs[w]'(by omega),by simp⟩
   have hwc:w<c.cabs.length:=by omega
   cases b
   ·by_cases e:y'.name=y.name
    ·simp(maxSteps:=1000000)(disch:=omega)only[push_cast,hal,h1,h2,h5,h6,h7,h8,h9,h10,hwl,hT0',hy0,hy',e,str_eq,Cab.enc,wrap_ok,Int.natCast_add,Int.natCast_one,↓WX,simprocAttr]
     exact⟨_,rfl⟩
    ·simp(maxSteps:=1000000)(disch:=omega)only[push_cast,hal,h1,h2,h5,h6,h7,h8,h9,h10,hwl,hT0',hy0,hy',e,str_eq,Cab.enc,wrap_ok,Int.natCast_add,Int.natCast_one,↓WX,simprocAttr]
     exact⟨_,rfl⟩
   ·simp(maxSteps:=1000000)(disch:=omega)only[push_cast,hal,h1,h2,h5,h6,h7,h8,h9,h10,hwl,wrap_ok,Int.natCast_add,Int.natCast_one,↓WX,simprocAttr]
    exact⟨_,rfl⟩
  ·simp(maxSteps:=1000000)(disch:=omega)only[push_cast,hal,h1,h2,h5,h6,h7,h8,h9,h10,Int.lt_irrefl,↓WX,simprocAttr]
   exact⟨_,rfl⟩
 clear hal h1 h2 h5 h6 h7 h8 h9 a
 rintro a V' ⟨⟨rfl,b2,h9⟩,hal,h1,h2,h5,h6,h7,h8⟩
 refine wc_scut (fun a W=>(KeepF V' W∧FE W a[5]? (3145732*i+1) (fs=[]))∧a.length=88∧a[1]? =some (.str p)∧a[2]? =some (.loc 0 0 0)∧a[6]? =some (.int .i64 i)∧a[7]? =some (.str q)∧a[8]? =some (.loc T'.length 0 0)∧a[9]? =some (.bool b2)) ?_ ?_
 ·obtain⟨d1,T1,fs1,p1,q1,g1,l1,n1,k1⟩:=app_e hg0 (by omega) (!b1) 5 q
  cases hb:b1
  ·rw[hb]at p1 cc
   replace p1:=p1 rfl
   simp(maxSteps:=1000000)(disch:=omega)only[push_cast,hal,h1,h2,h5,h6,h7,h8,h9,hy0,cc,p1,dUn,Bool.not_false,FE,↓WX,simprocAttr]
   exact⟨k1,_,_,rfl,g1,by omega,fun h=>(n1 h).1⟩
  ·rw[hb]at q1 cc
   obtain⟨rfl,rfl⟩:=q1 rfl
   simp(maxSteps:=1000000)(disch:=omega)only[push_cast,hal,h1,h2,h5,h6,h7,h8,h9,hy0,cc,dUn,Bool.not_true,FE,↓WX,simprocAttr]
   exact⟨k1,_,_,rfl,g1,by omega,fun h=>(n1 h).1⟩
 clear hal h1 h2 h5 h6 h7 h8 h9 a
 rintro a V1 ⟨⟨k1,d1,fs1,h5,g1,l1,n1⟩,hal,h1,h2,h6,h7,h8,h9⟩
 have v01:=k1 0 _ not_fault2 hT0'
 have v11:=k1 _ _ not_fault4 hy0
 refine wc_scut (fun a W=>(KeepF V1 W∧FE W a[5]? (3145732*i+2) (fs=[]))∧a.length=88∧a[1]? =some (.str p)∧a[2]? =some (.loc 0 0 0)∧a[6]? =some (.int .i64 i)∧a[7]? =some (.str q)∧a[8]? =some (.loc T'.length 0 0)) ?_ ?_
 ·obtain⟨d2,T2,fs2,p2,q2,g2,l2,n2,k2⟩:=app_e g1 (by omega) b2 6 q
  cases hb:b2
  ·rw[hb]at q2 h9
   obtain⟨rfl,rfl⟩:=q2 rfl
   simp(maxSteps:=1000000)(disch:=omega)only[push_cast,hal,h1,h2,h5,h6,h7,h8,h9,FE,↓WX,simprocAttr]
   exact⟨k2,_,_,rfl,g2,by omega,fun h=>n1 (n2 h).1⟩
  ·rw[hb]at p2 h9
   replace p2:=p2 rfl
   simp(maxSteps:=1000000)(disch:=omega)only[push_cast,hal,h1,h2,h5,h6,h7,h8,h9,p2,FE,↓WX,simprocAttr]
   exact⟨k2,_,_,rfl,g2,by omega,fun h=>n1 (n2 h).1⟩
 clear hal h1 h2 h5 h6 h7 h8 h9 a
 rintro a V2 ⟨⟨k2,d2,fs2,h5,g2,l2,n2⟩,hal,h1,h2,h6,h7,h8⟩
 have v02:=k2 0 _ not_fault2 v01
 have v12:=k2 _ _ not_fault4 v11
 refine wc_scut (fun a W=>(KeepF V2 W∧FE W a[5]? (3145732*i+3) (fs=[]))∧a.length=88∧a[1]? =some (.str p)∧a[2]? =some (.loc 0 0 0)∧a[6]? =some (.int .i64 i)∧a[7]? =some (.str q)∧a[8]? =some (.loc T'.length 0 0)) ?_ ?_
 ·obtain⟨d3,T3,fs3,p3,q3,g3,l3,n3,k3⟩:=app_e g2 (by omega) (!b3) 2 q
  cases hb:b3
  ·rw[hb]at p3 cr
   replace p3:=p3 rfl
   simp(maxSteps:=1000000)(disch:=omega)only[push_cast,hal,h1,h2,h5,h6,h7,h8,v12,cr,p3,dUn,Bool.not_false,FE,↓WX,simprocAttr]
   exact⟨k3,_,_,rfl,g3,by omega,fun h=>n2 (n3 h).1⟩
  ·rw[hb]at q3 cr
   obtain⟨rfl,rfl⟩:=q3 rfl
   simp(maxSteps:=1000000)(disch:=omega)only[push_cast,hal,h1,h2,h5,h6,h7,h8,v12,cr,dUn,Bool.not_true,FE,↓WX,simprocAttr]
   exact⟨k3,_,_,rfl,g3,by omega,fun h=>n2 (n3 h).1⟩
 clear hal h1 h2 h5 h6 h7 h8 a
 rintro a V3 ⟨⟨k3,d3,fs3,h5,g3,l3,n3⟩,hal,h1,h2,h6,h7,h8⟩
 have v03:=k3 0 _ not_fault2 v02
 have v13:=k3 _ _ not_fault4 v12
 refine wc_scut (fun a W=>(KeepF V3 W∧FE W a[5]? (3145732*i+4) (fs=[]∧y.cls.length≤26))∧a.length=88∧a[1]? =some (.str p)∧a[2]? =some (.loc 0 0 0)∧a[6]? =some (.int .i64 i)∧a[7]? =some (.str q)∧a[8]? =some (.loc T'.length 0 0)) ?_ ?_
 ·by_cases c6:(y.cls.length:Int)<1
  ·obtain⟨d4,T4,fs4,p4,q4,g4,l4,n4,k4⟩:=app_e g3 (by omega) true 4 q
   replace p4:=p4 rfl
   simp(maxSteps:=1000000)(disch:=omega)only[push_cast,hal,h1,h2,h5,h6,h7,h8,v13,c6,p4,FE,↓WX,simprocAttr]
   exact⟨k4,_,_,rfl,g4,by omega,fun h=>⟨n3 (n4 h).1,by omega⟩⟩
  ·by_cases c7:(26:Int)<y.cls.length
   ·obtain⟨d4,T4,fs4,p4,q4,g4,l4,n4,k4⟩:=app_e g3 (by omega) true 4 q
    replace p4:=p4 rfl
    simp(maxSteps:=1000000)(disch:=omega)only[push_cast,gt_iff_lt,hal,h1,h2,h5,h6,h7,h8,v13,c6,c7,p4,FE,↓WX,simprocAttr]
    exact⟨k4,_,_,rfl,g4,by omega,fun h=>absurd (n4 h).2 (by simp)⟩
   ·simp(maxSteps:=1000000)(disch:=omega)only[push_cast,gt_iff_lt,hal,h1,h2,h5,h6,h7,h8,v13,c6,c7,FE,↓WX,simprocAttr]
    exact⟨KeepF.refl,_,_,rfl,g3,by omega,fun h=>⟨n3 h,by omega⟩⟩
 clear hal h1 h2 h5 h6 h7 h8 a
 rintro a V4 ⟨⟨k4,d4,fs4,h5,g4,l4,n4⟩,hal,h1,h2,h6,h7,h8⟩
 have v04:=k4 0 _ not_fault2 v03
 obtain⟨d5,T5,p5,g5,k5⟩:=app_fls g4 hxs (by omega)
 have v05:=k5 0 _ not_fault2 v04
 have htk:∀y'∈c.cabs.take (i+1),y'∈c.cabs.take i∨y'=y:=fun y' h=>by
  rw[List.take_add_one,hy]at h
  rcases List.mem_append.1 h with h |h
  ·exact .inl h
  ·exact .inr (by simpa using h)
 simp(maxSteps:=1000000)(disch:=omega)only[push_cast,hal,h1,h2,h5,h6,h7,v04,ck,p5,wrap_ok,Int.natCast_add,Int.natCast_one,FE,↓WX,simprocAttr]
 refine⟨hlt,v05,_,_,rfl,g5,by rw[List.length_append];omega,fun h y' hy'=>?_⟩
 have h4:=n4 (List.append_eq_nil_iff.1 h).1
 rcases htk y' hy' with h |rfl
 ·exact hfe h4.1 y' h
 ·exact h4.2
theorem cabinsW {n:Nat} {c:Cfg} {p:ByteArray} (hn:3000020≤n) (hc:CfgB c) (hp:p.size≤600):
  ∃x fs,FLs 2 encF x fs∧fs.length≤3145732*c.cabs.length∧(fs=[]→∀y∈c.cabs,y.cls.length≤26)∧∀st S,callD E (dcall E n) st S 41 [.agg c.enc,.str p]=some (x,S):=by
 obtain⟨m,rfl⟩:∃m,n=m+1:=⟨n-1,by omega⟩
 obtain⟨d,T,ho,fs,hg,hl,he⟩:=cabinsW_d (n:=m) (p:=p) (by omega) hc hp
 obtain⟨d',hf,hd⟩:=hg.fls (encF_pure _)
 exact⟨d',fs,hd,hl,he,fun st S=>callD_pure rfl (by simp[pureL_cons,pureL_nil,D.pure,Cfg_pure]) ho hf⟩
set_option maxHeartbeats 16000000 in
set_option maxRecDepth 100000 in
theorem CheckW_d {n:Nat} {l:List Cfg} {lx:Bool} (hn:3000030≤n) (hl:l.length≤5) (hc:∀c∈l,CfgB c):
  WO (dcall E (n+1) 16 [.sl 2 (l.map Cfg.enc) lx] []) fun d T=>∃fs,GL 2 encF T d fs∧(fs=[]→∀c∈l,Sm c):=by
 refine wo_dcall Tryz.func16 rfl (by decide) rfl 83 rfl (fun a hal ha=>?_)
 have h0:a[0]? =some (.sl 2 (l.map Cfg.enc) lx):=ha 0 (by simp)
 clear ha
 simp(maxSteps:=1000000)(disch:=omega)only[push_cast,↓WX,simprocAttr]
 refine wl_loop (fun i a T=>FE T a[3]? (824640000000*i) (∀c∈l.take i,Sm c)∧a.length=83∧a[0]? =some (.sl 2 (l.map Cfg.enc) lx)∧a[4]? =some (.int .i64 i)) l.length ?_ (by omega) ?_
 ·simp(maxSteps:=1000000)(disch:=omega)only[push_cast,hal,h0,Int.natCast_zero,FE,simprocAttr]
  exact⟨_,_,rfl,GL.nil,Nat.zero_le _,fun _ y hy=>by simp at hy⟩
 clear hal h0 a
 rintro i a T hi ⟨⟨d,fs,h3,hg,hfl,hfe⟩,hal,h0,h4⟩
 rcases Nat.lt_or_eq_of_le hi with hlt |rfl
 case inr=>
  rw[List.take_length]at hfe
  simp(maxSteps:=1000000)(disch:=omega)only[push_cast,hal,h0,h3,h4,Nat.lt_irrefl,Tryz.f16,↓WX,simprocAttr]
  exact⟨fs,hg,hfe⟩
 obtain⟨y,hy⟩:∃y,l[i]? =some y:=⟨l[i],by simp⟩
 have hym:=List.mem_of_getElem? hy
 have hyb:=hc y hym
 have hyl:=hyb.cabs
 obtain⟨q,hq,cp⟩:=placeW (n:=n) (i:=i) (p:=ByteArray.mk #[]) (w:=ByteArray.mk #[99,111,110,102,105,103]) (by omega) (by omega) (by decide) (by decide)
 have hq0:q.size≤600:=by
  have:(ByteArray.mk #[]).size=0:=rfl
  omega
 have hye:=hyb.eq
 have cc:=rcode_c (n:=n) (s:=y.equip) (l:=3) (m:=3) (by omega) (by omega)
 obtain⟨xs,gs,hxs,hgl,hge,ck⟩:=cabinsW (n:=n) (p:=q) (by omega) hyb hq0
 have hca:y.enc=[.str y.equip,.sl 4 (y.cabs.map Cab.enc) y.cabsx]:=rfl
 rw[hca]at ck
 generalize hb1:codeS y.equip 3 3=b1 at*
 refine wc_scut (fun a T'=>T'=T∧a.length=83∧a[0]? =some (.sl 2 (l.map Cfg.enc) lx)∧a[3]? =some (d)∧a[4]? =some (.int .i64 i)) ?_ ?_
 ·simp(maxSteps:=1000000)(disch:=omega)only[push_cast,hal,h0,h3,h4,hlt,↓WX,simprocAttr]
 clear hal h0 h3 h4 a
 rintro a T' ⟨rfl,hal,h0,h3,h4⟩
 rw[wc_seq,wc_block]
 refine wc_scut (fun a V=>V=T'∧a.length=83∧a[0]? =some (.sl 2 (l.map Cfg.enc) lx)∧a[3]? =some (d)∧a[4]? =some (.int .i64 i)∧a[5]? =some (.str q)∧a[6]? =some (.bool false)) ?_ ?_
 ·simp(maxSteps:=1000000)(disch:=omega)only[push_cast,hal,h0,h3,h4,cp,↓WX,simprocAttr]
 clear hal h0 h3 h4 a
 rintro a V ⟨rfl,hal,h0,h3,h4,h5,h6⟩
 refine wc_scut (fun a V'=>(V'=V∧∃b,a[6]? =some (.bool b))∧a.length=83∧a[0]? =some (.sl 2 (l.map Cfg.enc) lx)∧a[3]? =some (d)∧a[4]? =some (.int .i64 i)∧a[5]? =some (.str q)) ?_ ?_
 ·simp(maxSteps:=1000000)(disch:=omega)only[push_cast,↓WX,simprocAttr]
  refine wl_loop (fun w a U=>(U=V∧∃b,a[6]? =some (.bool b))∧a.length=83∧a[0]? =some (.sl 2 (l.map Cfg.enc) lx)∧a[3]? =some (d)∧a[4]? =some (.int .i64 i)∧a[5]? =some (.str q)∧a[7]? =some (.int .i64 w)) i ?_ (by omega) ?_
  ·simp(maxSteps:=1000000)(disch:=omega)only[push_cast,hal,h0,h3,h4,h5,h6,Int.natCast_zero,simprocAttr]
   exact⟨_,rfl⟩
  clear hal h0 h3 h4 h5 h6 a
  rintro w a U hw ⟨⟨rfl,b,h6⟩,hal,h0,h3,h4,h5,h7⟩
  rcases Nat.lt_or_eq_of_le hw with hwl |rfl
  ·obtain⟨y',hy'⟩:∃y',l[w]? =some y':=⟨l[w]'(by omega),by simp⟩
   have hwc:w<l.length:=by omega
   cases b
   ·by_cases e:y'.equip=y.equip
    ·simp(maxSteps:=1000000)(disch:=omega)only[push_cast,hal,h0,h3,h4,h5,h6,h7,hwl,hy,hy',e,str_eq,Cfg.enc,wrap_ok,Int.natCast_add,Int.natCast_one,↓WX,simprocAttr]
     exact⟨_,rfl⟩
    ·simp(maxSteps:=1000000)(disch:=omega)only[push_cast,hal,h0,h3,h4,h5,h6,h7,hwl,hy,hy',e,str_eq,Cfg.enc,wrap_ok,Int.natCast_add,Int.natCast_one,↓WX,simprocAttr]
     exact⟨_,rfl⟩
   ·simp(maxSteps:=1000000)(disch:=omega)only[push_cast,hal,h0,h3,h4,h5,h6,h7,hwl,wrap_ok,Int.natCast_add,Int.natCast_one,↓WX,simprocAttr]
    exact⟨_,rfl⟩
  ·simp(maxSteps:=1000000)(disch:=omega)only[push_cast,hal,h0,h3,h4,h5,h6,h7,Int.lt_irrefl,↓WX,simprocAttr]
   exact⟨_,rfl⟩
 clear hal h0 h3 h4 h5 h6 a
 rintro a V' ⟨⟨rfl,b2,h6⟩,hal,h0,h3,h4,h5⟩
 refine wc_scut (fun a W=>FE W a[3]? (824640000000*i+1) (fs=[])∧a.length=83∧a[0]? =some (.sl 2 (l.map Cfg.enc) lx)∧a[4]? =some (.int .i64 i)∧a[5]? =some (.str q)∧a[6]? =some (.bool b2)) ?_ ?_
 ·obtain⟨d1,T1,fs1,p1,q1,g1,l1,n1,-⟩:=app_e hg (by omega) (!b1) 5 q
  cases hb:b1
  ·rw[hb]at p1 cc
   replace p1:=p1 rfl
   simp(maxSteps:=1000000)(disch:=omega)only[push_cast,hal,h0,h3,h4,h5,h6,hy,cc,p1,dUn,Bool.not_false,Cfg.enc,FE,↓WX,simprocAttr]
   exact⟨_,_,rfl,g1,by omega,fun h=>(n1 h).1⟩
  ·rw[hb]at q1 cc
   obtain⟨rfl,rfl⟩:=q1 rfl
   simp(maxSteps:=1000000)(disch:=omega)only[push_cast,hal,h0,h3,h4,h5,h6,hy,cc,dUn,Bool.not_true,Cfg.enc,FE,↓WX,simprocAttr]
   exact⟨_,_,rfl,g1,by omega,fun h=>(n1 h).1⟩
 clear hal h0 h3 h4 h5 h6 a
 rintro a V1 ⟨⟨d1,fs1,h3,g1,l1,n1⟩,hal,h0,h4,h5,h6⟩
 refine wc_scut (fun a W=>FE W a[3]? (824640000000*i+2) (fs=[])∧a.length=83∧a[0]? =some (.sl 2 (l.map Cfg.enc) lx)∧a[4]? =some (.int .i64 i)∧a[5]? =some (.str q)) ?_ ?_
 ·obtain⟨d2,T2,fs2,p2,q2,g2,l2,n2,-⟩:=app_e g1 (by omega) b2 6 q
  cases hb:b2
  ·rw[hb]at q2 h6
   obtain⟨rfl,rfl⟩:=q2 rfl
   simp(maxSteps:=1000000)(disch:=omega)only[push_cast,hal,h0,h3,h4,h5,h6,FE,↓WX,simprocAttr]
   exact⟨_,_,rfl,g2,by omega,fun h=>n1 (n2 h).1⟩
  ·rw[hb]at p2 h6
   replace p2:=p2 rfl
   simp(maxSteps:=1000000)(disch:=omega)only[push_cast,hal,h0,h3,h4,h5,h6,p2,FE,↓WX,simprocAttr]
   exact⟨_,_,rfl,g2,by omega,fun h=>n1 (n2 h).1⟩
 clear hal h0 h3 h4 h5 h6 a
 rintro a V2 ⟨⟨d2,fs2,h3,g2,l2,n2⟩,hal,h0,h4,h5⟩
 refine wc_scut (fun a W=>FE W a[3]? (824640000000*i+3) (fs=[]∧y.cabs.length≤4)∧a.length=83∧a[0]? =some (.sl 2 (l.map Cfg.enc) lx)∧a[4]? =some (.int .i64 i)∧a[5]? =some (.str q)) ?_ ?_
 ·by_cases c6:(y.cabs.length:Int)<1
  ·obtain⟨d4,T4,fs4,p4,q4,g4,l4,n4,-⟩:=app_e g2 (by omega) true 4 q
   replace p4:=p4 rfl
   simp(maxSteps:=1000000)(disch:=omega)only[push_cast,hal,h0,h3,h4,h5,hy,c6,p4,Cfg.enc,FE,↓WX,simprocAttr]
   exact⟨_,_,rfl,g4,by omega,fun h=>⟨n2 (n4 h).1,by omega⟩⟩
  ·by_cases c7:(4:Int)<y.cabs.length
   ·obtain⟨d4,T4,fs4,p4,q4,g4,l4,n4,-⟩:=app_e g2 (by omega) true 4 q
    replace p4:=p4 rfl
    simp(maxSteps:=1000000)(disch:=omega)only[push_cast,gt_iff_lt,hal,h0,h3,h4,h5,hy,c6,c7,p4,Cfg.enc,FE,↓WX,simprocAttr]
    exact⟨_,_,rfl,g4,by omega,fun h=>absurd (n4 h).2 (by simp)⟩
   ·simp(maxSteps:=1000000)(disch:=omega)only[push_cast,gt_iff_lt,hal,h0,h3,h4,h5,hy,c6,c7,Cfg.enc,FE,↓WX,simprocAttr]
    exact⟨_,_,rfl,g2,by omega,fun h=>⟨n2 h,by omega⟩⟩
 clear hal h0 h3 h4 h5 a
 rintro a V4 ⟨⟨d4,fs4,h3,g4,l4,n4⟩,hal,h0,h4,h5⟩
 obtain⟨d5,T5,p5,g5,-⟩:=app_fls g4 hxs (by omega)
 have htk:∀y'∈l.take (i+1),y'∈l.take i∨y'=y:=fun y' h=>by
  rw[List.take_add_one,hy]at h
  rcases List.mem_append.1 h with h |h
  ·exact .inl h
  ·exact .inr (by simpa using h)
 simp(maxSteps:=1000000)(disch:=omega)only[push_cast,hal,h0,h3,h4,h5,hlt,hy,ck,p5,Cfg.enc,wrap_ok,Int.natCast_add,Int.natCast_one,FE,↓WX,simprocAttr]
 refine⟨_,_,rfl,g5,by rw[List.length_append];omega,fun h y' hy'=>?_⟩
 have h4:=n4 (List.append_eq_nil_iff.1 h).1
 rcases htk y' hy' with h' |rfl
 ·exact hfe h4.1 y' h'
 ·exact⟨by omega,fun z hz=>by have:=hge (List.append_eq_nil_iff.1 h).2 z hz;omega⟩
theorem rCheckW {n:Nat} {l:List Cfg} {lx:Bool} (hn:3000040≤n) (hl:l.length≤5) (hc:∀c∈l,CfgB c):
  ∃x fs,FLs 2 encF x fs∧(fs=[]→cfgL l l.length=[]∧∀c∈l,Sm c)∧∀st S,callD E (dcall E n) st S 16 [.sl 2 (l.map Cfg.enc) lx]=some (x,S):=by
 by_cases hs:∀c∈l,Sm c
 ·obtain⟨x,hx,cx⟩:=rCheck_c (n:=n) (lx:=lx) (by omega) (by omega) hs (fun c h=>(hc c h).z (by omega))
  exact⟨x,_,hx,fun h=>⟨h,hs⟩,cx⟩
 ·obtain⟨m,rfl⟩:∃m,n=m+1:=⟨n-1,by omega⟩
  obtain⟨d,T,ho,fs,hg,he⟩:=CheckW_d (n:=m) (lx:=lx) (by omega) hl hc
  obtain⟨d',hf,hd⟩:=hg.fls (encF_pure _)
  exact⟨d',fs,hd,fun h=>(hs (he h)).elim,fun st S=>callD_pure rfl (by simp[pureL_cons,pureL_nil,D.pure,Cfgs_pure]) ho hf⟩
end Wb
end Go.Proofs.YtkemehicndccmaaGreatDoor.Dm
