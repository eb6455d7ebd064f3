/-
  The reference's check of a flight: some list.
-/
import Derived.Test.YtkemehicndccmaaGreatDoorFlA
set_option linter.unusedSimpArgs false
set_option linter.unusedVariables false
namespace Go.Proofs.YtkemehicndccmaaGreatDoor.Dm
open Go Gw
set_option linter.unusedSimpArgs false
set_option linter.unusedSimpArgs false
def legT:ByteArray:=ByteArray.mk #[108,101,103,32]
def dayT:ByteArray:=ByteArray.mk #[100,97,121,32]
theorem foundD_at (p:Plc) (s:ByteArray):∃(r0 r1 r2 r3 r4:D) (b:Bool),foundD (p.aps.find? fun a=>a.code.toList == s.toList)=.tup [.agg [r0,r1,r2,r3,r4],.bool b]∧[r0,r1,r2,r3,r4].all D.one=true:=by
 cases p.aps.find? (fun a=>a.code.toList == s.toList) with
 |none=>exact⟨_,_,_,_,_,_,rfl,rfl⟩
 |some a=>exact⟨_,_,_,_,_,_,rfl,rfl⟩
section
variable {n : Nat}
set_option maxHeartbeats 8000000 in
set_option maxRecDepth 100000 in
theorem head07_d (hn:1048700≤n) {f:Flt} (hf:FltB f) (S:List Ob):WO (dcall E (n+1) 80 [.agg f.enc] S) fun r T=>∃fs,GL 2 encF T r fs∧fs.length≤4∧(∀f∈fs,f.2.size≤30)∧(fs=[]→f.legs.length≤6)∧KeepF S T:=by
 obtain⟨hf1,hf2,hf3,hf4,hf5,-⟩:=hf
 obtain⟨car,num,pf,pt,pd,ls,lx⟩:=f
 dsimp only at hf1 hf2 hf3 hf4
 have c1:=fun st S=>rCarrier_c (n:=n) (s:=car) (by omega) (by omega) st S
 obtain⟨e0,-,c2⟩:=r04Check_c (n:=n) (by omega) pf pt pd hf2 hf3
 simp only[Flt.enc]
 generalize carS car=b1 at*
 have hlen:(ls.map Lg7.enc).length=ls.length:=by simp
 generalize ls.map Lg7.enc=le at*
 refine wo_dcall Tryz.func80 rfl (by decide) rfl 50 rfl (fun a hal ha=>?_)
 have h0:a[0]? =some (.agg [.str car,.int .i64 num,.int .i64 pf,.int .i64 pt,.int .i64 pd,.sl 5 le lx]):=ha 0 (by simp)
 clear ha
 have hnf:¬FaultOb (.row 6 [[.str car,.int .i64 num,.int .i64 pf,.int .i64 pt,.int .i64 pd,.sl 5 le lx]]):=not_faultN (by decide)
 obtain⟨S0,hS0⟩:∃S0,S0=S++[Ob.row 6 [[.str car,.int .i64 num,.int .i64 pf,.int .i64 pt,.int .i64 pd,.sl 5 le lx]]]:=⟨_,rfl⟩
 have k0:KeepF S S0:=by rw[hS0];exact KeepF.push
 have g0:S0[S.length]? =some (.row 6 [[.str car,.int .i64 num,.int .i64 pf,.int .i64 pt,.int .i64 pd,.sl 5 le lx]]):=by rw[hS0];exact get_end
 refine wc_scut (fun a V=>V=S0∧a.length=50∧a[1]? =some (.loc S.length 0 0)) ?_ ?_
 ·simp(maxSteps:=1000000)(disch:=omega)only[push_cast,hal,h0,↓WX,simprocAttr]
  exact hS0.symm
 clear hal h0 a
 rintro a V ⟨rfl,hal,h1⟩
 refine wc_scut (fun a W=>W=V∧a.length=50∧a[1]? =some (.loc S.length 0 0)∧a[3]? =some (.nils)) ?_ ?_
 ·simp(maxSteps:=1000000)(disch:=omega)only[push_cast,hal,h1,↓WX,simprocAttr]
 clear hal h1 a
 rintro a W ⟨rfl,hal,h1,h3⟩
 refine wc_scut (fun a V'=>(KeepF W V'∧FS V' a[3]? 1 30)∧a.length=50∧a[1]? =some (.loc S.length 0 0)) ?_ ?_
 ·obtain⟨d1,T1,fs1,p1,q1,g1,l1,z1,k1⟩:=app_s (T:=W) (d:=.nils) (fs:=[]) (z:=30) GL.nil (by simp) (fun f h=>by cases h) true 5 (ByteArray.mk #[99,97,114,114,105,101,114]) (by decide)
  replace p1:=p1 rfl
  cases b1
  ·simp(maxSteps:=1000000)(disch:=omega)only[push_cast,hal,h1,h3,g0,c1,p1,dUn,Bool.not_false,FS,↓WX,simprocAttr]
   exact⟨k1,_,_,rfl,g1,by simpa using l1,z1⟩
  simp(maxSteps:=1000000)(disch:=omega)only[push_cast,hal,h1,h3,g0,c1,dUn,Bool.not_true,FS,↓WX,simprocAttr]
  exact⟨KeepF.refl,_,[],rfl,GL.nil,by simp,fun f h=>by cases h⟩
 clear hal h1 h3 a
 rintro a V1 ⟨⟨k1,d1,fs1,h3,g1,l1,z1⟩,hal,h1⟩
 have v1:=k1 _ _ hnf g0
 refine wc_scut (fun a V'=>(KeepF V1 V'∧FS V' a[3]? 2 30)∧a.length=50∧a[1]? =some (.loc S.length 0 0)) ?_ ?_
 ·obtain⟨d2,T2,fs2,p2,q2,g2,l2,z2,k2⟩:=app_s g1 (by omega) z1 true 2 (ByteArray.mk #[110,117,109,98,101,114]) (by decide)
  replace p2:=p2 rfl
  by_cases c1:num<1
  ·simp(maxSteps:=1000000)(disch:=omega)only[push_cast,hal,h1,h3,v1,c1,p2,FS,↓WX,simprocAttr]
   exact⟨k2,_,_,rfl,g2,by omega,z2⟩
  by_cases c2:9999<num
  ·simp(maxSteps:=1000000)(disch:=omega)only[push_cast,gt_iff_lt,hal,h1,h3,v1,c1,c2,p2,FS,↓WX,simprocAttr]
   exact⟨k2,_,_,rfl,g2,by omega,z2⟩
  simp(maxSteps:=1000000)(disch:=omega)only[push_cast,gt_iff_lt,hal,h1,h3,v1,c1,c2,FS,↓WX,simprocAttr]
  exact⟨KeepF.refl,_,_,rfl,g1,by omega,z1⟩
 clear hal h1 h3 a
 rintro a V2 ⟨⟨k2,d2,fs2,h3,g2,l2,z2⟩,hal,h1⟩
 have v2:=k2 _ _ hnf v1
 refine wc_scut (fun a V'=>(KeepF V2 V'∧FS V' a[3]? 3 30)∧a.length=50∧a[1]? =some (.loc S.length 0 0)) ?_ ?_
 ·obtain⟨d3,T3,fs3,p3,q3,g3,l3,z3,k3⟩:=app_s g2 (by omega) z2 true e0 (ByteArray.mk #[112,101,114,105,111,100]) (by decide)
  replace p3:=p3 rfl
  by_cases q:e0=0
  ·subst q
   simp(maxSteps:=1000000)(disch:=omega)only[push_cast,not_true_eq_false,hal,h1,h3,v2,c2,FS,↓WX,simprocAttr]
   exact⟨KeepF.refl,_,_,rfl,g2,by omega,z2⟩
  simp(maxSteps:=1000000)(disch:=omega)only[push_cast,not_false_eq_true,hal,h1,h3,v2,c2,q,p3,FS,↓WX,simprocAttr]
  exact⟨k3,_,_,rfl,g3,by omega,z3⟩
 clear hal h1 h3 a
 rintro a V3 ⟨⟨k3,d3,fs3,h3,g3,l3,z3⟩,hal,h1⟩
 have v3:=k3 _ _ hnf v2
 refine wc_scut (fun a V'=>(KeepF V3 V'∧∃d fs,a[3]? =some d∧GL 2 encF V' d fs∧fs.length≤4∧(∀f∈fs,f.2.size≤30)∧(fs=[]→ls.length≤6))∧a.length=50∧a[1]? =some (.loc S.length 0 0)) ?_ ?_
 ·obtain⟨d4,T4,fs4,p4,g4,l4,z4,k4⟩:=app_t g3 (by omega) z3 4 (ByteArray.mk #[108,101,103,115]) (by decide)
  have ne4:fs4=[]→ls.length≤6:=fun h=>by rw[h]at l4;simp at l4
  by_cases c1:(ls.length:Int)<1
  ·simp(maxSteps:=1000000)(disch:=omega)only[push_cast,hal,h1,h3,v3,hlen,c1,p4,↓WX,simprocAttr]
   exact⟨k4,_,_,rfl,g4,by omega,z4,ne4⟩
  by_cases c2:(6:Int)<ls.length
  ·simp(maxSteps:=1000000)(disch:=omega)only[push_cast,gt_iff_lt,hal,h1,h3,v3,hlen,c1,c2,p4,↓WX,simprocAttr]
   exact⟨k4,_,_,rfl,g4,by omega,z4,ne4⟩
  simp(maxSteps:=1000000)(disch:=omega)only[push_cast,gt_iff_lt,hal,h1,h3,v3,hlen,c1,c2,↓WX,simprocAttr]
  exact⟨KeepF.refl,_,_,rfl,g3,by omega,z3,fun _=>by omega⟩
 clear hal h1 h3 a
 rintro a V4 ⟨⟨k4,d4,fs4,h3,g4,l4,z4,ne4⟩,hal,h1⟩
 simp(maxSteps:=1000000)(disch:=omega)only[push_cast,hal,h3,Tryz.f80,↓WX,simprocAttr]
 exact⟨_,g4,l4,z4,ne4,(((k0.trans k1).trans k2).trans k3).trans k4⟩
set_option maxHeartbeats 16000000 in
set_option maxRecDepth 100000 in
theorem Check07_d (hn:1049000≤n) {p:Plc} (hb:PlcB p) {f:Flt} (hf:FltB f):
  WO (dcall E (n+1) 34 [.agg p.enc,.agg f.enc] []) fun d T=>∃fs,GL 2 encF T d fs∧fs.length≤2000∧(∀f∈fs,f.2.size≤30)∧(fs=[]→f.legs.length≤6):=by
 obtain⟨m,rfl⟩:∃m,n=m+1:=⟨n-1,by omega⟩
 have ch:=head07_d (n:=m) (by omega) hf
 have clg:=fun x hx=>legs07_c (n:=m+1) (by omega) hb hf x hx
 have cfi:=fun s=>PrFind_c (n:=m+1) (p:=p) (s:=s) (by have:=hb.len;omega) (by have:=hb.len;omega)
 obtain⟨hf1,hf2,hf3,hf4,hf5,-⟩:=hf
 obtain⟨dd,dl,hdd,hdl,hdx,cdd⟩:=Days04_c (n:=m+1) (d:=f.pd) (by omega) hf2 hf3
 obtain⟨car,num,pf,pt,pd,ls,lx⟩:=f
 dsimp only at hf4 hf5 cdd clg
 simp only[Plc.enc,Flt.enc]at ch clg cfi ⊢
 generalize p.aps.map Apt.enc=ae at*
 generalize p.dts.map Dst.enc=de at*
 refine wo_dcall Tryz.func34 rfl (by decide) rfl 133 rfl (fun a hal ha=>?_)
 have h0:a[0]? =some (.agg [.sl 5 ae p.apsx,.sl 3 de p.dtsx]):=ha 0 (by simp)
 have h1:a[1]? =some (.agg [.str car,.int .i64 num,.int .i64 pf,.int .i64 pt,.int .i64 pd,.sl 5 (ls.map Lg7.enc) lx]):=ha 1 (by simp)
 clear ha
 obtain⟨S0,hS0⟩:∃S0,S0=[Ob.row 2 [[.sl 5 ae p.apsx,.sl 3 de p.dtsx]],Ob.row 6 [[.str car,.int .i64 num,.int .i64 pf,.int .i64 pt,.int .i64 pd,.sl 5 (ls.map Lg7.enc) lx]]]:=⟨_,rfl⟩
 have ga:S0[0]? =some (.row 2 [[.sl 5 ae p.apsx,.sl 3 de p.dtsx]]):=by rw[hS0];rfl
 have gb:S0[1]? =some (.row 6 [[.str car,.int .i64 num,.int .i64 pf,.int .i64 pt,.int .i64 pd,.sl 5 (ls.map Lg7.enc) lx]]):=by rw[hS0];rfl
 have na:¬FaultOb (.row 2 [[.sl 5 ae p.apsx,.sl 3 de p.dtsx]]):=not_fault2s
 have nb:¬FaultOb (.row 6 [[.str car,.int .i64 num,.int .i64 pf,.int .i64 pt,.int .i64 pd,.sl 5 (ls.map Lg7.enc) lx]]):=not_faultN (by decide)
 refine wc_scut (fun a V=>V=S0∧a.length=133∧a[2]? =some (.loc 0 0 0)∧a[3]? =some (.loc 1 0 0)) ?_ ?_
 ·simp(maxSteps:=1000000)(disch:=omega)only[push_cast,hal,h0,h1,↓WX,simprocAttr]
  exact hS0.symm
 clear hal h0 h1 a
 rintro a V ⟨rfl,hal,h2,h3⟩
 refine wc_scut (fun a W=>(KeepF V W∧∃d fs,a[5]? =some d∧GL 2 encF W d fs∧fs.length≤4∧(∀f∈fs,f.2.size≤30)∧(fs=[]→ls.length≤6))∧a.length=133∧a[2]? =some (.loc 0 0 0)∧a[3]? =some (.loc 1 0 0)) ?_ ?_
 ·obtain⟨r,T,ho,fs,g1,l1,z1,ne1,k1⟩:=ch V
  have ci:=fun st=>cgenT (st:=st) (f:=80) rfl ho
  simp(maxSteps:=1000000)(disch:=omega)only[push_cast,hal,h2,h3,gb,ci,↓WX,simprocAttr]
  exact⟨k1,_,_,rfl,g1,l1,z1,ne1⟩
 clear hal h2 h3 a
 rintro a W ⟨⟨k1,d1,fs1,h5,g1,l1,z1,ne1⟩,hal,h2,h3⟩
 have va:=k1 _ _ na ga
 have vb:=k1 _ _ nb gb
 by_cases q1:(ls.length:Int)<1
 ·simp(maxSteps:=1000000)(disch:=omega)only[push_cast,hal,h3,h5,vb,q1,Tryz.f34,↓WX,simprocAttr]
  exact⟨_,g1,by omega,z1,ne1⟩
 by_cases q2:(6:Int)<ls.length
 ·simp(maxSteps:=1000000)(disch:=omega)only[push_cast,gt_iff_lt,hal,h3,h5,vb,q1,q2,Tryz.f34,↓WX,simprocAttr]
  exact⟨_,g1,by omega,z1,ne1⟩
 have hl4:legT.size=4:=rfl
 have hd4:dayT.size=4:=rfl
 refine wc_scut (fun a V=>V=W∧a.length=133∧a[2]? =some (.loc 0 0 0)∧a[3]? =some (.loc 1 0 0)∧a[5]? =some (d1)) ?_ ?_
 ·simp(maxSteps:=1000000)(disch:=omega)only[push_cast,gt_iff_lt,hal,h2,h3,h5,vb,q1,q2,↓WX,simprocAttr]
 clear hal h2 h3 h5 a
 rintro a V2 ⟨rfl,hal,h2,h3,h5⟩
 refine wc_scut (fun a V'=>(KeepF V V'∧FS V' a[5]? 30 30)∧a.length=133∧a[2]? =some (.loc 0 0 0)∧a[3]? =some (.loc 1 0 0)) ?_ ?_
 ·simp(maxSteps:=1000000)(disch:=omega)only[push_cast,↓WX,simprocAttr]
  refine wl_loop (fun i a V'=>(KeepF V V'∧FS V' a[5]? (4+4*i) 30)∧a.length=133∧a[2]? =some (.loc 0 0 0)∧a[3]? =some (.loc 1 0 0)∧a[6]? =some (.int .i64 i)) ls.length ?_ (by omega) ?_
  ·simp(maxSteps:=1000000)(disch:=omega)only[push_cast,hal,h2,h3,h5,Int.natCast_zero,FS,simprocAttr]
   exact⟨k1,_,_,rfl,g1,by omega,z1⟩
  clear hal h2 h3 h5 a
  clear va vb k1 g1 l1 z1
  rintro i a T hi ⟨⟨k1,d,fs,h5,g1,l1,z1⟩,hal,h2,h3,h6⟩
  have va:=k1 _ _ na ga
  have vb:=k1 _ _ nb gb
  rcases Nat.lt_or_eq_of_le hi with hlt |rfl
  case inr=>
   simp(maxSteps:=1000000)(disch:=omega)only[push_cast,hal,h2,h3,h5,h6,vb,Int.lt_irrefl,FS,↓WX,simprocAttr]
   exact⟨k1,_,_,rfl,g1,by omega,z1⟩
  obtain⟨y,hy⟩:∃y,ls[i]? =some y:=⟨ls[i],by simp⟩
  have hyb:=hf5 y (List.mem_of_getElem? hy)
  have hltc:(i:Int)<ls.length:=by omega
  obtain⟨q,hq,cq⟩:=Wb.rdecW (n:=m+1) (i:=i) (by omega) (by omega)
  have mq:=mx_of (a:=legT) (b:=q) (by omega)
  have hat:(legT++q).size≤30:=by rw[ba_len];omega
  obtain⟨be,ce⟩:=rCode3_c (n:=m+1) (s:=y.eqp) (by omega) (by omega)
  have cf1:=cfi y.frm
  have cf2:=cfi y.dst
  obtain⟨r0,r1,r2,r3,r4,b1,e1,o1⟩:=foundD_at p y.frm
  obtain⟨u0,u1,u2,u3,u4,b2,e2,o2⟩:=foundD_at p y.dst
  rw[e1]at cf1
  rw[e2]at cf2
  simp only[List.all_cons,List.all_nil,Bool.and_true,Bool.and_eq_true,D.one]at o1 o2
  obtain⟨o10,o11,o12,o13,o14⟩:=o1
  obtain⟨o20,o21,o22,o23,o24⟩:=o2
  obtain⟨b3,cbr⟩:=broken07_c (n:=m+1) (by omega) (l:=ls) (lx:=lx) (by omega) hlt
  obtain⟨b4,co1⟩:=out07_c (n:=m+1) (by omega) y.dep
  obtain⟨b5,co2⟩:=out07_c (n:=m+1) (by omega) y.arr
  obtain⟨T1,hT1⟩:∃T1,T1=T++[Ob.row 5 [[.str y.frm,.str y.dst,.int .i64 y.dep,.int .i64 y.arr,.str y.eqp]]]:=⟨_,rfl⟩
  have k2:KeepF T T1:=by rw[hT1];exact KeepF.push
  have g2:GL 2 encF T1 d fs:=by rw[hT1];exact g1.push _
  have x1:T1[T.length]? =some (.row 5 [[.str y.frm,.str y.dst,.int .i64 y.dep,.int .i64 y.arr,.str y.eqp]]):=by rw[hT1];exact get_end
  have nx:¬FaultOb (.row 5 [[.str y.frm,.str y.dst,.int .i64 y.dep,.int .i64 y.arr,.str y.eqp]]):=not_faultN (by decide)
  refine wc_scut (fun a V=>V=T∧a.length=133∧a[2]? =some (.loc 0 0 0)∧a[3]? =some (.loc 1 0 0)∧a[5]? =some (d)∧a[6]? =some (.int .i64 i)) ?_ ?_
  ·simp(maxSteps:=1000000)(disch:=omega)only[push_cast,hal,h2,h3,h5,h6,vb,hltc,↓WX,simprocAttr]
  clear hal h2 h3 h5 h6 a
  rintro a V' ⟨rfl,hal,h2,h3,h5,h6⟩
  rw[wc_seq,wc_block]
  refine wc_scut (fun a W=>W=T1∧a.length=133∧a[2]? =some (.loc 0 0 0)∧a[3]? =some (.loc 1 0 0)∧a[5]? =some (d)∧a[6]? =some (.int .i64 i)∧a[7]? =some (.loc V'.length 0 0)) ?_ ?_
  ·simp(maxSteps:=1000000)(disch:=omega)only[push_cast,hal,h2,h3,h5,h6,vb,hy,Lg7.enc,set_end,get_end,↓WX,simprocAttr]
   exact hT1.symm
  clear hal h2 h3 h5 h6 a
  rintro a W ⟨rfl,hal,h2,h3,h5,h6,h7⟩
  have wa:=k2 _ _ na va
  have wb:=k2 _ _ nb vb
  have kW:=k1.trans k2
  refine wc_scut (fun a W'=>W'=W∧a.length=133∧a[2]? =some (.loc 0 0 0)∧a[3]? =some (.loc 1 0 0)∧a[5]? =some (d)∧a[6]? =some (.int .i64 i)∧a[7]? =some (.loc V'.length 0 0)∧a[8]? =some (.str (legT++q))) ?_ ?_
  ·unfold legT at mq ⊢
   simp(maxSteps:=1000000)(disch:=omega)only[push_cast,gt_iff_lt,hal,h2,h3,h5,h6,h7,cq,mq,↓WX,simprocAttr]
  clear hal h2 h3 h5 h6 h7 a
  clear mq hT1
  generalize legT++q=at0 at*
  rintro a W' ⟨rfl,hal,h2,h3,h5,h6,h7,h8⟩
  refine wc_scut (fun a X=>(KeepF W' X∧FS X a[5]? (4+4*i+1) 30)∧a.length=133∧a[2]? =some (.loc 0 0 0)∧a[3]? =some (.loc 1 0 0)∧a[6]? =some (.int .i64 i)∧a[7]? =some (.loc V'.length 0 0)∧a[8]? =some (.str at0)) ?_ ?_
  ·obtain⟨d3,T3,fs3,p3,q3,g3,l3,z3,k3⟩:=app_s g2 (by omega) z1 true 5 at0 hat
   replace p3:=p3 rfl
   cases be
   ·simp(maxSteps:=1000000)(disch:=omega)only[push_cast,hal,h2,h3,h5,h6,h7,h8,x1,ce,p3,dUn,Bool.not_false,FS,↓WX,simprocAttr]
    exact⟨k3,_,_,rfl,g3,by omega,z3⟩
   ·simp(maxSteps:=1000000)(disch:=omega)only[push_cast,hal,h2,h3,h5,h6,h7,h8,x1,ce,dUn,Bool.not_true,FS,↓WX,simprocAttr]
    exact⟨KeepF.refl,_,_,rfl,g2,by omega,z1⟩
  clear hal h2 h3 h5 h6 h7 h8 a
  rintro a X ⟨⟨k3,d3,fs3,h5,g3,l3,z3⟩,hal,h2,h3,h6,h7,h8⟩
  have xa:=k3 _ _ na wa
  have x2:=k3 _ _ nx x1
  obtain⟨T4,hT4⟩:∃T4,T4=X++[Ob.row 5 [[r0,r1,r2,r3,r4]]]:=⟨_,rfl⟩
  refine wc_scut (fun a X'=>X'=T4∧a.length=133∧a[2]? =some (.loc 0 0 0)∧a[3]? =some (.loc 1 0 0)∧a[5]? =some (d3)∧a[6]? =some (.int .i64 i)∧a[7]? =some (.loc V'.length 0 0)∧a[8]? =some (.str at0)∧a[10]? =some (.bool b1)) ?_ ?_
  ·simp(maxSteps:=1000000)(disch:=omega)only[push_cast,hal,h2,h3,h5,h6,h7,h8,xa,x2,cf1,o10,o11,o12,o13,o14,set_end,get_end,↓WX,simprocAttr]
   exact hT4.symm
  clear hal h2 h3 h5 h6 h7 h8 a
  rintro a X' ⟨rfl,hal,h2,h3,h5,h6,h7,h8,h10⟩
  have k4:KeepF X X':=by rw[hT4];exact KeepF.push
  have g4:GL 2 encF X' d3 fs3:=by rw[hT4];exact g3.push _
  have ya:=k4 _ _ na xa
  have x3:=k4 _ _ nx x2
  clear hT4
  obtain⟨T5,hT5⟩:∃T5,T5=X'++[Ob.row 5 [[u0,u1,u2,u3,u4]]]:=⟨_,rfl⟩
  refine wc_scut (fun a Y=>Y=T5∧a.length=133∧a[2]? =some (.loc 0 0 0)∧a[3]? =some (.loc 1 0 0)∧a[5]? =some (d3)∧a[6]? =some (.int .i64 i)∧a[7]? =some (.loc V'.length 0 0)∧a[8]? =some (.str at0)∧a[10]? =some (.bool b1)∧a[12]? =some (.bool b2)) ?_ ?_
  ·simp(maxSteps:=1000000)(disch:=omega)only[push_cast,hal,h2,h3,h5,h6,h7,h8,h10,ya,x3,cf2,o20,o21,o22,o23,o24,set_end,get_end,↓WX,simprocAttr]
   exact hT5.symm
  clear hal h2 h3 h5 h6 h7 h8 h10 a
  rintro a Y ⟨rfl,hal,h2,h3,h5,h6,h7,h8,h10,h12⟩
  have k5:KeepF X' Y:=by rw[hT5];exact KeepF.push
  have g5:GL 2 encF Y d3 fs3:=by rw[hT5];exact g4.push _
  have x4:=k5 _ _ nx x3
  have kY:=((kW.trans k3).trans k4).trans k5
  clear hT5
  refine wc_scut (fun a Z=>(KeepF Y Z∧FS Z a[5]? (4+4*i+2) 30)∧a.length=133∧a[2]? =some (.loc 0 0 0)∧a[3]? =some (.loc 1 0 0)∧a[6]? =some (.int .i64 i)∧a[7]? =some (.loc V'.length 0 0)∧a[8]? =some (.str at0)) ?_ ?_
  ·obtain⟨d6,T6,fs6,p6,q6,g6,l6,z6,k6⟩:=app_s g5 (by omega) z3 true 14 at0 hat
   replace p6:=p6 rfl
   cases b1
   ·simp(maxSteps:=1000000)(disch:=omega)only[push_cast,hal,h2,h3,h5,h6,h7,h8,h10,p6,dUn,Bool.not_false,FS,↓WX,simprocAttr]
    exact⟨k6,_,_,rfl,g6,by omega,z6⟩
   cases b2
   ·simp(maxSteps:=1000000)(disch:=omega)only[push_cast,hal,h2,h3,h5,h6,h7,h8,h10,h12,p6,dUn,Bool.not_false,Bool.not_true,FS,↓WX,simprocAttr]
    exact⟨k6,_,_,rfl,g6,by omega,z6⟩
   ·simp(maxSteps:=1000000)(disch:=omega)only[push_cast,hal,h2,h3,h5,h6,h7,h8,h10,h12,dUn,Bool.not_true,FS,↓WX,simprocAttr]
    exact⟨KeepF.refl,_,_,rfl,g5,by omega,z3⟩
  clear hal h2 h3 h5 h6 h7 h8 h10 h12 a
  rintro a Z ⟨⟨k6,d6,fs6,h5,g6,l6,z6⟩,hal,h2,h3,h6,h7,h8⟩
  have x5:=k6 _ _ nx x4
  have kZ:=kY.trans k6
  have zb:=kZ _ _ nb gb
  refine wc_scut (fun a Z'=>(KeepF Z Z'∧FS Z' a[5]? (4+4*i+3) 30)∧a.length=133∧a[2]? =some (.loc 0 0 0)∧a[3]? =some (.loc 1 0 0)∧a[6]? =some (.int .i64 i)∧a[7]? =some (.loc V'.length 0 0)∧a[8]? =some (.str at0)) ?_ ?_
  ·obtain⟨d7,T7,fs7,p7,q7,g7,l7,z7,k7⟩:=app_s g6 (by omega) z6 true 15 at0 hat
   replace p7:=p7 rfl
   cases b3
   ·simp(maxSteps:=1000000)(disch:=omega)only[push_cast,hal,h2,h3,h5,h6,h7,h8,zb,cbr,FS,↓WX,simprocAttr]
    exact⟨KeepF.refl,_,_,rfl,g6,by omega,z6⟩
   ·simp(maxSteps:=1000000)(disch:=omega)only[push_cast,hal,h2,h3,h5,h6,h7,h8,zb,cbr,p7,FS,↓WX,simprocAttr]
    exact⟨k7,_,_,rfl,g7,by omega,z7⟩
  clear hal h2 h3 h5 h6 h7 h8 a
  rintro a Z' ⟨⟨k7,d7,fs7,h5,g7,l7,z7⟩,hal,h2,h3,h6,h7,h8⟩
  have x6:=k7 _ _ nx x5
  have kZ':=kZ.trans k7
  obtain⟨d8,T8,fs8,p8,q8,g8,l8,z8,k8⟩:=app_s g7 (by omega) z7 true 2 at0 hat
  replace p8:=p8 rfl
  cases b4
  case true=>
   simp(maxSteps:=1000000)(disch:=omega)only[push_cast,hal,h2,h3,h5,h6,h7,h8,x6,co1,p8,hlt,wrap_ok,Int.natCast_add,Int.natCast_one,FS,↓WX,simprocAttr]
   exact⟨kZ'.trans k8,_,_,rfl,g8,by omega,z8⟩
  cases b5
  case true=>
   simp(maxSteps:=1000000)(disch:=omega)only[push_cast,hal,h2,h3,h5,h6,h7,h8,x6,co1,co2,p8,hlt,wrap_ok,Int.natCast_add,Int.natCast_one,FS,↓WX,simprocAttr]
   exact⟨kZ'.trans k8,_,_,rfl,g8,by omega,z8⟩
  simp(maxSteps:=1000000)(disch:=omega)only[push_cast,hal,h2,h3,h5,h6,h7,x6,co1,co2,hlt,wrap_ok,Int.natCast_add,Int.natCast_one,FS,↓WX,simprocAttr]
  exact⟨kZ',_,_,rfl,g7,by omega,z7⟩
 clear hal h2 h3 h5 a
 clear va vb k1 g1 l1 z1
 rintro a V1 ⟨⟨k1,d1,fs1,h5,g1,l1,z1⟩,hal,h2,h3⟩
 have va:=k1 _ _ na ga
 have vb:=k1 _ _ nb gb
 refine wc_scut (fun a V'=>V'=V1∧a.length=133∧a[2]? =some (.loc 0 0 0)∧a[3]? =some (.loc 1 0 0)∧a[5]? =some (d1)∧a[13]? =some (dd)) ?_ ?_
 ·simp(maxSteps:=1000000)(disch:=omega)only[push_cast,hal,h2,h3,h5,vb,cdd,↓WX,simprocAttr]
 clear hal h2 h3 h5 a
 rintro a V' ⟨rfl,hal,h2,h3,h5,h13⟩
 refine wc_scut (fun a V'=>(KeepF V V'∧FS V' a[5]? 2000 30)∧a.length=133) ?_ ?_
 ·by_cases q0:fs1.length=0
  case neg=>
   have q0c:¬(fs1.length:Int)=0:=by omega
   rcases g1 with ⟨-,rfl⟩ | ⟨kk,rfl,hk⟩
   ·exact absurd rfl q0
   simp(maxSteps:=1000000)(disch:=omega)only[push_cast,↓WX,simprocAttr]
   refine wl_loop (fun i a T=>(i=0∧T=V')∧a.length=133∧a[5]? =some (.os kk 0 fs1.length false)∧a[13]? =some (dd)∧a[14]? =some (.int .i64 0)) 0 ?_ (by omega) ?_
   ·simp(maxSteps:=1000000)(disch:=omega)only[push_cast,hal,h5,h13,simprocAttr]
   clear hal h2 h3 h5 h13 a
   rintro i a T hi ⟨⟨rfl,rfl⟩,hal,h5,h13,h14⟩
   simp(maxSteps:=1000000)(disch:=omega)only[push_cast,hal,h5,q0c,decide_false,FS,↓WX,simprocAttr]
   exact⟨k1,_,_,rfl,.inr ⟨kk,rfl,hk⟩,by omega,z1⟩
  obtain rfl:=List.eq_nil_of_length_eq_zero q0
  rcases hdd with ⟨rfl,rfl⟩ | ⟨yd,rfl⟩
  ·rcases g1 with ⟨rfl,-⟩ | ⟨kk,rfl,hk⟩
   all_goals
    simp(maxSteps:=1000000)(disch:=omega)only[push_cast,↓WX,simprocAttr]
    refine wl_loop (fun i a T=>(i=0∧T=V'∧∃d,a[5]? =some d∧GL 2 encF T d ([]:List (Int×ByteArray)))∧a.length=133∧a[13]? =some (.nils)∧a[14]? =some (.int .i64 0)) 0 ?_ (by omega) ?_
    ·simp(maxSteps:=1000000)(disch:=omega)only[push_cast,hal,h5,h13,simprocAttr]
     first |exact⟨_,rfl,GL.nil⟩ |exact⟨_,rfl,.inr ⟨kk,rfl,hk⟩⟩
    clear hal h2 h3 h5 h13 a
    rintro i a T hi ⟨⟨rfl,rfl,d5,h5,g5⟩,hal,h13,h14⟩
    rcases g5 with ⟨rfl,-⟩ | ⟨kk,rfl,hk⟩
    ·simp(maxSteps:=1000000)(disch:=omega)only[push_cast,hal,h5,h13,h14,Int.lt_irrefl,decide_true,FS,↓WX,simprocAttr]
     exact⟨k1,_,[],rfl,GL.nil,by simp,fun f h=>by cases h⟩
    ·simp(maxSteps:=1000000)(disch:=omega)only[push_cast,hal,h5,h13,h14,Int.lt_irrefl,decide_true,Int.natCast_zero,FS,↓WX,simprocAttr]
     exact⟨k1,_,[],rfl,.inr ⟨kk,rfl,hk⟩,by simp,fun f h=>by cases h⟩
  have hinit:KeepF V V'∧FS V' (some d1) 1 30:=⟨k1,_,_,rfl,g1,by simp,z1⟩
  clear k1 g1 l1 z1 va vb
  simp(maxSteps:=1000000)(disch:=omega)only[push_cast,↓WX,simprocAttr]
  refine wl_loop (fun i a T=>(KeepF V T∧∃d fs,a[5]? =some d∧GL 2 encF T d fs∧fs.length≤1∧(∀f∈fs,f.2.size≤30))∧a.length=133∧a[2]? =some (.loc 0 0 0)∧a[3]? =some (.loc 1 0 0)∧a[13]? =some (.sl 1 (dl.map encI) yd)∧a[14]? =some (.int .i64 i)) dl.length ?_ (by omega) ?_
  ·obtain⟨k1,dq,fq,eq,gq,lq,zq⟩:=hinit
   cases eq
   simp(maxSteps:=1000000)(disch:=omega)only[push_cast,hal,h2,h3,h5,h13,Int.natCast_zero,simprocAttr]
   exact⟨k1,_,_,rfl,gq,lq,zq⟩
  clear hal h2 h3 h5 h13 a
  rintro i a T hi ⟨⟨k1,d,fs,h5,g1,l1,z1⟩,hal,h2,h3,h13,h14⟩
  have va:=k1 _ _ na ga
  have vb:=k1 _ _ nb gb
  by_cases q0:fs.length=0
  case neg=>
   have q0c:¬(fs.length:Int)=0:=by omega
   rcases g1 with ⟨-,rfl⟩ | ⟨kk,rfl,hk⟩
   ·exact absurd rfl q0
   simp(maxSteps:=1000000)(disch:=omega)only[push_cast,hal,h5,q0c,decide_false,FS,↓WX,simprocAttr]
   exact⟨k1,_,_,rfl,.inr ⟨kk,rfl,hk⟩,by omega,z1⟩
  obtain rfl:=List.eq_nil_of_length_eq_zero q0
  rcases Nat.lt_or_eq_of_le hi with hlt |rfl
  case inr=>
   rcases g1 with ⟨rfl,-⟩ | ⟨kk,rfl,hk⟩
   ·simp(maxSteps:=1000000)(disch:=omega)only[push_cast,hal,h5,h13,h14,Int.lt_irrefl,decide_true,FS,↓WX,simprocAttr]
    exact⟨k1,_,[],rfl,GL.nil,by simp,fun f h=>by cases h⟩
   ·simp(maxSteps:=1000000)(disch:=omega)only[push_cast,hal,h5,h13,h14,Int.lt_irrefl,decide_true,Int.natCast_zero,FS,↓WX,simprocAttr]
    exact⟨k1,_,[],rfl,.inr ⟨kk,rfl,hk⟩,by simp,fun f h=>by cases h⟩
  obtain⟨x,hx⟩:∃x,dl[i]? =some x:=⟨dl[i],by simp⟩
  have hxb:=hdx x (List.mem_of_getElem? hx)
  have hltc:(i:Int)<dl.length:=by omega
  obtain⟨rl,ll,hrl,hll,-,crl⟩:=clg x (by omega)
  obtain⟨bo,cbo⟩:=ordered07_c (n:=m+1) (by omega) hrl (by omega)
  obtain⟨s,hs,cs⟩:=Print03_c (n:=m+1) (by omega) hxb.1 hxb.2
  have ms:=mx_of (a:=dayT) (b:=s) (by omega)
  obtain⟨d3,T3,fs3,p3,q3,g3,l3,z3,k3⟩:=app_s g1 (by simp) z1 true 13 (dayT++s) (by rw[ba_len];omega)
  replace p3:=p3 rfl
  unfold dayT at ms p3
  rcases g1 with ⟨rfl,-⟩ | ⟨kk,rfl,hk⟩
  ·cases bo
   ·simp(maxSteps:=1000000)(disch:=omega)only[push_cast,gt_iff_lt,hal,h2,h3,h5,h13,h14,va,vb,hltc,hlt,hx,crl,cbo,cs,ms,p3,dUn,Bool.not_false,decide_true,encI,wrap_ok,Int.natCast_add,Int.natCast_one,↓WX,simprocAttr]
    exact⟨k1.trans k3,_,_,rfl,g3,by simpa using l3,z3⟩
   ·simp(maxSteps:=1000000)(disch:=omega)only[push_cast,hal,h2,h3,h5,h13,h14,va,vb,hltc,hlt,hx,crl,cbo,dUn,Bool.not_true,decide_true,encI,wrap_ok,Int.natCast_add,Int.natCast_one,↓WX,simprocAttr]
    exact⟨k1,_,[],rfl,GL.nil,by simp,fun f h=>by cases h⟩
  ·simp only[List.length_nil]at p3
   cases bo
   ·simp(maxSteps:=1000000)(disch:=omega)only[push_cast,gt_iff_lt,hal,h2,h3,h5,h13,h14,va,vb,hltc,hlt,hx,crl,cbo,cs,ms,p3,dUn,Bool.not_false,decide_true,encI,Int.natCast_zero,wrap_ok,Int.natCast_add,Int.natCast_one,↓WX,simprocAttr]
    exact⟨k1.trans k3,_,_,rfl,g3,by simpa using l3,z3⟩
   ·simp(maxSteps:=1000000)(disch:=omega)only[push_cast,hal,h2,h3,h5,h13,h14,va,vb,hltc,hlt,hx,crl,cbo,dUn,Bool.not_true,decide_true,encI,Int.natCast_zero,wrap_ok,Int.natCast_add,Int.natCast_one,↓WX,simprocAttr]
    exact⟨k1,_,[],rfl,.inr ⟨kk,rfl,hk⟩,by simp,fun f h=>by cases h⟩
 clear hal h2 h3 h5 h13 a
 rintro a V5 ⟨⟨k5,d5,fs5,h5,g5,l5,z5⟩,hal⟩
 simp(maxSteps:=1000000)(disch:=omega)only[push_cast,hal,h5,Tryz.f34,↓WX,simprocAttr]
 exact⟨_,g5,l5,z5,fun _=>by show ls.length≤6;omega⟩
theorem Check07_c (hn:1049001≤n) {p:Plc} (hb:PlcB p) {f:Flt} (hf:FltB f):∃d fs,FZ d fs∧fs.length≤2000∧(∀f∈fs,f.2.size≤30)∧(fs=[]→f.legs.length≤6)∧∀st S,callD E (dcall E n) st S 34 [.agg p.enc,.agg f.enc]=some (d,S):=by
 obtain⟨m,rfl⟩:∃m,n=m+1:=⟨n-1,by omega⟩
 obtain⟨d,T,ho,fs,hg,h1,h2,h3⟩:=Check07_d (n:=m) (by omega) hb hf
 obtain⟨d',f',hf'⟩:=GL_fz hg
 exact⟨d',fs,hf',h1,h2,h3,fun st S=>callD_pure rfl (by simp only[pureL_cons,pureL_nil,D.pure,Plc_pure,Flt_pure,Bool.and_self]) ho f'⟩
end
end Go.Proofs.YtkemehicndccmaaGreatDoor.Dm
