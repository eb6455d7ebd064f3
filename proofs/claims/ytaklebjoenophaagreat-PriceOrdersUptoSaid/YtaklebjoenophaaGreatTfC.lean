/-
  The reference's check of a tariff: the violations of a fare, some list.
-/
import Derived.Test.YtaklebjoenophaaGreatTfA
set_option linter.unusedSimpArgs false
set_option linter.unusedVariables false
namespace Go.Proofs.YtaklebjoenophaaGreat.Dm
open Go Gw
set_option linter.unusedSimpArgs false
set_option linter.unusedSimpArgs false
structure Far where
 car:ByteArray
 frm:ByteArray
 dst:ByteArray
 bas:ByteArray
 cls:ByteArray
 rnd:Bool
 amt:Int
 rul:Int
 rou:Int
def Far.enc (f:Far):List D:=[.str f.car,.str f.frm,.str f.dst,.str f.bas,.str f.cls,.bool f.rnd,.int .i64 f.amt,.int .i64 f.rul,.int .i64 f.rou]
theorem Far_pure (f:Far):pureL f.enc=true:=by
 simp only[D.pure,pureL_cons,pureL_nil,Bool.and_true,Bool.and_self,Far.enc]
theorem Fars_pure (l:List Far):pureLL (l.map Far.enc)=true:=by
 induction l with
 |nil=>rfl
 |cons f fs ih=>rw[List.map_cons,pureLL_cons,ih,Far_pure];rfl
structure Trf where
 fares:List Far
 fx:Bool
 rules:List Rul
 rx:Bool
 rous:List Rou
 ox:Bool
 taxes:List Tx
 tx:Bool
def Trf.enc (t:Trf):List D:=[.sl 9 (t.fares.map Far.enc) t.fx,.sl 15 (t.rules.map Rul.enc) t.rx,.sl 3 (t.rous.map Rou.enc) t.ox,.sl 7 (t.taxes.map Tx.enc) t.tx]
theorem Trf_pure (t:Trf):pureL t.enc=true:=by
 simp only[D.pure,pureL_cons,pureL_nil,Bool.and_true,Bool.and_self,Trf.enc,Fars_pure,Ruls_pure,Rous_pure,Txs_pure]
def KeepI (T T':List Ob):Prop:=∀(k sz:Nat) (es:List (List D)),sz≠1→T[k]? =some (.row sz es)→T'[k]? =some (.row sz es)
theorem KeepI.refl {T:List Ob}:KeepI T T:=fun _ _ _ _ h=>h
theorem KeepI.trans {T U V:List Ob} (h:KeepI T U) (g:KeepI U V):KeepI T V:=fun k s e n j=>g k s e n (h k s e n j)
theorem KeepI.push {T:List Ob} {o:Ob}:KeepI T (T++[o]):=fun _ _ _ _ h=>get_old h
def ES (T:List Ob) (a:Option D) (m:Nat):Prop:=∃d es,a=some d∧GL 1 encI T d es∧es.length≤m
def ER (d:D) (m:Nat):Prop:=∃es,FLs 1 encI d es∧es.length≤m
theorem app_e {T:List Ob} {d:D} {es:List Int} (h:GL 1 encI T d es) (hl:es.length≤900) (e:Int):
  ∃d' T' es',dAppend Tryz.prog T 108 108 d (.sl 1 [[.int .i64 e]] true)=some (d',T')∧GL 1 encI T' d' es'∧es'.length≤es.length+1∧KeepI T T':=by
 obtain⟨S',h1,h2,h3,h4,h5⟩:=app_err h (by omega) e
 exact⟨_,S',_,h1,h2,by simp,h5⟩
theorem len15 {cs:List D} (h:cs.length=15):∃c0 c1 c2 c3 c4 c5 c6 c7 c8 c9 c10 c11 c12 c13 c14,cs=[c0,c1,c2,c3,c4,c5,c6,c7,c8,c9,c10,c11,c12,c13,c14]:=by
 match cs,h with
 | [c0,c1,c2,c3,c4,c5,c6,c7,c8,c9,c10,c11,c12,c13,c14],_=>exact⟨c0,c1,c2,c3,c4,c5,c6,c7,c8,c9,c10,c11,c12,c13,c14,rfl⟩
section
variable {n : Nat}
theorem rCodeLM_c {s:ByteArray} (k m:Int) (hn:s.size+6<n) (hz:s.size≤9223372036854775807):∃b,∀st S,callD E (dcall E n) st S 105 [.str s,.int .i64 k,.int .i64 m]=some (.bool b,S):=by
 obtain⟨m,rfl⟩:∃m,n=m+1:=⟨n-1,by omega⟩
 exact⟨_,fun st S=>callD_pure rfl rfl (eq_of_wo (ref_Code_d (by omega) hz)) rfl⟩
set_option maxHeartbeats 16000000 in
set_option maxRecDepth 100000 in
theorem fare24_d {p:Plc} {t:Trf} {f:Far} (hap:p.aps.length≤1048576) (hru:t.rules.length≤1048576) (hro:t.rous.length≤1048576) (z1:f.car.size≤1048576) (z2:f.bas.size≤1048576) (z3:f.cls.size≤1048576) (hn:1048700≤n):
  WO (dcall E (n+1) 44 [.agg p.enc,.agg t.enc,.agg f.enc] []) fun d T=>∃es,GL 1 encI T d es∧es.length≤6:=by
 have c1:=fun st S=>rCarrier_c (n:=n) (s:=f.car) (by omega) (by omega) st S
 obtain⟨b2,c2⟩:=rCodeLM_c (n:=n) (s:=f.bas) 1 8 (by omega) (by omega)
 obtain⟨b3,c3⟩:=known24_c (n:=n) p hap (by omega) f.frm
 obtain⟨b4,c4⟩:=known24_c (n:=n) p hap (by omega) f.dst
 have c5:=fun st S=>r01_class (n:=n) (s:=f.cls) (by omega) (by omega) st S
 obtain⟨cs,b6,hcs,hone,c6⟩:=Rule24_c (n:=n) (t.fares.map Far.enc) (t.rous.map Rou.enc) (t.taxes.map Tx.enc) t.fx t.ox t.tx t.rules t.rx (Fars_pure _) (Rous_pure _) (Txs_pure _) hru (by omega) f.rul
 obtain⟨d7,b7,c7⟩:=Routing24_c (n:=n) (t.fares.map Far.enc) (t.rules.map Rul.enc) (t.taxes.map Tx.enc) t.fx t.rx t.tx t.rous t.ox (Fars_pure _) (Ruls_pure _) (Txs_pure _) hro (by omega) f.rou
 obtain⟨r0,r1,r2,r3,r4,r5,r6,r7,r8,r9,r10,r11,r12,r13,r14,rfl⟩:=len15 hcs
 clear hcs
 simp only[List.all_cons,List.all_nil,Bool.and_true,Bool.and_eq_true,D.one]at hone
 obtain⟨n0,n1,n2,n3,n4,n5,n6,n7,n8,n9,n10,n11,n12,n13,n14⟩:=hone
 simp only[Plc.enc,Trf.enc,Far.enc] at*
 obtain⟨car,frm,dst,bas,cls,rnd,amt,rul,rou⟩:=f
 dsimp only at*
 generalize carS car=b1 at*
 generalize clsB cls=b5 at*
 generalize p.aps.map Apt.enc=ae at*
 generalize p.dts.map Dst.enc=de at*
 generalize t.fares.map Far.enc=fe at*
 generalize t.rules.map Rul.enc=re at*
 generalize t.rous.map Rou.enc=oe at*
 generalize t.taxes.map Tx.enc=te at*
 clear hap hru hro z1 z2 z3
 refine wo_dcall Tryz.func44 rfl (by decide) rfl 93 rfl (fun a hal ha=>?_)
 have h0:a[0]? =some (.agg [.sl 5 ae p.apsx,.sl 3 de p.dtsx]):=ha 0 (by simp)
 have h1:a[1]? =some (.agg [.sl 9 fe t.fx,.sl 15 re t.rx,.sl 3 oe t.ox,.sl 7 te t.tx]):=ha 1 (by simp)
 have h2:a[2]? =some (.agg [.str car,.str frm,.str dst,.str bas,.str cls,.bool rnd,.int .i64 amt,.int .i64 rul,.int .i64 rou]):=ha 2 (by simp)
 clear ha
 obtain⟨S0,hS0⟩:∃S0,S0=[Ob.row 2 [[.sl 5 ae p.apsx,.sl 3 de p.dtsx]],Ob.row 4 [[.sl 9 fe t.fx,.sl 15 re t.rx,.sl 3 oe t.ox,.sl 7 te t.tx]],Ob.row 9 [[.str car,.str frm,.str dst,.str bas,.str cls,.bool rnd,.int .i64 amt,.int .i64 rul,.int .i64 rou]]]:=⟨_,rfl⟩
 have ga:S0[0]? =some (.row 2 [[.sl 5 ae p.apsx,.sl 3 de p.dtsx]]):=by rw[hS0];rfl
 have gb:S0[1]? =some (.row 4 [[.sl 9 fe t.fx,.sl 15 re t.rx,.sl 3 oe t.ox,.sl 7 te t.tx]]):=by rw[hS0];rfl
 have gc:S0[2]? =some (.row 9 [[.str car,.str frm,.str dst,.str bas,.str cls,.bool rnd,.int .i64 amt,.int .i64 rul,.int .i64 rou]]):=by rw[hS0];rfl
 refine wc_scut (fun a V=>V=S0∧a.length=93∧a[3]? =some (.loc 0 0 0)∧a[4]? =some (.loc 1 0 0)∧a[5]? =some (.loc 2 0 0)) ?_ ?_
 ·simp(maxSteps:=1000000)(disch:=omega)only[push_cast,decide_not,decide_eq_true_eq,decide_eq_false_iff_not,bne_eq_false_iff_eq,beq_eq_false_iff_ne,gt_iff_lt,ne_eq,not_true_eq_false,not_false_eq_true,hal,h0,h1,h2,↓WX,simprocAttr]
  exact hS0.symm
 clear hal h0 h1 h2 a
 rintro a V ⟨rfl,hal,h3,h4,h5⟩
 refine wc_scut (fun a W=>W=V∧a.length=93∧a[3]? =some (.loc 0 0 0)∧a[4]? =some (.loc 1 0 0)∧a[5]? =some (.loc 2 0 0)∧a[7]? =some (.nils)) ?_ ?_
 ·simp(maxSteps:=1000000)(disch:=omega)only[push_cast,decide_not,decide_eq_true_eq,decide_eq_false_iff_not,bne_eq_false_iff_eq,beq_eq_false_iff_ne,gt_iff_lt,ne_eq,not_true_eq_false,not_false_eq_true,hal,h3,h4,h5,↓WX,simprocAttr]
 clear hal h3 h4 h5 a
 rintro a W ⟨rfl,hal,h3,h4,h5,h7⟩
 refine wc_scut (fun a V'=>(KeepI W V'∧ES V' a[7]? 1)∧a.length=93∧a[3]? =some (.loc 0 0 0)∧a[4]? =some (.loc 1 0 0)∧a[5]? =some (.loc 2 0 0)) ?_ ?_
 ·obtain⟨d1,T1,es1,p1,g1,l1,k1⟩:=app_e (T:=W) (d:=.nils) (es:=[]) GL.nil (by simp) 5
  cases b1
  ·simp(maxSteps:=1000000)(disch:=omega)only[push_cast,decide_not,decide_eq_true_eq,decide_eq_false_iff_not,bne_eq_false_iff_eq,beq_eq_false_iff_ne,gt_iff_lt,ne_eq,not_true_eq_false,not_false_eq_true,hal,h3,h4,h5,h7,gc,c1,p1,dUn,Bool.not_false,ES,↓WX,simprocAttr]
   exact⟨k1,_,_,rfl,g1,by simpa using l1⟩
  cases b2
  ·simp(maxSteps:=1000000)(disch:=omega)only[push_cast,decide_not,decide_eq_true_eq,decide_eq_false_iff_not,bne_eq_false_iff_eq,beq_eq_false_iff_ne,gt_iff_lt,ne_eq,not_true_eq_false,not_false_eq_true,hal,h3,h4,h5,h7,gc,c1,c2,p1,dUn,Bool.not_false,Bool.not_true,ES,↓WX,simprocAttr]
   exact⟨k1,_,_,rfl,g1,by simpa using l1⟩
  simp(maxSteps:=1000000)(disch:=omega)only[push_cast,decide_not,decide_eq_true_eq,decide_eq_false_iff_not,bne_eq_false_iff_eq,beq_eq_false_iff_ne,gt_iff_lt,ne_eq,not_true_eq_false,not_false_eq_true,hal,h3,h4,h5,h7,gc,c1,c2,dUn,Bool.not_false,Bool.not_true,ES,↓WX,simprocAttr]
  exact⟨KeepI.refl,_,[],rfl,GL.nil,by simp⟩
 clear hal h3 h4 h5 h7 a
 rintro a V1 ⟨⟨k1,d1,es1,h7,g1,l1⟩,hal,h3,h4,h5⟩
 have va:=k1 _ _ _ (by decide) ga
 have vb:=k1 _ _ _ (by decide) gb
 have vc:=k1 _ _ _ (by decide) gc
 refine wc_scut (fun a V'=>(KeepI V1 V'∧ES V' a[7]? 2)∧a.length=93∧a[3]? =some (.loc 0 0 0)∧a[4]? =some (.loc 1 0 0)∧a[5]? =some (.loc 2 0 0)) ?_ ?_
 ·obtain⟨d2,T2,es2,p2,g2,l2,k2⟩:=app_e g1 (by omega) 14
  cases b3
  ·simp(maxSteps:=1000000)(disch:=omega)only[push_cast,decide_not,decide_eq_true_eq,decide_eq_false_iff_not,bne_eq_false_iff_eq,beq_eq_false_iff_ne,gt_iff_lt,ne_eq,not_true_eq_false,not_false_eq_true,hal,h3,h4,h5,h7,va,vc,c3,p2,dUn,Bool.not_false,ES,↓WX,simprocAttr]
   exact⟨k2,_,_,rfl,g2,by omega⟩
  cases b4
  ·simp(maxSteps:=1000000)(disch:=omega)only[push_cast,decide_not,decide_eq_true_eq,decide_eq_false_iff_not,bne_eq_false_iff_eq,beq_eq_false_iff_ne,gt_iff_lt,ne_eq,not_true_eq_false,not_false_eq_true,hal,h3,h4,h5,h7,va,vc,c3,c4,p2,dUn,Bool.not_false,Bool.not_true,ES,↓WX,simprocAttr]
   exact⟨k2,_,_,rfl,g2,by omega⟩
  simp(maxSteps:=1000000)(disch:=omega)only[push_cast,decide_not,decide_eq_true_eq,decide_eq_false_iff_not,bne_eq_false_iff_eq,beq_eq_false_iff_ne,gt_iff_lt,ne_eq,not_true_eq_false,not_false_eq_true,hal,h3,h4,h5,h7,va,vc,c3,c4,dUn,Bool.not_false,Bool.not_true,ES,↓WX,simprocAttr]
  exact⟨KeepI.refl,_,_,rfl,g1,by omega⟩
 clear hal h3 h4 h5 h7 a
 clear va vb vc
 rintro a V2 ⟨⟨k2,d2,es2,h7,g2,l2⟩,hal,h3,h4,h5⟩
 have kk:=k1.trans k2
 have va:=kk _ _ _ (by decide) ga
 have vb:=kk _ _ _ (by decide) gb
 have vc:=kk _ _ _ (by decide) gc
 refine wc_scut (fun a V'=>(KeepI V2 V'∧ES V' a[7]? 3)∧a.length=93∧a[3]? =some (.loc 0 0 0)∧a[4]? =some (.loc 1 0 0)∧a[5]? =some (.loc 2 0 0)) ?_ ?_
 ·obtain⟨d3,T3,es3,p3,g3,l3,k3⟩:=app_e g2 (by omega) 2
  by_cases q1:frm=dst
  ·simp(maxSteps:=1000000)(disch:=omega)only[push_cast,decide_not,decide_eq_true_eq,decide_eq_false_iff_not,bne_eq_false_iff_eq,beq_eq_false_iff_ne,gt_iff_lt,ne_eq,not_true_eq_false,not_false_eq_true,hal,h3,h4,h5,h7,vc,q1,str_eq,p3,ES,↓WX,simprocAttr]
   exact⟨k3,_,_,rfl,g3,by omega⟩
  by_cases q2:amt<0
  ·simp(maxSteps:=1000000)(disch:=omega)only[push_cast,decide_not,decide_eq_true_eq,decide_eq_false_iff_not,bne_eq_false_iff_eq,beq_eq_false_iff_ne,gt_iff_lt,ne_eq,not_true_eq_false,not_false_eq_true,hal,h3,h4,h5,h7,vc,q1,q2,str_eq,p3,ES,↓WX,simprocAttr]
   exact⟨k3,_,_,rfl,g3,by omega⟩
  by_cases q3:1099511627776<amt
  ·simp(maxSteps:=1000000)(disch:=omega)only[push_cast,decide_not,decide_eq_true_eq,decide_eq_false_iff_not,bne_eq_false_iff_eq,beq_eq_false_iff_ne,gt_iff_lt,ne_eq,not_true_eq_false,not_false_eq_true,hal,h3,h4,h5,h7,vc,q1,q2,q3,str_eq,p3,ES,↓WX,simprocAttr]
   exact⟨k3,_,_,rfl,g3,by omega⟩
  simp(maxSteps:=1000000)(disch:=omega)only[push_cast,decide_not,decide_eq_true_eq,decide_eq_false_iff_not,bne_eq_false_iff_eq,beq_eq_false_iff_ne,gt_iff_lt,ne_eq,not_true_eq_false,not_false_eq_true,hal,h3,h4,h5,h7,vc,q1,q2,q3,str_eq,ES,↓WX,simprocAttr]
  exact⟨KeepI.refl,_,_,rfl,g2,by omega⟩
 clear hal h3 h4 h5 h7 a
 clear va vb vc
 rintro a V3 ⟨⟨k3,d3,es3,h7,g3,l3⟩,hal,h3,h4,h5⟩
 replace kk:=kk.trans k3
 have va:=kk _ _ _ (by decide) ga
 have vb:=kk _ _ _ (by decide) gb
 have vc:=kk _ _ _ (by decide) gc
 refine wc_scut (fun a V'=>(KeepI V3 V'∧ES V' a[7]? 4)∧a.length=93∧a[3]? =some (.loc 0 0 0)∧a[4]? =some (.loc 1 0 0)∧a[5]? =some (.loc 2 0 0)) ?_ ?_
 ·obtain⟨d4,T4,es4,p4,g4,l4,k4⟩:=app_e g3 (by omega) 16
  cases b5
  ·simp(maxSteps:=1000000)(disch:=omega)only[push_cast,decide_not,decide_eq_true_eq,decide_eq_false_iff_not,bne_eq_false_iff_eq,beq_eq_false_iff_ne,gt_iff_lt,ne_eq,not_true_eq_false,not_false_eq_true,hal,h3,h4,h5,h7,vc,c5,p4,dUn,Bool.not_false,ES,↓WX,simprocAttr]
   exact⟨k4,_,_,rfl,g4,by omega⟩
  simp(maxSteps:=1000000)(disch:=omega)only[push_cast,decide_not,decide_eq_true_eq,decide_eq_false_iff_not,bne_eq_false_iff_eq,beq_eq_false_iff_ne,gt_iff_lt,ne_eq,not_true_eq_false,not_false_eq_true,hal,h3,h4,h5,h7,vc,c5,dUn,Bool.not_true,ES,↓WX,simprocAttr]
  exact⟨KeepI.refl,_,_,rfl,g3,by omega⟩
 clear hal h3 h4 h5 h7 a
 clear va vb vc
 rintro a V4 ⟨⟨k4,d4,es4,h7,g4,l4⟩,hal,h3,h4,h5⟩
 replace kk:=kk.trans k4
 have va:=kk _ _ _ (by decide) ga
 have vb:=kk _ _ _ (by decide) gb
 have vc:=kk _ _ _ (by decide) gc
 refine wc_scut (fun a V'=>V'=V4++[Ob.row 15 [[r0,r1,r2,r3,r4,r5,r6,r7,r8,r9,r10,r11,r12,r13,r14]]]∧a.length=93∧a[3]? =some (.loc 0 0 0)∧a[4]? =some (.loc 1 0 0)∧a[5]? =some (.loc 2 0 0)∧a[7]? =some (d4)∧a[9]? =some (.bool b6)) ?_ ?_
 ·simp(maxSteps:=1000000)(disch:=omega)only[push_cast,decide_not,decide_eq_true_eq,decide_eq_false_iff_not,bne_eq_false_iff_eq,beq_eq_false_iff_ne,gt_iff_lt,ne_eq,not_true_eq_false,not_false_eq_true,hal,h3,h4,h5,h7,vb,vc,c6,n0,n1,n2,n3,n4,n5,n6,n7,n8,n9,n10,n11,n12,n13,n14,set_end,get_end,↓WX,simprocAttr]
 clear hal h3 h4 h5 h7 a
 rintro a V5 ⟨hV5,hal,h3,h4,h5,h7,h9⟩
 have k5:KeepI V4 V5:=by rw[hV5];exact KeepI.push
 have g5:GL 1 encI V5 d4 es4:=by rw[hV5];exact g4.push _
 clear hV5
 refine wc_scut (fun a V'=>(KeepI V5 V'∧ES V' a[7]? 5)∧a.length=93∧a[3]? =some (.loc 0 0 0)∧a[4]? =some (.loc 1 0 0)∧a[5]? =some (.loc 2 0 0)) ?_ ?_
 ·obtain⟨d6,T6,es6,p6,g6,l6,k6⟩:=app_e g5 (by omega) 20
  cases b6
  ·simp(maxSteps:=1000000)(disch:=omega)only[push_cast,decide_not,decide_eq_true_eq,decide_eq_false_iff_not,bne_eq_false_iff_eq,beq_eq_false_iff_ne,gt_iff_lt,ne_eq,not_true_eq_false,not_false_eq_true,hal,h3,h4,h5,h7,h9,p6,dUn,Bool.not_false,ES,↓WX,simprocAttr]
   exact⟨k6,_,_,rfl,g6,by omega⟩
  simp(maxSteps:=1000000)(disch:=omega)only[push_cast,decide_not,decide_eq_true_eq,decide_eq_false_iff_not,bne_eq_false_iff_eq,beq_eq_false_iff_ne,gt_iff_lt,ne_eq,not_true_eq_false,not_false_eq_true,hal,h3,h4,h5,h7,h9,dUn,Bool.not_true,ES,↓WX,simprocAttr]
  exact⟨KeepI.refl,_,_,rfl,g5,by omega⟩
 clear hal h3 h4 h5 h7 h9 a
 clear va vb vc
 rintro a V6 ⟨⟨k6,d6,es6,h7,g6,l6⟩,hal,h3,h4,h5⟩
 replace kk:=(kk.trans k5).trans k6
 have vb:=kk _ _ _ (by decide) gb
 have vc:=kk _ _ _ (by decide) gc
 refine wc_scut (fun a V'=>V'=V6∧a.length=93∧a[3]? =some (.loc 0 0 0)∧a[4]? =some (.loc 1 0 0)∧a[5]? =some (.loc 2 0 0)∧a[7]? =some (d6)∧a[9]? =some (.bool b7)) ?_ ?_
 ·simp(maxSteps:=1000000)(disch:=omega)only[push_cast,decide_not,decide_eq_true_eq,decide_eq_false_iff_not,bne_eq_false_iff_eq,beq_eq_false_iff_ne,gt_iff_lt,ne_eq,not_true_eq_false,not_false_eq_true,hal,h3,h4,h5,h7,vb,vc,c7,↓WX,simprocAttr]
 clear hal h3 h4 h5 h7 a
 rintro a V' ⟨rfl,hal,h3,h4,h5,h7,h9⟩
 refine wc_scut (fun a V7=>ES V7 a[7]? 6∧a.length=93) ?_ ?_
 ·obtain⟨d8,T8,es8,p8,g8,l8,k8⟩:=app_e g6 (by omega) 21
  by_cases q:rou=0
  ·simp(maxSteps:=1000000)(disch:=omega)only[push_cast,decide_not,decide_eq_true_eq,decide_eq_false_iff_not,bne_eq_false_iff_eq,beq_eq_false_iff_ne,gt_iff_lt,ne_eq,not_true_eq_false,not_false_eq_true,hal,h3,h4,h5,h7,h9,vc,q,decide_true,Bool.not_true,ES,↓WX,simprocAttr]
   exact⟨_,_,rfl,g6,by omega⟩
  cases b7
  ·simp(maxSteps:=1000000)(disch:=omega)only[push_cast,decide_not,decide_eq_true_eq,decide_eq_false_iff_not,bne_eq_false_iff_eq,beq_eq_false_iff_ne,gt_iff_lt,ne_eq,not_true_eq_false,not_false_eq_true,hal,h3,h4,h5,h7,h9,vc,q,p8,dUn,Bool.not_false,decide_false,ES,↓WX,simprocAttr]
   exact⟨_,_,rfl,g8,by omega⟩
  simp(maxSteps:=1000000)(disch:=omega)only[push_cast,decide_not,decide_eq_true_eq,decide_eq_false_iff_not,bne_eq_false_iff_eq,beq_eq_false_iff_ne,gt_iff_lt,ne_eq,not_true_eq_false,not_false_eq_true,hal,h3,h4,h5,h7,h9,vc,q,dUn,Bool.not_true,Bool.not_false,decide_false,ES,↓WX,simprocAttr]
  exact⟨_,_,rfl,g6,by omega⟩
 clear hal h3 h4 h5 h7 h9 a
 rintro a V7 ⟨⟨d7,es7,h7,g7,l7⟩,hal⟩
 simp(maxSteps:=1000000)(disch:=omega)only[push_cast,decide_not,decide_eq_true_eq,decide_eq_false_iff_not,bne_eq_false_iff_eq,beq_eq_false_iff_ne,gt_iff_lt,ne_eq,not_true_eq_false,not_false_eq_true,hal,h7,Tryz.f44,↓WX,simprocAttr]
 exact⟨_,g7,l7⟩
theorem fare24_c {p:Plc} {t:Trf} {f:Far} (hap:p.aps.length≤1048576) (hru:t.rules.length≤1048576) (hro:t.rous.length≤1048576) (z1:f.car.size≤1048576) (z2:f.bas.size≤1048576) (z3:f.cls.size≤1048576) (hn:1048701≤n):∃d,ER d 6∧∀st S,callD E (dcall E n) st S 44 [.agg p.enc,.agg t.enc,.agg f.enc]=some (d,S):=by
 obtain⟨m,rfl⟩:∃m,n=m+1:=⟨n-1,by omega⟩
 obtain⟨d,T,ho,es,hg,h1⟩:=fare24_d (n:=m) (p:=p) (t:=t) (f:=f) hap hru hro z1 z2 z3 (by omega)
 obtain⟨d',f',hf⟩:=hg.fls (encI_pure es)
 exact⟨d',⟨es,hf,h1⟩,fun st S=>callD_pure rfl (by simp only[pureL_cons,pureL_nil,D.pure,Plc_pure,Trf_pure,Far_pure,Bool.and_true,Bool.and_self]) ho f'⟩
end
end Go.Proofs.YtaklebjoenophaaGreat.Dm
