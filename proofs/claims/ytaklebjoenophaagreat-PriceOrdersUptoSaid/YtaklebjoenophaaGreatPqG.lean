/-
  Whether a price is valid: the reference, exactly (in terms of what the fares of its components come to).
-/
import Derived.Test.YtaklebjoenophaaGreatPqF
import Derived.Test.YtaklebjoenophaaGreatTfD
set_option linter.unusedSimpArgs false
set_option linter.unusedVariables false
namespace Go.Proofs.YtaklebjoenophaaGreat.Dm
open Go Gw
set_option linter.unusedSimpArgs false
set_option linter.unusedSimpArgs false
def vfE (why:Prt→Int) (amt:Prt→Int×Int) (x:Prt):Int:=if why x=0 then if (amt x).2=0∧(amt x).1=x.am then 0 else 36 else why x
def wantF (z:Int×List (ByteArray×Int)×Int) (ps:List (Int×Int)) (l:List Prt):Quo:=⟨l,false,ps,false,z.2.1,false,z.1,z.2.2⟩
def validF (why:Prt→Int) (amt:Prt→Int×Int) (pct:Int→Int→Int×Int) (p:Plc) (t:Trf) (w:List Wnt) (s:ByteArray) (q:Quo):Int:=
 if w.length=0∨6<w.length then 2
 else if cvF q.parts 0 w.length=true then
  if fstE (vfE why amt) q.parts=0 then
   if checkF p t w q.parts=0 then
    match sumsF pct p t w s q.parts with
    |none=>36
    |some z=>if sameF (wantF z (pairsF t q.parts).1 q.parts) q=true then 0 else 36
   else checkF p t w q.parts
  else fstE (vfE why amt) q.parts
 else 15
theorem cvF_mem {n:Int}:∀ {l:List Prt} {k:Int},cvF l k n=true→0≤k→∀x∈l,0≤x.fr∧x.fr<x.to∧x.to≤n
 | [],k,_,_,x,hx=>by cases hx
 |y::ys,k,h,hk,x,hx=>by
  unfold cvF at h
  split at h
  ·rename_i c
   rcases List.mem_cons.1 hx with rfl |hx
   ·exact⟨by omega,by omega,by omega⟩
   ·exact cvF_mem h (by omega) x hx
  ·cases h
section
variable {n : Nat}
theorem Pairs26_p (t:Trf) {d:D} {l:List Prt} (h:FLs 4 Prt.enc d l) (hl:l.length≤900) (hn:3001≤n):∃d',FLs 2 encPr d' (pairsF t l).1∧∀st S,callD E (dcall E n) st S 37 [.agg t.enc,d]=some (.tup [d',.int .i64 (pairsF t l).2],S):=by
 obtain⟨m,rfl⟩:∃m,n=m+1:=⟨n-1,by omega⟩
 obtain⟨_,T,ho,hx,d',rfl,hg⟩:=Pairs26_d (n:=m) (S:=[]) t h.lq hl (by omega)
 obtain⟨d2,hf,hd⟩:=hg.flsN (encPrs_pure _) 37
 exact⟨d2,hd,fun st S=>callD_pure rfl (by simp only[pureL_cons,pureL_nil,D.pure,Trf_pure,fls_pure h (Prts_pure _),Bool.and_true]) ho (freeze_tup2 hf)⟩
set_option maxHeartbeats 32000000 in
set_option maxRecDepth 100000 in
theorem Valid28_d (why:Prt→Int) (amt:Prt→Int×Int) (pct:Int→Int→Int×Int) (hpc:∀x y st S,callD E (dcall E n) st S 143 [.int .i64 x,.int .i64 y]=some (.tup [.int .i64 (pct x y).1,.int .i64 (pct x y).2],S)) (p:Plc) (hpa:p.aps.length≤1048576) (hsh:∀a∈p.aps,a.sh.length≤1048576) (t:Trf) (hr:t.rules.length≤1048576) (hcb:∀r∈t.rules,r.comb.length≤1048576) (htl:t.taxes.length≤90000) (hlf:∀x∈t.taxes,x.free.length≤1048576) (w:List Wnt) (wx:Bool) (hw:w.length≤900) (s:ByteArray) (sale:Int) (q:Quo) (hql:q.parts.length≤900) (hqp:q.pairs.length≤1048576) (hqt:q.taxes.length≤1048576) (hn:1049010≤n)
  (hwhy:∀x:Prt,0≤x.fr→x.fr<x.to→x.to≤w.length→∀st S,callD E (dcall E (n+2)) st S 33 [.agg p.enc,.agg t.enc,.int .i64 x.fa,.sl 8 (((w.map Wnt.enc).drop x.fr.toNat).take (x.to.toNat-x.fr.toNat)) (wx && decide (x.to.toNat=w.length)),.str s,.int .i64 sale]=some (.int .i64 (why x),S))
  (hamt:∀x:Prt,0≤x.fr→x.fr<x.to→x.to≤w.length→∀st S,callD E (dcall E (n+2)) st S 34 [.agg p.enc,.agg t.enc,.int .i64 x.fa,.sl 8 (((w.map Wnt.enc).drop x.fr.toNat).take (x.to.toNat-x.fr.toNat)) (wx && decide (x.to.toNat=w.length)),.str s]=some (.tup [.int .i64 (amt x).1,.int .i64 (amt x).2],S)):
  WO (dcall E (n+3) 14 [.agg p.enc,.agg t.enc,.sl 8 (w.map Wnt.enc) wx,.str s,.int .i64 sale,.agg q.enc] []) fun r T=>r=.int .i64 (validF why amt pct p t w s q):=by
 have hqf:FLs 4 Prt.enc (.sl 4 (q.parts.map Prt.enc) q.px) q.parts:=.inr ⟨_,rfl⟩
 have ccv:=covers28_c (n:=n+2) q.parts q.px (w.length:Int) (by omega) (by omega)
 have cck:=fun st (S:List Ob)=>Check26_x (n:=n+2) (S:=S) p hpa hsh t hr hcb w wx hqf.lq hql (by omega) st
 obtain⟨dp,hdp,cpa⟩:=Pairs26_p (n:=n+2) t hqf hql (by omega)
 have csu:=fun (S:List Ob) (hw0:w≠[])=>sums28_d (n:=n) (S:=S) pct hpc p hpa t htl hlf w wx (by omega) hw0 s hqf.lq hql (by omega)
 obtain⟨z,hz⟩:∃z,z=validF why amt pct p t w s q:=⟨_,rfl⟩
 rw[←hz]
 unfold validF at hz
 have hcm:=fun h=>cvF_mem (n:=(w.length:Int)) (l:=q.parts) (k:=0) h (Int.le_refl _)
 generalize cvF q.parts 0 (w.length:Int)=bc at*
 generalize checkF p t w q.parts=ck at*
 simp only[Plc.enc,Trf.enc,Quo.enc]at cck cpa csu hwhy hamt ⊢
 obtain⟨V0,hV0⟩:∃V0:List Ob,V0=[Ob.row 2 [[.sl 5 (p.aps.map Apt.enc) p.apsx,.sl 3 (p.dts.map Dst.enc) p.dtsx]],Ob.row 4 [[.sl 9 (t.fares.map Far.enc) t.fx,.sl 15 (t.rules.map Rul.enc) t.rx,.sl 3 (t.rous.map Rou.enc) t.ox,.sl 7 (t.taxes.map Tx.enc) t.tx]],Ob.row 5 [[.sl 4 (q.parts.map Prt.enc) q.px,.sl 2 (q.pairs.map encPr) q.qx,.sl 2 (q.taxes.map encCh) q.tx,.int .i64 q.fare,.int .i64 q.total]]]:=⟨_,rfl⟩
 have g0:∀J,(V0++J)[0]? =some (Ob.row 2 [[.sl 5 (p.aps.map Apt.enc) p.apsx,.sl 3 (p.dts.map Dst.enc) p.dtsx]]):=fun J=>by rw[hV0];rfl
 have g1:∀J,(V0++J)[1]? =some (Ob.row 4 [[.sl 9 (t.fares.map Far.enc) t.fx,.sl 15 (t.rules.map Rul.enc) t.rx,.sl 3 (t.rous.map Rou.enc) t.ox,.sl 7 (t.taxes.map Tx.enc) t.tx]]):=fun J=>by rw[hV0];rfl
 have g2:∀J,(V0++J)[2]? =some (Ob.row 5 [[.sl 4 (q.parts.map Prt.enc) q.px,.sl 2 (q.pairs.map encPr) q.qx,.sl 2 (q.taxes.map encCh) q.tx,.int .i64 q.fare,.int .i64 q.total]]):=fun J=>by rw[hV0];rfl
 refine wo_dcall Tryz.func14 rfl (by decide) rfl 122 rfl (fun a hal ha=>?_)
 have h0:a[0]? =some (.agg [.sl 5 (p.aps.map Apt.enc) p.apsx,.sl 3 (p.dts.map Dst.enc) p.dtsx]):=ha 0 (by simp)
 have h1:a[1]? =some (.agg [.sl 9 (t.fares.map Far.enc) t.fx,.sl 15 (t.rules.map Rul.enc) t.rx,.sl 3 (t.rous.map Rou.enc) t.ox,.sl 7 (t.taxes.map Tx.enc) t.tx]):=ha 1 (by simp)
 have h2:a[2]? =some (.sl 8 (w.map Wnt.enc) wx):=ha 2 (by simp)
 have h3:a[3]? =some (.str s):=ha 3 (by simp)
 have h4:a[4]? =some (.int .i64 sale):=ha 4 (by simp)
 have h5:a[5]? =some (.agg [.sl 4 (q.parts.map Prt.enc) q.px,.sl 2 (q.pairs.map encPr) q.qx,.sl 2 (q.taxes.map encCh) q.tx,.int .i64 q.fare,.int .i64 q.total]):=ha 5 (by simp)
 clear ha
 refine wc_scut (fun a V=>(∃J,V=V0++J)∧a.length=122∧a[2]? =some (.sl 8 (w.map Wnt.enc) wx)∧a[3]? =some (.str s)∧a[4]? =some (.int .i64 sale)∧a[6]? =some (.loc 0 0 0)∧a[7]? =some (.loc 1 0 0)∧a[11]? =some (.loc 2 0 0)) ?_ ?_
 ·simp(maxSteps:=1000000)(disch:=omega)only[push_cast,decide_not,decide_eq_true_eq,decide_eq_false_iff_not,bne_eq_false_iff_eq,beq_eq_false_iff_ne,gt_iff_lt,ne_eq,not_true_eq_false,not_false_eq_true,hal,h0,h1,h2,h3,h4,h5,↓WX,simprocAttr]
  exact⟨[],by rw[hV0];rfl⟩
 clear hal h0 h1 h2 h3 h4 h5 a
 clear hV0
 rintro a V ⟨⟨J0,rfl⟩,hal,h2,h3,h4,h6,h7,h11⟩
 have g2':=g2 J0
 by_cases w0:w.length=0
 ·rw[if_pos (.inl w0)]at hz
  subst hz
  have w0':decide ((w.length:Int)=0)=true:=decide_eq_true (by omega)
  simp(maxSteps:=1000000)(disch:=omega)only[push_cast,decide_not,decide_eq_true_eq,decide_eq_false_iff_not,bne_eq_false_iff_eq,beq_eq_false_iff_ne,gt_iff_lt,ne_eq,not_true_eq_false,not_false_eq_true,hal,h2,h3,h4,h6,h7,h11,w0',Tryz.f14,↓WX,simprocAttr]
 have w0':decide ((w.length:Int)=0)=false:=decide_eq_false (by omega)
 by_cases w6:6<w.length
 ·rw[if_pos (.inr w6)]at hz
  subst hz
  have w6':((6:Int)<w.length)=True:=eq_true (by omega)
  simp(maxSteps:=1000000)(disch:=omega)only[push_cast,decide_not,decide_eq_true_eq,decide_eq_false_iff_not,bne_eq_false_iff_eq,beq_eq_false_iff_ne,gt_iff_lt,ne_eq,not_true_eq_false,not_false_eq_true,hal,h2,h3,h4,h6,h7,h11,w0',w6',Tryz.f14,↓WX,simprocAttr]
 have w6':((6:Int)<w.length)=False:=eq_false (by omega)
 rw[if_neg (fun h=>h.elim w0 w6)]at hz
 have csu:=fun S=>csu S (fun h=>w0 (by rw[h];rfl))
 refine wc_scut (fun a V=>V=V0++J0∧a.length=122∧a[2]? =some (.sl 8 (w.map Wnt.enc) wx)∧a[3]? =some (.str s)∧a[4]? =some (.int .i64 sale)∧a[6]? =some (.loc 0 0 0)∧a[7]? =some (.loc 1 0 0)∧a[11]? =some (.loc 2 0 0)) ?_ ?_
 ·simp(maxSteps:=1000000)(disch:=omega)only[push_cast,decide_not,decide_eq_true_eq,decide_eq_false_iff_not,bne_eq_false_iff_eq,beq_eq_false_iff_ne,gt_iff_lt,ne_eq,not_true_eq_false,not_false_eq_true,hal,h2,h3,h4,h6,h7,h11,w0',w6',↓WX,simprocAttr]
 clear hal h2 h3 h4 h6 h7 h11 a
 rintro a V ⟨rfl,hal,h2,h3,h4,h6,h7,h11⟩
 cases bc
 ·rw[if_neg (by simp)]at hz
  subst hz
  simp(maxSteps:=1000000)(disch:=omega)only[push_cast,decide_not,decide_eq_true_eq,decide_eq_false_iff_not,bne_eq_false_iff_eq,beq_eq_false_iff_ne,gt_iff_lt,ne_eq,not_true_eq_false,not_false_eq_true,hal,h2,h3,h4,h6,h7,h11,g2',ccv,Bool.not_false,Tryz.f14,↓WX,simprocAttr]
 rw[if_pos rfl]at hz
 have hcm:=hcm rfl
 refine wc_scut (fun a V=>(∃J,V=V0++J)∧a.length=122∧a[2]? =some (.sl 8 (w.map Wnt.enc) wx)∧a[3]? =some (.str s)∧a[4]? =some (.int .i64 sale)∧a[6]? =some (.loc 0 0 0)∧a[7]? =some (.loc 1 0 0)∧a[11]? =some (.loc 2 0 0)) ?_ ?_
 ·simp(maxSteps:=1000000)(disch:=omega)only[push_cast,decide_not,decide_eq_true_eq,decide_eq_false_iff_not,bne_eq_false_iff_eq,beq_eq_false_iff_ne,gt_iff_lt,ne_eq,not_true_eq_false,not_false_eq_true,hal,h2,h3,h4,h6,h7,h11,g2',ccv,Bool.not_true,↓WX,simprocAttr]
  exact⟨_,rfl⟩
 clear hal h2 h3 h4 h6 h7 h11 a
 clear g2'
 rintro a V ⟨hJV,hal,h2,h3,h4,h6,h7,h11⟩
 obtain⟨fe,hfe⟩:∃fe,fe=fstE (vfE why amt) q.parts:=⟨_,rfl⟩
 rw[←hfe]at hz
 refine wc_rcut (fun a V=>((∃J,V=V0++J)∧fe=0)∧a.length=122∧a[2]? =some (.sl 8 (w.map Wnt.enc) wx)∧a[3]? =some (.str s)∧a[6]? =some (.loc 0 0 0)∧a[7]? =some (.loc 1 0 0)∧a[11]? =some (.loc 2 0 0)) ?_ ?_
 ·simp(maxSteps:=1000000)(disch:=omega)only[push_cast,decide_not,decide_eq_true_eq,decide_eq_false_iff_not,bne_eq_false_iff_eq,beq_eq_false_iff_ne,gt_iff_lt,ne_eq,not_true_eq_false,not_false_eq_true,hal,h2,h3,h4,h6,h7,h11,↓WX,simprocAttr]
  refine wl_loop (fun i a T=>((∃J,T=V0++J)∧fe=fstE (vfE why amt) (q.parts.drop i))∧a.length=122∧a[2]? =some (.sl 8 (w.map Wnt.enc) wx)∧a[3]? =some (.str s)∧a[4]? =some (.int .i64 sale)∧a[6]? =some (.loc 0 0 0)∧a[7]? =some (.loc 1 0 0)∧a[11]? =some (.loc 2 0 0)∧a[13]? =some (.int .i64 i)) q.parts.length ?_ (by omega) ?_
  ·simp(maxSteps:=1000000)(disch:=omega)only[push_cast,decide_not,decide_eq_true_eq,decide_eq_false_iff_not,bne_eq_false_iff_eq,beq_eq_false_iff_ne,gt_iff_lt,ne_eq,not_true_eq_false,not_false_eq_true,hal,h2,h3,h4,h6,h7,h11,Int.natCast_zero,↓WX,simprocAttr]
   exact⟨hJV,hfe⟩
  clear hal h2 h3 h4 h6 h7 h11 a
  clear hfe hJV
  rintro i a T hi ⟨⟨⟨J,rfl⟩,e⟩,hal,h2,h3,h4,h6,h7,h11,h13⟩
  have e2:=g2 J
  rcases Nat.lt_or_eq_of_le hi with hlt |hie
  case inr=>
   rw[hie,List.drop_length,fstE]at e
   subst hie
   simp(maxSteps:=1000000)(disch:=omega)only[push_cast,decide_not,decide_eq_true_eq,decide_eq_false_iff_not,bne_eq_false_iff_eq,beq_eq_false_iff_ne,gt_iff_lt,ne_eq,not_true_eq_false,not_false_eq_true,hal,h2,h3,h4,h6,h7,h11,h13,e2,Int.lt_irrefl,false_and,false_or,or_false,true_and,↓WX,simprocAttr]
   exact⟨⟨_,rfl⟩,e⟩
  have hltc:(i:Int)<q.parts.length:=by omega
  obtain⟨x,hx⟩:∃x,q.parts[i]? =some x:=⟨q.parts[i],by simp⟩
  rw[drop_at hx,fstE]at e
  obtain⟨x1,x2,x3⟩:=hcm x (List.mem_of_getElem? hx)
  have cwy:=hwhy x x1 x2 x3
  have cam:=hamt x x1 x2 x3
  rw[show vfE why amt x=(if why x=0 then if (amt x).2=0∧(amt x).1=x.am then 0 else 36 else why x) from rfl]at e
  generalize why x=ew at*
  generalize amt x=am at*
  obtain⟨am,ae⟩:=am
  dsimp only at e cam
  have x1':(0≤x.fr)=True:=eq_true x1
  have x2':(0≤x.to)=True:=eq_true (by omega)
  have x3':(x.fr.toNat≤x.to.toNat∧x.to.toNat≤w.length)=True:=eq_true ⟨by omega,by omega⟩
  refine wc_scut (fun a V=>V=V0++J∧a.length=122∧a[2]? =some (.sl 8 (w.map Wnt.enc) wx)∧a[3]? =some (.str s)∧a[4]? =some (.int .i64 sale)∧a[6]? =some (.loc 0 0 0)∧a[7]? =some (.loc 1 0 0)∧a[11]? =some (.loc 2 0 0)∧a[13]? =some (.int .i64 i)) ?_ ?_
  ·simp(maxSteps:=1000000)(disch:=omega)only[push_cast,decide_not,decide_eq_true_eq,decide_eq_false_iff_not,bne_eq_false_iff_eq,beq_eq_false_iff_ne,gt_iff_lt,ne_eq,not_true_eq_false,not_false_eq_true,hal,h2,h3,h4,h6,h7,h11,h13,e2,hltc,↓WX,simprocAttr]
  clear hal h2 h3 h4 h6 h7 h11 h13 a
  rintro a V ⟨rfl,hal,h2,h3,h4,h6,h7,h11,h13⟩
  rw[wc_seq,wc_block]
  refine wc_scut (fun a W=>W=(V0++J)++[Ob.row 4 [[.int .i64 x.fr,.int .i64 x.to,.int .i64 x.fa,.int .i64 x.am]]]∧a.length=122∧a[2]? =some (.sl 8 (w.map Wnt.enc) wx)∧a[3]? =some (.str s)∧a[4]? =some (.int .i64 sale)∧a[6]? =some (.loc 0 0 0)∧a[7]? =some (.loc 1 0 0)∧a[11]? =some (.loc 2 0 0)∧a[13]? =some (.int .i64 i)∧a[14]? =some (.loc (V0++J).length 0 0)) ?_ ?_
  ·simp(maxSteps:=1000000)(disch:=omega)only[push_cast,decide_not,decide_eq_true_eq,decide_eq_false_iff_not,bne_eq_false_iff_eq,beq_eq_false_iff_ne,gt_iff_lt,ne_eq,not_true_eq_false,not_false_eq_true,hal,h2,h3,h4,h6,h7,h11,h13,e2,hlt,hltc,hx,get_end,set_end,Prt.enc,↓WX,simprocAttr]
  clear hal h2 h3 h4 h6 h7 h11 h13 a
  rintro a W ⟨hW,hal,h2,h3,h4,h6,h7,h11,h13,h14⟩
  have gx:W[(V0++J).length]? =some (Ob.row 4 [[.int .i64 x.fr,.int .i64 x.to,.int .i64 x.fa,.int .i64 x.am]]):=by rw[hW];exact get_end
  have hWJ:∃J,W=V0++J:=⟨J++[Ob.row 4 [[.int .i64 x.fr,.int .i64 x.to,.int .i64 x.fa,.int .i64 x.am]]],by rw[hW,List.append_assoc]⟩
  generalize (V0++J).length=kx at*
  clear hW e2
  obtain⟨J',rfl⟩:=hWJ
  have f0:=g0 J'
  have f1:=g1 J'
  have f2:=g2 J'
  refine wc_scut (fun a U=>U=V0++J'∧a.length=122∧a[2]? =some (.sl 8 (w.map Wnt.enc) wx)∧a[3]? =some (.str s)∧a[4]? =some (.int .i64 sale)∧a[6]? =some (.loc 0 0 0)∧a[7]? =some (.loc 1 0 0)∧a[11]? =some (.loc 2 0 0)∧a[13]? =some (.int .i64 i)∧a[14]? =some (.loc kx 0 0)∧a[15]? =some (.int .i64 ew)) ?_ ?_
  ·simp(maxSteps:=1000000)(disch:=omega)only[push_cast,decide_not,decide_eq_true_eq,decide_eq_false_iff_not,bne_eq_false_iff_eq,beq_eq_false_iff_ne,gt_iff_lt,ne_eq,not_true_eq_false,not_false_eq_true,hal,h2,h3,h4,h6,h7,h11,h13,h14,f0,f1,gx,x1',x2',x3',cwy,↓WX,simprocAttr]
  clear hal h2 h3 h4 h6 h7 h11 h13 h14 a
  rintro a U ⟨rfl,hal,h2,h3,h4,h6,h7,h11,h13,h14,h15⟩
  by_cases c1:ew=0
  case neg=>
   rw[if_neg c1,if_neg c1]at e
   subst e
   rw[if_neg c1]at hz
   subst hz
   simp(maxSteps:=1000000)(disch:=omega)only[push_cast,decide_not,decide_eq_true_eq,decide_eq_false_iff_not,bne_eq_false_iff_eq,beq_eq_false_iff_ne,gt_iff_lt,ne_eq,not_true_eq_false,not_false_eq_true,hal,h2,h3,h4,h6,h7,h11,h13,h14,h15,c1,decide_false,Bool.not_false,false_and,false_or,or_false,true_and,Tryz.f14,↓WX,simprocAttr]
  rw[if_pos c1]at e
  subst c1
  by_cases c2:ae=0
  case neg=>
   have hno:¬(ae=0∧am=x.am):=fun h=>c2 h.1
   rw[if_neg hno]at e
   have e:fe=36:=e
   subst e
   simp only[Int.reduceEq,if_false]at hz
   subst hz
   simp(maxSteps:=1000000)(disch:=omega)only[push_cast,decide_not,decide_eq_true_eq,decide_eq_false_iff_not,bne_eq_false_iff_eq,beq_eq_false_iff_ne,gt_iff_lt,ne_eq,not_true_eq_false,not_false_eq_true,hal,h2,h3,h4,h6,h7,h11,h13,h14,h15,f0,f1,gx,x1',x2',x3',cam,c2,decide_true,decide_false,Bool.not_true,Bool.not_false,false_and,false_or,or_false,true_and,Tryz.f14,↓WX,simprocAttr]
  subst c2
  by_cases c3:am=x.am
  case neg=>
   have hno:¬((0:Int)=0∧am=x.am):=fun h=>c3 h.2
   rw[if_neg hno]at e
   have e:fe=36:=e
   subst e
   simp only[Int.reduceEq,if_false]at hz
   subst hz
   simp(maxSteps:=1000000)(disch:=omega)only[push_cast,decide_not,decide_eq_true_eq,decide_eq_false_iff_not,bne_eq_false_iff_eq,beq_eq_false_iff_ne,gt_iff_lt,ne_eq,not_true_eq_false,not_false_eq_true,hal,h2,h3,h4,h6,h7,h11,h13,h14,h15,f0,f1,gx,x1',x2',x3',cam,c3,decide_true,decide_false,Bool.not_true,Bool.not_false,false_and,false_or,or_false,true_and,Tryz.f14,↓WX,simprocAttr]
  have hyes:(0:Int)=0∧am=x.am:=⟨rfl,c3⟩
  rw[if_pos hyes,if_pos rfl]at e
  subst c3
  simp(maxSteps:=1000000)(disch:=omega)only[push_cast,decide_not,decide_eq_true_eq,decide_eq_false_iff_not,bne_eq_false_iff_eq,beq_eq_false_iff_ne,gt_iff_lt,ne_eq,not_true_eq_false,not_false_eq_true,hal,h2,h3,h4,h6,h7,h11,h13,h14,h15,f0,f1,gx,x1',x2',x3',cam,hlt,decide_true,decide_false,Bool.not_true,Bool.not_false,wrap_ok,Int.natCast_add,Int.natCast_one,false_and,false_or,or_false,true_and,↓WX,simprocAttr]
  exact⟨⟨_,rfl⟩,e⟩
 clear hal h2 h3 h4 h6 h7 h11 a
 clear hJV hfe
 rintro a V ⟨⟨⟨J,rfl⟩,rfl⟩,hal,h2,h3,h6,h7,h11⟩
 rw[if_pos rfl]at hz
 have f0:=g0 J
 have f1:=g1 J
 have f2:=g2 J
 refine wc_scut (fun a V=>V=V0++J∧a.length=122∧a[2]? =some (.sl 8 (w.map Wnt.enc) wx)∧a[3]? =some (.str s)∧a[6]? =some (.loc 0 0 0)∧a[7]? =some (.loc 1 0 0)∧a[11]? =some (.loc 2 0 0)∧a[18]? =some (.int .i64 ck)) ?_ ?_
 ·simp(maxSteps:=1000000)(disch:=omega)only[push_cast,decide_not,decide_eq_true_eq,decide_eq_false_iff_not,bne_eq_false_iff_eq,beq_eq_false_iff_ne,gt_iff_lt,ne_eq,not_true_eq_false,not_false_eq_true,hal,h2,h3,h6,h7,h11,f0,f1,f2,cck,↓WX,simprocAttr]
 clear hal h2 h3 h6 h7 h11 a
 rintro a V ⟨rfl,hal,h2,h3,h6,h7,h11,h18⟩
 by_cases c1:ck=0
 case neg=>
  rw[if_neg c1]at hz
  subst hz
  simp(maxSteps:=1000000)(disch:=omega)only[push_cast,decide_not,decide_eq_true_eq,decide_eq_false_iff_not,bne_eq_false_iff_eq,beq_eq_false_iff_ne,gt_iff_lt,ne_eq,not_true_eq_false,not_false_eq_true,hal,h2,h3,h6,h7,h11,h18,c1,decide_false,Bool.not_false,Tryz.f14,↓WX,simprocAttr]
 rw[if_pos c1]at hz
 subst c1
 refine wc_scut (fun a V=>V=V0++J∧a.length=122∧a[2]? =some (.sl 8 (w.map Wnt.enc) wx)∧a[3]? =some (.str s)∧a[6]? =some (.loc 0 0 0)∧a[7]? =some (.loc 1 0 0)∧a[11]? =some (.loc 2 0 0)) ?_ ?_
 ·simp(maxSteps:=1000000)(disch:=omega)only[push_cast,decide_not,decide_eq_true_eq,decide_eq_false_iff_not,bne_eq_false_iff_eq,beq_eq_false_iff_ne,gt_iff_lt,ne_eq,not_true_eq_false,not_false_eq_true,hal,h2,h3,h6,h7,h11,h18,decide_true,Bool.not_true,↓WX,simprocAttr]
 clear hal h2 h3 h6 h7 h11 h18 a
 rintro a V ⟨rfl,hal,h2,h3,h6,h7,h11⟩
 obtain⟨r,T',hso,⟨J2,rfl⟩,hm⟩:=csu (V0++J)
 have hso:=fun st=>cgenT (st:=st) rfl hso
 cases hsm:sumsF pct p t w s q.parts with
 |none=>
  rw[hsm]at hm hz
  dsimp only at hm hz
  obtain⟨_,rfl,rfl⟩:=hm
  subst hz
  simp(maxSteps:=1000000)(disch:=omega)only[push_cast,decide_not,decide_eq_true_eq,decide_eq_false_iff_not,bne_eq_false_iff_eq,beq_eq_false_iff_ne,gt_iff_lt,ne_eq,not_true_eq_false,not_false_eq_true,hal,h2,h3,h6,h7,h11,f0,f1,f2,hso,get_end,set_end,Bool.not_false,Tryz.f14,↓WX,simprocAttr]
 |some y=>
  rw[hsm]at hm hz
  dsimp only at hm hz
  obtain⟨dt,rfl,hdt⟩:=hm
  have odt:=fls_one hdt
  have odp:=fls_one hdp
  simp only[D.one]at odt odp
  have opd:dp.cells=[dp]:=by rcases hdp with ⟨rfl,-⟩ | ⟨x,rfl⟩ <;> rfl
  simp only[D.cells]at opd
  have f1':=g1 (J++J2)
  have f2':=g2 (J++J2)
  have cse:=RSame_x (n:=n+2) (wantF y (pairsF t q.parts).1 q.parts) q hqf hdp hdt hqf (.inr ⟨q.qx,rfl⟩) (.inr ⟨q.tx,rfl⟩) (by show q.parts.length≤_;omega) (by have:=pairsF_len (t:=t) (l:=q.parts);show (pairsF t q.parts).1.length≤_;omega) (by have:=sumsF_len hsm;show y.2.1.length≤_;omega) (by omega)
  generalize sameF (wantF y (pairsF t q.parts).1 q.parts) q=bs at*
  simp only[wantF]at cse
  obtain⟨y1,y2,y3⟩:=y
  dsimp only at*
  rw[←List.append_assoc]at f1' f2'
  generalize V0++J++J2=V1 at*
  refine wc_scut (fun a U=>U=V1++[Ob.row 5 [[.sl 4 (q.parts.map Prt.enc) q.px,.nils,dt,.int .i64 y1,.int .i64 y3]]]∧a.length=122∧a[7]? =some (.loc 1 0 0)∧a[11]? =some (.loc 2 0 0)∧a[19]? =some (.loc V1.length 0 0)∧a[20]? =some (.bool true)) ?_ ?_
  ·simp(maxSteps:=1000000)(disch:=omega)only[push_cast,decide_not,decide_eq_true_eq,decide_eq_false_iff_not,bne_eq_false_iff_eq,beq_eq_false_iff_ne,gt_iff_lt,ne_eq,not_true_eq_false,not_false_eq_true,hal,h2,h3,h6,h7,h11,f0,f1,f2,hso,odt,get_end,set_end,↓WX,simprocAttr]
  clear hal h2 h3 h6 h7 h11 a
  rintro a U ⟨hU,hal,h7,h11,h19,h20⟩
  have gq:U[V1.length]? =some (Ob.row 5 [[.sl 4 (q.parts.map Prt.enc) q.px,.nils,dt,.int .i64 y1,.int .i64 y3]]):=by rw[hU];exact get_end
  have u1:U[1]? =some (Ob.row 4 [[.sl 9 (t.fares.map Far.enc) t.fx,.sl 15 (t.rules.map Rul.enc) t.rx,.sl 3 (t.rous.map Rou.enc) t.ox,.sl 7 (t.taxes.map Tx.enc) t.tx]]):=by rw[hU];exact get_old f1'
  have u2:U[2]? =some (Ob.row 5 [[.sl 4 (q.parts.map Prt.enc) q.px,.sl 2 (q.pairs.map encPr) q.qx,.sl 2 (q.taxes.map encCh) q.tx,.int .i64 q.fare,.int .i64 q.total]]):=by rw[hU];exact get_old f2'
  have hUl:V1.length<U.length:=by rw[hU,List.length_append];exact Nat.lt_succ_self _
  have hV2:(V1.length=2)=False:=eq_false (fun h=>by have:=(List.getElem?_eq_some_iff.1 f2').1;omega)
  generalize V1.length=kq at*
  clear hU
  cases bs
  ·rw[if_neg (by simp)]at hz
   subst hz
   simp(maxSteps:=1000000)(disch:=omega)only[push_cast,decide_not,decide_eq_true_eq,decide_eq_false_iff_not,bne_eq_false_iff_eq,beq_eq_false_iff_ne,gt_iff_lt,ne_eq,not_true_eq_false,not_false_eq_true,hal,h7,h11,h19,h20,u1,u2,gq,hUl,hV2,cpa,cse,opd,odp,odt,List.all_cons,List.all_nil,List.length_cons,List.getElem?_set_self,Bool.not_true,Bool.not_false,Tryz.f14,↓WX,simprocAttr]
  ·rw[if_pos rfl]at hz
   subst hz
   simp(maxSteps:=1000000)(disch:=omega)only[push_cast,decide_not,decide_eq_true_eq,decide_eq_false_iff_not,bne_eq_false_iff_eq,beq_eq_false_iff_ne,gt_iff_lt,ne_eq,not_true_eq_false,not_false_eq_true,hal,h7,h11,h19,h20,u1,u2,gq,hUl,hV2,cpa,cse,opd,odp,odt,List.all_cons,List.all_nil,List.length_cons,List.getElem?_set_self,Bool.not_true,Bool.not_false,Tryz.f14,↓WX,simprocAttr]
end
end Go.Proofs.YtaklebjoenophaaGreat.Dm
