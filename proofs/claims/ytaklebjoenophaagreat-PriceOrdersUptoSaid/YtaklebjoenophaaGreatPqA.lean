/-
  The stays of round trips, and whether components make up a journey: the reference, exactly.
-/
import Derived.Test.YtaklebjoenophaaGreatPoZ
set_option linter.unusedSimpArgs false
set_option linter.unusedVariables false
namespace Go.Proofs.YtaklebjoenophaaGreat.Dm
open Go Gw
set_option linter.unusedSimpArgs false
set_option linter.unusedSimpArgs false
def Wnt.seg (w:Wnt):List D:=[.str w.car,.int .i64 w.num,.int .i64 w.day,.str w.fr,.str w.to,.int .i64 w.dep,.int .i64 w.arr]
theorem frOk_at {w:List Wnt} {x:Prt} (h:frOk w x=true):0≤x.fr∧x.fr.toNat<w.length∧w[x.fr.toNat]? =some (wntF w x):=by
 unfold frOk at h
 simp only[Bool.not_eq_true',Bool.or_eq_false_iff,decide_eq_false_iff_not]at h
 have hl:x.fr.toNat<w.length:=by omega
 refine⟨by omega,hl,?_⟩
 unfold wntF
 rw[List.getElem?_eq_getElem hl]
 rfl
theorem prtAt_at {l:List Prt} {i:Int} (h0:0≤i) (h1:i<l.length):i.toNat<l.length∧l[i.toNat]? =some (prtAt l i):=by
 have hl:i.toNat<l.length:=by omega
 refine⟨hl,?_⟩
 unfold prtAt
 rw[List.getElem?_eq_getElem hl]
 rfl
section
variable {n : Nat}
set_option maxHeartbeats 8000000 in
set_option maxRecDepth 100000 in
theorem day26_x (p:Plc) (hpa:p.aps.length≤1048576) (hsh:∀a∈p.aps,a.sh.length≤1048576) (w:Wnt) (hn:1048700≤n):∀st S,callD E (dcall E n) st S 197 [.agg p.enc,.agg w.seg]=some (.tup [.int .i64 (dpF p w).1,.int .i64 (dpF p w).2],S):=by
 obtain⟨m,rfl⟩:∃m,n=m+1:=⟨n-1,by omega⟩
 have hp:pureL [.agg p.enc,.agg w.seg]=true:=by
  simp only[pureL_cons,pureL_nil,D.pure,Plc_pure,Bool.true_and,Bool.and_true]
  rfl
 have hfd:=fun st S=>PrFind_c (n:=m) (p:=p) (s:=w.fr) (by omega) (by omega) st S
 have hom:∀a,(p.aps.find? fun a=>a.code.toList == w.fr.toList)=some a→a∈p.aps:=fun a h=>List.mem_of_find?_eq_some h
 unfold dpF
 generalize (p.aps.find? fun a=>a.code.toList == w.fr.toList)=o at*
 simp only[Plc.enc,Wnt.seg]at hp hfd ⊢
 have:WO (dcall E (m+1) 197 [.agg [.sl 5 (p.aps.map Apt.enc) p.apsx,.sl 3 (p.dts.map Dst.enc) p.dtsx],.agg [.str w.car,.int .i64 w.num,.int .i64 w.day,.str w.fr,.str w.to,.int .i64 w.dep,.int .i64 w.arr]] []) fun r T=>r=.tup [.int .i64 (match o with |none=>((0:Int),(14:Int)) |some a=>(dayF (locF (some a) w.dep),0)).1,.int .i64 (match o with |none=>((0:Int),(14:Int)) |some a=>(dayF (locF (some a) w.dep),0)).2]:=by
  cases o with
  |none=>
   simp only[foundD,zeroApt]at hfd
   dsimp only
   refine wo_dcall Tryz.func197 rfl (by decide) rfl 29 rfl (fun a hal ha=>?_)
   have h0:a[0]? =some (.agg [.sl 5 (p.aps.map Apt.enc) p.apsx,.sl 3 (p.dts.map Dst.enc) p.dtsx]):=ha 0 (by simp)
   have h1:a[1]? =some (.agg [.str w.car,.int .i64 w.num,.int .i64 w.day,.str w.fr,.str w.to,.int .i64 w.dep,.int .i64 w.arr]):=ha 1 (by simp)
   clear ha
   simp(maxSteps:=1000000)(disch:=omega)only[push_cast,decide_not,decide_eq_true_eq,decide_eq_false_iff_not,bne_eq_false_iff_eq,beq_eq_false_iff_ne,gt_iff_lt,ne_eq,not_true_eq_false,not_false_eq_true,hal,h0,h1,hfd,Bool.not_false,Tryz.f197,↓WX,simprocAttr]
  |some a=>
   have hlo:=local05_x (n:=m) (by omega) a.off (zsh_fls (some a)) (hsh a (hom a rfl)) w.dep
   have hsp:=split03_x (n:=m) (by omega) (locF (some a) w.dep)
   rw[show IntKind.i64.wrap (w.dep+ofsF w.dep a.off (zshs (some a)))=locF (some a) w.dep from rfl]at hlo
   simp only[foundD,Apt.enc]at hfd
   simp only[zshD]at hlo
   dsimp only
   generalize locF (some a) w.dep=lo at*
   generalize dayF lo=dy at*
   refine wo_dcall Tryz.func197 rfl (by decide) rfl 29 rfl (fun a hal ha=>?_)
   have h0:a[0]? =some (.agg [.sl 5 (p.aps.map Apt.enc) p.apsx,.sl 3 (p.dts.map Dst.enc) p.dtsx]):=ha 0 (by simp)
   have h1:a[1]? =some (.agg [.str w.car,.int .i64 w.num,.int .i64 w.day,.str w.fr,.str w.to,.int .i64 w.dep,.int .i64 w.arr]):=ha 1 (by simp)
   clear ha
   simp(maxSteps:=1000000)(disch:=omega)only[push_cast,decide_not,decide_eq_true_eq,decide_eq_false_iff_not,bne_eq_false_iff_eq,beq_eq_false_iff_ne,gt_iff_lt,ne_eq,not_true_eq_false,not_false_eq_true,hal,h0,h1,hfd,hlo,hsp,Bool.not_true,Tryz.f197,↓WX,simprocAttr]
 obtain⟨_,T,ho,rfl⟩:=this
 exact fun st S=>callD_pure rfl hp ho rfl
set_option maxHeartbeats 16000000 in
set_option maxRecDepth 100000 in
theorem stay26_x (p:Plc) (hpa:p.aps.length≤1048576) (hsh:∀a∈p.aps,a.sh.length≤1048576) (t:Trf) (hr:t.rules.length≤1048576) (w:List Wnt) (wx:Bool) (ya yb:Prt) (ka:knoF t ya=true) (kb:knoF t yb=true) (fa:frOk w ya=true) (fb:frOk w yb=true) (hn:1048800≤n):∀st S,callD E (dcall E n) st S 146 [.agg p.enc,.agg t.enc,.sl 8 (w.map Wnt.enc) wx,.agg ya.enc,.agg yb.enc]=some (.int .i64 (styF p t w ya yb),S):=by
 obtain⟨m,rfl⟩:∃m,n=m+1:=⟨n-1,by omega⟩
 have hp:pureL [.agg p.enc,.agg t.enc,.sl 8 (w.map Wnt.enc) wx,.agg ya.enc,.agg yb.enc]=true:=by simp only[pureL_cons,pureL_nil,D.pure,Plc_pure,Trf_pure,Wnts_pure,Prt_pure,Bool.and_true]
 have cra:=rule26_x (n:=m) t ya ka hr (by omega)
 have crb:=rule26_x (n:=m) t yb kb hr (by omega)
 have cda:=day26_x (n:=m) p hpa hsh (wntF w ya) (by omega)
 have cdb:=day26_x (n:=m) p hpa hsh (wntF w yb) (by omega)
 obtain⟨a1,a2,a3⟩:=frOk_at fa
 obtain⟨b1,b2,b3⟩:=frOk_at fb
 have a1':(0≤ya.fr)=True:=eq_true a1
 have b1':(0≤yb.fr)=True:=eq_true b1
 have csa:=fun u v=>stay21_x (n:=m) (rulF t ya) u v (by omega)
 have csb:=fun u v=>stay21_x (n:=m) (rulF t yb) u v (by omega)
 unfold styF
 generalize wntF w ya=wa at*
 generalize wntF w yb=wb at*
 generalize dpF p wa=da at*
 generalize dpF p wb=db at*
 obtain⟨da1,da2⟩:=da
 obtain⟨db1,db2⟩:=db
 dsimp only at*
 have csa:=csa da1 db1
 have csb:=csb da1 db1
 generalize stayR (rulF t ya) da1 db1=sa at*
 generalize stayR (rulF t yb) da1 db1=sb at*
 obtain⟨x1,x2,x3,x4,x5,x6,x7,x8,x9,x10,x11,x12,x13,x14,hx,-⟩:=rul_lit (rulF t ya)
 obtain⟨y1,y2,y3,y4,y5,y6,y7,y8,y9,y10,y11,y12,y13,y14,hy,-⟩:=rul_lit (rulF t yb)
 rw[hx]at cra csa
 rw[hy]at crb csb
 simp only[Plc.enc,Trf.enc,Prt.enc,Wnt.seg]at hp cra crb cda cdb ⊢
 have:WO (dcall E (m+1) 146 [.agg [.sl 5 (p.aps.map Apt.enc) p.apsx,.sl 3 (p.dts.map Dst.enc) p.dtsx],.agg [.sl 9 (t.fares.map Far.enc) t.fx,.sl 15 (t.rules.map Rul.enc) t.rx,.sl 3 (t.rous.map Rou.enc) t.ox,.sl 7 (t.taxes.map Tx.enc) t.tx],.sl 8 (w.map Wnt.enc) wx,.agg [.int .i64 ya.fr,.int .i64 ya.to,.int .i64 ya.fa,.int .i64 ya.am],.agg [.int .i64 yb.fr,.int .i64 yb.to,.int .i64 yb.fa,.int .i64 yb.am]] []) fun r T=>r=.int .i64 (if da2=0∧db2=0 then if sa=0 then sb else sa else 14):=by
  refine wo_dcall Tryz.func146 rfl (by decide) rfl 59 rfl (fun a hal ha=>?_)
  have h0:a[0]? =some (.agg [.sl 5 (p.aps.map Apt.enc) p.apsx,.sl 3 (p.dts.map Dst.enc) p.dtsx]):=ha 0 (by simp)
  have h1:a[1]? =some (.agg [.sl 9 (t.fares.map Far.enc) t.fx,.sl 15 (t.rules.map Rul.enc) t.rx,.sl 3 (t.rous.map Rou.enc) t.ox,.sl 7 (t.taxes.map Tx.enc) t.tx]):=ha 1 (by simp)
  have h2:a[2]? =some (.sl 8 (w.map Wnt.enc) wx):=ha 2 (by simp)
  have h3:a[3]? =some (.agg [.int .i64 ya.fr,.int .i64 ya.to,.int .i64 ya.fa,.int .i64 ya.am]):=ha 3 (by simp)
  have h4:a[4]? =some (.agg [.int .i64 yb.fr,.int .i64 yb.to,.int .i64 yb.fa,.int .i64 yb.am]):=ha 4 (by simp)
  clear ha
  by_cases e1:da2=0
  case neg=>
   rw[if_neg (fun h=>e1 h.1)]
   simp(maxSteps:=1000000)(disch:=omega)only[push_cast,decide_not,decide_eq_true_eq,decide_eq_false_iff_not,bne_eq_false_iff_eq,beq_eq_false_iff_ne,gt_iff_lt,ne_eq,not_true_eq_false,not_false_eq_true,hal,h0,h1,h2,h3,h4,a1',a2,a3,b1',b2,b3,cda,cdb,e1,decide_false,Bool.not_false,Wnt.enc,Tryz.f146,↓WX,simprocAttr]
  by_cases e2:db2=0
  case neg=>
   rw[if_neg (fun h=>e2 h.2)]
   simp(maxSteps:=1000000)(disch:=omega)only[push_cast,decide_not,decide_eq_true_eq,decide_eq_false_iff_not,bne_eq_false_iff_eq,beq_eq_false_iff_ne,gt_iff_lt,ne_eq,not_true_eq_false,not_false_eq_true,hal,h0,h1,h2,h3,h4,a1',a2,a3,b1',b2,b3,cda,cdb,e1,e2,decide_false,decide_true,Bool.not_false,Bool.not_true,Wnt.enc,Tryz.f146,↓WX,simprocAttr]
  rw[if_pos ⟨e1,e2⟩]
  by_cases e3:sa=0
  case neg=>
   rw[if_neg e3]
   simp(maxSteps:=1000000)(disch:=omega)only[push_cast,decide_not,decide_eq_true_eq,decide_eq_false_iff_not,bne_eq_false_iff_eq,beq_eq_false_iff_ne,gt_iff_lt,ne_eq,not_true_eq_false,not_false_eq_true,hal,h0,h1,h2,h3,h4,a1',a2,a3,b1',b2,b3,cda,cdb,cra,csa,e1,e2,e3,decide_false,decide_true,Bool.not_false,Bool.not_true,Wnt.enc,Tryz.f146,↓WX,simprocAttr]
  rw[if_pos e3]
  simp(maxSteps:=1000000)(disch:=omega)only[push_cast,decide_not,decide_eq_true_eq,decide_eq_false_iff_not,bne_eq_false_iff_eq,beq_eq_false_iff_ne,gt_iff_lt,ne_eq,not_true_eq_false,not_false_eq_true,hal,h0,h1,h2,h3,h4,a1',a2,a3,b1',b2,b3,cda,cdb,cra,csa,crb,csb,e1,e2,e3,decide_false,decide_true,Bool.not_false,Bool.not_true,Wnt.enc,Tryz.f146,↓WX,simprocAttr]
 obtain⟨_,T,ho,rfl⟩:=this
 exact fun st S=>callD_pure rfl hp ho rfl
set_option maxHeartbeats 16000000 in
set_option maxRecDepth 100000 in
theorem Stays26_d {S:List Ob} (p:Plc) (hpa:p.aps.length≤1048576) (hsh:∀a∈p.aps,a.sh.length≤1048576) (t:Trf) (hr:t.rules.length≤1048576) (w:List Wnt) (wx:Bool) {d:D} {l:List Prt} (h:LQ 4 Prt.enc S d l) (hl:l.length≤900) (hn:1048900≤n):
  WO (dcall E (n+1) 92 [.agg p.enc,.agg t.enc,.sl 8 (w.map Wnt.enc) wx,d] S) fun r T=>r=.int .i64 (staysF p t w l)∧∃J,T=S++J:=by
 have hy:=lq_len Tryz.underlying37 h
 simp only[push_cast]at hy
 obtain⟨R0,hR0⟩:∃R0,R0=Ob.row 2 [p.enc]:=⟨_,rfl⟩
 obtain⟨R1,hR1⟩:∃R1,R1=Ob.row 4 [t.enc]:=⟨_,rfl⟩
 have hext:ExtS S (S++[R0]++[R1]):=fun _ _ h=>get_old (get_old h)
 obtain⟨dp,U,cpa,hXU,hlp⟩:=Pairs26_x (n:=n) t (h.ext hext) hl (by omega)
 have hkn:=pairsF_kno (t:=t) (l:=l)
 have hmem:=pairsF_mem (t:=t) (l:=l)
 have hpl:=pairsF_len (t:=t) (l:=l)
 obtain⟨q,hq⟩:∃q,q=staysF p t w l:=⟨_,rfl⟩
 rw[←hq]
 unfold staysF at hq
 generalize hpe:(pairsF t l).2=pe at*
 generalize (pairsF t l).1=ps at*
 have cst:=fun a b ka kb fa fb=>stay26_x (n:=n) p hpa hsh t hr w wx a b ka kb fa fb (by omega)
 have hyp:=lq_len Tryz.underlying38 hlp
 simp only[push_cast]at hyp
 simp only[Plc.enc,Trf.enc]at cpa cst hR0 hR1 ⊢
 refine wo_dcall Tryz.func92 rfl (by decide) rfl 74 rfl (fun a hal ha=>?_)
 have h0:a[0]? =some (.agg [.sl 5 (p.aps.map Apt.enc) p.apsx,.sl 3 (p.dts.map Dst.enc) p.dtsx]):=ha 0 (by simp)
 have h1:a[1]? =some (.agg [.sl 9 (t.fares.map Far.enc) t.fx,.sl 15 (t.rules.map Rul.enc) t.rx,.sl 3 (t.rous.map Rou.enc) t.ox,.sl 7 (t.taxes.map Tx.enc) t.tx]):=ha 1 (by simp)
 have h2:a[2]? =some (.sl 8 (w.map Wnt.enc) wx):=ha 2 (by simp)
 have h3:a[3]? =some (d):=ha 3 (by simp)
 clear ha
 refine wc_scut (fun a V=>V=S++[R0]++[R1]∧a.length=74∧a[2]? =some (.sl 8 (w.map Wnt.enc) wx)∧a[3]? =some (d)∧a[4]? =some (.loc S.length 0 0)∧a[5]? =some (.loc (S.length+1) 0 0)) ?_ ?_
 ·simp(maxSteps:=1000000)(disch:=omega)only[push_cast,decide_not,decide_eq_true_eq,decide_eq_false_iff_not,bne_eq_false_iff_eq,beq_eq_false_iff_ne,gt_iff_lt,ne_eq,not_true_eq_false,not_false_eq_true,hal,h0,h1,h2,h3,hR0,hR1,List.length_append,List.length_cons,↓WX,simprocAttr]
 clear hal h0 h1 h2 h3 a
 rintro a V ⟨rfl,hal,h2,h3,h4,h5⟩
 have gP:(S++[R0]++[R1])[S.length]? =some (Ob.row 2 [[.sl 5 (p.aps.map Apt.enc) p.apsx,.sl 3 (p.dts.map Dst.enc) p.dtsx]]):=by rw[hR0];exact end0
 have gT:(S++[R0]++[R1])[S.length+1]? =some (Ob.row 4 [[.sl 9 (t.fares.map Far.enc) t.fx,.sl 15 (t.rules.map Rul.enc) t.rx,.sl 3 (t.rous.map Rou.enc) t.ox,.sl 7 (t.taxes.map Tx.enc) t.tx]]):=by rw[hR1];exact end1
 have hXU':ExtS S U:=fun k o ho=>hXU _ _ (hext _ _ ho)
 obtain⟨JU,hJU⟩:=extS_pre hXU'
 have hJV:∃J,S++[R0]++[R1]=S++J:=⟨[R0,R1],by simp⟩
 generalize S++[R0]++[R1]=V0 at*
 obtain⟨b,hb⟩:∃b,b=l.all (frOk w):=⟨_,rfl⟩
 rw[←hb]at hq
 refine wc_rcut (fun a V=>(V=V0∧b=true)∧a.length=74∧a[2]? =some (.sl 8 (w.map Wnt.enc) wx)∧a[3]? =some (d)∧a[4]? =some (.loc S.length 0 0)∧a[5]? =some (.loc (S.length+1) 0 0)) ?_ ?_
 ·simp(maxSteps:=1000000)(disch:=omega)only[push_cast,decide_not,decide_eq_true_eq,decide_eq_false_iff_not,bne_eq_false_iff_eq,beq_eq_false_iff_ne,gt_iff_lt,ne_eq,not_true_eq_false,not_false_eq_true,hal,h2,h3,h4,h5,↓WX,simprocAttr]
  refine wl_loop (fun i a T=>(T=V0∧b=(l.drop i).all (frOk w))∧a.length=74∧a[2]? =some (.sl 8 (w.map Wnt.enc) wx)∧a[3]? =some (d)∧a[4]? =some (.loc S.length 0 0)∧a[5]? =some (.loc (S.length+1) 0 0)∧a[9]? =some (.int .i64 i)) l.length ?_ (by omega) ?_
  ·simp(maxSteps:=1000000)(disch:=omega)only[push_cast,decide_not,decide_eq_true_eq,decide_eq_false_iff_not,bne_eq_false_iff_eq,beq_eq_false_iff_ne,gt_iff_lt,ne_eq,not_true_eq_false,not_false_eq_true,hal,h2,h3,h4,h5,Int.natCast_zero,↓WX,simprocAttr]
   exact hb
  clear hal h2 h3 h4 h5 a
  clear hb
  rintro i a T hi ⟨⟨rfl,e⟩,hal,h2,h3,h4,h5,h9⟩
  rcases Nat.lt_or_eq_of_le hi with hlt |rfl
  case inr=>
   rw[List.drop_length,List.all_nil]at e
   simp(maxSteps:=1000000)(disch:=omega)only[push_cast,decide_not,decide_eq_true_eq,decide_eq_false_iff_not,bne_eq_false_iff_eq,beq_eq_false_iff_ne,gt_iff_lt,ne_eq,not_true_eq_false,not_false_eq_true,hal,h2,h3,h4,h5,h9,hy,Int.lt_irrefl,false_and,false_or,or_false,true_and,↓WX,simprocAttr]
   exact e
  have hltc:(i:Int)<l.length:=by omega
  obtain⟨x,hx⟩:∃x,l[i]? =some x:=⟨l[i],by simp⟩
  rw[drop_at hx,List.all_cons]at e
  unfold frOk at e
  have hk0':=h.ext (T:=T) (fun k o ho=>by obtain⟨J,rfl⟩:=hJV;exact get_old ho)
  rcases hk0' with ⟨-,rfl⟩ | ⟨lx,rfl,hk0⟩ | ⟨kk,rfl,hk0⟩
  ·cases hx
  case' inr.inr=>have hk0:=hk0 [];rw[List.append_nil]at hk0
  all_goals
   by_cases c1:x.fr<0
   ·simp only[decide_eq_true c1,Bool.true_or,Bool.not_true,Bool.false_and]at e
    subst e
    simp only[Bool.false_eq_true,if_false]at hq
    subst hq
    simp(maxSteps:=1000000)(disch:=omega)only[push_cast,decide_not,decide_eq_true_eq,decide_eq_false_iff_not,bne_eq_false_iff_eq,beq_eq_false_iff_ne,gt_iff_lt,ne_eq,not_true_eq_false,not_false_eq_true,hal,h2,h3,h4,h5,h9,hk0,hltc,hlt,hx,c1,Prt.enc,false_and,false_or,or_false,true_and,Tryz.f92,↓WX,simprocAttr]
    exact hJV
   by_cases c2:x.fr≥w.length
   ·simp only[decide_eq_true c2,Bool.or_true,Bool.not_true,Bool.false_and]at e
    subst e
    simp only[Bool.false_eq_true,if_false]at hq
    subst hq
    have c2':((w.length:Int)≤x.fr)=True:=eq_true c2
    simp(maxSteps:=1000000)(disch:=omega)only[push_cast,decide_not,decide_eq_true_eq,decide_eq_false_iff_not,bne_eq_false_iff_eq,beq_eq_false_iff_ne,gt_iff_lt,ne_eq,not_true_eq_false,not_false_eq_true,hal,h2,h3,h4,h5,h9,hk0,hltc,hlt,hx,c1,c2',ge_iff_le,Prt.enc,false_and,false_or,or_false,true_and,Tryz.f92,↓WX,simprocAttr]
    exact hJV
   ·simp only[decide_eq_false c1,decide_eq_false c2,Bool.or_false,Bool.not_false,Bool.true_and]at e
    have c2':((w.length:Int)≤x.fr)=False:=eq_false c2
    simp(maxSteps:=1000000)(disch:=omega)only[push_cast,decide_not,decide_eq_true_eq,decide_eq_false_iff_not,bne_eq_false_iff_eq,beq_eq_false_iff_ne,gt_iff_lt,ne_eq,not_true_eq_false,not_false_eq_true,hal,h2,h3,h4,h5,h9,hk0,hltc,hlt,hx,c1,c2',ge_iff_le,Prt.enc,wrap_ok,Int.natCast_add,Int.natCast_one,↓WX,simprocAttr]
    exact e
 clear hal h2 h3 h4 h5 a
 rintro a V ⟨⟨rfl,rfl⟩,hal,h2,h3,h4,h5⟩
 simp only[if_true]at hq
 have hfr:∀x∈l,frOk w x=true:=List.all_eq_true.1 hb.symm
 refine wc_scut (fun a W=>W=U∧a.length=74∧a[2]? =some (.sl 8 (w.map Wnt.enc) wx)∧a[3]? =some (d)∧a[4]? =some (.loc S.length 0 0)∧a[5]? =some (.loc (S.length+1) 0 0)∧a[10]? =some (dp)∧a[11]? =some (.int .i64 pe)) ?_ ?_
 ·simp(maxSteps:=1000000)(disch:=omega)only[push_cast,decide_not,decide_eq_true_eq,decide_eq_false_iff_not,bne_eq_false_iff_eq,beq_eq_false_iff_ne,gt_iff_lt,ne_eq,not_true_eq_false,not_false_eq_true,hal,h2,h3,h4,h5,gT,cpa,↓WX,simprocAttr]
 clear hal h2 h3 h4 h5 a
 rintro a W ⟨rfl,hal,h2,h3,h4,h5,h10,h11⟩
 by_cases c:pe=0
 case neg=>
  rw[if_neg c]at hq
  subst hq
  simp(maxSteps:=1000000)(disch:=omega)only[push_cast,decide_not,decide_eq_true_eq,decide_eq_false_iff_not,bne_eq_false_iff_eq,beq_eq_false_iff_ne,gt_iff_lt,ne_eq,not_true_eq_false,not_false_eq_true,hal,h2,h3,h4,h5,h10,h11,c,decide_false,Bool.not_false,Tryz.f92,↓WX,simprocAttr]
  exact⟨_,hJU⟩
 rw[if_pos c]at hq
 have hkn2:=hkn c
 subst c
 refine wc_scut (fun a V=>V=W∧a.length=74∧a[2]? =some (.sl 8 (w.map Wnt.enc) wx)∧a[3]? =some (d)∧a[4]? =some (.loc S.length 0 0)∧a[5]? =some (.loc (S.length+1) 0 0)∧a[10]? =some (dp)) ?_ ?_
 ·simp(maxSteps:=1000000)(disch:=omega)only[push_cast,decide_not,decide_eq_true_eq,decide_eq_false_iff_not,bne_eq_false_iff_eq,beq_eq_false_iff_ne,gt_iff_lt,ne_eq,not_true_eq_false,not_false_eq_true,hal,h2,h3,h4,h5,h10,h11,decide_true,Bool.not_true,↓WX,simprocAttr]
 clear hal h2 h3 h4 h5 h10 h11 a
 rintro a V ⟨rfl,hal,h2,h3,h4,h5,h10⟩
 have gP:=hXU _ _ gP
 have gT:=hXU _ _ gT
 refine wc_rcut (fun a W=>(W=V∧q=0)∧a.length=74∧a[2]? =some (.sl 8 (w.map Wnt.enc) wx)) ?_ ?_
 ·simp(maxSteps:=1000000)(disch:=omega)only[push_cast,decide_not,decide_eq_true_eq,decide_eq_false_iff_not,bne_eq_false_iff_eq,beq_eq_false_iff_ne,gt_iff_lt,ne_eq,not_true_eq_false,not_false_eq_true,hal,h2,h3,h4,h5,h10,↓WX,simprocAttr]
  refine wl_loop (fun i a T=>(T=V∧q=fstE (fun q:Int×Int=>styF p t w (prtAt l q.1) (prtAt l q.2)) (ps.drop i))∧a.length=74∧a[2]? =some (.sl 8 (w.map Wnt.enc) wx)∧a[3]? =some (d)∧a[4]? =some (.loc S.length 0 0)∧a[5]? =some (.loc (S.length+1) 0 0)∧a[10]? =some (dp)∧a[12]? =some (.int .i64 i)) ps.length ?_ (by omega) ?_
  ·simp(maxSteps:=1000000)(disch:=omega)only[push_cast,decide_not,decide_eq_true_eq,decide_eq_false_iff_not,bne_eq_false_iff_eq,beq_eq_false_iff_ne,gt_iff_lt,ne_eq,not_true_eq_false,not_false_eq_true,hal,h2,h3,h4,h5,h10,Int.natCast_zero,↓WX,simprocAttr]
   exact hq
  clear hal h2 h3 h4 h5 h10 a
  clear hq
  rintro i a T hi ⟨⟨rfl,e⟩,hal,h2,h3,h4,h5,h10,h12⟩
  rcases Nat.lt_or_eq_of_le hi with hlt |rfl
  case inr=>
   rw[List.drop_length,fstE]at e
   simp(maxSteps:=1000000)(disch:=omega)only[push_cast,decide_not,decide_eq_true_eq,decide_eq_false_iff_not,bne_eq_false_iff_eq,beq_eq_false_iff_ne,gt_iff_lt,ne_eq,not_true_eq_false,not_false_eq_true,hal,h2,h3,h4,h5,h10,h12,hyp,Int.lt_irrefl,false_and,false_or,or_false,true_and,↓WX,simprocAttr]
   exact e
  have hltc:(i:Int)<ps.length:=by omega
  obtain⟨x,hx⟩:∃x,ps[i]? =some x:=⟨ps[i],by simp⟩
  rw[drop_at hx,fstE]at e
  obtain⟨x1,x2,x3,x4⟩:=hmem x (List.mem_of_getElem? hx)
  obtain⟨u1,u2⟩:=prtAt_at x1 x2
  obtain⟨v1,v2⟩:=prtAt_at x3 x4
  have x1':(0≤x.1)=True:=eq_true x1
  have x3':(0≤x.2)=True:=eq_true x3
  have cst:=cst _ _ (hkn2 _ (List.mem_of_getElem? u2)) (hkn2 _ (List.mem_of_getElem? v2)) (hfr _ (List.mem_of_getElem? u2)) (hfr _ (List.mem_of_getElem? v2))
  generalize styF p t w (prtAt l x.1) (prtAt l x.2)=se at*
  generalize prtAt l x.1=pa at*
  generalize prtAt l x.2=pb at*
  simp only[Prt.enc]at cst
  have hk0':=h.ext hXU'
  rcases hlp with ⟨-,rfl⟩ | ⟨lx,rfl,hk1⟩ | ⟨kk,rfl,hk1⟩
  ·cases hx
  case' inr.inr=>have hk1:=hk1 [];rw[List.append_nil]at hk1
  all_goals
   rcases hk0' with ⟨-,rfl⟩ | ⟨lx,rfl,hk0⟩ | ⟨kk,rfl,hk0⟩
   ·cases u2
   case' inr.inr=>have hk0:=hk0 [];rw[List.append_nil]at hk0
   all_goals
    by_cases c:se=0
    ·rw[if_pos c]at e
     subst c
     simp(maxSteps:=1000000)(disch:=omega)only[push_cast,decide_not,decide_eq_true_eq,decide_eq_false_iff_not,bne_eq_false_iff_eq,beq_eq_false_iff_ne,gt_iff_lt,ne_eq,not_true_eq_false,not_false_eq_true,hal,h2,h3,h4,h5,h10,h12,hk0,hk1,gP,gT,hltc,hlt,hx,x1',x3',x2,x4,u1,u2,v1,v2,cst,decide_true,Bool.not_true,encPr,Prt.enc,wrap_ok,Int.natCast_add,Int.natCast_one,↓WX,simprocAttr]
     exact e
    ·rw[if_neg c]at e
     subst e
     simp(maxSteps:=1000000)(disch:=omega)only[push_cast,decide_not,decide_eq_true_eq,decide_eq_false_iff_not,bne_eq_false_iff_eq,beq_eq_false_iff_ne,gt_iff_lt,ne_eq,not_true_eq_false,not_false_eq_true,hal,h2,h3,h4,h5,h10,h12,hk0,hk1,gP,gT,hltc,hlt,hx,x1',x3',x2,x4,u1,u2,v1,v2,cst,c,decide_false,Bool.not_false,encPr,Prt.enc,false_and,false_or,or_false,true_and,Tryz.f92,↓WX,simprocAttr]
     exact⟨_,hJU⟩
 clear hal h2 h3 h4 h5 h10 a
 rintro a W ⟨⟨rfl,rfl⟩,hal,h2⟩
 simp(maxSteps:=1000000)(disch:=omega)only[push_cast,decide_not,decide_eq_true_eq,decide_eq_false_iff_not,bne_eq_false_iff_eq,beq_eq_false_iff_ne,gt_iff_lt,ne_eq,not_true_eq_false,not_false_eq_true,hal,h2,Tryz.f92,↓WX,simprocAttr]
 exact⟨_,hJU⟩
end
end Go.Proofs.YtaklebjoenophaaGreat.Dm
