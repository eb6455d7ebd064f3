/-
  The miles that a fare allows, and the amount of a fare: the reference answers.
  Conditions of a rule: lists of texts and of numbers, exactly.
-/
import Derived.Test.YtaklebjoenophaaGreatPoL
import Derived.Test.YtaklebjoenophaaGreatTfC
set_option linter.unusedSimpArgs false
set_option linter.unusedVariables false
namespace Go.Proofs.YtaklebjoenophaaGreat.Dm
open Go Gw
set_option linter.unusedSimpArgs false
set_option linter.unusedSimpArgs false
section
variable {n : Nat}
set_option maxHeartbeats 8000000 in
set_option maxRecDepth 100000 in
theorem miles25_c (t:Trf) (ht:t.rous.length≤1048576) (f:Far) (hn:1048590≤n):∃k:Int,∀st S,callD E (dcall E n) st S 86 [.agg t.enc,.agg f.enc]=some (.int .i64 k,S):=by
 obtain⟨m,rfl⟩:∃m,n=m+1:=⟨n-1,by omega⟩
 have hp:=Trf_pure t
 have hr:=Routing24_x (n:=m) (t.fares.map Far.enc) (t.rules.map Rul.enc) (t.taxes.map Tx.enc) t.fx t.rx t.tx t.rous t.ox (Fars_pure _) (Ruls_pure _) (Txs_pure _) ht (by omega) f.rou
 generalize t.rous.find? (fun r=>decide (r.num=f.rou))=o at hr
 generalize o.isSome=b at hr
 simp only[Trf.enc,Far.enc]at hp ⊢
 have:WO (dcall E (m+1) 86 [.agg [.sl 9 (t.fares.map Far.enc) t.fx,.sl 15 (t.rules.map Rul.enc) t.rx,.sl 3 (t.rous.map Rou.enc) t.ox,.sl 7 (t.taxes.map Tx.enc) t.tx],.agg [.str f.car,.str f.frm,.str f.dst,.str f.bas,.str f.cls,.bool f.rnd,.int .i64 f.amt,.int .i64 f.rul,.int .i64 f.rou]] []) fun r T=>∃k:Int,r=.int .i64 k:=by
  refine wo_dcall Tryz.func86 rfl (by decide) rfl 19 rfl (fun a hal ha=>?_)
  have h0:a[0]? =some (.agg [.sl 9 (t.fares.map Far.enc) t.fx,.sl 15 (t.rules.map Rul.enc) t.rx,.sl 3 (t.rous.map Rou.enc) t.ox,.sl 7 (t.taxes.map Tx.enc) t.tx]):=ha 0 (by simp)
  have h1:a[1]? =some (.agg [.str f.car,.str f.frm,.str f.dst,.str f.bas,.str f.cls,.bool f.rnd,.int .i64 f.amt,.int .i64 f.rul,.int .i64 f.rou]):=ha 1 (by simp)
  clear ha
  cases e:decide (f.rou=0)
  ·cases o with
   |none=>
    simp only[rouD]at hr
    simp(maxSteps:=1000000)(disch:=omega)only[push_cast,decide_not,decide_eq_true_eq,decide_eq_false_iff_not,bne_eq_false_iff_eq,beq_eq_false_iff_ne,gt_iff_lt,ne_eq,not_true_eq_false,not_false_eq_true,hal,h0,h1,hr,e,Tryz.f86,↓WX,simprocAttr]
    exact⟨_,rfl⟩
   |some r=>
    simp only[rouD,Rou.enc]at hr
    simp(maxSteps:=1000000)(disch:=omega)only[push_cast,decide_not,decide_eq_true_eq,decide_eq_false_iff_not,bne_eq_false_iff_eq,beq_eq_false_iff_ne,gt_iff_lt,ne_eq,not_true_eq_false,not_false_eq_true,hal,h0,h1,hr,e,Tryz.f86,↓WX,simprocAttr]
    exact⟨_,rfl⟩
  ·cases o with
   |none=>
    simp only[rouD]at hr
    simp(maxSteps:=1000000)(disch:=omega)only[push_cast,decide_not,decide_eq_true_eq,decide_eq_false_iff_not,bne_eq_false_iff_eq,beq_eq_false_iff_ne,gt_iff_lt,ne_eq,not_true_eq_false,not_false_eq_true,hal,h0,h1,hr,e,Tryz.f86,↓WX,simprocAttr]
    exact⟨_,rfl⟩
   |some r=>
    simp only[rouD,Rou.enc]at hr
    simp(maxSteps:=1000000)(disch:=omega)only[push_cast,decide_not,decide_eq_true_eq,decide_eq_false_iff_not,bne_eq_false_iff_eq,beq_eq_false_iff_ne,gt_iff_lt,ne_eq,not_true_eq_false,not_false_eq_true,hal,h0,h1,hr,e,Tryz.f86,↓WX,simprocAttr]
    exact⟨_,rfl⟩
 obtain⟨_,T,ho,k,rfl⟩:=this
 exact⟨k,fun st S=>callD_pure rfl (by simp only[pureL_cons,pureL_nil,D.pure,Bool.and_true]at hp ⊢;exact hp) ho rfl⟩
set_option maxHeartbeats 16000000 in
set_option maxRecDepth 100000 in
theorem amount25_c (p:Plc) (hpa:p.aps.length≤1048576) (hpd:p.dts.length≤20) (t:Trf) (ht:t.rous.length≤1048576) (hr:t.rules.length≤1048576) (hpc:∀r∈t.rules,r.pcs.length≤1048576) (hn:50000030≤n) (x:Int) (l:List Wnt) (lx:Bool) (hl:l.length≤1000) (hl0:l≠[]) (s:ByteArray):
  ∃q e:Int,∀st S,callD E (dcall E n) st S 34 [.agg p.enc,.agg t.enc,.int .i64 x,.sl 8 (l.map Wnt.enc) lx,.str s]=some (.tup [.int .i64 q,.int .i64 e],S):=by
 obtain⟨m,rfl⟩:∃m,n=m+1:=⟨n-1,by omega⟩
 have hp:=Plc_pure p
 have hpt:=Trf_pure t
 obtain⟨cs,cx,-,hcl,hcs⟩:=Cities25_c (n:=m) p hpa l lx hl hl0 (by omega)
 obtain⟨fm,hfm⟩:∃fm:Far→Int,∀(f:Far) st S,callD E (dcall E m) st S 86 [.agg t.enc,.agg f.enc]=some (.int .i64 (fm f),S):=
  ⟨fun f=>(miles25_c (n:=m) t ht f (by omega)).choose,fun f=>(miles25_c (n:=m) t ht f (by omega)).choose_spec⟩
 obtain⟨fo,fe,hfo⟩:∃fo fe:Int→Int,∀(k:Int) st S,callD E (dcall E m) st S 87 [.agg p.enc,.sl 1 (cs.map Cnd.encT) cx,.int .i64 k]=some (.tup [.int .i64 (fo k),.int .i64 (fe k)],S):=
  ⟨fun k=>(Of23_c (n:=m) p hpa hpd (by omega) cs cx (by omega) k).choose,fun k=>(Of23_c (n:=m) p hpa hpd (by omega) cs cx (by omega) k).choose_spec.choose,fun k=>(Of23_c (n:=m) p hpa hpd (by omega) cs cx (by omega) k).choose_spec.choose_spec⟩
 obtain⟨ga,ge,hga⟩:∃ga ge:Int→Int→Int,∀(x y:Int) st S,callD E (dcall E m) st S 88 [.int .i64 x,.int .i64 y]=some (.tup [.int .i64 (ga x y),.int .i64 (ge x y)],S):=
  ⟨fun x y=>(apply23_c (n:=m) (by omega) x y).choose,fun x y=>(apply23_c (n:=m) (by omega) x y).choose_spec.choose,fun x y=>(apply23_c (n:=m) (by omega) x y).choose_spec.choose_spec⟩
 have hru:=fun k=>Rule24_x (n:=m) (t.fares.map Far.enc) (t.rous.map Rou.enc) (t.taxes.map Tx.enc) t.fx t.ox t.tx t.rules t.rx (Fars_pure _) (Rous_pure _) (Txs_pure _) hr (by omega) k
 simp only[Plc.enc,Trf.enc,Far.enc]at hp hpt hcs hfm hfo hru ⊢
 have hlz:decide ((l.length:Int)=0)=false:=decide_eq_false (fun h=>hl0 (List.eq_nil_of_length_eq_zero (by omega)))
 have:WO (dcall E (m+1) 34 [.agg [.sl 5 (p.aps.map Apt.enc) p.apsx,.sl 3 (p.dts.map Dst.enc) p.dtsx],.agg [.sl 9 (t.fares.map Far.enc) t.fx,.sl 15 (t.rules.map Rul.enc) t.rx,.sl 3 (t.rous.map Rou.enc) t.ox,.sl 7 (t.taxes.map Tx.enc) t.tx],.int .i64 x,.sl 8 (l.map Wnt.enc) lx,.str s] []) fun r T=>∃q e:Int,r=.tup [.int .i64 q,.int .i64 e]:=by
  refine wo_dcall Tryz.func34 rfl (by decide) rfl 81 rfl (fun a hal ha=>?_)
  have h0:a[0]? =some (.agg [.sl 5 (p.aps.map Apt.enc) p.apsx,.sl 3 (p.dts.map Dst.enc) p.dtsx]):=ha 0 (by simp)
  have h1:a[1]? =some (.agg [.sl 9 (t.fares.map Far.enc) t.fx,.sl 15 (t.rules.map Rul.enc) t.rx,.sl 3 (t.rous.map Rou.enc) t.ox,.sl 7 (t.taxes.map Tx.enc) t.tx]):=ha 1 (by simp)
  have h2:a[2]? =some (.int .i64 x):=ha 2 (by simp)
  have h3:a[3]? =some (.sl 8 (l.map Wnt.enc) lx):=ha 3 (by simp)
  have h4:a[4]? =some (.str s):=ha 4 (by simp)
  clear ha
  by_cases c2:x<0
  ·simp(maxSteps:=1000000)(disch:=omega)only[push_cast,decide_not,decide_eq_true_eq,decide_eq_false_iff_not,bne_eq_false_iff_eq,beq_eq_false_iff_ne,gt_iff_lt,ne_eq,not_true_eq_false,not_false_eq_true,hal,h0,h1,h2,h3,h4,hlz,c2,Tryz.f34,↓WX,simprocAttr]
   exact⟨_,_,rfl⟩
  by_cases c3:x≥t.fares.length
  ·have d3:decide (x≥(t.fares.length:Int))=true:=decide_eq_true c3
   simp(maxSteps:=1000000)(disch:=omega)only[push_cast,decide_not,decide_eq_true_eq,decide_eq_false_iff_not,bne_eq_false_iff_eq,beq_eq_false_iff_ne,gt_iff_lt,ne_eq,not_true_eq_false,not_false_eq_true,hal,h0,h1,h2,h3,h4,hlz,c2,d3,Tryz.f34,↓WX,simprocAttr]
   exact⟨_,_,rfl⟩
  have d3:decide (x≥(t.fares.length:Int))=false:=decide_eq_false c3
  have hge:(0≤x)=True:=eq_true (by omega)
  have hxl:x.toNat<t.fares.length:=by omega
  obtain⟨f,hf⟩:∃f,t.fares[x.toNat]? =some f:=⟨t.fares[x.toNat],by simp⟩
  obtain⟨S0,hS0⟩:∃S0:List Ob,S0=[Ob.row 2 [[.sl 5 (p.aps.map Apt.enc) p.apsx,.sl 3 (p.dts.map Dst.enc) p.dtsx]],Ob.row 4 [[.sl 9 (t.fares.map Far.enc) t.fx,.sl 15 (t.rules.map Rul.enc) t.rx,.sl 3 (t.rous.map Rou.enc) t.ox,.sl 7 (t.taxes.map Tx.enc) t.tx]],Ob.row 9 [[.str f.car,.str f.frm,.str f.dst,.str f.bas,.str f.cls,.bool f.rnd,.int .i64 f.amt,.int .i64 f.rul,.int .i64 f.rou]]]:=⟨_,rfl⟩
  refine wc_scut (fun a V=>V=[Ob.row 2 [[.sl 5 (p.aps.map Apt.enc) p.apsx,.sl 3 (p.dts.map Dst.enc) p.dtsx]],Ob.row 4 [[.sl 9 (t.fares.map Far.enc) t.fx,.sl 15 (t.rules.map Rul.enc) t.rx,.sl 3 (t.rous.map Rou.enc) t.ox,.sl 7 (t.taxes.map Tx.enc) t.tx]]]∧a.length=81∧a[2]? =some (.int .i64 x)∧a[3]? =some (.sl 8 (l.map Wnt.enc) lx)∧a[4]? =some (.str s)∧a[5]? =some (.loc 0 0 0)∧a[6]? =some (.loc 1 0 0)) ?_ ?_
  ·simp(maxSteps:=1000000)(disch:=omega)only[push_cast,decide_not,decide_eq_true_eq,decide_eq_false_iff_not,bne_eq_false_iff_eq,beq_eq_false_iff_ne,gt_iff_lt,ne_eq,not_true_eq_false,not_false_eq_true,hal,h0,h1,h2,h3,h4,↓WX,simprocAttr]
  clear hal h0 h1 h2 h3 h4 a
  rintro a V ⟨rfl,hal,h2,h3,h4,h5,h6⟩
  refine wc_scut (fun a V=>V=[Ob.row 2 [[.sl 5 (p.aps.map Apt.enc) p.apsx,.sl 3 (p.dts.map Dst.enc) p.dtsx]],Ob.row 4 [[.sl 9 (t.fares.map Far.enc) t.fx,.sl 15 (t.rules.map Rul.enc) t.rx,.sl 3 (t.rous.map Rou.enc) t.ox,.sl 7 (t.taxes.map Tx.enc) t.tx]]]∧a.length=81∧a[2]? =some (.int .i64 x)∧a[3]? =some (.sl 8 (l.map Wnt.enc) lx)∧a[4]? =some (.str s)∧a[5]? =some (.loc 0 0 0)∧a[6]? =some (.loc 1 0 0)) ?_ ?_
  ·simp(maxSteps:=1000000)(disch:=omega)only[push_cast,decide_not,decide_eq_true_eq,decide_eq_false_iff_not,bne_eq_false_iff_eq,beq_eq_false_iff_ne,gt_iff_lt,ne_eq,not_true_eq_false,not_false_eq_true,hal,h2,h3,h4,h5,h6,hlz,c2,d3,↓WX,simprocAttr]
  clear hal h2 h3 h4 h5 h6 a
  rintro a V ⟨rfl,hal,h2,h3,h4,h5,h6⟩
  refine wc_scut (fun a V=>V=S0∧a.length=81∧a[3]? =some (.sl 8 (l.map Wnt.enc) lx)∧a[4]? =some (.str s)∧a[5]? =some (.loc 0 0 0)∧a[6]? =some (.loc 1 0 0)∧a[12]? =some (.loc 2 0 0)) ?_ ?_
  ·simp(maxSteps:=1000000)(disch:=omega)only[push_cast,decide_not,decide_eq_true_eq,decide_eq_false_iff_not,bne_eq_false_iff_eq,beq_eq_false_iff_ne,gt_iff_lt,ne_eq,not_true_eq_false,not_false_eq_true,hal,h2,h3,h4,h5,h6,hge,hxl,hf,Far.enc,↓WX,simprocAttr]
   rw[hS0]
  clear hal h2 h3 h4 h5 h6 a
  rintro a V ⟨rfl,hal,h3,h4,h5,h6,h12⟩
  have g0:V[0]? =some (Ob.row 2 [[.sl 5 (p.aps.map Apt.enc) p.apsx,.sl 3 (p.dts.map Dst.enc) p.dtsx]]):=by rw[hS0];rfl
  have g1:V[1]? =some (Ob.row 4 [[.sl 9 (t.fares.map Far.enc) t.fx,.sl 15 (t.rules.map Rul.enc) t.rx,.sl 3 (t.rous.map Rou.enc) t.ox,.sl 7 (t.taxes.map Tx.enc) t.tx]]):=by rw[hS0];rfl
  have g2:V[2]? =some (Ob.row 9 [[.str f.car,.str f.frm,.str f.dst,.str f.bas,.str f.cls,.bool f.rnd,.int .i64 f.amt,.int .i64 f.rul,.int .i64 f.rou]]):=by rw[hS0];rfl
  have hfmf:=hfm f
  generalize fm f=mi at hfmf
  clear hS0
  refine wc_scut (fun a W=>W=V∧a.length=81∧a[3]? =some (.sl 8 (l.map Wnt.enc) lx)∧a[4]? =some (.str s)∧a[5]? =some (.loc 0 0 0)∧a[6]? =some (.loc 1 0 0)∧a[12]? =some (.loc 2 0 0)∧a[13]? =some (.int .i64 0)) ?_ ?_
  ·simp(maxSteps:=1000000)(disch:=omega)only[push_cast,decide_not,decide_eq_true_eq,decide_eq_false_iff_not,bne_eq_false_iff_eq,beq_eq_false_iff_ne,gt_iff_lt,ne_eq,not_true_eq_false,not_false_eq_true,hal,h3,h4,h5,h6,h12,↓WX,simprocAttr]
  clear hal h3 h4 h5 h6 h12 a
  rintro a W ⟨rfl,hal,h3,h4,h5,h6,h12,h13⟩
  by_cases bad:decide (mi>0)=true∧decide (fe mi=0)=false
  ·obtain⟨e1,e2⟩:=bad
   simp(maxSteps:=1000000)(disch:=omega)only[push_cast,decide_not,decide_eq_true_eq,decide_eq_false_iff_not,bne_eq_false_iff_eq,beq_eq_false_iff_ne,gt_iff_lt,ne_eq,not_true_eq_false,not_false_eq_true,hal,h3,h4,h5,h6,h12,h13,g0,g1,g2,hfmf,hcs,hfo,e1,e2,Bool.not_false,Tryz.f34,↓WX,simprocAttr]
   exact⟨_,_,rfl⟩
  refine wc_scut (fun a U=>(U=W∧∃z:Int,a[13]? =some (.int .i64 z))∧a.length=81∧a[4]? =some (.str s)∧a[5]? =some (.loc 0 0 0)∧a[6]? =some (.loc 1 0 0)∧a[12]? =some (.loc 2 0 0)) ?_ ?_
  ·cases e1:decide (mi>0)
   ·simp(maxSteps:=1000000)(disch:=omega)only[push_cast,decide_not,decide_eq_true_eq,decide_eq_false_iff_not,bne_eq_false_iff_eq,beq_eq_false_iff_ne,gt_iff_lt,ne_eq,not_true_eq_false,not_false_eq_true,hal,h3,h4,h5,h6,h12,h13,g1,g2,hfmf,e1,↓WX,simprocAttr]
    exact⟨_,rfl⟩
   ·cases e2:decide (fe mi=0)
    ·exact (bad ⟨e1,e2⟩).elim
    ·simp(maxSteps:=1000000)(disch:=omega)only[push_cast,decide_not,decide_eq_true_eq,decide_eq_false_iff_not,bne_eq_false_iff_eq,beq_eq_false_iff_ne,gt_iff_lt,ne_eq,not_true_eq_false,not_false_eq_true,hal,h3,h4,h5,h6,h12,h13,g0,g1,g2,hfmf,hcs,hfo,e1,e2,Bool.not_true,↓WX,simprocAttr]
     exact⟨_,rfl⟩
  clear hal h3 h4 h5 h6 h12 h13 a
  rintro a U ⟨⟨rfl,z,h13⟩,hal,h4,h5,h6,h12⟩
  cases e3:decide (ge f.amt z=0)
  ·simp(maxSteps:=1000000)(disch:=omega)only[push_cast,decide_not,decide_eq_true_eq,decide_eq_false_iff_not,bne_eq_false_iff_eq,beq_eq_false_iff_ne,gt_iff_lt,ne_eq,not_true_eq_false,not_false_eq_true,hal,h4,h5,h6,h12,h13,g2,hga,e3,Bool.not_false,Tryz.f34,↓WX,simprocAttr]
   exact⟨_,_,rfl⟩
  have hruf:=hru f.rul
  have hof:∀r,t.rules.find? (fun r=>decide (r.num=f.rul))=some r→r.pcs.length≤1048576:=fun r h=>hpc r (List.mem_of_find?_eq_some h)
  generalize t.rules.find? (fun r=>decide (r.num=f.rul))=o at hruf hof
  generalize o.isSome=b at hruf
  obtain⟨q,e,hq⟩:=pay21_c (n:=m) o hof s (ga f.amt z) (by omega)
  cases o with
  |none=>
   simp only[rulD]at hruf hq
   simp(maxSteps:=1000000)(disch:=omega)only[push_cast,decide_not,decide_eq_true_eq,decide_eq_false_iff_not,bne_eq_false_iff_eq,beq_eq_false_iff_ne,gt_iff_lt,ne_eq,not_true_eq_false,not_false_eq_true,hal,h4,h5,h6,h12,h13,g1,g2,hga,e3,hruf,hq,get_end,set_end,Bool.not_true,Tryz.f34,↓WX,simprocAttr]
   exact⟨_,_,rfl⟩
  |some r=>
   obtain⟨w,hw⟩:∃w,r.when=w:=⟨_,rfl⟩
   have hxe:Rul.enc r=.int .i64 r.num::(w.enc++[.sl 1 (r.comb.map encZ) r.combx,.int .i64 r.mins,.int .i64 r.maxs,.int .i64 r.chg,.int .i64 r.ref,.sl 2 (r.pcs.map encPc) r.pcx]):=by rw[←hw];rfl
   cases w with |mk k' l' lx' u' v' pf' pt' pd' t' tx'=>?_
   simp only[Cnd.enc,List.cons_append,List.nil_append]at hxe
   simp only[rulD,hxe]at hruf hq
   simp(maxSteps:=1000000)(disch:=omega)only[push_cast,decide_not,decide_eq_true_eq,decide_eq_false_iff_not,bne_eq_false_iff_eq,beq_eq_false_iff_ne,gt_iff_lt,ne_eq,not_true_eq_false,not_false_eq_true,hal,h4,h5,h6,h12,h13,g1,g2,hga,e3,hruf,hq,get_end,set_end,Bool.not_true,Tryz.f34,↓WX,simprocAttr]
   exact⟨_,_,rfl⟩
 obtain⟨_,T,ho,q,e,rfl⟩:=this
 exact⟨q,e,fun st S=>callD_pure rfl (by simp only[pureL_cons,pureL_nil,D.pure,Wnts_pure,Bool.and_true]at hp hpt ⊢;rw[Bool.and_eq_true];exact⟨hp,hpt⟩) ho rfl⟩
end
end Go.Proofs.YtaklebjoenophaaGreat.Dm
namespace Go.Proofs.YtaklebjoenophaaGreat.Dm
open Go Gw
set_option linter.unusedSimpArgs false
set_option linter.unusedSimpArgs false
theorem fls_pure {α:Type} {sz:Nat} {enc:α→List D} {d:D} {l:List α} (h:FLs sz enc d l) (hp:pureLL (l.map enc)=true):d.pure=true:=by
 rcases h with ⟨rfl,-⟩ | ⟨x,rfl⟩
 ·rfl
 ·simp only[D.pure,hp]
theorem fls_one {α:Type} {sz:Nat} {enc:α→List D} {d:D} {l:List α} (h:FLs sz enc d l):d.one=true:=by
 rcases h with ⟨rfl,-⟩ | ⟨x,rfl⟩ <;> rfl
theorem fls_len {α:Type} {sz:Nat} {enc:α→List D} {S:List Ob} {d:D} {l:List α} {t e:TypeId} (ht:Tryz.prog.underlying t=some (.slice e)) (h:FLs sz enc d l):dLen Tryz.prog S t d=some (.int .i64 l.length):=by
 unfold dLen
 rw[ht]
 rcases h with ⟨rfl,rfl⟩ | ⟨x,rfl⟩
 ·rfl
 ·dsimp only
  rw[List.length_map]
theorem encZs_pure' (l:List Int):pureLL (l.map encZ)=true:=by
 induction l with
 |nil=>rfl
 |cons f fs ih=>rw[List.map_cons,pureLL_cons,ih];rfl
section
variable {n : Nat}
set_option maxHeartbeats 8000000 in
set_option maxRecDepth 100000 in
theorem has20_x {d:D} {l:List ByteArray} (h:FLs 1 Cnd.encT d l) (hl:l.length≤1048576) (s:ByteArray) (hn:1048590≤n):∀st S,callD E (dcall E n) st S 190 [d,.str s]=some (.bool (l.any fun x=>decide (x=s)),S):=by
 obtain⟨m,rfl⟩:∃m,n=m+1:=⟨n-1,by omega⟩
 have hp:=fls_pure h (Cnd.encT_pure l)
 have hy:=fun S=>fls_len (S:=S) Tryz.underlying67 h
 simp only[push_cast]at hy
 have:WO (dcall E (m+1) 190 [d,.str s] []) fun r T=>r=.bool (l.any fun x=>decide (x=s)):=by
  obtain⟨q,hq⟩:∃q,q=l.any fun x=>decide (x=s):=⟨_,rfl⟩
  rw[←hq]
  refine wo_dcall Tryz.func190 rfl (by decide) rfl 18 rfl (fun a hal ha=>?_)
  have h0:a[0]? =some (d):=ha 0 (by simp)
  have h1:a[1]? =some (.str s):=ha 1 (by simp)
  clear ha
  simp(maxSteps:=1000000)(disch:=omega)only[push_cast,decide_not,decide_eq_true_eq,decide_eq_false_iff_not,bne_eq_false_iff_eq,beq_eq_false_iff_ne,gt_iff_lt,ne_eq,not_true_eq_false,not_false_eq_true,hal,h0,h1,↓WX,simprocAttr]
  refine wl_loop (fun i a T=>(T=[]∧q=(l.drop i).any fun x=>decide (x=s))∧a.length=18∧a[0]? =some (d)∧a[1]? =some (.str s)∧a[5]? =some (.int .i64 i)) l.length ?_ (by omega) ?_
  ·simp(maxSteps:=1000000)(disch:=omega)only[push_cast,decide_not,decide_eq_true_eq,decide_eq_false_iff_not,bne_eq_false_iff_eq,beq_eq_false_iff_ne,gt_iff_lt,ne_eq,not_true_eq_false,not_false_eq_true,hal,h0,h1,Int.natCast_zero,↓WX,simprocAttr]
   exact hq
  clear hal h0 h1 a
  rintro i a T hi ⟨⟨rfl,e⟩,hal,h0,h1,h5⟩
  rcases Nat.lt_or_eq_of_le hi with hlt |rfl
  case inr=>
   rw[List.drop_length,List.any_nil]at e
   subst e
   simp(maxSteps:=1000000)(disch:=omega)only[push_cast,decide_not,decide_eq_true_eq,decide_eq_false_iff_not,bne_eq_false_iff_eq,beq_eq_false_iff_ne,gt_iff_lt,ne_eq,not_true_eq_false,not_false_eq_true,hal,h0,h1,h5,hy,Int.lt_irrefl,Tryz.f190,↓WX,simprocAttr]
  have hltc:(i:Int)<l.length:=by omega
  obtain⟨x,hx⟩:∃x,l[i]? =some x:=⟨l[i],by simp⟩
  rw[drop_at hx,List.any_cons]at e
  rcases h with ⟨-,rfl⟩ | ⟨lx,rfl⟩
  ·cases hx
  cases e1:decide (x=s)
  ·rw[e1,Bool.false_or]at e
   simp(maxSteps:=1000000)(disch:=omega)only[push_cast,decide_not,decide_eq_true_eq,decide_eq_false_iff_not,bne_eq_false_iff_eq,beq_eq_false_iff_ne,gt_iff_lt,ne_eq,not_true_eq_false,not_false_eq_true,hal,h0,h1,h5,hltc,hlt,hx,e1,str_eq,Cnd.encT,wrap_ok,Int.natCast_add,Int.natCast_one,↓WX,simprocAttr]
   exact e
  ·rw[e1,Bool.true_or]at e
   subst e
   simp(maxSteps:=1000000)(disch:=omega)only[push_cast,decide_not,decide_eq_true_eq,decide_eq_false_iff_not,bne_eq_false_iff_eq,beq_eq_false_iff_ne,gt_iff_lt,ne_eq,not_true_eq_false,not_false_eq_true,hal,h0,h1,h5,hltc,hlt,hx,e1,str_eq,Cnd.encT,Tryz.f190,↓WX,simprocAttr]
 obtain⟨_,T,ho,rfl⟩:=this
 exact fun st S=>callD_pure rfl (by simp only[pureL_cons,pureL_nil,hp,D.pure,Bool.and_true]) ho rfl
set_option maxHeartbeats 8000000 in
set_option maxRecDepth 100000 in
theorem within20_x {d e:D} {l c:List ByteArray} (h:FLs 1 Cnd.encT d l) (hl:l.length≤1048576) (g:FLs 1 Cnd.encT e c) (hc:c.length≤1048576) (hn:1048600≤n):∀st S,callD E (dcall E n) st S 188 [d,e]=some (.bool (l.all fun s=>c.any fun x=>decide (x=s)),S):=by
 obtain⟨m,rfl⟩:∃m,n=m+1:=⟨n-1,by omega⟩
 have hp:=fls_pure h (Cnd.encT_pure l)
 have hpe:=fls_pure g (Cnd.encT_pure c)
 have hy:=fun S=>fls_len (S:=S) Tryz.underlying67 h
 simp only[push_cast]at hy
 have hf:=fun s=>has20_x (n:=m) g hc s (by omega)
 generalize hfb:(fun s:ByteArray=>c.any fun x=>decide (x=s))=fb
 replace hf:∀s st S,callD E (dcall E m) st S 190 [e,.str s]=some (.bool (fb s),S):=by subst hfb;exact hf
 have:WO (dcall E (m+1) 188 [d,e] []) fun r T=>r=.bool (l.all fb):=by
  obtain⟨q,hq⟩:∃q,q=l.all fb:=⟨_,rfl⟩
  rw[←hq]
  refine wo_dcall Tryz.func188 rfl (by decide) rfl 19 rfl (fun a hal ha=>?_)
  have h0:a[0]? =some (d):=ha 0 (by simp)
  have h1:a[1]? =some (e):=ha 1 (by simp)
  clear ha
  simp(maxSteps:=1000000)(disch:=omega)only[push_cast,decide_not,decide_eq_true_eq,decide_eq_false_iff_not,bne_eq_false_iff_eq,beq_eq_false_iff_ne,gt_iff_lt,ne_eq,not_true_eq_false,not_false_eq_true,hal,h0,h1,↓WX,simprocAttr]
  refine wl_loop (fun i a T=>(T=[]∧q=(l.drop i).all fb)∧a.length=19∧a[0]? =some (d)∧a[1]? =some (e)∧a[5]? =some (.int .i64 i)) l.length ?_ (by omega) ?_
  ·simp(maxSteps:=1000000)(disch:=omega)only[push_cast,decide_not,decide_eq_true_eq,decide_eq_false_iff_not,bne_eq_false_iff_eq,beq_eq_false_iff_ne,gt_iff_lt,ne_eq,not_true_eq_false,not_false_eq_true,hal,h0,h1,Int.natCast_zero,↓WX,simprocAttr]
   exact hq
  clear hal h0 h1 a
  rintro i a T hi ⟨⟨rfl,e0⟩,hal,h0,h1,h5⟩
  rcases Nat.lt_or_eq_of_le hi with hlt |rfl
  case inr=>
   rw[List.drop_length,List.all_nil]at e0
   subst e0
   simp(maxSteps:=1000000)(disch:=omega)only[push_cast,decide_not,decide_eq_true_eq,decide_eq_false_iff_not,bne_eq_false_iff_eq,beq_eq_false_iff_ne,gt_iff_lt,ne_eq,not_true_eq_false,not_false_eq_true,hal,h0,h1,h5,hy,Int.lt_irrefl,Tryz.f188,↓WX,simprocAttr]
  have hltc:(i:Int)<l.length:=by omega
  obtain⟨x,hx⟩:∃x,l[i]? =some x:=⟨l[i],by simp⟩
  rw[drop_at hx,List.all_cons]at e0
  rcases h with ⟨-,rfl⟩ | ⟨lx,rfl⟩
  ·cases hx
  cases e1:fb x
  ·rw[e1,Bool.false_and]at e0
   subst e0
   simp(maxSteps:=1000000)(disch:=omega)only[push_cast,decide_not,decide_eq_true_eq,decide_eq_false_iff_not,bne_eq_false_iff_eq,beq_eq_false_iff_ne,gt_iff_lt,ne_eq,not_true_eq_false,not_false_eq_true,hal,h0,h1,h5,hltc,hlt,hx,hf,e1,Bool.not_false,Cnd.encT,Tryz.f188,↓WX,simprocAttr]
  ·rw[e1,Bool.true_and]at e0
   simp(maxSteps:=1000000)(disch:=omega)only[push_cast,decide_not,decide_eq_true_eq,decide_eq_false_iff_not,bne_eq_false_iff_eq,beq_eq_false_iff_ne,gt_iff_lt,ne_eq,not_true_eq_false,not_false_eq_true,hal,h0,h1,h5,hltc,hlt,hx,hf,e1,Bool.not_true,Cnd.encT,wrap_ok,Int.natCast_add,Int.natCast_one,↓WX,simprocAttr]
   exact e0
 obtain⟨_,T,ho,rfl⟩:=this
 exact fun st S=>callD_pure rfl (by simp only[pureL_cons,pureL_nil,hp,hpe,Bool.and_true]) ho rfl
set_option maxHeartbeats 8000000 in
set_option maxRecDepth 100000 in
theorem between20_x {d:D} {l:List Int} (h:FLs 1 encZ d l) (hl:l.length≤1048576) (u v:Int) (hn:1048590≤n):∀st S,callD E (dcall E n) st S 189 [d,.int .i64 u,.int .i64 v]=some (.bool (l.all fun x=> !(decide (x<u) || decide (x>v))),S):=by
 obtain⟨m,rfl⟩:∃m,n=m+1:=⟨n-1,by omega⟩
 have hp:=fls_pure h (encZs_pure' l)
 have hy:=fun S=>fls_len (S:=S) Tryz.underlying70 h
 simp only[push_cast]at hy
 have:WO (dcall E (m+1) 189 [d,.int .i64 u,.int .i64 v] []) fun r T=>r=.bool (l.all fun x=> !(decide (x<u) || decide (x>v))):=by
  obtain⟨q,hq⟩:∃q,q=l.all fun x=> !(decide (x<u) || decide (x>v)):=⟨_,rfl⟩
  rw[←hq]
  refine wo_dcall Tryz.func189 rfl (by decide) rfl 28 rfl (fun a hal ha=>?_)
  have h0:a[0]? =some (d):=ha 0 (by simp)
  have h1:a[1]? =some (.int .i64 u):=ha 1 (by simp)
  have h2:a[2]? =some (.int .i64 v):=ha 2 (by simp)
  clear ha
  simp(maxSteps:=1000000)(disch:=omega)only[push_cast,decide_not,decide_eq_true_eq,decide_eq_false_iff_not,bne_eq_false_iff_eq,beq_eq_false_iff_ne,gt_iff_lt,ne_eq,not_true_eq_false,not_false_eq_true,hal,h0,h1,h2,↓WX,simprocAttr]
  refine wl_loop (fun i a T=>(T=[]∧q=(l.drop i).all fun x=> !(decide (x<u) || decide (x>v)))∧a.length=28∧a[0]? =some (d)∧a[1]? =some (.int .i64 u)∧a[2]? =some (.int .i64 v)∧a[7]? =some (.int .i64 i)) l.length ?_ (by omega) ?_
  ·simp(maxSteps:=1000000)(disch:=omega)only[push_cast,decide_not,decide_eq_true_eq,decide_eq_false_iff_not,bne_eq_false_iff_eq,beq_eq_false_iff_ne,gt_iff_lt,ne_eq,not_true_eq_false,not_false_eq_true,hal,h0,h1,h2,Int.natCast_zero,↓WX,simprocAttr]
   exact hq
  clear hal h0 h1 h2 a
  rintro i a T hi ⟨⟨rfl,e⟩,hal,h0,h1,h2,h7⟩
  rcases Nat.lt_or_eq_of_le hi with hlt |rfl
  case inr=>
   rw[List.drop_length,List.all_nil]at e
   subst e
   simp(maxSteps:=1000000)(disch:=omega)only[push_cast,decide_not,decide_eq_true_eq,decide_eq_false_iff_not,bne_eq_false_iff_eq,beq_eq_false_iff_ne,gt_iff_lt,ne_eq,not_true_eq_false,not_false_eq_true,hal,h0,h1,h2,h7,hy,Int.lt_irrefl,Tryz.f189,↓WX,simprocAttr]
  have hltc:(i:Int)<l.length:=by omega
  obtain⟨x,hx⟩:∃x,l[i]? =some x:=⟨l[i],by simp⟩
  rw[drop_at hx,List.all_cons]at e
  rcases h with ⟨-,rfl⟩ | ⟨lx,rfl⟩
  ·cases hx
  cases e1:decide (x<u)
  ·cases e2:decide (x>v)
   ·rw[e1,e2,Bool.or_false,Bool.not_false,Bool.true_and]at e
    simp(maxSteps:=1000000)(disch:=omega)only[push_cast,decide_not,decide_eq_true_eq,decide_eq_false_iff_not,bne_eq_false_iff_eq,beq_eq_false_iff_ne,gt_iff_lt,ne_eq,not_true_eq_false,not_false_eq_true,hal,h0,h1,h2,h7,hltc,hlt,hx,e1,e2,encZ,wrap_ok,Int.natCast_add,Int.natCast_one,↓WX,simprocAttr]
    exact e
   ·rw[e1,e2,Bool.or_true,Bool.not_true,Bool.false_and]at e
    subst e
    simp(maxSteps:=1000000)(disch:=omega)only[push_cast,decide_not,decide_eq_true_eq,decide_eq_false_iff_not,bne_eq_false_iff_eq,beq_eq_false_iff_ne,gt_iff_lt,ne_eq,not_true_eq_false,not_false_eq_true,hal,h0,h1,h2,h7,hltc,hlt,hx,e1,e2,encZ,Tryz.f189,↓WX,simprocAttr]
  ·rw[e1,Bool.true_or,Bool.not_true,Bool.false_and]at e
   subst e
   simp(maxSteps:=1000000)(disch:=omega)only[push_cast,decide_not,decide_eq_true_eq,decide_eq_false_iff_not,bne_eq_false_iff_eq,beq_eq_false_iff_ne,gt_iff_lt,ne_eq,not_true_eq_false,not_false_eq_true,hal,h0,h1,h2,h7,hltc,hlt,hx,e1,encZ,Tryz.f189,↓WX,simprocAttr]
 obtain⟨_,T,ho,rfl⟩:=this
 exact fun st S=>callD_pure rfl (by simp only[pureL_cons,pureL_nil,hp,D.pure,Bool.and_true]) ho rfl
end
end Go.Proofs.YtaklebjoenophaaGreat.Dm
