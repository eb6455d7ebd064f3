/-
  Why a fare does not apply: the reference answers.
-/
import Derived.Test.YtaklebjoenophaaGreatPoV
set_option linter.unusedSimpArgs false
set_option linter.unusedVariables false
namespace Go.Proofs.YtaklebjoenophaaGreat.Dm
open Go Gw
set_option linter.unusedSimpArgs false
set_option linter.unusedSimpArgs false
theorem rou_lit (o:Option Rou):∃c0 c1 c2:D,rouD o=.agg [c0,c1,c2]∧c0.one=true∧c1.one=true∧c2.one=true:=by
 cases o with
 |none=>exact⟨_,_,_,rfl,rfl,rfl,rfl⟩
 |some r=>exact⟨_,_,_,rfl,rfl,rfl,rfl⟩
theorem wc_rcut {E:Env} {call:Call} {n:Nat} {x y:Code} {a:List D} {S:List Ob} {Q:PostX} (P:List D→List Ob→Prop) (h:WC (codeD E call n x a S) fun r a S=>(r=.normal∧P a S)∨(r=.ret∧Q .ret a S)) (k:∀a S,P a S→WC (codeD E call n y a S) Q):
  WC (codeD E call n (.seq x y) a S) Q:=by
 rw[wc_seq]
 refine wc_mono h ?_
 rintro r a S (⟨rfl,hp⟩ | ⟨rfl,hq⟩)
 ·exact k a S hp
 ·exact hq
section
variable {n : Nat}
set_option maxHeartbeats 32000000 in
set_option maxRecDepth 100000 in
theorem Why25_c (p:Plc) (hpa:p.aps.length≤1048576) (hsh:∀a∈p.aps,a.sh.length≤1048576) (hpd:p.dts.length≤20) (t:Trf) (htr:t.rous.length≤1048576) (hr:t.rules.length≤1048576) (hb:∀r∈t.rules,bulkL r.when.enc≤1048576) (hlk:∀r∈t.rous,r.links.length≤1048576) (hn:50000030≤n) (k:Int) (l:List Wnt) (lx:Bool) (hl:l.length≤900) (hl0:l≠[]) (s:ByteArray) (sale:Int):
  ∃e:Int,∀st S,callD E (dcall E n) st S 33 [.agg p.enc,.agg t.enc,.int .i64 k,.sl 8 (l.map Wnt.enc) lx,.str s,.int .i64 sale]=some (.int .i64 e,S):=by
 obtain⟨m,rfl⟩:∃m,n=m+1:=⟨n-1,by omega⟩
 have hp:=Plc_pure p
 have hpt:=Trf_pure t
 obtain⟨cs,cx,-,hcl,hcs⟩:=Cities25_c (n:=m) p hpa l lx (by omega) hl0 (by omega)
 obtain⟨fm,hfm⟩:∃fm:Far→Int,∀(f:Far) st S,callD E (dcall E m) st S 86 [.agg t.enc,.agg f.enc]=some (.int .i64 (fm f),S):=
  ⟨fun f=>(miles25_c (n:=m) t htr f (by omega)).choose,fun f=>(miles25_c (n:=m) t htr f (by omega)).choose_spec⟩
 obtain⟨fo,fe,hfo⟩:∃fo fe:Int→Int,∀(k:Int) st S,callD E (dcall E m) st S 87 [.agg p.enc,.sl 1 (cs.map Cnd.encT) cx,.int .i64 k]=some (.tup [.int .i64 (fo k),.int .i64 (fe k)],S):=
  ⟨fun k=>(Of23_c (n:=m) p hpa hpd (by omega) cs cx (by omega) k).choose,fun k=>(Of23_c (n:=m) p hpa hpd (by omega) cs cx (by omega) k).choose_spec.choose,fun k=>(Of23_c (n:=m) p hpa hpd (by omega) cs cx (by omega) k).choose_spec.choose_spec⟩
 have hru:=fun k=>Rule24_x (n:=m) (t.fares.map Far.enc) (t.rous.map Rou.enc) (t.taxes.map Tx.enc) t.fx t.ox t.tx t.rules t.rx (Fars_pure _) (Rous_pure _) (Txs_pure _) hr (by omega) k
 have hro:=fun k=>Routing24_x (n:=m) (t.fares.map Far.enc) (t.rules.map Rul.enc) (t.taxes.map Tx.enc) t.fx t.rx t.tx t.rous t.ox (Fars_pure _) (Ruls_pure _) (Txs_pure _) htr (by omega) k
 obtain⟨x6,x7,x8,htk,htc⟩:=Trip25_x (n:=m) p hpa hsh l lx hl hl0 s sale (by omega)
 have ha21:=fun o ho=>Allows21_x (n:=m) htk o ho (by omega)
 have o6:=fls_one htk.hx
 have o7:=fls_one htk.hy
 have o8:=fls_one htk.hz
 simp only[D.one]at o6 o7 o8
 generalize tripF p l s sale=tf at*
 simp only[Plc.enc,Trf.enc,Far.enc,Trp.enc]at hp hpt hcs hfm hfo hru hro htc ha21 ⊢
 generalize tf.sale=i1 at*
 generalize tf.day=i2 at*
 generalize tf.mnt=i3 at*
 generalize tf.stops=i4 at*
 generalize tf.trs=i5 at*
 generalize tf.typ=i0 at*
 have hlz:decide ((l.length:Int)=0)=false:=decide_eq_false (fun h=>hl0 (List.eq_nil_of_length_eq_zero (by omega)))
 have:WO (dcall E (m+1) 33 [.agg [.sl 5 (p.aps.map Apt.enc) p.apsx,.sl 3 (p.dts.map Dst.enc) p.dtsx],.agg [.sl 9 (t.fares.map Far.enc) t.fx,.sl 15 (t.rules.map Rul.enc) t.rx,.sl 3 (t.rous.map Rou.enc) t.ox,.sl 7 (t.taxes.map Tx.enc) t.tx],.int .i64 k,.sl 8 (l.map Wnt.enc) lx,.str s,.int .i64 sale] []) fun r T=>∃e:Int,r=.int .i64 e:=by
  obtain⟨P0,hP0⟩:∃P0:List D,P0=[.sl 5 (p.aps.map Apt.enc) p.apsx,.sl 3 (p.dts.map Dst.enc) p.dtsx]:=⟨_,rfl⟩
  obtain⟨T0,hT0⟩:∃T0:List D,T0=[.sl 9 (t.fares.map Far.enc) t.fx,.sl 15 (t.rules.map Rul.enc) t.rx,.sl 3 (t.rous.map Rou.enc) t.ox,.sl 7 (t.taxes.map Tx.enc) t.tx]:=⟨_,rfl⟩
  refine wo_dcall Tryz.func33 rfl (by decide) rfl 136 rfl (fun a hal ha=>?_)
  have h0:a[0]? =some (.agg [.sl 5 (p.aps.map Apt.enc) p.apsx,.sl 3 (p.dts.map Dst.enc) p.dtsx]):=ha 0 (by simp)
  have h1:a[1]? =some (.agg [.sl 9 (t.fares.map Far.enc) t.fx,.sl 15 (t.rules.map Rul.enc) t.rx,.sl 3 (t.rous.map Rou.enc) t.ox,.sl 7 (t.taxes.map Tx.enc) t.tx]):=ha 1 (by simp)
  have h2:a[2]? =some (.int .i64 k):=ha 2 (by simp)
  have h3:a[3]? =some (.sl 8 (l.map Wnt.enc) lx):=ha 3 (by simp)
  have h4:a[4]? =some (.str s):=ha 4 (by simp)
  have h5:a[5]? =some (.int .i64 sale):=ha 5 (by simp)
  clear ha
  by_cases c2:k<0
  ·simp(maxSteps:=1000000)(disch:=omega)only[push_cast,decide_not,decide_eq_true_eq,decide_eq_false_iff_not,bne_eq_false_iff_eq,beq_eq_false_iff_ne,gt_iff_lt,ne_eq,not_true_eq_false,not_false_eq_true,hal,h0,h1,h2,h3,h4,h5,hlz,c2,Tryz.f33,↓WX,simprocAttr]
   exact⟨_,rfl⟩
  by_cases c3:k≥t.fares.length
  ·have d3:decide (k≥(t.fares.length:Int))=true:=decide_eq_true c3
   simp(maxSteps:=1000000)(disch:=omega)only[push_cast,decide_not,decide_eq_true_eq,decide_eq_false_iff_not,bne_eq_false_iff_eq,beq_eq_false_iff_ne,gt_iff_lt,ne_eq,not_true_eq_false,not_false_eq_true,hal,h0,h1,h2,h3,h4,h5,hlz,c2,d3,Tryz.f33,↓WX,simprocAttr]
   exact⟨_,rfl⟩
  have d3:decide (k≥(t.fares.length:Int))=false:=decide_eq_false c3
  have hge:(0≤k)=True:=eq_true (by omega)
  have hxl:k.toNat<t.fares.length:=by omega
  obtain⟨f,hf⟩:∃f,t.fares[k.toNat]? =some f:=⟨t.fares[k.toNat],by simp⟩
  refine wc_scut (fun a V=>V=[Ob.row 2 [P0],Ob.row 4 [T0]]∧a.length=136∧a[2]? =some (.int .i64 k)∧a[3]? =some (.sl 8 (l.map Wnt.enc) lx)∧a[4]? =some (.str s)∧a[5]? =some (.int .i64 sale)∧a[6]? =some (.loc 0 0 0)∧a[7]? =some (.loc 1 0 0)) ?_ ?_
  ·simp(maxSteps:=1000000)(disch:=omega)only[push_cast,decide_not,decide_eq_true_eq,decide_eq_false_iff_not,bne_eq_false_iff_eq,beq_eq_false_iff_ne,gt_iff_lt,ne_eq,not_true_eq_false,not_false_eq_true,hal,h0,h1,h2,h3,h4,h5,↓WX,simprocAttr]
   rw[hP0,hT0]
  clear hal h0 h1 h2 h3 h4 h5 a
  rintro a V ⟨rfl,hal,h2,h3,h4,h5,h6,h7⟩
  rw[hT0]
  refine wc_scut (fun a V=>V=[Ob.row 2 [P0],Ob.row 4 [T0]]∧a.length=136∧a[2]? =some (.int .i64 k)∧a[3]? =some (.sl 8 (l.map Wnt.enc) lx)∧a[4]? =some (.str s)∧a[5]? =some (.int .i64 sale)∧a[6]? =some (.loc 0 0 0)∧a[7]? =some (.loc 1 0 0)) ?_ ?_
  ·simp(maxSteps:=1000000)(disch:=omega)only[push_cast,decide_not,decide_eq_true_eq,decide_eq_false_iff_not,bne_eq_false_iff_eq,beq_eq_false_iff_ne,gt_iff_lt,ne_eq,not_true_eq_false,not_false_eq_true,hal,h2,h3,h4,h5,h6,h7,hlz,c2,d3,↓WX,simprocAttr]
   rw[hT0]
  clear hal h2 h3 h4 h5 h6 h7 a
  rintro a V ⟨rfl,hal,h2,h3,h4,h5,h6,h7⟩
  rw[hT0]
  refine wc_scut (fun a V=>V=[Ob.row 2 [P0],Ob.row 4 [T0],Ob.row 9 [[.str f.car,.str f.frm,.str f.dst,.str f.bas,.str f.cls,.bool f.rnd,.int .i64 f.amt,.int .i64 f.rul,.int .i64 f.rou]]]∧a.length=136∧a[3]? =some (.sl 8 (l.map Wnt.enc) lx)∧a[4]? =some (.str s)∧a[5]? =some (.int .i64 sale)∧a[6]? =some (.loc 0 0 0)∧a[7]? =some (.loc 1 0 0)∧a[13]? =some (.loc 2 0 0)) ?_ ?_
  ·simp(maxSteps:=1000000)(disch:=omega)only[push_cast,decide_not,decide_eq_true_eq,decide_eq_false_iff_not,bne_eq_false_iff_eq,beq_eq_false_iff_ne,gt_iff_lt,ne_eq,not_true_eq_false,not_false_eq_true,hal,h2,h3,h4,h5,h6,h7,hge,hxl,hf,Far.enc,↓WX,simprocAttr]
   rw[hT0]
  clear hal h2 h3 h4 h5 h6 h7 a
  rintro a V ⟨hV,hal,h3,h4,h5,h6,h7,h13⟩
  have g0:V[0]? =some (Ob.row 2 [[.sl 5 (p.aps.map Apt.enc) p.apsx,.sl 3 (p.dts.map Dst.enc) p.dtsx]]):=by rw[hV,hP0];rfl
  have g1:V[1]? =some (Ob.row 4 [[.sl 9 (t.fares.map Far.enc) t.fx,.sl 15 (t.rules.map Rul.enc) t.rx,.sl 3 (t.rous.map Rou.enc) t.ox,.sl 7 (t.taxes.map Tx.enc) t.tx]]):=by rw[hV,hT0];rfl
  have g2:V[2]? =some (Ob.row 9 [[.str f.car,.str f.frm,.str f.dst,.str f.bas,.str f.cls,.bool f.rnd,.int .i64 f.amt,.int .i64 f.rul,.int .i64 f.rou]]):=by rw[hV];rfl
  clear hV hP0 hT0 P0 T0
  have hfmf:=hfm f
  generalize fm f=mi at hfmf
  refine wc_scut (fun a W=>W=V∧a.length=136∧a[3]? =some (.sl 8 (l.map Wnt.enc) lx)∧a[4]? =some (.str s)∧a[5]? =some (.int .i64 sale)∧a[6]? =some (.loc 0 0 0)∧a[7]? =some (.loc 1 0 0)∧a[13]? =some (.loc 2 0 0)∧a[14]? =some (.sl 1 (cs.map Cnd.encT) cx)) ?_ ?_
  ·simp(maxSteps:=1000000)(disch:=omega)only[push_cast,decide_not,decide_eq_true_eq,decide_eq_false_iff_not,bne_eq_false_iff_eq,beq_eq_false_iff_ne,gt_iff_lt,ne_eq,not_true_eq_false,not_false_eq_true,hal,h3,h4,h5,h6,h7,h13,g0,hcs,↓WX,simprocAttr]
  clear hal h3 h4 h5 h6 h7 h13 a
  rintro a W ⟨rfl,hal,h3,h4,h5,h6,h7,h13,h14⟩
  refine wc_scut (fun a V=>V=W∧a.length=136∧a[3]? =some (.sl 8 (l.map Wnt.enc) lx)∧a[4]? =some (.str s)∧a[5]? =some (.int .i64 sale)∧a[6]? =some (.loc 0 0 0)∧a[7]? =some (.loc 1 0 0)∧a[13]? =some (.loc 2 0 0)∧a[14]? =some (.sl 1 (cs.map Cnd.encT) cx)∧a[15]? =some (.bool true)) ?_ ?_
  ·simp(maxSteps:=1000000)(disch:=omega)only[push_cast,decide_not,decide_eq_true_eq,decide_eq_false_iff_not,bne_eq_false_iff_eq,beq_eq_false_iff_ne,gt_iff_lt,ne_eq,not_true_eq_false,not_false_eq_true,hal,h3,h4,h5,h6,h7,h13,h14,↓WX,simprocAttr]
  clear hal h3 h4 h5 h6 h7 h13 h14 a
  rintro a V ⟨rfl,hal,h3,h4,h5,h6,h7,h13,h14,h15⟩
  refine wc_rcut (fun a W=>(W=V∧∃b:Bool,a[15]? =some (.bool b))∧a.length=136∧a[3]? =some (.sl 8 (l.map Wnt.enc) lx)∧a[4]? =some (.str s)∧a[5]? =some (.int .i64 sale)∧a[6]? =some (.loc 0 0 0)∧a[7]? =some (.loc 1 0 0)∧a[13]? =some (.loc 2 0 0)∧a[14]? =some (.sl 1 (cs.map Cnd.encT) cx)) ?_ ?_
  ·simp(maxSteps:=1000000)(disch:=omega)only[push_cast,decide_not,decide_eq_true_eq,decide_eq_false_iff_not,bne_eq_false_iff_eq,beq_eq_false_iff_ne,gt_iff_lt,ne_eq,not_true_eq_false,not_false_eq_true,hal,h3,h4,h5,h6,h7,h13,h14,h15,↓WX,simprocAttr]
   refine wl_loop (fun i a T=>(T=V∧∃b:Bool,a[15]? =some (.bool b))∧a.length=136∧a[3]? =some (.sl 8 (l.map Wnt.enc) lx)∧a[4]? =some (.str s)∧a[5]? =some (.int .i64 sale)∧a[6]? =some (.loc 0 0 0)∧a[7]? =some (.loc 1 0 0)∧a[13]? =some (.loc 2 0 0)∧a[14]? =some (.sl 1 (cs.map Cnd.encT) cx)∧a[16]? =some (.int .i64 i)) l.length ?_ (by omega) ?_
   ·simp(maxSteps:=1000000)(disch:=omega)only[push_cast,decide_not,decide_eq_true_eq,decide_eq_false_iff_not,bne_eq_false_iff_eq,beq_eq_false_iff_ne,gt_iff_lt,ne_eq,not_true_eq_false,not_false_eq_true,hal,h3,h4,h5,h6,h7,h13,h14,h15,Int.natCast_zero,↓WX,simprocAttr]
    exact⟨_,rfl⟩
   clear hal h3 h4 h5 h6 h7 h13 h14 h15 a
   rintro i a T hi ⟨⟨rfl,b,h15⟩,hal,h3,h4,h5,h6,h7,h13,h14,h16⟩
   rcases Nat.lt_or_eq_of_le hi with hlt |rfl
   case inr=>
    simp(maxSteps:=1000000)(disch:=omega)only[push_cast,decide_not,decide_eq_true_eq,decide_eq_false_iff_not,bne_eq_false_iff_eq,beq_eq_false_iff_ne,gt_iff_lt,ne_eq,not_true_eq_false,not_false_eq_true,hal,h3,h4,h5,h6,h7,h13,h14,h15,h16,Int.lt_irrefl,false_and,false_or,or_false,true_and,↓WX,simprocAttr]
    exact⟨_,rfl⟩
   have hltc:(i:Int)<l.length:=by omega
   obtain⟨x,hx⟩:∃x,l[i]? =some x:=⟨l[i],by simp⟩
   cases e1:decide (x.car=f.car)
   ·simp(maxSteps:=1000000)(disch:=omega)only[push_cast,decide_not,decide_eq_true_eq,decide_eq_false_iff_not,bne_eq_false_iff_eq,beq_eq_false_iff_ne,gt_iff_lt,ne_eq,not_true_eq_false,not_false_eq_true,hal,h3,h4,h5,h6,h7,h13,h14,h15,h16,g2,hltc,hlt,hx,e1,str_eq,Bool.not_false,Wnt.enc,false_and,false_or,or_false,true_and,Tryz.f33,↓WX,simprocAttr]
    exact⟨_,rfl⟩
   cases b
   ·simp(maxSteps:=1000000)(disch:=omega)only[push_cast,decide_not,decide_eq_true_eq,decide_eq_false_iff_not,bne_eq_false_iff_eq,beq_eq_false_iff_ne,gt_iff_lt,ne_eq,not_true_eq_false,not_false_eq_true,hal,h3,h4,h5,h6,h7,h13,h14,h15,h16,g2,hltc,hlt,hx,e1,str_eq,Bool.not_true,Wnt.enc,wrap_ok,Int.natCast_add,Int.natCast_one,↓WX,simprocAttr]
    exact⟨_,rfl⟩
   ·simp(maxSteps:=1000000)(disch:=omega)only[push_cast,decide_not,decide_eq_true_eq,decide_eq_false_iff_not,bne_eq_false_iff_eq,beq_eq_false_iff_ne,gt_iff_lt,ne_eq,not_true_eq_false,not_false_eq_true,hal,h3,h4,h5,h6,h7,h13,h14,h15,h16,g2,hltc,hlt,hx,e1,str_eq,Bool.not_true,Wnt.enc,wrap_ok,Int.natCast_add,Int.natCast_one,↓WX,simprocAttr]
    exact⟨_,rfl⟩
  clear hal h3 h4 h5 h6 h7 h13 h14 h15 a
  rintro a W ⟨⟨rfl,b,h15⟩,hal,h3,h4,h5,h6,h7,h13,h14⟩
  have hc0:0<cs.length:=by omega
  have hc0c:(0:Int)<cs.length:=by omega
  have hgc:(0≤(cs.length:Int)-1)=True:=eq_true (by omega)
  have htc':((cs.length:Int)-1).toNat=cs.length-1:=by omega
  have hcl1:cs.length-1<cs.length:=by omega
  have hwc:IntKind.i64.wrap ((cs.length:Int)-1)=(cs.length:Int)-1:=wrap_ok (by omega) (by omega)
  obtain⟨u,hu⟩:∃u,cs[0]? =some u:=⟨cs[0],by simp⟩
  obtain⟨v,hv⟩:∃v,cs[cs.length-1]? =some v:=⟨cs[cs.length-1],by simp⟩
  refine wc_rcut (fun a V=>V=W∧(∃b:Bool,a[15]? =some (.bool b))∧a.length=136∧a[3]? =some (.sl 8 (l.map Wnt.enc) lx)∧a[4]? =some (.str s)∧a[5]? =some (.int .i64 sale)∧a[6]? =some (.loc 0 0 0)∧a[7]? =some (.loc 1 0 0)∧a[13]? =some (.loc 2 0 0)∧a[14]? =some (.sl 1 (cs.map Cnd.encT) cx)) ?_ ?_
  ·cases e1:decide (u=f.frm)
   ·simp(maxSteps:=1000000)(disch:=omega)only[push_cast,decide_not,decide_eq_true_eq,decide_eq_false_iff_not,bne_eq_false_iff_eq,beq_eq_false_iff_ne,gt_iff_lt,ne_eq,not_true_eq_false,not_false_eq_true,hal,h3,h4,h5,h6,h7,h13,h14,h15,g2,hc0,hc0c,hu,e1,str_eq,Bool.not_false,Cnd.encT,false_and,false_or,or_false,true_and,Tryz.f33,↓WX,simprocAttr]
    exact⟨_,rfl⟩
   cases e2:decide (v=f.dst)
   ·simp(maxSteps:=1000000)(disch:=omega)only[push_cast,decide_not,decide_eq_true_eq,decide_eq_false_iff_not,bne_eq_false_iff_eq,beq_eq_false_iff_ne,gt_iff_lt,ne_eq,not_true_eq_false,not_false_eq_true,hal,h3,h4,h5,h6,h7,h13,h14,h15,g2,hc0,hc0c,hgc,htc',hcl1,hwc,hu,hv,e1,e2,str_eq,Bool.not_false,Bool.not_true,Cnd.encT,false_and,false_or,or_false,true_and,Tryz.f33,↓WX,simprocAttr]
    exact⟨_,rfl⟩
   ·simp(maxSteps:=1000000)(disch:=omega)only[push_cast,decide_not,decide_eq_true_eq,decide_eq_false_iff_not,bne_eq_false_iff_eq,beq_eq_false_iff_ne,gt_iff_lt,ne_eq,not_true_eq_false,not_false_eq_true,hal,h3,h4,h5,h6,h7,h13,h14,h15,g2,hc0,hc0c,hgc,htc',hcl1,hwc,hu,hv,e1,e2,str_eq,Bool.not_false,Bool.not_true,Cnd.encT,false_and,false_or,or_false,true_and,↓WX,simprocAttr]
    exact⟨_,rfl⟩
  clear hal h3 h4 h5 h6 h7 h13 h14 h15 a
  clear hu hv hwc hcl1 htc' hgc hc0 hc0c
  rintro a V ⟨rfl,⟨b,h15⟩,hal,h3,h4,h5,h6,h7,h13,h14⟩
  refine wc_rcut (fun a W=>W=V∧a.length=136∧a[3]? =some (.sl 8 (l.map Wnt.enc) lx)∧a[4]? =some (.str s)∧a[5]? =some (.int .i64 sale)∧a[6]? =some (.loc 0 0 0)∧a[7]? =some (.loc 1 0 0)∧a[13]? =some (.loc 2 0 0)∧a[14]? =some (.sl 1 (cs.map Cnd.encT) cx)) ?_ ?_
  ·cases b
   ·simp(maxSteps:=1000000)(disch:=omega)only[push_cast,decide_not,decide_eq_true_eq,decide_eq_false_iff_not,bne_eq_false_iff_eq,beq_eq_false_iff_ne,gt_iff_lt,ne_eq,not_true_eq_false,not_false_eq_true,hal,h3,h4,h5,h6,h7,h13,h14,h15,Bool.not_false,false_and,false_or,or_false,true_and,Tryz.f33,↓WX,simprocAttr]
    exact⟨_,rfl⟩
   ·simp(maxSteps:=1000000)(disch:=omega)only[push_cast,decide_not,decide_eq_true_eq,decide_eq_false_iff_not,bne_eq_false_iff_eq,beq_eq_false_iff_ne,gt_iff_lt,ne_eq,not_true_eq_false,not_false_eq_true,hal,h3,h4,h5,h6,h7,h13,h14,h15,Bool.not_true,false_and,false_or,or_false,true_and,↓WX,simprocAttr]
  clear hal h3 h4 h5 h6 h7 h13 h14 h15 a
  rintro a W ⟨rfl,hal,h3,h4,h5,h6,h7,h13,h14⟩
  have hruf:=hru f.rul
  have hof:∀r,t.rules.find? (fun r=>decide (r.num=f.rul))=some r→bulkL r.when.enc≤1048576:=fun r h=>hb r (List.mem_of_find?_eq_some h)
  generalize t.rules.find? (fun r=>decide (r.num=f.rul))=o at hruf hof
  generalize o.isSome=q at hruf
  have hal21:=ha21 o hof
  generalize alwF o tf=ea at hal21
  obtain⟨y1,y2,y3,y4,y5,y6,y7,y8,y9,y10,y11,y12,y13,y14,hy,⟨r1,r2,r3,r4,r5,r6,r7⟩,r8,r9,r10,r11,r12,r13,r14⟩:=rul_lit o
  rw[hy]at hruf hal21
  simp only[D.one]at r1 r2 r3 r4 r5 r6 r7 r8 r9 r10 r11 r12 r13 r14
  generalize numF o=y0 at*
  refine wc_scut (fun a V=>V=W++[Ob.row 15 [[.int .i64 y0,y1,y2,y3,y4,y5,y6,y7,y8,y9,y10,y11,y12,y13,y14]]]∧a.length=136∧a[3]? =some (.sl 8 (l.map Wnt.enc) lx)∧a[4]? =some (.str s)∧a[5]? =some (.int .i64 sale)∧a[6]? =some (.loc 0 0 0)∧a[7]? =some (.loc 1 0 0)∧a[13]? =some (.loc 2 0 0)∧a[14]? =some (.sl 1 (cs.map Cnd.encT) cx)∧a[17]? =some (.loc W.length 0 0)) ?_ ?_
  ·simp(maxSteps:=1000000)(disch:=omega)only[push_cast,decide_not,decide_eq_true_eq,decide_eq_false_iff_not,bne_eq_false_iff_eq,beq_eq_false_iff_ne,gt_iff_lt,ne_eq,not_true_eq_false,not_false_eq_true,hal,h3,h4,h5,h6,h7,h13,h14,g1,g2,hruf,get_end,set_end,r1,r2,r3,r4,r5,r6,r7,r8,r9,r10,r11,r12,r13,r14,↓WX,simprocAttr]
  clear hal h3 h4 h5 h6 h7 h13 h14 a
  rintro a V ⟨hV,hal,h3,h4,h5,h6,h7,h13,h14,h17⟩
  replace g0:=get_old (J:=[Ob.row 15 [[.int .i64 y0,y1,y2,y3,y4,y5,y6,y7,y8,y9,y10,y11,y12,y13,y14]]]) g0
  replace g1:=get_old (J:=[Ob.row 15 [[.int .i64 y0,y1,y2,y3,y4,y5,y6,y7,y8,y9,y10,y11,y12,y13,y14]]]) g1
  replace g2:=get_old (J:=[Ob.row 15 [[.int .i64 y0,y1,y2,y3,y4,y5,y6,y7,y8,y9,y10,y11,y12,y13,y14]]]) g2
  have g3:V[W.length]? =some (Ob.row 15 [[.int .i64 y0,y1,y2,y3,y4,y5,y6,y7,y8,y9,y10,y11,y12,y13,y14]]):=by rw[hV];exact get_end
  rw[←hV]at g0 g1 g2
  clear hV
  refine wc_scut (fun a W=>W=V∧a.length=136∧a[6]? =some (.loc 0 0 0)∧a[7]? =some (.loc 1 0 0)∧a[13]? =some (.loc 2 0 0)∧a[14]? =some (.sl 1 (cs.map Cnd.encT) cx)∧a[19]? =some (.int .i64 ea)) ?_ ?_
  ·simp(maxSteps:=1000000)(disch:=omega)only[push_cast,decide_not,decide_eq_true_eq,decide_eq_false_iff_not,bne_eq_false_iff_eq,beq_eq_false_iff_ne,gt_iff_lt,ne_eq,not_true_eq_false,not_false_eq_true,hal,h3,h4,h5,h6,h7,h13,h14,h17,g0,g3,htc,hal21,↓WX,simprocAttr]
  clear hal h3 h4 h5 h6 h7 h13 h14 h17 a
  rintro a W ⟨rfl,hal,h6,h7,h13,h14,h19⟩
  clear g3
  refine wc_rcut (fun a V=>V=W∧a.length=136∧a[6]? =some (.loc 0 0 0)∧a[7]? =some (.loc 1 0 0)∧a[13]? =some (.loc 2 0 0)∧a[14]? =some (.sl 1 (cs.map Cnd.encT) cx)∧a[19]? =some (.int .i64 ea)) ?_ ?_
  ·cases e1:decide (ea=0)
   ·simp(maxSteps:=1000000)(disch:=omega)only[push_cast,decide_not,decide_eq_true_eq,decide_eq_false_iff_not,bne_eq_false_iff_eq,beq_eq_false_iff_ne,gt_iff_lt,ne_eq,not_true_eq_false,not_false_eq_true,hal,h6,h7,h13,h14,h19,e1,Bool.not_false,false_and,false_or,or_false,true_and,Tryz.f33,↓WX,simprocAttr]
    exact⟨_,rfl⟩
   ·simp(maxSteps:=1000000)(disch:=omega)only[push_cast,decide_not,decide_eq_true_eq,decide_eq_false_iff_not,bne_eq_false_iff_eq,beq_eq_false_iff_ne,gt_iff_lt,ne_eq,not_true_eq_false,not_false_eq_true,hal,h6,h7,h13,h14,h19,e1,Bool.not_true,false_and,false_or,or_false,true_and,↓WX,simprocAttr]
  clear hal h6 h7 h13 h14 h19 a
  rintro a V ⟨rfl,hal,h6,h7,h13,h14,h19⟩
  have hrof:=hro f.rou
  have hofr:∀r,t.rous.find? (fun r=>decide (r.num=f.rou))=some r→r.links.length≤1048576:=fun r h=>hlk r (List.mem_of_find?_eq_some h)
  generalize t.rous.find? (fun r=>decide (r.num=f.rou))=o2 at hrof hofr
  generalize o2.isSome=q2 at hrof
  obtain⟨b22,ha22⟩:=allows22_c (n:=m) o2 hofr cs cx (by omega) (by omega)
  obtain⟨z0,z1,z2,hz,s0,s1,s2⟩:=rou_lit o2
  rw[hz]at hrof ha22
  simp only[D.one]at s0 s1 s2
  refine wc_scut (fun a W=>W=V++[Ob.row 3 [[z0,z1,z2]]]∧a.length=136∧a[6]? =some (.loc 0 0 0)∧a[7]? =some (.loc 1 0 0)∧a[13]? =some (.loc 2 0 0)∧a[14]? =some (.sl 1 (cs.map Cnd.encT) cx)∧a[19]? =some (.int .i64 ea)∧a[20]? =some (.loc V.length 0 0)) ?_ ?_
  ·simp(maxSteps:=1000000)(disch:=omega)only[push_cast,decide_not,decide_eq_true_eq,decide_eq_false_iff_not,bne_eq_false_iff_eq,beq_eq_false_iff_ne,gt_iff_lt,ne_eq,not_true_eq_false,not_false_eq_true,hal,h6,h7,h13,h14,h19,g1,g2,hrof,get_end,set_end,s0,s1,s2,↓WX,simprocAttr]
  clear hal h6 h7 h13 h14 h19 a
  rintro a W ⟨hV,hal,h6,h7,h13,h14,h19,h20⟩
  replace g0:=get_old (J:=[Ob.row 3 [[z0,z1,z2]]]) g0
  replace g1:=get_old (J:=[Ob.row 3 [[z0,z1,z2]]]) g1
  replace g2:=get_old (J:=[Ob.row 3 [[z0,z1,z2]]]) g2
  have g3:W[V.length]? =some (Ob.row 3 [[z0,z1,z2]]):=by rw[hV];exact get_end
  rw[←hV]at g0 g1 g2
  clear hV
  refine wc_rcut (fun a V=>V=W∧a.length=136∧a[6]? =some (.loc 0 0 0)∧a[7]? =some (.loc 1 0 0)∧a[13]? =some (.loc 2 0 0)∧a[14]? =some (.sl 1 (cs.map Cnd.encT) cx)∧a[19]? =some (.int .i64 ea)) ?_ ?_
  ·cases e1:decide (f.rou=0)
   ·cases b22
    ·simp(maxSteps:=1000000)(disch:=omega)only[push_cast,decide_not,decide_eq_true_eq,decide_eq_false_iff_not,bne_eq_false_iff_eq,beq_eq_false_iff_ne,gt_iff_lt,ne_eq,not_true_eq_false,not_false_eq_true,hal,h6,h7,h13,h14,h19,h20,g2,g3,ha22,e1,Bool.not_false,false_and,false_or,or_false,true_and,Tryz.f33,↓WX,simprocAttr]
     exact⟨_,rfl⟩
    ·simp(maxSteps:=1000000)(disch:=omega)only[push_cast,decide_not,decide_eq_true_eq,decide_eq_false_iff_not,bne_eq_false_iff_eq,beq_eq_false_iff_ne,gt_iff_lt,ne_eq,not_true_eq_false,not_false_eq_true,hal,h6,h7,h13,h14,h19,h20,g2,g3,ha22,e1,Bool.not_false,Bool.not_true,false_and,false_or,or_false,true_and,↓WX,simprocAttr]
   ·simp(maxSteps:=1000000)(disch:=omega)only[push_cast,decide_not,decide_eq_true_eq,decide_eq_false_iff_not,bne_eq_false_iff_eq,beq_eq_false_iff_ne,gt_iff_lt,ne_eq,not_true_eq_false,not_false_eq_true,hal,h6,h7,h13,h14,h19,h20,g2,e1,Bool.not_true,false_and,false_or,or_false,true_and,↓WX,simprocAttr]
  clear hal h6 h7 h13 h14 h19 h20 a
  rintro a V ⟨rfl,hal,h6,h7,h13,h14,h19⟩
  refine wc_rcut (fun a W=>(W=V∧∃e:Int,a[19]? =some (.int .i64 e))∧a.length=136∧a[7]? =some (.loc 1 0 0)) ?_ ?_
  ·cases e1:decide (mi>0)
   ·simp(maxSteps:=1000000)(disch:=omega)only[push_cast,decide_not,decide_eq_true_eq,decide_eq_false_iff_not,bne_eq_false_iff_eq,beq_eq_false_iff_ne,gt_iff_lt,ne_eq,not_true_eq_false,not_false_eq_true,hal,h6,h7,h13,h14,h19,g1,g2,hfmf,e1,false_and,false_or,or_false,true_and,↓WX,simprocAttr]
    exact⟨_,rfl⟩
   ·simp(maxSteps:=1000000)(disch:=omega)only[push_cast,decide_not,decide_eq_true_eq,decide_eq_false_iff_not,bne_eq_false_iff_eq,beq_eq_false_iff_ne,gt_iff_lt,ne_eq,not_true_eq_false,not_false_eq_true,hal,h6,h7,h13,h14,h19,g0,g1,g2,hfmf,hfo,e1,false_and,false_or,or_false,true_and,↓WX,simprocAttr]
    exact⟨_,rfl⟩
  clear hal h6 h7 h13 h14 h19 a
  rintro a W ⟨⟨rfl,e,h19⟩,hal,h7⟩
  simp(maxSteps:=1000000)(disch:=omega)only[push_cast,decide_not,decide_eq_true_eq,decide_eq_false_iff_not,bne_eq_false_iff_eq,beq_eq_false_iff_ne,gt_iff_lt,ne_eq,not_true_eq_false,not_false_eq_true,hal,h7,h19,Tryz.f33,↓WX,simprocAttr]
  exact⟨_,rfl⟩
 obtain⟨_,T,ho,e,rfl⟩:=this
 exact⟨e,fun st S=>callD_pure rfl (by simp only[pureL_cons,pureL_nil,D.pure,Wnts_pure,Bool.and_true]at hp hpt ⊢;rw[Bool.and_eq_true];exact⟨hp,hpt⟩) ho rfl⟩
end
end Go.Proofs.YtaklebjoenophaaGreat.Dm
