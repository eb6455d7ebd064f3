/-
  The reference's timetables: the check of flights, the flight of a day, the legs of a day; some answer.
  The reference's legs of a day: some list, in the order of an insertion.
-/
import Derived.Test.YtkemehicndccmaaGreatDoorFlB
set_option linter.unusedSimpArgs false
set_option linter.unusedVariables false
namespace Go.Proofs.YtkemehicndccmaaGreatDoor.Dm
open Go Gw
set_option linter.unusedSimpArgs false
set_option linter.unusedSimpArgs false
def fligT:ByteArray:=ByteArray.mk #[102,108,105,103,104,116,32]
section
variable {n : Nat}
set_option maxHeartbeats 2000000 in
theorem meets08_c (hn:1100≤n) {f g:Flt} (hf:FltB f) (hg:FltB g):∃b,∀st S,callD E (dcall E n) st S 35 [.agg f.enc,.agg g.enc]=some (.bool b,S):=by
 obtain⟨m,rfl⟩:∃m,n=m+1:=⟨n-1,by omega⟩
 have hp:pureL [.agg f.enc,.agg g.enc]=true:=by simp only[pureL_cons,pureL_nil,D.pure,Flt_pure,Bool.and_self]
 obtain⟨x,y,z,b,cm⟩:=Meet04_c (n:=m) (d:=f.pd) (d':=g.pd) (by omega) hf.pf hf.pt hg.pf hg.pt
 obtain⟨car,num,pf,pt,pd,ls,lx⟩:=f
 obtain⟨car',num',pf',pt',pd',ls',lx'⟩:=g
 dsimp only at cm
 simp only[Flt.enc]at hp ⊢
 clear hf hg
 generalize ls.map Lg7.enc=le at*
 generalize ls'.map Lg7.enc=le' at*
 have:WO (dcall E (m+1) 35 [.agg [.str car,.int .i64 num,.int .i64 pf,.int .i64 pt,.int .i64 pd,.sl 5 le lx],.agg [.str car',.int .i64 num',.int .i64 pf',.int .i64 pt',.int .i64 pd',.sl 5 le' lx']] []) fun r T=>∃b,r=.bool b:=by
  refine wo_dcall Tryz.func35 rfl (by decide) rfl 30 rfl (fun a hal ha=>?_)
  have h0:a[0]? =some (.agg [.str car,.int .i64 num,.int .i64 pf,.int .i64 pt,.int .i64 pd,.sl 5 le lx]):=ha 0 (by simp)
  have h1:a[1]? =some (.agg [.str car',.int .i64 num',.int .i64 pf',.int .i64 pt',.int .i64 pd',.sl 5 le' lx']):=ha 1 (by simp)
  clear ha
  by_cases q1:car=car'
  case neg=>
   simp(maxSteps:=1000000)(disch:=omega)only[push_cast,hal,h0,h1,cm,q1,str_eq,decide_false,Tryz.f35,↓WX,simprocAttr]
   exact⟨_,rfl⟩
  by_cases q2:num=num'
  case neg=>
   simp(maxSteps:=1000000)(disch:=omega)only[push_cast,hal,h0,h1,cm,q1,q2,str_eq,decide_true,decide_false,Tryz.f35,↓WX,simprocAttr]
   exact⟨_,rfl⟩
  simp(maxSteps:=1000000)(disch:=omega)only[push_cast,hal,h0,h1,cm,q1,q2,str_eq,decide_true,Tryz.f35,↓WX,simprocAttr]
  exact⟨_,rfl⟩
 obtain⟨_,T,ho,b,rfl⟩:=this
 exact⟨b,fun st S=>callD_pure rfl hp ho rfl⟩
set_option maxHeartbeats 16000000 in
set_option maxRecDepth 100000 in
theorem Check08_d (hn:1050000≤n) {p:Plc} (hb:PlcB p) {l:List Flt} {lx:Bool} (hl:l.length≤100) (hf:∀f∈l,FltB f):
  WO (dcall E (n+1) 13 [.agg p.enc,.sl 6 (l.map Flt.enc) lx] []) fun d T=>∃fs,GL 2 encF T d fs∧fs.length≤300000∧(∀f∈fs,f.2.size≤60)∧(fs=[]→∀f∈l,f.legs.length≤6):=by
 have cc:=fun f h=>Check07_c (n:=n) (by omega) hb (hf f h)
 simp only[Plc.enc]at cc ⊢
 generalize p.aps.map Apt.enc=ae at*
 generalize p.dts.map Dst.enc=de at*
 refine wo_dcall Tryz.func13 rfl (by decide) rfl 74 rfl (fun a hal ha=>?_)
 have h0:a[0]? =some (.agg [.sl 5 ae p.apsx,.sl 3 de p.dtsx]):=ha 0 (by simp)
 have h1:a[1]? =some (.sl 6 (l.map Flt.enc) lx):=ha 1 (by simp)
 clear ha
 obtain⟨S0,hS0⟩:∃S0,S0=[Ob.row 2 [[.sl 5 ae p.apsx,.sl 3 de p.dtsx]]]:=⟨_,rfl⟩
 have ga:S0[0]? =some (.row 2 [[.sl 5 ae p.apsx,.sl 3 de p.dtsx]]):=by rw[hS0];rfl
 have na:¬FaultOb (.row 2 [[.sl 5 ae p.apsx,.sl 3 de p.dtsx]]):=not_fault2s
 have hft:fligT.size=7:=rfl
 have hs1:(ByteArray.mk #[32]).size=1:=rfl
 refine wc_scut (fun a V=>V=S0∧a.length=74∧a[1]? =some (.sl 6 (l.map Flt.enc) lx)∧a[2]? =some (.loc 0 0 0)) ?_ ?_
 ·simp(maxSteps:=1000000)(disch:=omega)only[push_cast,hal,h0,h1,↓WX,simprocAttr]
  exact hS0.symm
 clear hal h0 h1 a
 rintro a V ⟨rfl,hal,h1,h2⟩
 refine wc_scut (fun a W=>W=V∧a.length=74∧a[1]? =some (.sl 6 (l.map Flt.enc) lx)∧a[2]? =some (.loc 0 0 0)∧a[5]? =some (.nils)) ?_ ?_
 ·simp(maxSteps:=1000000)(disch:=omega)only[push_cast,hal,h1,h2,↓WX,simprocAttr]
 clear hal h1 h2 a
 rintro a W ⟨rfl,hal,h1,h2,h5⟩
 simp(maxSteps:=1000000)(disch:=omega)only[push_cast,↓WX,simprocAttr]
 refine wl_loop (fun i a T=>(KeepF W T∧∃d fs,a[5]? =some d∧GL 2 encF T d fs∧fs.length≤2001*i∧(∀f∈fs,f.2.size≤60)∧(fs=[]→∀j f,j<i→l[j]? =some f→f.legs.length≤6))∧a.length=74∧a[1]? =some (.sl 6 (l.map Flt.enc) lx)∧a[2]? =some (.loc 0 0 0)∧a[6]? =some (.int .i64 i)) l.length ?_ (by omega) ?_
 ·simp(maxSteps:=1000000)(disch:=omega)only[push_cast,hal,h1,h2,h5,Int.natCast_zero,simprocAttr]
  exact⟨KeepF.refl,_,[],rfl,GL.nil,by simp,(fun f h=>by cases h),fun _ j f h=>by omega⟩
 clear hal h1 h2 h5 a
 rintro i a T hi ⟨⟨k1,d,fs,h5,g1,l1,z1,ne1⟩,hal,h1,h2,h6⟩
 have va:=k1 _ _ na ga
 rcases Nat.lt_or_eq_of_le hi with hlt |rfl
 case inr=>
  simp(maxSteps:=1000000)(disch:=omega)only[push_cast,hal,h1,h5,h6,Int.lt_irrefl,Tryz.f13,↓WX,simprocAttr]
  refine⟨_,g1,by omega,z1,fun h f hf=>?_⟩
  obtain⟨j,hj⟩:=List.getElem?_of_mem hf
  exact ne1 h j f (List.getElem?_eq_some_iff.1 hj).1 hj
 obtain⟨x,hx⟩:∃x,l[i]? =some x:=⟨l[i],by simp⟩
 have hltc:(i:Int)<l.length:=by omega
 obtain⟨q,hq,cq⟩:=Wb.rdecW (n:=n) (i:=i) (by omega) (by omega)
 have mq:=mx_of (a:=fligT) (b:=q) (by omega)
 have hat:(fligT++q).size≤20:=by rw[ba_len];omega
 have hxm:=List.mem_of_getElem? hx
 obtain⟨dc,gs,hdc,hgl,hgz,hgn,ccx⟩:=cc x hxm
 have hxb:=hf x hxm
 have hxe:Flt.enc x=[.str x.car,.int .i64 x.num,.int .i64 x.pf,.int .i64 x.pt,.int .i64 x.pd,.sl 5 (x.legs.map Lg7.enc) x.lx]:=rfl
 have ccx':=ccx
 rw[hxe]at ccx
 refine wc_scut (fun a V=>V=T∧a.length=74∧a[1]? =some (.sl 6 (l.map Flt.enc) lx)∧a[2]? =some (.loc 0 0 0)∧a[5]? =some (d)∧a[6]? =some (.int .i64 i)) ?_ ?_
 ·simp(maxSteps:=1000000)(disch:=omega)only[push_cast,hal,h1,h2,h5,h6,hltc,↓WX,simprocAttr]
 clear hal h1 h2 h5 h6 a
 rintro a V' ⟨rfl,hal,h1,h2,h5,h6⟩
 rw[wc_seq,wc_block]
 refine wc_scut (fun a W=>W=V'∧a.length=74∧a[1]? =some (.sl 6 (l.map Flt.enc) lx)∧a[2]? =some (.loc 0 0 0)∧a[5]? =some (d)∧a[6]? =some (.int .i64 i)∧a[7]? =some (.str (fligT++q))) ?_ ?_
 ·unfold fligT at mq ⊢
  simp(maxSteps:=1000000)(disch:=omega)only[push_cast,gt_iff_lt,hal,h1,h2,h5,h6,cq,mq,↓WX,simprocAttr]
 clear hal h1 h2 h5 h6 a
 clear mq
 generalize fligT++q=at0 at*
 rintro a W' ⟨rfl,hal,h1,h2,h5,h6,h7⟩
 refine wc_scut (fun a X=>X=W'∧a.length=74∧a[1]? =some (.sl 6 (l.map Flt.enc) lx)∧a[2]? =some (.loc 0 0 0)∧a[5]? =some (d)∧a[6]? =some (.int .i64 i)∧a[7]? =some (.str at0)∧a[8]? =some (dc)) ?_ ?_
 ·simp(maxSteps:=1000000)(disch:=omega)only[push_cast,hal,h1,h2,h5,h6,h7,va,hx,hxe,ccx,↓WX,simprocAttr]
 clear hal h1 h2 h5 h6 h7 a
 rintro a X ⟨rfl,hal,h1,h2,h5,h6,h7,h8⟩
 have m1:=mx_of (a:=at0) (b:=ByteArray.mk #[32]) (by omega)
 refine wc_scut (fun a Y=>(KeepF W Y∧∃d fs2,a[5]? =some d∧GL 2 encF Y d fs2∧fs2.length=fs.length+gs.length∧(∀f∈fs2,f.2.size≤60))∧a.length=74∧a[1]? =some (.sl 6 (l.map Flt.enc) lx)∧a[2]? =some (.loc 0 0 0)∧a[6]? =some (.int .i64 i)∧a[7]? =some (.str at0)) ?_ ?_
 ·rcases hdc with ⟨rfl,rfl⟩ | ⟨y,rfl⟩
  ·simp(maxSteps:=1000000)(disch:=omega)only[push_cast,↓WX,simprocAttr]
   refine wl_loop (fun k a T=>(k=0∧T=X)∧a.length=74∧a[1]? =some (.sl 6 (l.map Flt.enc) lx)∧a[2]? =some (.loc 0 0 0)∧a[5]? =some (d)∧a[6]? =some (.int .i64 i)∧a[7]? =some (.str at0)∧a[8]? =some (.nils)∧a[9]? =some (.int .i64 0)) 0 ?_ (by omega) ?_
   ·simp(maxSteps:=1000000)(disch:=omega)only[push_cast,hal,h1,h2,h5,h6,h7,h8,simprocAttr]
   clear hal h1 h2 h5 h6 h7 h8 a
   rintro k a T hk ⟨⟨rfl,rfl⟩,hal,h1,h2,h5,h6,h7,h8,h9⟩
   simp(maxSteps:=1000000)(disch:=omega)only[push_cast,hal,h1,h2,h5,h6,h7,h8,h9,Int.lt_irrefl,↓WX,simprocAttr]
   exact⟨k1,_,_,rfl,g1,by simp,z1⟩
  ·simp(maxSteps:=1000000)(disch:=omega)only[push_cast,↓WX,simprocAttr]
   refine wl_loop (fun k a T=>(KeepF W T∧∃d fs2,a[5]? =some d∧GL 2 encF T d fs2∧fs2.length=fs.length+k∧(∀f∈fs2,f.2.size≤60))∧a.length=74∧a[1]? =some (.sl 6 (l.map Flt.enc) lx)∧a[2]? =some (.loc 0 0 0)∧a[6]? =some (.int .i64 i)∧a[7]? =some (.str at0)∧a[8]? =some (.sl 2 (gs.map encF) y)∧a[9]? =some (.int .i64 k)) gs.length ?_ (by omega) ?_
   ·simp(maxSteps:=1000000)(disch:=omega)only[push_cast,hal,h1,h2,h5,h6,h7,h8,Int.natCast_zero,simprocAttr]
    exact⟨k1,_,_,rfl,g1,by simp,z1⟩
   clear hal h1 h2 h5 h6 h7 h8 a
   rintro k a T hk ⟨⟨k2,d2,fs2,h5,g2,l2,z2⟩,hal,h1,h2,h6,h7,h8,h9⟩
   rcases Nat.lt_or_eq_of_le hk with hkt |rfl
   case inr=>
    simp(maxSteps:=1000000)(disch:=omega)only[push_cast,hal,h1,h2,h5,h6,h7,h8,h9,Int.lt_irrefl,↓WX,simprocAttr]
    exact⟨k2,_,_,rfl,g2,l2,z2⟩
   obtain⟨u,hu⟩:∃u,gs[k]? =some u:=⟨gs[k],by simp⟩
   have huz:=hgz u (List.mem_of_getElem? hu)
   have hktc:(k:Int)<gs.length:=by omega
   have m2:=mx_of (a:=at0++ByteArray.mk #[32]) (b:=u.2) (by rw[ba_len];omega)
   obtain⟨d3,T3,fs3,p3,g3,l3,z3,k3⟩:=app_t g2 (by omega) z2 u.1 (at0++ByteArray.mk #[32]++u.2) (by rw[ba_len,ba_len];omega)
   simp(maxSteps:=1000000)(disch:=omega)only[push_cast,gt_iff_lt,hal,h1,h2,h5,h6,h7,h8,h9,hktc,hkt,hu,m1,m2,p3,encF,wrap_ok,Int.natCast_add,Int.natCast_one,↓WX,simprocAttr]
   exact⟨k2.trans k3,_,_,rfl,g3,by omega,z3⟩
 clear hal h1 h2 h5 h6 h7 h8 a
 rintro a Y ⟨⟨k2,d2,fs2,h5,g2,l2,z2⟩,hal,h1,h2,h6,h7⟩
 have ne2:fs2=[]→∀j f,j<i+1→l[j]? =some f→f.legs.length≤6:=fun h j f hj hjf=>by
  rw[h]at l2
  simp only[List.length_nil]at l2
  rcases Nat.lt_or_eq_of_le (Nat.le_of_lt_succ hj) with h' |rfl
  ·exact ne1 (List.eq_nil_of_length_eq_zero (by omega)) j f h' hjf
  ·rw[hx]at hjf
   cases hjf
   exact hgn (List.eq_nil_of_length_eq_zero (by omega))
 refine wc_scut (fun a Z=>Z=Y∧a.length=74∧a[1]? =some (.sl 6 (l.map Flt.enc) lx)∧a[2]? =some (.loc 0 0 0)∧a[5]? =some (d2)∧a[6]? =some (.int .i64 i)∧a[7]? =some (.str at0)∧a[10]? =some (.bool false)) ?_ ?_
 ·simp(maxSteps:=1000000)(disch:=omega)only[push_cast,hal,h1,h2,h5,h6,h7,↓WX,simprocAttr]
 clear hal h1 h2 h5 h6 h7 a
 rintro a Z ⟨rfl,hal,h1,h2,h5,h6,h7,h10⟩
 refine wc_scut (fun a V=>(V=Z∧∃b,a[10]? =some (.bool b))∧a.length=74∧a[1]? =some (.sl 6 (l.map Flt.enc) lx)∧a[2]? =some (.loc 0 0 0)∧a[5]? =some (d2)∧a[6]? =some (.int .i64 i)∧a[7]? =some (.str at0)) ?_ ?_
 ·simp(maxSteps:=1000000)(disch:=omega)only[push_cast,↓WX,simprocAttr]
  refine wl_loop (fun k a V=>(V=Z∧∃b,a[10]? =some (.bool b))∧a.length=74∧a[1]? =some (.sl 6 (l.map Flt.enc) lx)∧a[2]? =some (.loc 0 0 0)∧a[5]? =some (d2)∧a[6]? =some (.int .i64 i)∧a[7]? =some (.str at0)∧a[11]? =some (.int .i64 k)) i ?_ (by omega) ?_
  ·simp(maxSteps:=1000000)(disch:=omega)only[push_cast,hal,h1,h2,h5,h6,h7,h10,Int.natCast_zero,simprocAttr]
   exact⟨_,rfl⟩
  clear hal h1 h2 h5 h6 h7 h10 a
  rintro k a V hk ⟨⟨rfl,b,h10⟩,hal,h1,h2,h5,h6,h7,h11⟩
  rcases Nat.lt_or_eq_of_le hk with hkt |rfl
  case inr=>
   simp(maxSteps:=1000000)(disch:=omega)only[push_cast,hal,h1,h2,h5,h6,h7,h10,h11,Int.lt_irrefl,↓WX,simprocAttr]
   exact⟨_,rfl⟩
  obtain⟨y,hy⟩:∃y,l[k]? =some y:=⟨l[k]'(by omega),by simp⟩
  have hktc:(k:Int)<i:=by omega
  have hkl:k<l.length:=by omega
  have hye:Flt.enc y=[.str y.car,.int .i64 y.num,.int .i64 y.pf,.int .i64 y.pt,.int .i64 y.pd,.sl 5 (y.legs.map Lg7.enc) y.lx]:=rfl
  obtain⟨bm,cm⟩:=meets08_c (n:=n) (by omega) (hf y (List.mem_of_getElem? hy)) hxb
  rw[hxe,hye]at cm
  cases b
  ·simp(maxSteps:=1000000)(disch:=omega)only[push_cast,hal,h1,h2,h5,h6,h7,h10,h11,hktc,hkt,hx,hy,hxe,hye,cm,wrap_ok,Int.natCast_add,Int.natCast_one,↓WX,simprocAttr]
   exact⟨_,rfl⟩
  ·simp(maxSteps:=1000000)(disch:=omega)only[push_cast,hal,h1,h2,h5,h6,h7,h10,h11,hktc,hkt,wrap_ok,Int.natCast_add,Int.natCast_one,↓WX,simprocAttr]
   exact⟨_,rfl⟩
 clear hal h1 h2 h5 h6 h7 h10 a
 rintro a V ⟨⟨rfl,b,h10⟩,hal,h1,h2,h5,h6,h7⟩
 obtain⟨d3,T3,fs3,p3,g3,l3,z3,k3⟩:=app_t g2 (by omega) z2 6 at0 (by omega)
 cases b
 ·simp(maxSteps:=1000000)(disch:=omega)only[push_cast,hal,h1,h2,h5,h6,h10,hlt,wrap_ok,Int.natCast_add,Int.natCast_one,↓WX,simprocAttr]
  exact⟨k2,_,_,rfl,g2,by omega,z2,ne2⟩
 ·simp(maxSteps:=1000000)(disch:=omega)only[push_cast,hal,h1,h2,h5,h6,h7,h10,p3,hlt,wrap_ok,Int.natCast_add,Int.natCast_one,↓WX,simprocAttr]
  exact⟨k2.trans k3,_,_,rfl,g3,by omega,z3,fun h=>by rw[h]at l3;simp at l3⟩
theorem Check08_c (hn:1050001≤n) {p:Plc} (hb:PlcB p) {l:List Flt} {lx:Bool} (hl:l.length≤100) (hf:∀f∈l,FltB f):∃d fs,FZ d fs∧fs.length≤300000∧(fs=[]→∀f∈l,f.legs.length≤6)∧∀st S,callD E (dcall E n) st S 13 [.agg p.enc,.sl 6 (l.map Flt.enc) lx]=some (d,S):=by
 obtain⟨m,rfl⟩:∃m,n=m+1:=⟨n-1,by omega⟩
 obtain⟨d,T,ho,fs,hg,h1,h2,h3⟩:=Check08_d (n:=m) (lx:=lx) (by omega) hb hl hf
 obtain⟨d',f',hf'⟩:=GL_fz hg
 exact⟨d',fs,hf',h1,h3,fun st S=>callD_pure rfl (by simp only[pureL_cons,pureL_nil,D.pure,Plc_pure,Flts_pure,Bool.and_self]) ho f'⟩
def onD:Option Flt→List D
 |some f=>f.enc
 |none=>[.str (ByteArray.mk #[]),.int .i64 0,.int .i64 0,.int .i64 0,.int .i64 0,.nils]
set_option maxHeartbeats 4000000 in
set_option maxRecDepth 100000 in
theorem On08_c (hn:1000≤n) {l:List Flt} {lx:Bool} (hl:l.length≤100) (hf:∀f∈l,FltB f) (s:ByteArray) (k x:Int):∃o:Option Flt,(∀f,o=some f→f∈l)∧∀st S,callD E (dcall E n) st S 120 [.sl 6 (l.map Flt.enc) lx,.str s,.int .i64 k,.int .i64 x]=some (.tup [.agg (onD o),.bool o.isSome],S):=by
 obtain⟨m,rfl⟩:∃m,n=m+1:=⟨n-1,by omega⟩
 have hp:pureL [.sl 6 (l.map Flt.enc) lx,.str s,.int .i64 k,.int .i64 x]=true:=by simp only[pureL_cons,pureL_nil,D.pure,Flts_pure,Bool.and_self]
 have:WO (dcall E (m+1) 120 [.sl 6 (l.map Flt.enc) lx,.str s,.int .i64 k,.int .i64 x] []) fun r T=>∃o:Option Flt,(∀f,o=some f→f∈l)∧r=.tup [.agg (onD o),.bool o.isSome]:=by
  refine wo_dcall Tryz.func120 rfl (by decide) rfl 47 rfl (fun a hal ha=>?_)
  have h0:a[0]? =some (.sl 6 (l.map Flt.enc) lx):=ha 0 (by simp)
  have h1:a[1]? =some (.str s):=ha 1 (by simp)
  have h2:a[2]? =some (.int .i64 k):=ha 2 (by simp)
  have h3:a[3]? =some (.int .i64 x):=ha 3 (by simp)
  clear ha
  simp(maxSteps:=1000000)(disch:=omega)only[push_cast,↓WX,simprocAttr]
  refine wl_loop (fun i a T=>T=[Ob.row 6 [[.str (ByteArray.mk #[]),.int .i64 0,.int .i64 0,.int .i64 0,.int .i64 0,.nils]]]∧a.length=47∧a[0]? =some (.sl 6 (l.map Flt.enc) lx)∧a[1]? =some (.str s)∧a[2]? =some (.int .i64 k)∧a[3]? =some (.int .i64 x)∧a[8]? =some (.loc 0 0 0)∧a[10]? =some (.int .i64 i)) l.length ?_ (by omega) ?_
  ·simp(maxSteps:=1000000)(disch:=omega)only[push_cast,hal,h0,h1,h2,h3,Int.natCast_zero,simprocAttr]
  clear hal h0 h1 h2 h3 a
  rintro i a T hi ⟨rfl,hal,h0,h1,h2,h3,h8,h10⟩
  rcases Nat.lt_or_eq_of_le hi with hlt |rfl
  case inr=>
   simp(maxSteps:=1000000)(disch:=omega)only[push_cast,hal,h0,h8,h10,Int.lt_irrefl,Tryz.f120,↓WX,simprocAttr]
   exact⟨none,by simp,rfl⟩
  obtain⟨y,hy⟩:∃y,l[i]? =some y:=⟨l[i],by simp⟩
  have hym:=List.mem_of_getElem? hy
  have hltc:(i:Int)<l.length:=by omega
  have hyb:=hf y hym
  obtain⟨b,ch⟩:=Has04_c (n:=m) (by omega) y.pf y.pt y.pd hyb.pf hyb.pt x
  have hye:Flt.enc y=[.str y.car,.int .i64 y.num,.int .i64 y.pf,.int .i64 y.pt,.int .i64 y.pd,.sl 5 (y.legs.map Lg7.enc) y.lx]:=rfl
  by_cases q1:y.car=s
  case neg=>simp(maxSteps:=1000000)(disch:=omega)only[push_cast,hal,h0,h1,h2,h3,h8,h10,hltc,hlt,hy,hye,q1,str_eq,decide_false,wrap_ok,Int.natCast_add,Int.natCast_one,↓WX,simprocAttr]
  by_cases q2:y.num=k
  case neg=>simp(maxSteps:=1000000)(disch:=omega)only[push_cast,hal,h0,h1,h2,h3,h8,h10,hltc,hlt,hy,hye,q1,q2,str_eq,decide_true,decide_false,wrap_ok,Int.natCast_add,Int.natCast_one,↓WX,simprocAttr]
  cases b
  ·simp(maxSteps:=1000000)(disch:=omega)only[push_cast,hal,h0,h1,h2,h3,h8,h10,hltc,hlt,hy,hye,q1,q2,ch,str_eq,decide_true,wrap_ok,Int.natCast_add,Int.natCast_one,↓WX,simprocAttr]
  ·simp(maxSteps:=1000000)(disch:=omega)only[push_cast,hal,h0,h1,h2,h3,h8,h10,hltc,hy,hye,q1,q2,ch,str_eq,decide_true,Tryz.f120,↓WX,simprocAttr]
   exact⟨some y,fun f h=>by cases h;exact hym,by rw[onD,hye];simp[q1,q2]⟩
 obtain⟨_,T,ho,o,h1,rfl⟩:=this
 refine⟨o,h1,fun st S=>callD_pure rfl hp ho (freeze_pure ?_)⟩
 cases o with
 |none=>rfl
 |some f=>simp only[D.pure,pureL_cons,pureL_nil,onD,Flt_pure,Bool.and_self]
end
end Go.Proofs.YtkemehicndccmaaGreatDoor.Dm
namespace Go.Proofs.YtkemehicndccmaaGreatDoor.Dm
open Go Gw
set_option linter.unusedSimpArgs false
set_option linter.unusedSimpArgs false
theorem Dtd_pure (x:Dtd):pureL x.enc=true:=rfl
theorem el_dtd:elemT Tryz.prog 46=some 53:=by kernel_rfl
theorem sz_dtd:sizeT Tryz.prog 53=some 8:=by kernel_rfl
theorem ze_dtd:zeroT Tryz.prog 53=some (.agg [.str (ByteArray.mk #[]),.int .i64 0,.int .i64 0,.str (ByteArray.mk #[]),.str (ByteArray.mk #[]),.int .i64 0,.int .i64 0,.str (ByteArray.mk #[])]):=by kernel_rfl
theorem app_dtds {T:List Ob} {d x:D} {l r:List Dtd} (h:GL 8 Dtd.enc T d l) (hx:srcOf T 8 x=some (r.map Dtd.enc)) (hl:l.length+r.length≤1000000000):
  ∃d' T',dAppend Tryz.prog T 46 46 d x=some (d',T')∧GL 8 Dtd.enc T' d' (l++r)∧KeepN 8 T T'∧(d=.nils→ExtS T T'):=
 app_glsB el_dtd sz_dtd ze_dtd rfl (Nat.le_trans (Nat.mul_le_mul (show l.length+r.length≤1000000000 by omega) by_dtd) (by decide)) (by unfold maxLen;omega) h hx
theorem src_take {T:List Ob} {l:List Dtd} {k:Nat} {z:Bool}:srcOf T 8 (.sl 8 ((l.map Dtd.enc).take k) z)=some ((l.take k).map Dtd.enc):=by
 simp[srcOf,List.map_take]
theorem src_drop {T:List Ob} {l:List Dtd} {k:Nat} {z:Bool}:srcOf T 8 (.sl 8 (((l.map Dtd.enc).drop k).take (l.length-k)) z)=some ((l.drop k).map Dtd.enc):=by
 have:((l.map Dtd.enc).drop k).take (l.length-k)=(l.map Dtd.enc).drop k:=List.take_of_length_le (by simp)
 rw[this]
 simp[srcOf,List.map_drop]
section
variable {n : Nat}
set_option maxHeartbeats 2000000 in
theorem before08_c (hn:1≤n) (x y:Dtd):∃b,∀st S,callD E (dcall E n) st S 113 [.agg x.enc,.agg y.enc]=some (.bool b,S):=by
 obtain⟨m,rfl⟩:∃m,n=m+1:=⟨n-1,by omega⟩
 have hp:pureL [.agg x.enc,.agg y.enc]=true:=rfl
 simp only[Dtd.enc]at hp ⊢
 have:WO (dcall E (m+1) 113 [.agg [.str x.car,.int .i64 x.num,.int .i64 x.day,.str x.frm,.str x.dst,.int .i64 x.dep,.int .i64 x.arr,.str x.eqp],.agg [.str y.car,.int .i64 y.num,.int .i64 y.day,.str y.frm,.str y.dst,.int .i64 y.dep,.int .i64 y.arr,.str y.eqp]] []) fun r T=>∃b,r=.bool b:=by
  refine wo_dcall Tryz.func113 rfl (by decide) rfl 30 rfl (fun a hal ha=>?_)
  have h0:a[0]? =some (.agg [.str x.car,.int .i64 x.num,.int .i64 x.day,.str x.frm,.str x.dst,.int .i64 x.dep,.int .i64 x.arr,.str x.eqp]):=ha 0 (by simp)
  have h1:a[1]? =some (.agg [.str y.car,.int .i64 y.num,.int .i64 y.day,.str y.frm,.str y.dst,.int .i64 y.dep,.int .i64 y.arr,.str y.eqp]):=ha 1 (by simp)
  clear ha
  by_cases q1:x.dep=y.dep
  case neg=>
   simp(maxSteps:=1000000)(disch:=omega)only[push_cast,not_false_eq_true,hal,h0,h1,q1,Tryz.f113,↓WX,simprocAttr]
   exact⟨_,rfl⟩
  by_cases q2:x.car=y.car
  case neg=>
   simp(maxSteps:=1000000)(disch:=omega)only[push_cast,not_true_eq_false,hal,h0,h1,q1,q2,str_eq,decide_false,Bool.not_false,Tryz.f113,↓WX,simprocAttr]
   exact⟨_,rfl⟩
  simp(maxSteps:=1000000)(disch:=omega)only[push_cast,not_true_eq_false,hal,h0,h1,q1,q2,str_eq,decide_true,Bool.not_true,Tryz.f113,↓WX,simprocAttr]
  exact⟨_,rfl⟩
 obtain⟨_,T,ho,b,rfl⟩:=this
 exact⟨b,fun st S=>callD_pure rfl hp ho rfl⟩
set_option maxHeartbeats 8000000 in
set_option maxRecDepth 100000 in
theorem insert08_d (hn:1000000≤n) {d:D} {l:List Dtd} (hd:FLs 8 Dtd.enc d l) (hl:l.length≤900000) (x:Dtd):WO (dcall E (n+1) 66 [d,.agg x.enc] []) fun r T=>∃l',GL 8 Dtd.enc T r l'∧l'.length=l.length+1∧∀y∈l',y∈l∨y=x:=by
 have hxe:Dtd.enc x=[.str x.car,.int .i64 x.num,.int .i64 x.day,.str x.frm,.str x.dst,.int .i64 x.dep,.int .i64 x.arr,.str x.eqp]:=rfl
 have cb:=fun y=>before08_c (n:=n) (by omega) x y
 simp only[Dtd.enc]at cb ⊢
 refine wo_dcall Tryz.func66 rfl (by decide) rfl 36 rfl (fun a hal ha=>?_)
 have h0:a[0]? =some (d):=ha 0 (by simp)
 have h1:a[1]? =some (.agg [.str x.car,.int .i64 x.num,.int .i64 x.day,.str x.frm,.str x.dst,.int .i64 x.dep,.int .i64 x.arr,.str x.eqp]):=ha 1 (by simp)
 clear ha
 obtain⟨S0,hS0⟩:∃S0,S0=[Ob.row 8 [[.str x.car,.int .i64 x.num,.int .i64 x.day,.str x.frm,.str x.dst,.int .i64 x.dep,.int .i64 x.arr,.str x.eqp]]]:=⟨_,rfl⟩
 have g0:S0[0]? =some (.row 8 [[.str x.car,.int .i64 x.num,.int .i64 x.day,.str x.frm,.str x.dst,.int .i64 x.dep,.int .i64 x.arr,.str x.eqp]]):=by rw[hS0];rfl
 have gn:GL 8 Dtd.enc S0 .nils []:=GL.nil
 rcases hd with ⟨rfl,rfl⟩ | ⟨y,rfl⟩
 ·obtain⟨d2,T2,p2,g2,k2⟩:=app_dtd gn (by simp) x
  have p1:dAppend Tryz.prog S0 46 46 .nils .nils=some (.nils,S0):=by
   have h1:=el_dtd
   have h2:=sz_dtd
   have h3:=ze_dtd
   have h4:(D.agg [.str (ByteArray.mk #[]),.int .i64 0,.int .i64 0,.str (ByteArray.mk #[]),.str (ByteArray.mk #[]),.int .i64 0,.int .i64 0,.str (ByteArray.mk #[])]).cells.length=8:=rfl
   simp only[dAppend,h1,h2,h3,h4,srcOf,List.length_nil,↓reduceIte]
  obtain⟨d3,T3,p3,g3,-,-⟩:=app_dtds (x:=.nils) (r:=[]) g2 rfl (by simp)
  refine wc_scut (fun a V=>V=S0∧a.length=36∧a[0]? =some (.nils)∧a[3]? =some (.loc 0 0 0)) ?_ ?_
  ·simp(maxSteps:=1000000)(disch:=omega)only[push_cast,hal,h0,h1,↓WX,simprocAttr]
   exact hS0.symm
  clear hal h0 h1 a
  rintro a V ⟨rfl,hal,h0,h3⟩
  refine wc_scut (fun a W=>W=V∧a.length=36∧a[0]? =some (.nils)∧a[3]? =some (.loc 0 0 0)∧a[5]? =some (.int .i64 0)) ?_ ?_
  ·simp(maxSteps:=1000000)(disch:=omega)only[push_cast,hal,h0,h3,↓WX,simprocAttr]
  clear hal h0 h3 a
  rintro a W ⟨rfl,hal,h0,h3,h5⟩
  refine wc_scut (fun a V=>V=W∧a.length=36∧a[0]? =some (.nils)∧a[3]? =some (.loc 0 0 0)∧a[5]? =some (.int .i64 0)) ?_ ?_
  ·simp(maxSteps:=1000000)(disch:=omega)only[push_cast,↓WX]
   refine wl_loop (fun i a T=>(i=0∧T=W)∧a.length=36∧a[0]? =some (.nils)∧a[3]? =some (.loc 0 0 0)∧a[5]? =some (.int .i64 0)) 0 ?_ (by omega) ?_
   ·simp(maxSteps:=1000000)(disch:=omega)only[push_cast,hal,h0,h3,h5]
   clear hal h0 h3 h5 a
   rintro i a T hi ⟨⟨rfl,rfl⟩,hal,h0,h3,h5⟩
   simp(maxSteps:=1000000)(disch:=omega)only[push_cast,gt_iff_lt,hal,h0,h3,h5,Int.lt_irrefl,↓WX,simprocAttr]
  clear hal h0 h3 h5 a
  rintro a V ⟨rfl,hal,h0,h3,h5⟩
  simp(maxSteps:=1000000)(disch:=omega)only[push_cast,hal,h0,h3,h5,g0,p1,p2,p3,Nat.le_refl,and_self,Tryz.f66,↓WX,simprocAttr]
  exact⟨_,g3,by simp,by simp⟩
 refine wc_scut (fun a V=>V=S0∧a.length=36∧a[0]? =some (.sl 8 (l.map Dtd.enc) y)∧a[3]? =some (.loc 0 0 0)) ?_ ?_
 ·simp(maxSteps:=1000000)(disch:=omega)only[push_cast,hal,h0,h1,↓WX,simprocAttr]
  exact hS0.symm
 clear hal h0 h1 a
 rintro a V ⟨rfl,hal,h0,h3⟩
 refine wc_scut (fun a W=>W=V∧a.length=36∧a[0]? =some (.sl 8 (l.map Dtd.enc) y)∧a[3]? =some (.loc 0 0 0)∧a[5]? =some (.int .i64 l.length)) ?_ ?_
 ·simp(maxSteps:=1000000)(disch:=omega)only[push_cast,hal,h0,h3,↓WX,simprocAttr]
 clear hal h0 h3 a
 rintro a W ⟨rfl,hal,h0,h3,h5⟩
 refine wc_scut (fun a V=>V=W∧∃k:Nat,k≤l.length∧a.length=36∧a[0]? =some (.sl 8 (l.map Dtd.enc) y)∧a[3]? =some (.loc 0 0 0)∧a[5]? =some (.int .i64 k)) ?_ ?_
 ·simp(maxSteps:=1000000)(disch:=omega)only[push_cast,↓WX]
  refine wl_loop (fun i a T=>T=W∧∃k:Nat,k+i=l.length∧a.length=36∧a[0]? =some (.sl 8 (l.map Dtd.enc) y)∧a[3]? =some (.loc 0 0 0)∧a[5]? =some (.int .i64 k)) l.length ?_ (by omega) ?_
  ·simp(maxSteps:=1000000)(disch:=omega)only[push_cast,hal,h0,h3,h5]
   exact⟨l.length,rfl,rfl⟩
  clear hal h0 h3 h5 a
  rintro i a T hi ⟨rfl,k,hk,hal,h0,h3,h5⟩
  rcases Nat.eq_zero_or_pos k with hz0 |hpos
  ·have hk0:¬(0:Int)<k:=by omega
   simp(maxSteps:=1000000)(disch:=omega)only[push_cast,gt_iff_lt,hal,h0,h3,h5,hk0,↓WX,simprocAttr]
   exact⟨k,by omega,rfl⟩
  obtain⟨w,hw⟩:∃w,l[k-1]? =some w:=⟨l[k-1]'(by omega),by simp⟩
  obtain⟨b,cbw⟩:=cb w
  have hposc:(0:Int)<k:=by omega
  have q3:IntKind.i64.wrap ((k:Int)-1)=((k-1:Nat):Int):=by rw[wrap_ok (by omega) (by omega)];omega
  have q4:k-1<l.length:=by omega
  have q5:k-1+(i+1)=l.length:=by omega
  obtain⟨j,hj⟩:∃j,j=k-1:=⟨_,rfl⟩
  rw[←hj]at hw q3 q4 q5
  have hlt:i<l.length:=by omega
  cases b
  ·simp(maxSteps:=1000000)(disch:=omega)only[push_cast,gt_iff_lt,hal,h0,h3,h5,g0,hw,hposc,q3,cbw,Dtd.enc,↓WX,simprocAttr]
   exact⟨k,by omega,rfl⟩
  ·simp(maxSteps:=1000000)(disch:=omega)only[push_cast,gt_iff_lt,hal,h0,h3,h5,g0,hw,hposc,q3,cbw,hlt,Dtd.enc,↓WX,simprocAttr]
   exact⟨j,q5,rfl⟩
 clear hal h0 h3 h5 a
 rintro a V ⟨rfl,k,hk,hal,h0,h3,h5⟩
 obtain⟨d1,T1,p1,g1,-,k1⟩:=app_dtds gn (src_take (l:=l) (k:=k) (z:=y && decide (k=l.length))) (by rw[List.length_take];simp;omega)
 obtain⟨d2,T2,p2,g2,k2⟩:=app_dtd g1 (by rw[List.length_append,List.length_take];simp;omega) x
 obtain⟨d3,T3,p3,g3,-,-⟩:=app_dtds g2 (src_drop (l:=l) (k:=k) (z:=y)) (by simp;omega)
 have v1:=k1 rfl _ _ g0
 refine wc_scut (fun a W=>W=V∧a.length=36∧a[0]? =some (.sl 8 (l.map Dtd.enc) y)∧a[3]? =some (.loc 0 0 0)∧a[5]? =some (.int .i64 k)∧a[6]? =some (.nils)) ?_ ?_
 ·simp(maxSteps:=1000000)(disch:=omega)only[push_cast,hal,h0,h3,h5,↓WX,simprocAttr]
 clear hal h0 h3 h5 a
 rintro a W ⟨rfl,hal,h0,h3,h5,h6⟩
 refine wc_scut (fun a T=>T=T1∧a.length=36∧a[0]? =some (.sl 8 (l.map Dtd.enc) y)∧a[3]? =some (.loc 0 0 0)∧a[5]? =some (.int .i64 k)∧a[6]? =some (d1)) ?_ ?_
 ·simp(maxSteps:=1000000)(disch:=omega)only[push_cast,hal,h0,h3,h5,h6,p1,hk,Nat.zero_le,and_self,Nat.sub_zero,List.drop_zero,↓WX,simprocAttr]
 clear hal h0 h3 h5 h6 a
 rintro a T ⟨rfl,hal,h0,h3,h5,h6⟩
 refine wc_scut (fun a U=>U=T2∧a.length=36∧a[0]? =some (.sl 8 (l.map Dtd.enc) y)∧a[5]? =some (.int .i64 k)∧a[6]? =some (d2)) ?_ ?_
 ·simp(maxSteps:=1000000)(disch:=omega)only[push_cast,hal,h0,h3,h5,h6,v1,p2,↓WX,simprocAttr]
 clear hal h0 h3 h5 h6 a
 rintro a U ⟨rfl,hal,h0,h5,h6⟩
 simp(maxSteps:=1000000)(disch:=omega)only[push_cast,hal,h0,h5,h6,p3,hk,Nat.le_refl,and_self,decide_true,Bool.and_true,Tryz.f66,↓WX,simprocAttr]
 refine⟨_,g3,by simp;omega,fun z hz=>?_⟩
 simp only[List.nil_append,List.append_assoc,List.cons_append,List.mem_append,List.mem_cons]at hz
 rcases hz with hz |hz |hz
 ·exact .inl (List.mem_of_mem_take hz)
 ·exact .inr hz
 ·exact .inl (List.mem_of_mem_drop hz)
theorem insert08_c (hn:1000001≤n) {d:D} {l:List Dtd} (hd:FLs 8 Dtd.enc d l) (hl:l.length≤900000) (x:Dtd):∃r l',FLs 8 Dtd.enc r l'∧l'.length=l.length+1∧(∀y∈l',y∈l∨y=x)∧∀st S,callD E (dcall E n) st S 66 [d,.agg x.enc]=some (r,S):=by
 obtain⟨m,rfl⟩:∃m,n=m+1:=⟨n-1,by omega⟩
 have hp:pureL [d,.agg x.enc]=true:=by simp only[pureL_cons,pureL_nil,D.pure,Dtd_pure,hd.pure (Dtds_pure l),Bool.and_self]
 obtain⟨r,T,ho,l',g,h1,h2⟩:=insert08_d (n:=m) (by omega) hd hl x
 obtain⟨r',hr,hf⟩:=g.fls (Dtds_pure l')
 exact⟨r',l',hf,h1,h2,fun st S=>callD_pure rfl hp ho hr⟩
set_option maxHeartbeats 2000000 in
theorem Legs07_c (hn:1048900≤n) {p:Plc} (hb:PlcB p) {f:Flt} (hf:FltB f) (x:Int) (hxb: -9223372036854775808≤x∧x≤9223372036854775807):∃(r:D) (l:List Dtd) (e:Int),FLs 8 Dtd.enc r l∧l.length≤f.legs.length∧(∀y∈l,DtdB y)∧∀st S,callD E (dcall E n) st S 65 [.agg p.enc,.agg f.enc,.int .i64 x]=some (.tup [r,.int .i64 e],S):=by
 obtain⟨m,rfl⟩:∃m,n=m+1:=⟨n-1,by omega⟩
 have hp:pureL [.agg p.enc,.agg f.enc,.int .i64 x]=true:=by simp only[pureL_cons,pureL_nil,D.pure,Plc_pure,Flt_pure,Bool.and_self]
 obtain⟨r,l,hr,hl,hy,cl⟩:=legs07_c (n:=m) (by omega) hb hf x hxb
 obtain⟨b,cb⟩:=Has04_c (n:=m) (by omega) f.pf f.pt f.pd hf.pf hf.pt x
 clear hb hf
 obtain⟨car,num,pf,pt,pd,ls,lx⟩:=f
 dsimp only at cb hl
 have hrp:=hr.pure (Dtds_pure l)
 simp only[Plc.enc,Flt.enc]at cl hp ⊢
 generalize p.aps.map Apt.enc=ae at*
 generalize p.dts.map Dst.enc=de at*
 have hll:ls.length=(ls.map Lg7.enc).length:=by simp
 generalize ls.map Lg7.enc=le at*
 have:WO (dcall E (m+1) 65 [.agg [.sl 5 ae p.apsx,.sl 3 de p.dtsx],.agg [.str car,.int .i64 num,.int .i64 pf,.int .i64 pt,.int .i64 pd,.sl 5 le lx],.int .i64 x] []) fun r' T=>∃e:Int,r'=.tup [.nils,.int .i64 e]∨r'=.tup [r,.int .i64 e]:=by
  refine wo_dcall Tryz.func65 rfl (by decide) rfl 17 rfl (fun a hal ha=>?_)
  have h0:a[0]? =some (.agg [.sl 5 ae p.apsx,.sl 3 de p.dtsx]):=ha 0 (by simp)
  have h1:a[1]? =some (.agg [.str car,.int .i64 num,.int .i64 pf,.int .i64 pt,.int .i64 pd,.sl 5 le lx]):=ha 1 (by simp)
  have h2:a[2]? =some (.int .i64 x):=ha 2 (by simp)
  clear ha
  cases b
  ·simp(maxSteps:=1000000)(disch:=omega)only[push_cast,hal,h0,h1,h2,cb,dUn,Bool.not_false,Tryz.f65,↓WX,simprocAttr]
   exact⟨_,.inl rfl⟩
  ·simp(maxSteps:=1000000)(disch:=omega)only[push_cast,hal,h0,h1,h2,cb,cl,dUn,Bool.not_true,Tryz.f65,↓WX,simprocAttr]
   exact⟨_,.inr rfl⟩
 obtain⟨_,T,ho,e,rfl |rfl⟩:=this
 ·exact⟨.nils,[],e,.inl ⟨rfl,rfl⟩,Nat.zero_le _,(fun y h=>by cases h),fun st S=>callD_pure rfl hp ho rfl⟩
 ·exact⟨r,l,e,hr,by omega,hy,fun st S=>callD_pure rfl hp ho (freeze_pure (by simp only[D.pure,pureL_cons,pureL_nil,hrp,Bool.and_true]))⟩
set_option maxHeartbeats 8000000 in
set_option maxRecDepth 100000 in
theorem Day08_d (hn:1049000≤n) {p:Plc} (hb:PlcB p) {l:List Flt} {lx:Bool} (hl:l.length≤100) (hf:∀f∈l,FltB f) (h6:∀f∈l,f.legs.length≤6) (x:Int) (hxb: -9223372036854775808≤x∧x≤9223372036854775807):WO (dcall E (n+1) 25 [.agg p.enc,.sl 6 (l.map Flt.enc) lx,.int .i64 x] []) fun r T=>∃o,FLs 8 Dtd.enc r o∧o.length≤6*l.length∧∀y∈o,DtdB y:=by
 have cl:=fun f h=>Legs07_c (n:=n) (by omega) hb (hf f h) x hxb
 simp only[Plc.enc]at cl ⊢
 clear hb
 generalize p.aps.map Apt.enc=ae at*
 generalize p.dts.map Dst.enc=de at*
 refine wo_dcall Tryz.func25 rfl (by decide) rfl 41 rfl (fun a hal ha=>?_)
 have h0:a[0]? =some (.agg [.sl 5 ae p.apsx,.sl 3 de p.dtsx]):=ha 0 (by simp)
 have h1:a[1]? =some (.sl 6 (l.map Flt.enc) lx):=ha 1 (by simp)
 have h2:a[2]? =some (.int .i64 x):=ha 2 (by simp)
 clear ha
 simp(maxSteps:=1000000)(disch:=omega)only[push_cast,h0,↓WX,simprocAttr]
 refine wl_loop (fun i a T=>(T=[Ob.row 2 [[.sl 5 ae p.apsx,.sl 3 de p.dtsx]]]∧∃d o,a[7]? =some d∧FLs 8 Dtd.enc d o∧o.length≤6*i∧∀y∈o,DtdB y)∧a.length=41∧a[1]? =some (.sl 6 (l.map Flt.enc) lx)∧a[2]? =some (.int .i64 x)∧a[3]? =some (.loc 0 0 0)∧a[8]? =some (.int .i64 i)) l.length ?_ (by omega) ?_
 ·simp(maxSteps:=1000000)(disch:=omega)only[push_cast,hal,h1,h2,Int.natCast_zero,simprocAttr]
  exact⟨_,[],rfl,.inl ⟨rfl,rfl⟩,by simp,fun y h=>by cases h⟩
 clear hal h0 h1 h2 a
 rintro i a T hi ⟨⟨rfl,d,o,h7,hd,ho,hy⟩,hal,h1,h2,h3,h8⟩
 rcases Nat.lt_or_eq_of_le hi with hlt |rfl
 case inr=>
  rcases hd with ⟨rfl,rfl⟩ | ⟨y,rfl⟩
  ·simp(maxSteps:=1000000)(disch:=omega)only[push_cast,hal,h1,h7,h8,Int.lt_irrefl,Tryz.f25,↓WX,simprocAttr]
   exact⟨[],.inl ⟨rfl,rfl⟩,by simp,fun y h=>by cases h⟩
  ·simp(maxSteps:=1000000)(disch:=omega)only[push_cast,hal,h1,h7,h8,Int.lt_irrefl,Tryz.f25,↓WX,simprocAttr]
   exact⟨_,.inr ⟨_,rfl⟩,by omega,hy⟩
 obtain⟨f,hfx⟩:∃f,l[i]? =some f:=⟨l[i],by simp⟩
 have hltc:(i:Int)<l.length:=by omega
 have hfm:=List.mem_of_getElem? hfx
 have hfl:=h6 f hfm
 obtain⟨rd,rl,e,hrd,hrl,hry,cle⟩:=cl f hfm
 have hfe:Flt.enc f=[.str f.car,.int .i64 f.num,.int .i64 f.pf,.int .i64 f.pt,.int .i64 f.pd,.sl 5 (f.legs.map Lg7.enc) f.lx]:=rfl
 rw[hfe]at cle
 refine wc_scut (fun a V=>V=[Ob.row 2 [[.sl 5 ae p.apsx,.sl 3 de p.dtsx]]]∧a.length=41∧a[1]? =some (.sl 6 (l.map Flt.enc) lx)∧a[2]? =some (.int .i64 x)∧a[3]? =some (.loc 0 0 0)∧a[7]? =some (d)∧a[8]? =some (.int .i64 i)) ?_ ?_
 ·simp(maxSteps:=1000000)(disch:=omega)only[push_cast,hal,h1,h2,h3,h7,h8,hltc,↓WX,simprocAttr]
 clear hal h1 h2 h3 h7 h8 a
 rintro a V' ⟨rfl,hal,h1,h2,h3,h7,h8⟩
 rw[wc_seq,wc_block]
 refine wc_scut (fun a V=>V=[Ob.row 2 [[.sl 5 ae p.apsx,.sl 3 de p.dtsx]]]∧a.length=41∧a[1]? =some (.sl 6 (l.map Flt.enc) lx)∧a[2]? =some (.int .i64 x)∧a[3]? =some (.loc 0 0 0)∧a[7]? =some (d)∧a[8]? =some (.int .i64 i)∧a[9]? =some (rd)) ?_ ?_
 ·simp(maxSteps:=1000000)(disch:=omega)only[push_cast,hal,h1,h2,h3,h7,h8,hfx,hfe,cle,↓WX,simprocAttr]
 clear hal h1 h2 h3 h7 h8 a
 rintro a W ⟨rfl,hal,h1,h2,h3,h7,h8,h9⟩
 rcases hrd with ⟨rfl,rfl⟩ | ⟨yr,rfl⟩
 ·simp(maxSteps:=1000000)(disch:=omega)only[push_cast,↓WX,simprocAttr]
  refine wl_loop (fun k a T=>(k=0∧T=[Ob.row 2 [[.sl 5 ae p.apsx,.sl 3 de p.dtsx]]])∧a.length=41∧a[1]? =some (.sl 6 (l.map Flt.enc) lx)∧a[2]? =some (.int .i64 x)∧a[3]? =some (.loc 0 0 0)∧a[7]? =some (d)∧a[8]? =some (.int .i64 i)∧a[9]? =some (.nils)∧a[11]? =some (.int .i64 0)) 0 ?_ (by omega) ?_
  ·simp(maxSteps:=1000000)(disch:=omega)only[push_cast,hal,h1,h2,h3,h7,h8,h9,simprocAttr]
  clear hal h1 h2 h3 h7 h8 h9 a
  rintro k a T hk ⟨⟨rfl,rfl⟩,hal,h1,h2,h3,h7,h8,h9,h11⟩
  simp(maxSteps:=1000000)(disch:=omega)only[push_cast,hal,h1,h2,h3,h7,h8,h9,h11,hlt,Int.lt_irrefl,wrap_ok,Int.natCast_add,Int.natCast_one,↓WX,simprocAttr]
  exact⟨_,_,rfl,hd,by omega,hy⟩
 ·simp(maxSteps:=1000000)(disch:=omega)only[push_cast,↓WX,simprocAttr]
  refine wl_loop (fun k a T=>(T=[Ob.row 2 [[.sl 5 ae p.apsx,.sl 3 de p.dtsx]]]∧∃d o',a[7]? =some d∧FLs 8 Dtd.enc d o'∧o'.length=o.length+k∧∀y∈o',DtdB y)∧a.length=41∧a[1]? =some (.sl 6 (l.map Flt.enc) lx)∧a[2]? =some (.int .i64 x)∧a[3]? =some (.loc 0 0 0)∧a[8]? =some (.int .i64 i)∧a[9]? =some (.sl 8 (rl.map Dtd.enc) yr)∧a[11]? =some (.int .i64 k)) rl.length ?_ (by omega) ?_
  ·simp(maxSteps:=1000000)(disch:=omega)only[push_cast,hal,h1,h2,h3,h7,h8,h9,Int.natCast_zero,simprocAttr]
   exact⟨_,_,rfl,hd,by simp,hy⟩
  clear hal h1 h2 h3 h7 h8 h9 a
  rintro k a T hk ⟨⟨rfl,d',o',h7,hd',ho',hy'⟩,hal,h1,h2,h3,h8,h9,h11⟩
  rcases Nat.lt_or_eq_of_le hk with hkt |rfl
  case inr=>
   simp(maxSteps:=1000000)(disch:=omega)only[push_cast,hal,h1,h2,h3,h7,h8,h9,h11,hlt,Int.lt_irrefl,wrap_ok,Int.natCast_add,Int.natCast_one,↓WX,simprocAttr]
   exact⟨_,_,rfl,hd',by omega,hy'⟩
  obtain⟨z,hz⟩:∃z,rl[k]? =some z:=⟨rl[k],by simp⟩
  have hktc:(k:Int)<rl.length:=by omega
  obtain⟨r2,o2,hd2,ho2,hy2,ci⟩:=insert08_c (n:=n) (by omega) hd' (by omega) z
  have hze:Dtd.enc z=[.str z.car,.int .i64 z.num,.int .i64 z.day,.str z.frm,.str z.dst,.int .i64 z.dep,.int .i64 z.arr,.str z.eqp]:=rfl
  rw[hze]at ci
  simp(maxSteps:=1000000)(disch:=omega)only[push_cast,hal,h1,h2,h3,h7,h8,h9,h11,hktc,hkt,hz,hze,ci,wrap_ok,Int.natCast_add,Int.natCast_one,↓WX,simprocAttr]
  refine⟨_,_,rfl,hd2,by omega,fun y h=>?_⟩
  rcases hy2 y h with h |rfl
  ·exact hy' y h
  ·exact hry _ (List.mem_of_getElem? hz)
theorem Day08_c (hn:1049001≤n) {p:Plc} (hb:PlcB p) {l:List Flt} {lx:Bool} (hl:l.length≤100) (hf:∀f∈l,FltB f) (h6:∀f∈l,f.legs.length≤6) (x:Int) (hxb: -9223372036854775808≤x∧x≤9223372036854775807):∃r o,FLs 8 Dtd.enc r o∧o.length≤6*l.length∧(∀y∈o,DtdB y)∧∀st S,callD E (dcall E n) st S 25 [.agg p.enc,.sl 6 (l.map Flt.enc) lx,.int .i64 x]=some (r,S):=by
 obtain⟨m,rfl⟩:∃m,n=m+1:=⟨n-1,by omega⟩
 have hp:pureL [.agg p.enc,.sl 6 (l.map Flt.enc) lx,.int .i64 x]=true:=by simp only[pureL_cons,pureL_nil,D.pure,Plc_pure,Flts_pure,Bool.and_self]
 obtain⟨r,T,ho,o,h1,h2,h3⟩:=Day08_d (n:=m) (lx:=lx) (by omega) hb hl hf h6 x hxb
 exact⟨r,o,h1,h2,h3,fun st S=>callD_pure rfl hp ho (freeze_pure (h1.pure (Dtds_pure o)))⟩
end
end Go.Proofs.YtkemehicndccmaaGreatDoor.Dm
