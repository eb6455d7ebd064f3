/-
  The reference's flights: minutes UTC, the legs of a day, their order; some answer.
-/
import Derived.Test.YtkemehicndccmaaGreatDoorPeA
set_option linter.unusedSimpArgs false
set_option linter.unusedVariables false
namespace Go.Proofs.YtkemehicndccmaaGreatDoor.Dm
open Go Gw
set_option linter.unusedSimpArgs false
set_option linter.unusedSimpArgs false
structure Lg7 where
 frm:ByteArray
 dst:ByteArray
 dep:Int
 arr:Int
 eqp:ByteArray
def Lg7.enc (x:Lg7):List D:=[.str x.frm,.str x.dst,.int .i64 x.dep,.int .i64 x.arr,.str x.eqp]
theorem Lg7s_pure (l:List Lg7):pureLL (l.map Lg7.enc)=true:=by
 induction l with
 |nil=>rfl
 |cons f fs ih=>rw[List.map_cons,pureLL_cons,ih];rfl
structure Flt where
 car:ByteArray
 num:Int
 pf:Int
 pt:Int
 pd:Int
 legs:List Lg7
 lx:Bool
def Flt.enc (f:Flt):List D:=[.str f.car,.int .i64 f.num,.int .i64 f.pf,.int .i64 f.pt,.int .i64 f.pd,.sl 5 (f.legs.map Lg7.enc) f.lx]
theorem Flt_pure (f:Flt):pureL f.enc=true:=by
 simp only[D.pure,pureL_cons,pureL_nil,Bool.and_self,Flt.enc,Lg7s_pure]
theorem Flts_pure (l:List Flt):pureLL (l.map Flt.enc)=true:=by
 induction l with
 |nil=>rfl
 |cons f fs ih=>rw[List.map_cons,pureLL_cons,ih,Flt_pure];rfl
structure FltB (f:Flt):Prop where
 car:f.car.size≤1048576
 pf: -9223372036854775808≤f.pf
 pt:f.pt≤9223372036854775807
 len:f.legs.length≤1048576
 leg:∀x∈f.legs,x.frm.size≤1048576∧x.dst.size≤1048576∧x.eqp.size≤1048576
 num: -9223372036854775808≤f.num∧f.num≤9223372036854775807
structure Dtd where
 car:ByteArray
 num:Int
 day:Int
 frm:ByteArray
 dst:ByteArray
 dep:Int
 arr:Int
 eqp:ByteArray
def Dtd.enc (x:Dtd):List D:=[.str x.car,.int .i64 x.num,.int .i64 x.day,.str x.frm,.str x.dst,.int .i64 x.dep,.int .i64 x.arr,.str x.eqp]
theorem Dtds_pure (l:List Dtd):pureLL (l.map Dtd.enc)=true:=by
 induction l with
 |nil=>rfl
 |cons f fs ih=>rw[List.map_cons,pureLL_cons,ih];rfl
structure DtdB (x:Dtd):Prop where
 car:x.car.size≤1048576
 frm:x.frm.size≤1048576
 dst:x.dst.size≤1048576
 eqp:x.eqp.size≤1048576
 num: -9223372036854775808≤x.num∧x.num≤9223372036854775807
 day: -9223372036854775808≤x.day∧x.day≤9223372036854775807
structure PlcB (p:Plc):Prop where
 len:p.aps.length≤1048576
 sh:∀a∈p.aps,a.sh.length≤1048576
def KeepN (z:Nat) (T T':List Ob):Prop:=∀(k sz:Nat) (es:List (List D)),sz≠z→T[k]? =some (.row sz es)→T'[k]? =some (.row sz es)
theorem KeepN.refl {z:Nat} {T:List Ob}:KeepN z T T:=fun _ _ _ _ h=>h
theorem KeepN.trans {z:Nat} {T U V:List Ob} (h:KeepN z T U) (g:KeepN z U V):KeepN z T V:=fun k s e n j=>g k s e n (h k s e n j)
theorem KeepN.push {z:Nat} {T:List Ob} {o:Ob}:KeepN z T (T++[o]):=fun _ _ _ _ h=>get_old h
set_option maxHeartbeats 1000000 in
theorem app_glsB {α:Type} {enc:α→List D} {t e:TypeId} {z:D} {n:Nat} {T:List Ob} {d x:D} {l r:List α} (h1:elemT Tryz.prog t=some e) (h2:sizeT Tryz.prog e=some (n+1)) (h3:zeroT Tryz.prog e=some z) (h4:z.cells.length=n+1) (hb:(l.length+r.length)*bytesT Tryz.prog e≤140737488355328) (hm0:l.length+r.length≤maxLen) (h:GL (n+1) enc T d l) (hx:srcOf T (n+1) x=some (r.map enc)):
  ∃d' T',dAppend Tryz.prog T t t d x=some (d',T')∧GL (n+1) enc T' d' (l++r)∧KeepN (n+1) T T'∧(d=.nils→ExtS T T'):=by
 have hm:(l.length+r.length≤maxLen)=True:=eq_true hm0
 obtain⟨xs,hxs⟩:∃xs,xs=r.map enc:=⟨_,rfl⟩
 have hxl:xs.length=r.length:=by rw[hxs];simp
 rw[←hxs]at hx
 rw[←hxl]at hb hm
 by_cases hr:r=[]
 ·subst hr
  have hz:xs=[]:=by rw[hxs];rfl
  subst hz
  have:∃old,srcOf T (n+1) d=some old:=by
   rcases h with ⟨rfl,rfl⟩ | ⟨k,rfl,hk⟩
   ·exact⟨[],rfl⟩
   ·exact⟨((l.map enc).drop 0).take l.length,by simp[srcOf,hk]⟩
  obtain⟨old,ho⟩:=this
  refine⟨d,T,?_,by rw[List.append_nil];exact h,KeepN.refl,fun _ _ _ h=>h⟩
  simp only[dAppend,h1,h2,h3,h4,ho,hx,List.length_nil,↓reduceIte]
 have hxz:xs.length≠0:=by
  rw[hxl]
  exact fun e=>hr (List.eq_nil_of_length_eq_zero e)
 rcases h with ⟨rfl,rfl⟩ | ⟨k,rfl,hk⟩
 ·refine⟨.os T.length 0 xs.length false,T++[.row (n+1) xs],?_,.inr ⟨T.length,by simp[hxl],by rw[hxs];exact get_end⟩,KeepN.push,fun _ _ _ h=>get_old h⟩
  simp only[List.length_nil,Nat.zero_add]at hm hb
  have h0:srcOf T (n+1) .nils=some []:=by simp[srcOf]
  simp only[dAppend,h1,h2,h3,h4,h0,hx,hxz,List.length_nil,Nat.zero_add,hm,hb,and_self,↓reduceIte]
 ·have hel:(l.map enc).length=l.length:=by simp
  have h0:srcOf T (n+1) (.os k 0 l.length false)=some (l.map enc):=by
   simp only[srcOf,hk,hel,Nat.zero_add,Nat.le_refl,and_self,List.drop_zero,↓reduceIte]
   rw[←hel,List.take_length]
  refine⟨.os T.length 0 (l.length+xs.length) false,T.set k .dead++[.row (n+1) (l.map enc++xs)],?_,.inr ⟨T.length,by simp[hxl],by rw[hxs,←List.map_append];exact get_end'⟩,fun j sz es hz hj=>?_,fun h=>by cases h⟩
  ·generalize l.map enc=es at*
   simp only[dAppend,h1,h2,h3,h4,h0,hk,hel,and_self,hx,hxz,hm,hb,↓reduceIte]
  ·have hne:k≠j:=fun e=>by
    subst e
    rw[hk]at hj
    injection hj with hj
    injection hj with hj _
    exact hz hj.symm
   exact get_old (by rw[List.getElem?_set_ne hne];exact hj)
theorem app_es {T:List Ob} {d x:D} {l r:List Int} (h:GL 1 encI T d l) (hx:FLs 1 encI x r) (hl:l.length+r.length≤1000):
  ∃d' T',dAppend Tryz.prog T 100 100 d x=some (d',T')∧GL 1 encI T' d' (l++r)∧KeepN 1 T T':=by
 obtain⟨d',T',h1,h2,h3,-⟩:=app_glsB (t:=100) (e:=84) (z:=.int .i64 0) (n:=0) (by kernel_rfl) (by kernel_rfl) (by kernel_rfl) rfl (Nat.le_trans (Nat.mul_le_mul (show l.length+r.length≤1000 by omega) (show bytesT Tryz.prog 84≤1000 from Nat.le_of_ble_eq_true (by kernel_rfl))) (by decide)) (by unfold maxLen;omega) h (show srcOf T (0+1) x=some (r.map encI) from by
  rcases hx with ⟨rfl,rfl⟩ | ⟨y,rfl⟩
  ·rfl
  ·simp[srcOf])
 exact⟨d',T',h1,h2,h3⟩
theorem by_dtd:bytesT Tryz.prog 53≤1000:=Nat.le_of_ble_eq_true (by kernel_rfl)
theorem app_dtd {T:List Ob} {d:D} {l:List Dtd} (h:GL 8 Dtd.enc T d l) (hl:l.length≤1000000000) (x:Dtd):
  ∃d' T',dAppend Tryz.prog T 46 46 d (.sl 8 [[.str x.car,.int .i64 x.num,.int .i64 x.day,.str x.frm,.str x.dst,.int .i64 x.dep,.int .i64 x.arr,.str x.eqp]] true)=some (d',T')∧GL 8 Dtd.enc T' d' (l++[x])∧KeepN 8 T T':=by
 obtain⟨S',h1,h2,h3,h4,h5⟩:=app_glB (t:=46) (e:=53) (z:=.agg [.str (ByteArray.mk #[]),.int .i64 0,.int .i64 0,.str (ByteArray.mk #[]),.str (ByteArray.mk #[]),.int .i64 0,.int .i64 0,.str (ByteArray.mk #[])]) (n:=7) (by kernel_rfl) (by kernel_rfl) (by kernel_rfl) rfl (Nat.le_trans (Nat.mul_le_mul (Nat.succ_le_succ hl) by_dtd) (by decide)) (by unfold maxLen;omega) h x
 exact⟨_,S',h1,h2,h5⟩
theorem app_t {T:List Ob} {d:D} {fs:List (Int×ByteArray)} {z:Nat} (h:GL 2 encF T d fs) (hl:fs.length≤4999999999999) (hz:∀f∈fs,f.2.size≤z) (e:Int) (s:ByteArray) (hs:s.size≤z):
  ∃d' T' fs',dAppend Tryz.prog T 66 66 d (.sl 2 [[.int .i64 e,.str s]] true)=some (d',T')∧GL 2 encF T' d' fs'∧fs'.length=fs.length+1∧(∀f∈fs',f.2.size≤z)∧KeepF T T':=by
 obtain⟨d',T',h1,h2,h3,h4⟩:=app_if h (by omega) true e s
 refine⟨d',T',_,h1 rfl,h3,by simp[ifF],fun f hf=>?_,h4⟩
 rcases List.mem_append.1 hf with hf |hf
 ·exact hz f hf
 ·have:f=(e,s):=by simpa [ifF] using hf
  rw[this];exact hs
section
variable {n : Nat}
set_option maxHeartbeats 1000000 in
theorem utc07_c (hn:1048700≤n) {p:Plc} (hb:PlcB p) (s:ByteArray) (x k:Int):∃v:Int,∀st S,callD E (dcall E n) st S 116 [.agg p.enc,.str s,.int .i64 x,.int .i64 k]=some (.int .i64 v,S):=by
 obtain⟨m,rfl⟩:∃m,n=m+1:=⟨n-1,by omega⟩
 have hp:=Plc_pure p
 have hbl:=hb.len
 have cf:=fun st S=>PrFind_c (n:=m) (p:=p) (s:=s) (by omega) (by omega) st S
 have:WO (dcall E (m+1) 116 [.agg p.enc,.str s,.int .i64 x,.int .i64 k] []) fun r T=>∃v:Int,r=.int .i64 v:=by
  cases hf:p.aps.find? (fun a=>a.code.toList == s.toList) with
  |none=>
   rw[hf]at cf
   simp only[foundD,zeroApt,Plc.enc]at cf ⊢
   obtain⟨v,cv⟩:=UTC05n_c (n:=m) (by omega) 0 (IntKind.i64.wrap (IntKind.i64.wrap (x*1440)+k))
   refine wo_dcall Tryz.func116 rfl (by decide) rfl 24 rfl (fun a hal ha=>?_)
   have h0:a[0]? =some (.agg [.sl 5 (p.aps.map Apt.enc) p.apsx,.sl 3 (p.dts.map Dst.enc) p.dtsx]):=ha 0 (by simp)
   have h1:a[1]? =some (.str s):=ha 1 (by simp)
   have h2:a[2]? =some (.int .i64 x):=ha 2 (by simp)
   have h3:a[3]? =some (.int .i64 k):=ha 3 (by simp)
   clear ha
   simp(maxSteps:=1000000)(disch:=omega)only[push_cast,hal,h0,h1,h2,h3,cf,cv,Tryz.f116,↓WX,simprocAttr]
   exact⟨_,rfl⟩
  |some a=>
   rw[hf]at cf
   simp only[foundD,Apt.enc,Plc.enc]at cf ⊢
   obtain⟨v,cv⟩:=UTC05_c (n:=m) (by omega) a.off a.sh a.shx (hb.sh a (List.mem_of_find?_eq_some hf)) (IntKind.i64.wrap (IntKind.i64.wrap (x*1440)+k))
   refine wo_dcall Tryz.func116 rfl (by decide) rfl 24 rfl (fun a hal ha=>?_)
   have h0:a[0]? =some (.agg [.sl 5 (p.aps.map Apt.enc) p.apsx,.sl 3 (p.dts.map Dst.enc) p.dtsx]):=ha 0 (by simp)
   have h1:a[1]? =some (.str s):=ha 1 (by simp)
   have h2:a[2]? =some (.int .i64 x):=ha 2 (by simp)
   have h3:a[3]? =some (.int .i64 k):=ha 3 (by simp)
   clear ha
   simp(maxSteps:=1000000)(disch:=omega)only[push_cast,hal,h0,h1,h2,h3,cf,cv,Tryz.f116,↓WX,simprocAttr]
   exact⟨_,rfl⟩
 obtain⟨_,T,ho,v,rfl⟩:=this
 exact⟨v,fun st S=>callD_pure rfl (by rw[pureL_cons,D.pure,hp];rfl) ho rfl⟩
set_option maxHeartbeats 4000000 in
set_option maxRecDepth 100000 in
theorem legs07_d (hn:1048800≤n) {p:Plc} (hb:PlcB p) {f:Flt} (hf:FltB f) (x:Int) (hxb: -9223372036854775808≤x∧x≤9223372036854775807):WO (dcall E (n+1) 86 [.agg p.enc,.agg f.enc,.int .i64 x] []) fun r T=>∃l,GL 8 Dtd.enc T r l∧l.length=f.legs.length∧∀y∈l,DtdB y:=by
 have cu:=fun s k=>utc07_c (n:=n) (by omega) hb s x k
 obtain⟨hf1,-,-,hf4,hf5,hf6⟩:=hf
 obtain⟨car,num,pf,pt,pd,ls,lx⟩:=f
 dsimp only at hf1 hf4 hf5 hf6 ⊢
 simp only[Plc.enc,Flt.enc]at cu ⊢
 clear hb
 generalize p.aps.map Apt.enc=ae at*
 generalize p.dts.map Dst.enc=de at*
 refine wo_dcall Tryz.func86 rfl (by decide) rfl 52 rfl (fun a hal ha=>?_)
 have h0:a[0]? =some (.agg [.sl 5 ae p.apsx,.sl 3 de p.dtsx]):=ha 0 (by simp)
 have h1:a[1]? =some (.agg [.str car,.int .i64 num,.int .i64 pf,.int .i64 pt,.int .i64 pd,.sl 5 (ls.map Lg7.enc) lx]):=ha 1 (by simp)
 have h2:a[2]? =some (.int .i64 x):=ha 2 (by simp)
 clear ha
 obtain⟨S0,hS0⟩:∃S0,S0=[Ob.row 2 [[.sl 5 ae p.apsx,.sl 3 de p.dtsx]],Ob.row 6 [[.str car,.int .i64 num,.int .i64 pf,.int .i64 pt,.int .i64 pd,.sl 5 (ls.map Lg7.enc) lx]]]:=⟨_,rfl⟩
 have ga:S0[0]? =some (.row 2 [[.sl 5 ae p.apsx,.sl 3 de p.dtsx]]):=by rw[hS0];rfl
 have gb:S0[1]? =some (.row 6 [[.str car,.int .i64 num,.int .i64 pf,.int .i64 pt,.int .i64 pd,.sl 5 (ls.map Lg7.enc) lx]]):=by rw[hS0];rfl
 refine wc_scut (fun a V=>V=S0∧a.length=52∧a[2]? =some (.int .i64 x)∧a[3]? =some (.loc 0 0 0)∧a[4]? =some (.loc 1 0 0)) ?_ ?_
 ·simp(maxSteps:=1000000)(disch:=omega)only[push_cast,hal,h0,h1,h2,↓WX,simprocAttr]
  exact hS0.symm
 clear hal h0 h1 h2 a
 rintro a V ⟨rfl,hal,h2,h3,h4⟩
 refine wc_scut (fun a W=>W=V∧a.length=52∧a[2]? =some (.int .i64 x)∧a[3]? =some (.loc 0 0 0)∧a[4]? =some (.loc 1 0 0)∧a[7]? =some (.nils)) ?_ ?_
 ·simp(maxSteps:=1000000)(disch:=omega)only[push_cast,hal,h2,h3,h4,↓WX,simprocAttr]
 clear hal h2 h3 h4 a
 rintro a W ⟨rfl,hal,h2,h3,h4,h7⟩
 simp(maxSteps:=1000000)(disch:=omega)only[push_cast,↓WX,simprocAttr]
 refine wl_loop (fun i a T=>(KeepN 8 W T∧∃d l,a[7]? =some d∧GL 8 Dtd.enc T d l∧l.length=i∧∀y∈l,DtdB y)∧a.length=52∧a[2]? =some (.int .i64 x)∧a[3]? =some (.loc 0 0 0)∧a[4]? =some (.loc 1 0 0)∧a[8]? =some (.int .i64 i)) ls.length ?_ (by omega) ?_
 ·simp(maxSteps:=1000000)(disch:=omega)only[push_cast,hal,h2,h3,h4,h7,Int.natCast_zero,simprocAttr]
  exact⟨KeepN.refl,_,[],rfl,GL.nil,rfl,fun y h=>by cases h⟩
 clear hal h2 h3 h4 h7 a
 rintro i a T hi ⟨⟨k1,d1,l1,h7,g1,hl1,hy1⟩,hal,h2,h3,h4,h8⟩
 have va:=k1 _ _ _ (by decide) ga
 have vb:=k1 _ _ _ (by decide) gb
 rcases Nat.lt_or_eq_of_le hi with hlt |rfl
 case inr=>
  simp(maxSteps:=1000000)(disch:=omega)only[push_cast,hal,h4,h7,h8,vb,Int.lt_irrefl,Tryz.f86,↓WX,simprocAttr]
  exact⟨_,g1,hl1,hy1⟩
 obtain⟨y,hy⟩:∃y,ls[i]? =some y:=⟨ls[i],by simp⟩
 have hyb:=hf5 y (List.mem_of_getElem? hy)
 have hltc:(i:Int)<ls.length:=by omega
 obtain⟨v1,c1⟩:=cu y.frm y.dep
 obtain⟨v2,c2⟩:=cu y.dst y.arr
 obtain⟨T1,hT1⟩:∃T1,T1=T++[Ob.row 5 [[.str y.frm,.str y.dst,.int .i64 y.dep,.int .i64 y.arr,.str y.eqp]]]:=⟨_,rfl⟩
 have k2:KeepN 8 T T1:=by rw[hT1];exact KeepN.push
 have g2:GL 8 Dtd.enc T1 d1 l1:=by rw[hT1];exact g1.push _
 have e1:T1[T.length]? =some (.row 5 [[.str y.frm,.str y.dst,.int .i64 y.dep,.int .i64 y.arr,.str y.eqp]]):=by rw[hT1];exact get_end
 obtain⟨d3,T3,p3,g3,k3⟩:=app_dtd g2 (by omega) ⟨car,num,x,y.frm,y.dst,v1,v2,y.eqp⟩
 dsimp only at p3
 refine wc_scut (fun a V=>V=T∧a.length=52∧a[2]? =some (.int .i64 x)∧a[3]? =some (.loc 0 0 0)∧a[4]? =some (.loc 1 0 0)∧a[7]? =some (d1)∧a[8]? =some (.int .i64 i)) ?_ ?_
 ·simp(maxSteps:=1000000)(disch:=omega)only[push_cast,hal,h2,h3,h4,h7,h8,vb,hltc,↓WX,simprocAttr]
 clear hal h2 h3 h4 h7 h8 a
 rintro a V ⟨rfl,hal,h2,h3,h4,h7,h8⟩
 rw[wc_seq,wc_block]
 refine wc_scut (fun a W=>W=T1∧a.length=52∧a[2]? =some (.int .i64 x)∧a[3]? =some (.loc 0 0 0)∧a[4]? =some (.loc 1 0 0)∧a[7]? =some (d1)∧a[8]? =some (.int .i64 i)∧a[9]? =some (.loc V.length 0 0)) ?_ ?_
 ·simp(maxSteps:=1000000)(disch:=omega)only[push_cast,hal,h2,h3,h4,h7,h8,vb,hy,Lg7.enc,set_end,get_end,↓WX,simprocAttr]
  exact hT1.symm
 clear hal h2 h3 h4 h7 h8 a
 rintro a W ⟨rfl,hal,h2,h3,h4,h7,h8,h9⟩
 have wa:=k2 _ _ _ (by decide) va
 have wb:=k2 _ _ _ (by decide) vb
 simp(maxSteps:=1000000)(disch:=omega)only[push_cast,hal,h2,h3,h4,h7,h8,h9,wa,wb,e1,c1,c2,p3,hlt,wrap_ok,Int.natCast_add,Int.natCast_one,↓WX,simprocAttr]
 refine⟨(k1.trans k2).trans k3,_,_,rfl,g3,by simp[hl1],fun z hz=>?_⟩
 rcases List.mem_append.1 hz with hz |hz
 ·exact hy1 z hz
 ·obtain rfl:z=⟨car,num,x,y.frm,y.dst,v1,v2,y.eqp⟩:=by simpa using hz
  exact⟨hf1,hyb.1,hyb.2.1,hyb.2.2,hf6,hxb⟩
theorem legs07_c (hn:1048801≤n) {p:Plc} (hb:PlcB p) {f:Flt} (hf:FltB f) (x:Int) (hxb: -9223372036854775808≤x∧x≤9223372036854775807):∃r l,FLs 8 Dtd.enc r l∧l.length=f.legs.length∧(∀y∈l,DtdB y)∧∀st S,callD E (dcall E n) st S 86 [.agg p.enc,.agg f.enc,.int .i64 x]=some (r,S):=by
 obtain⟨m,rfl⟩:∃m,n=m+1:=⟨n-1,by omega⟩
 obtain⟨r,T,ho,l,g,h1,h2⟩:=legs07_d (n:=m) (by omega) hb hf x hxb
 obtain⟨r',hr,hf'⟩:=g.fls (Dtds_pure l)
 exact⟨r',l,hf',h1,h2,fun st S=>callD_pure rfl (by simp only[pureL_cons,pureL_nil,D.pure,Plc_pure,Flt_pure,Bool.and_self]) ho hr⟩
set_option maxHeartbeats 2000000 in
theorem ordered07_c (hn:1048600≤n) {r:D} {l:List Dtd} (hr:FLs 8 Dtd.enc r l) (hl:l.length≤1048576):∃b,∀st S,callD E (dcall E n) st S 85 [r]=some (.bool b,S):=by
 obtain⟨m,rfl⟩:∃m,n=m+1:=⟨n-1,by omega⟩
 have hp:pureL [r]=true:=by rw[pureL_cons,hr.pure (Dtds_pure l)];rfl
 have:WO (dcall E (m+1) 85 [r] []) fun r T=>∃b,r=.bool b:=by
  refine wo_dcall Tryz.func85 rfl (by decide) rfl 39 rfl (fun a hal ha=>?_)
  have h0:a[0]? =some (r):=ha 0 (by simp)
  clear ha
  rcases hr with ⟨rfl,rfl⟩ | ⟨y,rfl⟩
  ·simp(maxSteps:=1000000)(disch:=omega)only[push_cast,↓WX,simprocAttr]
   refine wl_loop (fun i a T=>a.length=39∧a[0]? =some (.nils)∧a[3]? =some (.int .i64 0)) 0 ?_ (by omega) ?_
   ·simp(maxSteps:=1000000)(disch:=omega)only[push_cast,hal,h0,simprocAttr]
   clear hal h0 a
   rintro i a T hi ⟨hal,h0,h3⟩
   simp(maxSteps:=1000000)(disch:=omega)only[push_cast,hal,h0,h3,Int.lt_irrefl,Tryz.f85,↓WX,simprocAttr]
   exact⟨_,rfl⟩
  ·simp(maxSteps:=1000000)(disch:=omega)only[push_cast,↓WX,simprocAttr]
   refine wl_loop (fun i a T=>a.length=39∧a[0]? =some (.sl 8 (l.map Dtd.enc) y)∧a[3]? =some (.int .i64 i)) l.length ?_ (by omega) ?_
   ·simp(maxSteps:=1000000)(disch:=omega)only[push_cast,hal,h0,Int.natCast_zero,simprocAttr]
   clear hal h0 a
   rintro i a T hi ⟨hal,h0,h3⟩
   rcases Nat.lt_or_eq_of_le hi with hlt |rfl
   case inr=>
    simp(maxSteps:=1000000)(disch:=omega)only[push_cast,hal,h0,h3,Int.lt_irrefl,Tryz.f85,↓WX,simprocAttr]
    exact⟨_,rfl⟩
   obtain⟨z,hz⟩:∃z,l[i]? =some z:=⟨l[i],by simp⟩
   have hltc:(i:Int)<l.length:=by omega
   by_cases q1:z.arr≤z.dep
   ·simp(maxSteps:=1000000)(disch:=omega)only[push_cast,hal,h0,h3,hltc,hz,q1,Dtd.enc,Tryz.f85,↓WX,simprocAttr]
    exact⟨_,rfl⟩
   rcases Nat.eq_zero_or_pos i with hi0 |hpos
   ·have hic:¬(0:Int)<i:=by omega
    simp(maxSteps:=1000000)(disch:=omega)only[push_cast,gt_iff_lt,hal,h0,h3,hltc,hlt,hz,q1,hic,Dtd.enc,wrap_ok,Int.natCast_add,Int.natCast_one,↓WX,simprocAttr]
   obtain⟨w,hw⟩:∃w,l[i-1]? =some w:=⟨l[i-1]'(by omega),by simp⟩
   have hposc:(0:Int)<i:=by omega
   have q3:IntKind.i64.wrap ((i:Int)-1)=((i-1:Nat):Int):=by rw[wrap_ok (by omega) (by omega)];omega
   have q4:i-1<l.length:=by omega
   obtain⟨j,hj⟩:∃j,j=i-1:=⟨_,rfl⟩
   rw[←hj]at hw q3 q4
   by_cases q2:z.dep<w.arr
   ·simp(maxSteps:=1000000)(disch:=omega)only[push_cast,gt_iff_lt,hal,h0,h3,hltc,hz,hw,hposc,q1,q2,q3,Dtd.enc,Tryz.f85,↓WX,simprocAttr]
    exact⟨_,rfl⟩
   ·simp(maxSteps:=1000000)(disch:=omega)only[push_cast,gt_iff_lt,hal,h0,h3,hltc,hlt,hz,hw,hposc,q1,q2,q3,Dtd.enc,wrap_ok,Int.natCast_add,Int.natCast_one,↓WX,simprocAttr]
 obtain⟨_,T,ho,b,rfl⟩:=this
 exact⟨b,fun st S=>callD_pure rfl hp ho rfl⟩
theorem out07_c (hn:1≤n) (x:Int):∃b,∀st S,callD E (dcall E n) st S 83 [.int .i64 x]=some (.bool b,S):=by
 obtain⟨m,rfl⟩:∃m,n=m+1:=⟨n-1,by omega⟩
 have:WO (dcall E (m+1) 83 [.int .i64 x] []) fun r T=>∃b,r=.bool b:=by
  refine wo_dcall Tryz.func83 rfl (by decide) rfl 9 rfl (fun a hal ha=>?_)
  have h0:a[0]? =some (.int .i64 x):=ha 0 (by simp)
  clear ha
  by_cases q1:x< -1440
  ·simp(maxSteps:=1000000)(disch:=omega)only[push_cast,hal,h0,q1,Tryz.f83,↓WX,simprocAttr]
   exact⟨_,rfl⟩
  ·simp(maxSteps:=1000000)(disch:=omega)only[push_cast,gt_iff_lt,hal,h0,q1,Tryz.f83,↓WX,simprocAttr]
   exact⟨_,rfl⟩
 obtain⟨_,T,ho,b,rfl⟩:=this
 exact⟨b,fun st S=>callD_pure rfl rfl ho rfl⟩
set_option maxHeartbeats 2000000 in
theorem broken07_c (hn:1048600≤n) {l:List Lg7} {lx:Bool} (hl:l.length≤1048576) {i:Nat} (hi:i<l.length):∃b,∀st S,callD E (dcall E n) st S 82 [.sl 5 (l.map Lg7.enc) lx,.int .i64 i]=some (.bool b,S):=by
 obtain⟨m,rfl⟩:∃m,n=m+1:=⟨n-1,by omega⟩
 have:WO (dcall E (m+1) 82 [.sl 5 (l.map Lg7.enc) lx,.int .i64 i] []) fun r T=>∃b,r=.bool b:=by
  refine wo_dcall Tryz.func82 rfl (by decide) rfl 38 rfl (fun a hal ha=>?_)
  have h0:a[0]? =some (.sl 5 (l.map Lg7.enc) lx):=ha 0 (by simp)
  have h1:a[1]? =some (.int .i64 i):=ha 1 (by simp)
  clear ha
  obtain⟨z,hz⟩:∃z,l[i]? =some z:=⟨l[i],by simp⟩
  have hic:(i:Int)<l.length:=by omega
  rcases Nat.eq_zero_or_pos i with hz0 |hpos
  case' inl=>
   have hi0:¬(0:Int)<i:=by omega
   simp(maxSteps:=1000000)(disch:=omega)only[push_cast,gt_iff_lt,hal,h1,hi0,↓WX,simprocAttr]
  case' inr=>
   obtain⟨w,hw⟩:∃w,l[i-1]? =some w:=⟨l[i-1]'(by omega),by simp⟩
   have hposc:(0:Int)<i:=by omega
   have q3:IntKind.i64.wrap ((i:Int)-1)=((i-1:Nat):Int):=by rw[wrap_ok (by omega) (by omega)];omega
   have q4:i-1<l.length:=by omega
   obtain⟨j,hj⟩:∃j,j=i-1:=⟨_,rfl⟩
   rw[←hj]at hw q3 q4
   by_cases q:z.frm=w.dst
  case' neg=>
   simp(maxSteps:=1000000)(disch:=omega)only[push_cast,gt_iff_lt,hal,h0,h1,hz,hw,hposc,q3,q,str_eq,Bool.not_false,Lg7.enc,Tryz.f82,↓WX,simprocAttr]
   exact⟨_,rfl⟩
  case' pos=>
   simp(maxSteps:=1000000)(disch:=omega)only[push_cast,gt_iff_lt,hal,h0,h1,hz,hw,hposc,q3,q,str_eq,Bool.not_true,Lg7.enc,↓WX,simprocAttr]
  all_goals
   refine wl_loop (fun k a T=>a.length=38∧a[0]? =some (.sl 5 (l.map Lg7.enc) lx)∧a[1]? =some (.int .i64 i)∧a[5]? =some (.int .i64 k)) (i+1) ?_ (by omega) ?_
   ·simp(maxSteps:=1000000)(disch:=omega)only[push_cast,hal,h0,h1,Int.natCast_zero,simprocAttr]
   clear hal h0 h1 a
   rintro k a T hk ⟨hal,h0,h1,h5⟩
   rcases Nat.lt_or_eq_of_le hk with hkt |hke
   case inr=>
    have hq:¬(k:Int)≤i:=by omega
    simp(maxSteps:=1000000)(disch:=omega)only[push_cast,hal,h1,h5,hq,Tryz.f82,↓WX,simprocAttr]
    exact⟨_,rfl⟩
   have hq:(k:Int)≤i:=by omega
   have hkl:k<l.length:=by omega
   obtain⟨u,hu⟩:∃u,l[k]? =some u:=⟨l[k],by simp⟩
   by_cases q:u.frm=z.dst
   ·simp(maxSteps:=1000000)(disch:=omega)only[push_cast,hal,h0,h1,h5,hq,hz,hu,q,str_eq,Lg7.enc,Tryz.f82,↓WX,simprocAttr]
    exact⟨_,rfl⟩
   ·simp(maxSteps:=1000000)(disch:=omega)only[push_cast,hal,h0,h1,h5,hq,hkt,hz,hu,q,str_eq,Lg7.enc,wrap_ok,Int.natCast_add,Int.natCast_one,↓WX,simprocAttr]
 obtain⟨_,T,ho,b,rfl⟩:=this
 exact⟨b,fun st S=>callD_pure rfl (by simp only[pureL_cons,pureL_nil,D.pure,Lg7s_pure,Bool.and_self]) ho rfl⟩
end
end Go.Proofs.YtkemehicndccmaaGreatDoor.Dm
