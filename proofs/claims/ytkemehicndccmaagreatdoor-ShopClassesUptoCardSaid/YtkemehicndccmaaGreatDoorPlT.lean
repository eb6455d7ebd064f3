/-
  Places as plain data.
  The machine at minimum connecting times: Check and Fits, the program's and the reference's.
  The reference's inventory: New, Open, Excess.
  Plain law: what is sold on a leg stays small for eighty calls.
-/
import Derived.Test.YtkemehicndccmaaGreatDoorGw
import Derived.Test.YtkemehicndccmaaGreatDoorCoA
import Derived.Test.YtkemehicndccmaaGreatDoorRsB
set_option linter.unusedSimpArgs false
set_option linter.unusedVariables false
namespace Go.Proofs.YtkemehicndccmaaGreatDoor.Dm
open Go Gw
set_option linter.unusedSimpArgs false

structure Shf where
 tm:Int
 off:Int
def Shf.enc (r:Shf):List D:=[.int .i64 r.tm,.int .i64 r.off]
structure Apt where
 code:ByteArray
 city:ByteArray
 ctry:ByteArray
 off:Int
 sh:List Shf
 shx:Bool
def Apt.enc (r:Apt):List D:=[.str r.code,.str r.city,.str r.ctry,.int .i64 r.off,.sl 2 (r.sh.map Shf.enc) r.shx]
structure Dst where
 fr:ByteArray
 to:ByteArray
 mi:Int
def Dst.enc (r:Dst):List D:=[.str r.fr,.str r.to,.int .i64 r.mi]
structure Plc where
 aps:List Apt
 apsx:Bool
 dts:List Dst
 dtsx:Bool
def Plc.enc (r:Plc):List D:=[.sl 5 (r.aps.map Apt.enc) r.apsx,.sl 3 (r.dts.map Dst.enc) r.dtsx]
theorem Shf_pure (r:Shf):pureL r.enc=true:=by
 simp only[D.pure,pureL_cons,pureL_nil,Bool.and_true,Bool.and_self,Shf.enc]
theorem Shfs_pure (l:List Shf):pureLL (l.map Shf.enc)=true:=by
 induction l with
 |nil=>rfl
 |cons f fs ih=>rw[List.map_cons,pureLL_cons,ih,Shf_pure];rfl
theorem Apt_pure (r:Apt):pureL r.enc=true:=by
 simp only[D.pure,pureL_cons,pureL_nil,Bool.and_true,Bool.and_self,Apt.enc,Shfs_pure]
theorem Apts_pure (l:List Apt):pureLL (l.map Apt.enc)=true:=by
 induction l with
 |nil=>rfl
 |cons f fs ih=>rw[List.map_cons,pureLL_cons,ih,Apt_pure];rfl
theorem Dst_pure (r:Dst):pureL r.enc=true:=by
 simp only[D.pure,pureL_cons,pureL_nil,Bool.and_true,Bool.and_self,Dst.enc]
theorem Dsts_pure (l:List Dst):pureLL (l.map Dst.enc)=true:=by
 induction l with
 |nil=>rfl
 |cons f fs ih=>rw[List.map_cons,pureLL_cons,ih,Dst_pure];rfl
theorem Plc_pure (r:Plc):pureL r.enc=true:=by
 simp only[D.pure,pureL_cons,pureL_nil,Bool.and_true,Bool.and_self,Plc.enc,Apts_pure,Dsts_pure]
def Shf.Ok (r:Shf):Prop:=(-9223372036854775808≤r.tm∧r.tm≤9223372036854775807)∧(-9223372036854775808≤r.off∧r.off≤9223372036854775807)∧True
def Apt.Ok (r:Apt):Prop:=r.code.size≤9223372036854775807∧r.city.size≤9223372036854775807∧r.ctry.size≤9223372036854775807∧(-9223372036854775808≤r.off∧r.off≤9223372036854775807)∧((∀e∈r.sh,e.Ok)∧r.sh.length≤9223372036854775807)∧True
def Dst.Ok (r:Dst):Prop:=r.fr.size≤9223372036854775807∧r.to.size≤9223372036854775807∧(-9223372036854775808≤r.mi∧r.mi≤9223372036854775807)∧True
def Plc.Ok (r:Plc):Prop:=((∀e∈r.aps,e.Ok)∧r.aps.length≤9223372036854775807)∧((∀e∈r.dts,e.Ok)∧r.dts.length≤9223372036854775807)∧True
end Go.Proofs.YtkemehicndccmaaGreatDoor.Dm
namespace Go.Proofs.YtkemehicndccmaaGreatDoor.Dm
open Go Gw
set_option linter.unusedSimpArgs false

def sameC (c q:Cnn):Bool:=(q.a.toList == c.a.toList) && (q.i.toList == c.i.toList) && (q.o.toList == c.o.toList)
def badC (c:Cnn):Bool:= !(eqS c.a emp || lettS c.a 3) || !(eqS c.i emp || carS c.i) || !(eqS c.o emp || carS c.o)
def outC (c:Cnn):Bool:=decide (c.m<0) || decide (1440<c.m)
def conS (i:Nat):ByteArray:=ByteArray.mk #[99,111,110,110,101,99,116,32]++dec2 i
def conF (i:Nat) (pre:List Cnn) (c:Cnn):List (Int×ByteArray):=ifF (badC c) 5 (conS i)++ifF (outC c) 2 (conS i)++ifF (pre.any (sameC c)) 6 (conS i)
def conL (l:List Cnn):Nat→List (Int×ByteArray)
 |0=>[]
 |i+1=>conL l i++match l[i]? with
  |some c=>conF i (l.take i) c
  |none=>[]
theorem conL_len (l:List Cnn):∀i,(conL l i).length≤3*i
 |0=>Nat.le_refl _
 |i+1=>by
  have:=conL_len l i
  unfold conL
  rw[List.length_append]
  rcases l[i]? with _ |c
  ·simp;omega
  ·have h1:=ifF_len (badC c) 5 (conS i)
   have h2:=ifF_len (outC c) 2 (conS i)
   have h3:=ifF_len ((l.take i).any (sameC c)) 6 (conS i)
   simp only[conF,List.length_append];omega
theorem con_max (i:Nat):¬IntKind.i64.max<((ByteArray.mk #[99,111,110,110,101,99,116,32]).size:Int)+((dec2 i).size:Int):=by
 have:=dec2_size i
 show ¬(9223372036854775807:Int)<((8:Nat):Int)+((dec2 i).size:Int)
 omega
def Gr (T:List Ob) (a:List D) (k:Nat) (fs:List (Int×ByteArray)):Prop:=∃d,a[k]? =some d∧GV T d fs
end Go.Proofs.YtkemehicndccmaaGreatDoor.Dm
namespace Go.Proofs.YtkemehicndccmaaGreatDoor.Dm
open Go Gw
set_option linter.unusedSimpArgs false
set_option linter.unusedSimpArgs false

theorem el_rrow:elemT Tryz.prog 144=some 149:=by kernel_rfl
theorem sz_rrow:sizeT Tryz.prog 149=some 7:=by kernel_rfl
theorem ze_rrow:zeroT Tryz.prog 149=some (.agg [.str (ByteArray.mk #[]),.int .i64 0,.int .i64 0,.str (ByteArray.mk #[]),.str (ByteArray.mk #[]),.bool false,.nils]):=by kernel_rfl
theorem by_rrow:bytesT Tryz.prog 149≤100000:=of_decide_eq_true (by kernel_rfl)
section
variable {S : List Ob} {lab : Lab} {o k n : Nat} {s : Stk} {rd : D} {rows : List RRow} {id : Lid}
theorem rNew_c {l:List Cfg} {lx:Bool} (hn:320≤n) (hl:l.length≤30) (hc:∀c∈l,Sm c) (hz:∀c∈l,CfgZ (n-3) c) (hg:cfgL l l.length=[]) (hf:FreshL S lab):
  ∃T lab' k,(∀st,callD E (dcall E n) st S 21 [.sl 2 (l.map Cfg.enc) lx]=some (.tup [.loc k 0 0,.nils],T))∧RAt T lab' o k ⟨l,lx,[]⟩∧Step o S lab T lab':=by
 obtain⟨m,rfl⟩:∃m,n=m+1:=⟨n-1,by omega⟩
 obtain⟨x,hx,cc⟩:=rCheck_c (n:=m) (lx:=lx) (by omega) hl hc hz
 rw[hg]at hx
 have:WO (dcall E (m+1) 21 [.sl 2 (l.map Cfg.enc) lx] S) fun d T=>d=.tup [.loc S.length 0 0,.nils]∧T=S++[.row 3 [[.bool true,.sl 2 (l.map Cfg.enc) lx,.nils]]]:=by
  refine wo_dcall Tryz.func21 rfl (by decide) rfl 14 rfl (fun a hal ha=>?_)
  have h0:a[0]? =some (.sl 2 (l.map Cfg.enc) lx):=ha 0 (by simp)
  clear ha
  rcases hx with ⟨rfl,-⟩ | ⟨y,rfl⟩
  ·simp(maxSteps:=1000000)(disch:=omega)only[push_cast,gt_iff_lt,hal,h0,cc,Tryz.f21,↓WX,simprocAttr]
  ·simp(maxSteps:=1000000)(disch:=omega)only[push_cast,gt_iff_lt,hal,h0,cc,Int.natCast_zero,Tryz.f21,↓WX,simprocAttr]
 obtain⟨d,T,ho,rfl,rfl⟩:=this
 have s1:=Step.add (o:=o) hf (.row 3 [[.bool true,.sl 2 (l.map Cfg.enc) lx,.nils]]) [o,0]
 refine⟨_,_,S.length,fun st=>(callD_gen rfl).trans ho,⟨s1.fresh,.nils,[],?_⟩,s1⟩
 exact⟨setL_self,get_end,.inl ⟨rfl,rfl⟩,fun r n e=>(by cases e),rfl,fun i id x d h=>by simp at h⟩
theorem RefAt.add {V:List Ob} {lab2:Lab} {p:Nat} {x:Leg} {d:D} (h:RefAt S lab o s k rd rows) (hkT:k<S.length)
  (hold:∀(z:Nat) (ob:Ob),z<S.length→z≠k→(∀n,rd≠.os z 0 n false)→S[z]? =some ob→V[z]? =some ob) (hlab:∀z,z<S.length→lab2 z=lab z)
  (hrow:V[k]? =some (.row 3 [[.bool true,.sl 2 (s.l.map Cfg.enc) s.x,.os p 0 (rows.length+1) false]])) (hp:V[p]? =some (.row 7 ((rows++[(id,x,d)]).map rowE))) (hlp:lab2 p=[o,4]) (ht:TabAt V lab2 o rows.length d x.sold):
  RefAt V lab2 o { s with legs:=s.legs++[(id,x)] } k (.os p 0 (rows.length+1) false) (rows++[(id,x,d)]) where
 labk:=by rw[hlab k hkT];exact h.labk
 row:=hrow
 gl:=.inr ⟨p,by rw[List.length_append];rfl,hp⟩
 own r n e:=by injection e with e1;rw[←e1];exact hlp
 legs:=by rw[List.map_append,h.legs];rfl
 tab i id' x' d' hi:=by
  rcases get_snoc hi with hi | ⟨rfl,e⟩
  ·refine (h.tab i id' x' d' hi).keep fun y ob tl hy hly=>?_
   have hyl:=lt_of_get hy
   refine⟨hold y ob hyl ?_ ?_ hy,hlab y hyl⟩
   ·rintro rfl
    rw[h.labk]at hly
    rcases hly with hly | ⟨z,hly⟩ <;> simp at hly
   ·intro n e
    have:=h.own y n e
    rw[this]at hly
    rcases hly with hly | ⟨z,hly⟩ <;> simp at hly
  ·cases e
   exact ht
set_option maxHeartbeats 8000000 in
set_option maxRecDepth 100000 in
theorem rsOpen_d (hn:180≤n) (h:RAt S lab o k s) (hll:s.legs.length≤100) (hls:s.l.length≤100) (hc:CfgsOk s.l) (e:ByteArray):
  WO (dcall E (n+1) 22 [.loc k 0 0,.agg id.enc,.str e] S) fun d T=>d=.int .i64 (s.open id e).1∧∃lab',RAt T lab' o k (s.open id e).2∧Step o S lab T lab':=by
 obtain⟨hf,rd,rows,h⟩:=h
 have hrl:rows.length≤100:=by rw[←h.legs,List.length_map]at hll;exact hll
 have hx:=h.push [.row 4 [id.enc]]
 have cm:=rmade_c (n:=n) (by omega) hx
 have ca:=rat_c (n:=n) (id:=id) (by omega) hx hrl
 have hk:=hx.row
 have cf:=rFind_c (n:=n) (l:=s.l) (x:=s.x) (e:=e) (by omega) hls
 refine wo_dcall Tryz.func22 rfl (by decide) rfl 41 rfl (fun a hal ha=>?_)
 have h0:a[0]? =some (.loc k 0 0):=ha 0 (by simp)
 have h1:a[1]? =some (.agg id.enc):=ha 1 (by simp)
 have h2:a[2]? =some (.str e):=ha 2 (by simp)
 clear ha
 unfold Stk.open
 rcases at_rows h id with ⟨g1,g2⟩ | ⟨i,x,d,g1,g2,g3⟩
 case inr=>
  rw[g1]
  rw[g2]at ca
  have hnn:(0:Int)≤i:=by omega
  simp only[Lid.enc]at h1 cm ca hk
  simp(maxSteps:=1000000)(disch:=omega)only[push_cast,hal,h0,h1,get_end,cm,ca,hnn,dUn,Tryz.f22,↓WX,simprocAttr]
  exact⟨lab,⟨hf.push _,rd,rows,hx⟩,Step.push hf _⟩
 rw[g1]
 rw[g2]at ca
 rcases hfd:findF s.l e with _ |c
 ·rw[hfd]at cf
  simp only[foundC]at cf
  simp only[Lid.enc]at h1 cm ca hk
  simp(maxSteps:=1000000)(disch:=omega)only[push_cast,hal,h0,h1,h2,get_end,set_end,cm,ca,hk,cf,dUn,ge_iff_le,Tryz.f22,↓WX,simprocAttr]
  exact⟨lab,⟨(hf.push _).push _,rd,rows,hx.push _⟩,(Step.push hf _).trans (Step.push (hf.push _) _)⟩
 rw[hfd]at cf
 have hcm:c∈s.l:=by unfold findF at hfd;exact List.mem_of_find?_eq_some hfd
 have hco:=hc.cfg c hcm
 have hx2:=hx.push [.row 2 [c.enc]]
 have hf2:FreshL (S++[Ob.row 4 [id.enc]]++[Ob.row 2 [c.enc]]) lab:=(hf.push _).push _
 obtain⟨d,T,lab2,ce,ht,⟨q,len,rfl⟩,hf3,hl3,hx3⟩:=rempty_c (n:=n) (o:=o) (i:=rows.length) (by omega) hco hf2
 have ht:=ht.uncut
 have hxk2:=hx2.row
 have hgT:GL 7 rowE T rd rows:=hx2.gl.ext hx3
 obtain⟨V,ha,hgV,hlenV,hkeepV,-⟩:=app_gl (enc:=rowE) el_rrow sz_rrow ze_rrow rfl by_rrow hgT (by omega) (id,⟨c,false,emptyF c⟩,.os q 0 len false)
 have hkT:=hx3 k _ hx2.row
 have hid3:=hx3 S.length (.row 4 [id.enc]) (get_old get_end)
 have hnk:∀n,rd=.os k 0 n false→False:=fun n e=>by
  have:=h.own _ _ e
  rw[h.labk]at this
  simp at this
 have hkV:=hkeepV k _ hnk hkT
 have hlen3:=hx3.len
 simp only[List.length_append,List.length_cons,List.length_nil]at hlen3
 have hkS:=lt_of_get h.row
 have hvk:=lt_of_get hkV
 have fin:∃lab',RAt (V.set k (.row 3 [[.bool true,.sl 2 (s.l.map Cfg.enc) s.x,.os T.length 0 (rows.length+1) false]])) lab' o k { s with legs:=s.legs++[(id,⟨c,false,emptyF c⟩)] }∧Step o S lab (V.set k (.row 3 [[.bool true,.sl 2 (s.l.map Cfg.enc) s.x,.os T.length 0 (rows.length+1) false]])) lab':=by
  have hold:∀(z:Nat) (ob:Ob),z<S.length→z≠k→(∀n,rd≠.os z 0 n false)→S[z]? =some ob→(V.set k (.row 3 [[.bool true,.sl 2 (s.l.map Cfg.enc) s.x,.os T.length 0 (rows.length+1) false]]))[z]? =some ob:=fun z ob hz hne hnr hzo=>by
   rw[List.getElem?_set_ne (fun e=>hne e.symm)]
   exact hkeepV z ob (fun n e=>hnr n e) (hx3 z ob (get_old (get_old hzo)))
  have hlb:∀z,z<S.length→setL lab2 T.length [o,4] z=lab z:=fun z hz=>by
   rw[setL_ne (by omega)]
   exact hl3 z (by rw[List.length_append,List.length_append];omega)
  have hfr:FreshL (V.set k (.row 3 [[.bool true,.sl 2 (s.l.map Cfg.enc) s.x,.os T.length 0 (rows.length+1) false]])) (setL lab2 T.length [o,4]):=fun z hz=>by
   rw[List.length_set,hlenV]at hz
   rw[setL_ne (by omega)]
   exact hf3 z (by omega)
  obtain⟨kk,e1,hVp⟩:∃kk,D.os T.length 0 (rows.length+1) false=.os kk 0 (rows++[(id,(⟨c,false,emptyF c⟩:Leg),D.os q 0 len false)]).length false∧V[kk]? =some (.row 7 ((rows++[(id,(⟨c,false,emptyF c⟩:Leg),D.os q 0 len false)]).map rowE)):=by
   rcases hgV with ⟨e,-⟩ |h
   ·cases e
   ·exact h
  injection e1 with e1
  subst e1
  have hTk:T.length≠k:=by omega
  refine⟨setL lab2 T.length [o,4],⟨hfr,_,_,h.add hkS hold hlb (List.getElem?_set_self hvk) (by rw[List.getElem?_set_ne hTk.symm];exact hVp) setL_self (ht.keep fun y ob tl hy hly=>?_)⟩,⟨by rw[List.length_set,hlenV];omega,hfr,hlb,fun z hz hne=>?_⟩⟩
  ·have hyT:=lt_of_get hy
   rw[setL_ne (by omega)]
   refine⟨?_,rfl⟩
   rw[List.getElem?_set_ne]
   ·refine hkeepV y ob (fun n e=>?_) hy
    have h1:=h.own y n e
    have hyS:y<S.length:=by
     rcases h.gl with ⟨e',-⟩ | ⟨r',e',hr'⟩
     ·rw[e']at e;cases e
     ·rw[e']at e;injection e with e2;rw[←e2];exact lt_of_get hr'
    rw[hl3 y (by rw[List.length_append,List.length_append];omega),h1]at hly
    rcases hly with hly | ⟨z,hly⟩ <;> simp at hly
   ·rintro rfl
    rw[hl3 k (by rw[List.length_append,List.length_append];omega),h.labk]at hly
    rcases hly with hly | ⟨z,hly⟩ <;> simp at hly
  ·rw[hold z (S[z]'hz) hz ?_ ?_ (List.getElem?_eq_getElem hz),List.getElem?_eq_getElem hz]
   ·rintro rfl;rw[h.labk]at hne;simp at hne
   ·intro n e
    have:=h.own z n e
    rw[this]at hne
    simp at hne
 simp only[foundC]at cf
 simp only[Lid.enc]at h1 cm ca hk hxk2 hid3 ce ha hkT hkV
 simp only[Cfg.enc]at cf hxk2 ce
 simp only[rowE]at ha
 rw[(findF_mem hfd).2]at ha
 simp(maxSteps:=1000000)(disch:=omega)only[push_cast,hal,h0,h1,h2,get_end,get_end0,set_end,cm,ca,hk,hxk2,cf,ce,dUn,ha,hkV,ge_iff_le,Tryz.f22,↓WX,simprocAttr]
 exact fin
end
end Go.Proofs.YtkemehicndccmaaGreatDoor.Dm
namespace Go.Proofs.YtkemehicndccmaaGreatDoor.Dm
open Go Gw
set_option linter.unusedSimpArgs false

theorem sum_le_mul {M:Int}:∀ {l:List Int},(∀v∈l,v≤M)→l.sum≤M*l.length
 | [],_=>by simp
 |v::l,h=>by
  have h1:=h v (by simp)
  have h2:=sum_le_mul (l:=l) (fun w hw=>h w (by simp[hw]))
  rw[List.sum_cons,List.length_cons,Int.natCast_add,Int.natCast_one,Int.mul_add,Int.mul_one]
  omega
theorem lim_tot {l:List Cfg} {B:Int} {x:Leg} (ok:LegOk l B x) (h:InLim x):tot x≤7992:=by
 have h4:=ok.cfg.l2
 have hl:=ok.len
 have hs:∀v∈x.sold.map List.sum,v≤1998:=fun v hv=>by
  obtain⟨r,hr,rfl⟩:=List.mem_map.1 hv
  obtain⟨i,hi⟩:=List.mem_iff_getElem?.1 hr
  have hil:=lt_of_get hi
  have hy:x.cfg.cabs[i]? =some (x.cfg.cabs[i]'(by omega)):=List.getElem?_eq_getElem (by omega)
  have hyo:=ok.cfg.cab _ (List.mem_of_getElem? hy)
  cases r with
  |nil=>simp
  |cons v r=>
   have h0:=h i _ _ hy hi 0 (by simp)
   unfold spF at h0
   rw[List.drop_zero]at h0
   have h1:=limF_le hyo 0
   have h2:=aut_le hyo
   omega
 have:=sum_le_mul hs
 unfold tot
 rw[List.length_map]at this
 have hn:(x.sold.length:Int)≤4:=by omega
 omega
def Fit (c:Nat) (x:Leg):Prop:=(InLim x∧tot x≤127*((c:Int)-1))∨tot x≤127*((c:Int)-2)
theorem Fit.mono {c:Nat} {x:Leg} (h:Fit c x):Fit (c+1) x:=by
 rcases h with ⟨h1,h2⟩ |h
 ·exact .inl ⟨h1,by rw[Int.natCast_add];omega⟩
 ·exact .inr (by rw[Int.natCast_add];omega)
structure Ok80 (c:Nat) (s:Stk):Prop where
 ok:StkOk 9999 s
 fit:∀id x,s.get id=some x→Fit c x
end Go.Proofs.YtkemehicndccmaaGreatDoor.Dm
