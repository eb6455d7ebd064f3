/-
  The availability of all classes, the program's and the reference's; the walk of OfferAlls.
-/
import Derived.Test.YtkemehicndccmaaGreatDoorTfA
set_option linter.unusedSimpArgs false
set_option linter.unusedVariables false
namespace Go.Proofs.YtkemehicndccmaaGreatDoor.Dm
open Go Gw
set_option linter.unusedSimpArgs false
set_option linter.unusedSimpArgs false

def hasF (s:Stk) (id:Lid) (cl:ByteArray):Bool:=(s.counts id).any fun p=>decide (p.1=cl)
def comF (s:Stk) (rest:List Lid) (p:ByteArray×Int):Bool:=rest.all fun i=>hasF s i p.1
def outF (s:Stk) (ids rest:List Lid) (l:List (ByteArray×Int)):List (ByteArray×Int):=(l.filter (comF s rest)).map fun p=>(p.1,openF s ids p.1)
def allF (s:Stk) (ids:List Lid):List (ByteArray×Int):=if usF s ids=true then match ids with
 | []=>[]
 |id::rest=>outF s ids rest (s.counts id)
 else []
theorem outF_yes {s:Stk} {ids rest:List Lid} {l:List (ByteArray×Int)} {i:Nat} {p:ByteArray×Int} (h:l[i]? =some p) (hc:comF s rest p=true):outF s ids rest (l.take (i+1))=outF s ids rest (l.take i)++[(p.1,openF s ids p.1)]:=by
 unfold outF
 rw[List.take_add_one,h,List.filter_append,List.map_append]
 simp[hc]
theorem outF_no {s:Stk} {ids rest:List Lid} {l:List (ByteArray×Int)} {i:Nat} {p:ByteArray×Int} (h:l[i]? =some p) (hc:comF s rest p=false):outF s ids rest (l.take (i+1))=outF s ids rest (l.take i):=by
 unfold outF
 rw[List.take_add_one,h,List.filter_append,List.map_append]
 simp[hc]
theorem outF_len (s:Stk) (ids rest:List Lid) (l:List (ByteArray×Int)):(outF s ids rest l).length≤l.length:=by
 unfold outF
 rw[List.length_map]
 exact List.length_filter_le _ _
theorem counts_len {s:Stk} (ok:StkOk 9999 s) (id:Lid):(s.counts id).length≤1000:=by
 unfold Stk.counts
 rcases e:s.get id with _ |x
 ·simp
 ·have hok:=ok.get e
  have hl4:=hok.cfg.l2
  have h1:=slC_len hok.cfg.sm.cls x.cfg.cabs.length
  dsimp only
  rw[countsF_eq,List.length_map]
  omega
section
variable {S : List Ob} {lab : Lab} {o k m n : Nat} {s : Stk} {ps : List (D × D)} {id : Lid} {ids : List Lid} {rd : D} {rows : List RRow}
set_option maxHeartbeats 8000000 in
set_option maxRecDepth 100000 in
theorem has_c (hn:1010≤n) (h:StkAt S lab o kL (.loc k 0 0) s k m ps) (ok:StkOk 9999 s) (hid:id.Ok) (cl:ByteArray) (st:Bool):
  callD E (dcall E n) st S 68 [.loc k 0 0,.agg id.enc,.str cl]=some (.bool (hasF s id cl),S):=by
 obtain⟨q,rfl⟩:∃q,n=q+1:=⟨n-1,by omega⟩
 have hT:=h.push [.row 4 [id.enc]]
 obtain⟨d,T,cc,hg,hx,-⟩:=Counts_c (n:=q) (by omega) hT ok hid
 have hSx:ExtS S T:=fun j y hj=>hx j y (get_old hj)
 have hcl:=counts_len ok id
 have:WO (dcall E (q+1) 68 [.loc k 0 0,.agg id.enc,.str cl] S) fun r U=>r=.bool (hasF s id cl)∧ExtS S U:=by
  refine wo_dcall Tryz.func68 rfl (by decide) rfl 22 rfl (fun a hal ha=>?_)
  have h0:a[0]? =some (.loc k 0 0):=ha 0 (by simp)
  have h1:a[1]? =some (.agg id.enc):=ha 1 (by simp)
  have h2:a[2]? =some (.str cl):=ha 2 (by simp)
  clear ha
  simp only[Lid.enc]at h1 cc
  rcases hg with ⟨rfl,hnil⟩ | ⟨r,rfl,hk⟩
  ·have hv:hasF s id cl=false:=by unfold hasF;rw[hnil];rfl
   rw[hv]
   simp(maxSteps:=1000000)(disch:=omega)only[push_cast,hal,h0,h1,get_end,cc,↓WX,simprocAttr]
   refine wl_loop (fun i a U=>i=0∧U=T∧a.length=22∧a[12]? =some (.int .i64 0)∧a[13]? =some (.int .i64 0)) 0 ?_ (by omega) ?_
   ·simp(maxSteps:=1000000)(disch:=omega)only[push_cast,hal,simprocAttr]
   clear hal h0 h1 h2 a
   rintro i a U _ ⟨rfl,rfl,hal,h12,h13⟩
   simp(maxSteps:=1000000)(disch:=omega)only[push_cast,hal,h12,h13,Int.lt_irrefl,Tryz.f68,↓WX,simprocAttr]
   exact hSx
  simp(maxSteps:=1000000)(disch:=omega)only[push_cast,hal,h0,h1,get_end,cc,↓WX,simprocAttr]
  refine wl_loop (fun i a U=>a.length=22∧a[2]? =some (.str cl)∧a[11]? =some (.os r 0 (s.counts id).length false)∧a[12]? =some (.int .i64 (s.counts id).length)∧a[13]? =some (.int .i64 i)∧ExtS T U∧∀j p,j<i→(s.counts id)[j]? =some p→¬p.1=cl) (s.counts id).length ?_ (by omega) ?_
  ·simp(maxSteps:=1000000)(disch:=omega)only[push_cast,hal,h2,Int.natCast_zero,simprocAttr]
   exact⟨ExtS.refl,fun j p hj=>by omega⟩
  clear hal h0 h1 h2 a
  rintro i a U hi ⟨hal,h2,h11,h12,h13,hxU,hq⟩
  rcases Nat.lt_or_eq_of_le hi with hlt |rfl
  case inr=>
   have hv:hasF s id cl=false:=by
    unfold hasF
    rw[List.any_eq_false]
    intro p hp
    obtain⟨j,hj⟩:=List.mem_iff_getElem?.1 hp
    simpa using hq j p (lt_of_get hj) hj
   rw[hv]
   simp(maxSteps:=1000000)(disch:=omega)only[push_cast,hal,h12,h13,Nat.lt_irrefl,Tryz.f68,↓WX,simprocAttr]
   exact hSx.trans hxU
  obtain⟨w,hw⟩:∃w,(s.counts id)[i]? =some w:=⟨(s.counts id)[i],by simp⟩
  have hkU:=hxU _ _ hk
  by_cases e:w.1=cl
  ·have hv:hasF s id cl=true:=by
    unfold hasF
    rw[List.any_eq_true]
    exact⟨w,mem_at hw,decide_eq_true e⟩
   rw[hv]
   simp(maxSteps:=1000000)(disch:=omega)only[push_cast,hal,h2,h11,h12,h13,hlt,hkU,hw,get_end,set_end,str_eq,e,encC,Tryz.f68,↓WX,simprocAttr]
   exact (hSx.trans hxU).push _
  ·simp(maxSteps:=1000000)(disch:=omega)only[push_cast,hal,h2,h11,h12,h13,hlt,hkU,hw,get_end,set_end,str_eq,e,encC,wrap_ok,Int.natCast_add,Int.natCast_one,↓WX,simprocAttr]
   refine⟨hxU.push _,fun j p hj hp=>?_⟩
   by_cases ej:j=i
   ·subst ej
    rw[hw]at hp
    cases hp
    exact e
   ·exact hq j p (by omega) hp
 obtain⟨_,U,ho,rfl,hx'⟩:=this
 exact callD_obsS rfl rfl ho hx' rfl
set_option maxHeartbeats 8000000 in
set_option maxRecDepth 100000 in
theorem rhas_c (hn:1010≤n) (h:RefAt S lab o s k rd rows) (ok:StkOk 9999 s) (hrl:rows.length≤100) (hls:s.l.length≤100) (cl:ByteArray) (st:Bool):
  callD E (dcall E n) st S 71 [.loc k 0 0,.agg id.enc,.str cl]=some (.bool (hasF s id cl),S):=by
 obtain⟨q,rfl⟩:∃q,n=q+1:=⟨n-1,by omega⟩
 have hT:=h.push [.row 4 [id.enc]]
 obtain⟨d,T,cc,hg,hx,-⟩:=rCounts_c (id:=id) (n:=q) (by omega) hT ok hrl hls
 have hSx:ExtS S T:=fun j y hj=>hx j y (get_old hj)
 have hcl:=counts_len ok id
 have:WO (dcall E (q+1) 71 [.loc k 0 0,.agg id.enc,.str cl] S) fun r U=>r=.bool (hasF s id cl)∧ExtS S U:=by
  refine wo_dcall Tryz.func71 rfl (by decide) rfl 25 rfl (fun a hal ha=>?_)
  have h0:a[0]? =some (.loc k 0 0):=ha 0 (by simp)
  have h1:a[1]? =some (.agg id.enc):=ha 1 (by simp)
  have h2:a[2]? =some (.str cl):=ha 2 (by simp)
  clear ha
  simp only[Lid.enc]at h1 cc
  rcases hg with ⟨rfl,hnil⟩ | ⟨r,rfl,hk⟩
  ·have hv:hasF s id cl=false:=by unfold hasF;rw[hnil];rfl
   rw[hv]
   simp(maxSteps:=1000000)(disch:=omega)only[push_cast,hal,h0,h1,get_end,cc,↓WX,simprocAttr]
   refine wl_loop (fun i a U=>i=0∧U=T∧a.length=25∧a[7]? =some (.nils)∧a[8]? =some (.int .i64 0)) 0 ?_ (by omega) ?_
   ·simp(maxSteps:=1000000)(disch:=omega)only[push_cast,hal,simprocAttr]
   clear hal h0 h1 h2 a
   rintro i a U _ ⟨rfl,rfl,hal,h7,h8⟩
   simp(maxSteps:=1000000)(disch:=omega)only[push_cast,hal,h7,h8,Int.lt_irrefl,Tryz.f71,↓WX,simprocAttr]
   exact hSx
  simp(maxSteps:=1000000)(disch:=omega)only[push_cast,hal,h0,h1,get_end,cc,↓WX,simprocAttr]
  refine wl_loop (fun i a U=>a.length=25∧a[2]? =some (.str cl)∧a[7]? =some (.os r 0 (s.counts id).length false)∧a[8]? =some (.int .i64 i)∧U=T∧∀j p,j<i→(s.counts id)[j]? =some p→¬p.1=cl) (s.counts id).length ?_ (by omega) ?_
  ·simp(maxSteps:=1000000)(disch:=omega)only[push_cast,hal,h2,Int.natCast_zero,simprocAttr]
   exact fun j p hj=>by omega
  clear hal h0 h1 h2 a
  rintro i a U hi ⟨hal,h2,h7,h8,rfl,hq⟩
  rcases Nat.lt_or_eq_of_le hi with hlt |rfl
  case inr=>
   have hv:hasF s id cl=false:=by
    unfold hasF
    rw[List.any_eq_false]
    intro p hp
    obtain⟨j,hj⟩:=List.mem_iff_getElem?.1 hp
    simpa using hq j p (lt_of_get hj) hj
   rw[hv]
   simp(maxSteps:=1000000)(disch:=omega)only[push_cast,hal,h7,h8,Int.lt_irrefl,Tryz.f71,↓WX,simprocAttr]
   exact hSx
  have hltc:(i:Int)<(s.counts id).length:=by omega
  obtain⟨w,hw⟩:∃w,(s.counts id)[i]? =some w:=⟨(s.counts id)[i],by simp⟩
  by_cases e:w.1=cl
  ·have hv:hasF s id cl=true:=by
    unfold hasF
    rw[List.any_eq_true]
    exact⟨w,mem_at hw,decide_eq_true e⟩
   rw[hv]
   simp(maxSteps:=1000000)(disch:=omega)only[push_cast,hal,h2,h7,h8,hltc,hk,hw,str_eq,e,encC,Tryz.f71,↓WX,simprocAttr]
   exact hSx
  ·simp(maxSteps:=1000000)(disch:=omega)only[push_cast,hal,h2,h7,h8,hlt,hltc,hk,hw,str_eq,e,encC,wrap_ok,Int.natCast_add,Int.natCast_one,↓WX,simprocAttr]
   intro j p hj hp
   by_cases ej:j=i
   ·subst ej
    rw[hw]at hp
    cases hp
    exact e
   ·exact hq j p (by omega) hp
 obtain⟨_,U,ho,rfl,hx'⟩:=this
 exact callD_obsS rfl rfl ho hx' rfl
theorem us_cons {s:Stk} {ids:List Lid} (h:usF s ids=true) {di:D} (hdi:FLs 4 Lid.enc di ids):∃id0 rest x,ids=id0::rest∧di=.sl 4 (id0.enc::rest.map Lid.enc) x:=by
 rcases ids with _ | ⟨id0,rest⟩
 ·simp[usF]at h
 ·rcases hdi with ⟨-,e⟩ | ⟨x,e⟩
  ·cases e
  ·exact⟨id0,rest,x,rfl,e⟩
set_option maxHeartbeats 16000000 in
set_option maxRecDepth 100000 in
theorem All_d (hn:1020≤n) (h:StkAt S lab o kL (.loc k 0 0) s k m ps) (ok:StkOk 9999 s) (hl:ids.length≤20) (hids:∀id∈ids,id.Ok) {di:D} (hdi:FLs 4 Lid.enc di ids):
  WO (dcall E (n+1) 26 [.loc k 0 0,di] S) fun d T=>GL 2 encC T d (allF s ids)∧ExtS S T:=by
 have cu:=usable_c (n:=n) (by omega) h hl hids hdi
 have co:=fun (U:List Ob) (hU:ExtS S U) (cl:ByteArray)=>OOpen_c (n:=n) (by omega) (h.keep (KeepO.ext hU)) ok hl hids hdi cl
 refine wo_dcall Tryz.func26 rfl (by decide) rfl 51 rfl (fun a hal ha=>?_)
 have h0:a[0]? =some (.loc k 0 0):=ha 0 (by simp)
 have h1:a[1]? =some (di):=ha 1 (by simp)
 clear ha
 unfold allF
 cases hu:usF s ids
 ·rw[hu]at cu
  rw[if_neg (by simp)]
  simp(maxSteps:=1000000)(disch:=omega)only[push_cast,hal,h0,h1,cu,dUn,Tryz.f26,↓WX,simprocAttr]
  exact⟨GL.nil,ExtS.refl⟩
 rw[hu]at cu
 rw[if_pos rfl]
 obtain⟨id0,rest,x,rfl,rfl⟩:=us_cons hu hdi
 dsimp only
 obtain⟨d0,T0,cc,hg0,hx0,hd0⟩:=Counts_c (n:=n) (by omega) h ok (hids id0 (by simp))
 have hcl:=counts_len ok id0
 have hrl:rest.length≤19:=by simpa using hl
 have e1:¬(rest.length:Int)+1<1:=by omega
 have e2:(rest.map Lid.enc).take rest.length=rest.map Lid.enc:=List.take_of_length_le (by simp)
 simp only[Lid.enc]at cc h1 cu co
 generalize hcs:s.counts id0=cs at*
 rcases hg0 with ⟨rfl,hnil⟩ | ⟨r,rfl,hk⟩
 ·subst hnil
  simp(maxSteps:=1000000)(disch:=omega)only[push_cast,hal,h0,h1,cu,cc,dUn,↓wc_label,↓WX,simprocAttr]
  refine wl_loop (fun i a T=>i=0∧T=T0∧a.length=51∧a[5]? =some (.nils)∧a[19]? =some (.int .i64 0)∧a[20]? =some (.int .i64 0)) 0 ?_ (by omega) ?_
  ·simp(maxSteps:=1000000)(disch:=omega)only[push_cast,hal,simprocAttr]
  clear hal h0 h1 a
  rintro i a T _ ⟨rfl,rfl,hal,h5,h19,h20⟩
  simp(maxSteps:=1000000)(disch:=omega)only[push_cast,hal,h5,h19,h20,Int.lt_irrefl,Tryz.f26,↓WX,simprocAttr]
  exact⟨GL.nil,hx0⟩
 simp(maxSteps:=1000000)(disch:=omega)only[push_cast,hal,h0,h1,cu,cc,dUn,↓wc_label,↓WX,simprocAttr]
 refine wl_loop (fun i a T=>a.length=51∧a[0]? =some (.loc k 0 0)∧a[1]? =some (.sl 4 ([.str id0.c,.int .i64 id0.n,.int .i64 id0.d,.str id0.f]::rest.map Lid.enc) x)∧a[18]? =some (.os r 0 cs.length false)∧a[19]? =some (.int .i64 cs.length)∧a[20]? =some (.int .i64 i)∧ExtS T0 T∧∃d,a[5]? =some d∧GL 2 encC T d (outF s (id0::rest) rest (cs.take i))∧∀k n,d=.os k 0 n false→T0.length≤k) cs.length ?_ (by omega) ?_
 ·simp(maxSteps:=1000000)(disch:=omega)only[push_cast,hal,h0,h1,Int.natCast_zero,List.take_zero,simprocAttr]
  exact⟨ExtS.refl,_,rfl,GL.nil,fun k n h=>by cases h⟩
 clear hal h0 h1 a
 rintro i a T hi ⟨hal,h0,h1,h18,h19,h20,hxT,d,h5,hg,hd⟩
 rcases Nat.lt_or_eq_of_le hi with hlt |rfl
 case inr=>
  rw[List.take_length]at hg
  simp(maxSteps:=1000000)(disch:=omega)only[push_cast,hal,h5,h19,h20,Nat.lt_irrefl,Tryz.f26,↓WX,simprocAttr]
  exact⟨hg,hx0.trans hxT⟩
 obtain⟨p,hp⟩:∃p,cs[i]? =some p:=⟨cs[i],by simp⟩
 have hkT:=hxT _ _ hk
 have hbx:(T++[Ob.row 2 [[.str p.1,.int .i64 p.2]]])[T.length]? =some (.row 2 [[.str p.1,.int .i64 p.2]]):=get_end
 have hx1:ExtS T0 (T++[Ob.row 2 [[.str p.1,.int .i64 p.2]]]):=hxT.push _
 have hg1:=hg.push (Ob.row 2 [[.str p.1,.int .i64 p.2]])
 have hlen1:T.length<(T++[Ob.row 2 [[.str p.1,.int .i64 p.2]]]).length:=by simp
 simp(maxSteps:=1000000)(disch:=omega)only[push_cast,hal,h1,h18,h19,h20,hlt,hkT,hp,get_end,set_end,encC,List.length_cons,Nat.add_sub_cancel,e2,Nat.le_add_left,Nat.le_refl,List.drop_succ_cons,List.drop_zero,↓WX,simprocAttr]
 generalize hT1:T++[Ob.row 2 [[.str p.1,.int .i64 p.2]]]=T1 at*
 refine wl_loop (fun j a U=>a.length=51∧a[0]? =some (.loc k 0 0)∧a[1]? =some (.sl 4 ([.str id0.c,.int .i64 id0.n,.int .i64 id0.d,.str id0.f]::rest.map Lid.enc) x)∧a[5]? =some (d)∧a[7]? =some (.loc T.length 0 0)∧a[18]? =some (.os r 0 cs.length false)∧a[19]? =some (.int .i64 cs.length)∧a[20]? =some (.int .i64 i)∧a[25]? =some (.sl 4 (rest.map Lid.enc) x)∧a[26]? =some (.int .i64 rest.length)∧a[27]? =some (.int .i64 j)∧ExtS T1 U∧∀j' id,j'<j→rest[j']? =some id→hasF s id p.1=true) rest.length ?_ (by omega) ?_
 ·simp(maxSteps:=1000000)(disch:=omega)only[push_cast,hal,h0,h1,h5,h18,h19,h20,Int.natCast_zero,simprocAttr]
  exact⟨ExtS.refl,fun j' id hj=>by omega⟩
 clear hal h0 h1 h5 h18 h19 h20 a
 rintro j a U hj ⟨hal,h0,h1,h5,h7,h18,h19,h20,h25,h26,h27,hxU,hq⟩
 have hbU:=hxU _ _ hbx
 have hSU:ExtS S U:=hx0.trans (hx1.trans hxU)
 rcases Nat.lt_or_eq_of_le hj with hlj |rfl
 case inr=>
  have hcom:comF s rest p=true:=List.all_eq_true.2 fun id hid=>by
   obtain⟨j',hj'⟩:=List.mem_iff_getElem?.1 hid
   exact hq j' id (lt_of_get hj') hj'
  have hol:=outF_len s (id0::rest) rest (cs.take i)
  rw[List.length_take]at hol
  have cop:=co U hSU p.1
  obtain⟨T',ha,hg',hlen',hkeep,hrw⟩:=app_cnt (hg1.ext hxU) (by omega) p.1 (openF s (id0::rest) p.1)
  rw[←outF_yes hp hcom]at hg'
  simp(maxSteps:=1000000)(disch:=omega)only[push_cast,hal,h0,h1,h5,h7,h18,h19,h20,h26,h27,Nat.lt_irrefl,hlt,hbU,cop,ha,wrap_ok,Int.natCast_add,Int.natCast_one,↓WX,simprocAttr]
  refine⟨fun j' ob hj'=>hkeep j' ob (fun n e=>?_) (hxU j' ob (hx1 j' ob hj')),_,rfl,?_,fun k n e=>?_⟩
  ·have:=hd _ _ e
   have:=lt_of_get hj'
   omega
  ·exact hg'
  ·injection e with e1
   have h1:=hx1.len
   have h2:=hxU.len
   omega
 obtain⟨id,hid⟩:∃id,rest[j]? =some id:=⟨rest[j],by simp⟩
 have hidk:id.Ok:=hids id (by simp[List.mem_of_getElem? hid])
 have chs:=has_c (n:=n) (by omega) ((h.keep (KeepO.ext hSU)).push [.row 4 [id.enc]]) ok hidk p.1
 have hbU2:=fun ob:Ob=>get_old (J:=[ob]) hbU
 simp only[Lid.enc]at chs
 cases hh:hasF s id p.1
 ·rw[hh]at chs
  have hcom:comF s rest p=false:=by
   unfold comF
   rw[List.all_eq_false]
   exact⟨id,List.mem_of_getElem? hid,by simp[hh]⟩
  have hgo:=hg1.ext (hxU.push (.row 4 [id.enc]))
  rw[←outF_no hp hcom]at hgo
  simp only[Lid.enc]at hgo
  simp(maxSteps:=1000000)(disch:=omega)only[push_cast,hal,h0,h1,h5,h7,h18,h19,h20,h25,h26,h27,hlj,hlt,hid,hbU2,get_end,set_end,chs,dUn,Lid.enc,wrap_ok,Int.natCast_add,Int.natCast_one,↓WX,simprocAttr]
  exact⟨hx1.trans (hxU.push _),_,rfl,hgo,hd⟩
 ·rw[hh]at chs
  simp(maxSteps:=1000000)(disch:=omega)only[push_cast,hal,h0,h1,h5,h7,h18,h19,h20,h25,h26,h27,hlj,hid,hbU2,get_end,set_end,chs,dUn,Lid.enc,wrap_ok,Int.natCast_add,Int.natCast_one,↓WX,simprocAttr]
  refine⟨hxU.push _,fun j' id' hj' h1=>?_⟩
  by_cases ej:j'=j
  ·subst ej
   rw[hid]at h1
   cases h1
   exact hh
  ·exact hq j' id' (by omega) h1
set_option maxHeartbeats 16000000 in
set_option maxRecDepth 100000 in
theorem rAll_d (hn:1020≤n) (h:RefAt S lab o s k rd rows) (ok:StkOk 9999 s) (hrl:rows.length≤100) (hls:s.l.length≤100) (hl:ids.length≤20) {di:D} (hdi:FLs 4 Lid.enc di ids):
  WO (dcall E (n+1) 28 [.loc k 0 0,di] S) fun d T=>GL 2 encC T d (allF s ids)∧ExtS S T:=by
 have cu:=rusable_c (n:=n) (by omega) h hrl hl hdi
 have co:=fun (U:List Ob) (hU:ExtS S U) (cl:ByteArray)=>rOOpen_c (n:=n) (by omega) (h.keep (KeepO.ext hU)) ok hrl hls hl hdi cl
 have ch:=fun (U:List Ob) (hU:ExtS S U) (id:Lid) (cl:ByteArray)=>rhas_c (n:=n) (id:=id) (by omega) (h.keep (KeepO.ext hU)) ok hrl hls cl
 refine wo_dcall Tryz.func28 rfl (by decide) rfl 64 rfl (fun a hal ha=>?_)
 have h0:a[0]? =some (.loc k 0 0):=ha 0 (by simp)
 have h1:a[1]? =some (di):=ha 1 (by simp)
 clear ha
 unfold allF
 cases hu:usF s ids
 ·rw[hu]at cu
  rw[if_neg (by simp)]
  simp(maxSteps:=1000000)(disch:=omega)only[push_cast,hal,h0,h1,cu,dUn,Tryz.f28,↓WX,simprocAttr]
  exact⟨GL.nil,ExtS.refl⟩
 rw[hu]at cu
 rw[if_pos rfl]
 obtain⟨id0,rest,x,rfl,rfl⟩:=us_cons hu hdi
 dsimp only
 obtain⟨d0,T0,cc,hg0,hx0,hd0⟩:=rCounts_c (id:=id0) (n:=n) (by omega) h ok hrl hls
 have hcl:=counts_len ok id0
 have hrl:rest.length≤19:=by simpa using hl
 simp only[Lid.enc]at cc h1 cu co ch
 generalize hcs:s.counts id0=cs at*
 rcases hg0 with ⟨rfl,hnil⟩ | ⟨r,rfl,hk⟩
 ·subst hnil
  simp(maxSteps:=1000000)(disch:=omega)only[push_cast,hal,h0,h1,cu,cc,dUn,↓WX,simprocAttr]
  refine wl_loop (fun i a T=>i=0∧T=T0∧a.length=64∧a[5]? =some (.nils)∧a[6]? =some (.nils)∧a[7]? =some (.int .i64 0)) 0 ?_ (by omega) ?_
  ·simp(maxSteps:=1000000)(disch:=omega)only[push_cast,hal,simprocAttr]
  clear hal h0 h1 a
  rintro i a T _ ⟨rfl,rfl,hal,h5,h6,h7⟩
  simp(maxSteps:=1000000)(disch:=omega)only[push_cast,hal,h5,h6,h7,Int.lt_irrefl,Tryz.f28,↓WX,simprocAttr]
  exact⟨GL.nil,hx0⟩
 simp(maxSteps:=1000000)(disch:=omega)only[push_cast,hal,h0,h1,cu,cc,dUn,↓WX,simprocAttr]
 refine wl_loop (fun i a T=>a.length=64∧a[0]? =some (.loc k 0 0)∧a[1]? =some (.sl 4 ([.str id0.c,.int .i64 id0.n,.int .i64 id0.d,.str id0.f]::rest.map Lid.enc) x)∧a[6]? =some (.os r 0 cs.length false)∧a[7]? =some (.int .i64 i)∧ExtS T0 T∧∃d,a[5]? =some d∧GL 2 encC T d (outF s (id0::rest) rest (cs.take i))∧∀k n,d=.os k 0 n false→T0.length≤k) cs.length ?_ (by omega) ?_
 ·simp(maxSteps:=1000000)(disch:=omega)only[push_cast,hal,h0,h1,Int.natCast_zero,List.take_zero,simprocAttr]
  exact⟨ExtS.refl,_,rfl,GL.nil,fun k n h=>by cases h⟩
 clear hal h0 h1 a
 rintro i a T hi ⟨hal,h0,h1,h6,h7,hxT,d,h5,hg,hd⟩
 rcases Nat.lt_or_eq_of_le hi with hlt |rfl
 case inr=>
  rw[List.take_length]at hg
  simp(maxSteps:=1000000)(disch:=omega)only[push_cast,hal,h5,h6,h7,Int.lt_irrefl,Tryz.f28,↓WX,simprocAttr]
  exact⟨hg,hx0.trans hxT⟩
 have hltc:(i:Int)<cs.length:=by omega
 obtain⟨p,hp⟩:∃p,cs[i]? =some p:=⟨cs[i],by simp⟩
 have hkT:=hxT _ _ hk
 have hST:ExtS S T:=hx0.trans hxT
 simp(maxSteps:=1000000)(disch:=omega)only[push_cast,hal,h6,h7,hltc,↓WX,simprocAttr]
 refine wl_loop (fun j a U=>a.length=64∧a[0]? =some (.loc k 0 0)∧a[1]? =some (.sl 4 ([.str id0.c,.int .i64 id0.n,.int .i64 id0.d,.str id0.f]::rest.map Lid.enc) x)∧a[5]? =some (d)∧a[6]? =some (.os r 0 cs.length false)∧a[7]? =some (.int .i64 i)∧a[8]? =some (.bool ((rest.take j).all fun i=>hasF s i p.1))∧a[9]? =some (.int .i64 (j+1))∧U=T) rest.length ?_ (by omega) ?_
 ·simp(maxSteps:=1000000)(disch:=omega)only[push_cast,hal,h0,h1,h5,h6,h7,Int.natCast_zero,Int.zero_add,List.take_zero,simprocAttr]
 clear hal h0 h1 h5 h6 h7 a
 rintro j a U hj ⟨hal,h0,h1,h5,h6,h7,h8,h9,rfl⟩
 rcases Nat.lt_or_eq_of_le hj with hlj |rfl
 case inr=>
  rw[List.take_length]at h8
  change a[8]? =some (.bool (comF s rest p)) at h8
  cases hcom:comF s rest p
  ·rw[hcom]at h8
   rw[←outF_no hp hcom]at hg
   simp(maxSteps:=1000000)(disch:=omega)only[push_cast,hal,h0,h1,h5,h6,h7,h8,h9,Int.lt_irrefl,hlt,wrap_ok,Int.natCast_add,Int.natCast_one,↓WX,simprocAttr]
   exact⟨hxT,_,rfl,hg,hd⟩
  ·rw[hcom]at h8
   have hol:=outF_len s (id0::rest) rest (cs.take i)
   rw[List.length_take]at hol
   have cop:=co U hST p.1
   obtain⟨T',ha,hg',hlen',hkeep,hrw⟩:=app_cnt hg (by omega) p.1 (openF s (id0::rest) p.1)
   rw[←outF_yes hp hcom]at hg'
   simp(maxSteps:=1000000)(disch:=omega)only[push_cast,hal,h0,h1,h5,h6,h7,h8,h9,Int.lt_irrefl,hlt,hkT,hp,cop,ha,encC,wrap_ok,Int.natCast_add,Int.natCast_one,↓WX,simprocAttr]
   refine⟨fun j' ob hj'=>hkeep j' ob (fun n e=>?_) (hxT j' ob hj'),_,rfl,hg',fun k n e=>?_⟩
   ·have:=hd _ _ e
    have:=lt_of_get hj'
    omega
   ·injection e with e1
    have h1:=hxT.len
    omega
 obtain⟨id,hid⟩:∃id,rest[j]? =some id:=⟨rest[j],by simp⟩
 have hltj:(j:Int)+1<rest.length+1:=by omega
 have hnn:(0:Int)≤(j:Int)+1:=by omega
 have htn:((j:Int)+1).toNat=j+1:=by omega
 have chs:=ch U hST id p.1
 have htk:(rest.take (j+1)).all (fun i=>hasF s i p.1)=((rest.take j).all (fun i=>hasF s i p.1) && hasF s id p.1):=by
  rw[List.take_add_one,hid,List.all_append]
  simp
 cases hb:(rest.take j).all fun i=>hasF s i p.1
 ·rw[hb]at h8 htk
  rw[Bool.false_and]at htk
  simp(maxSteps:=1000000)(disch:=omega)only[push_cast,hal,h0,h1,h5,h6,h7,h8,h9,hlj,hltj,htk,wrap_ok,Int.natCast_add,Int.natCast_one,↓WX,simprocAttr]
 ·rw[hb]at h8 htk
  rw[Bool.true_and]at htk
  cases hh:hasF s id p.1
  ·rw[hh]at chs htk
   simp(maxSteps:=1000000)(disch:=omega)only[push_cast,hal,h0,h1,h5,h6,h7,h8,h9,hlj,hltj,hnn,htn,hlt,hid,hkT,hp,chs,htk,encC,Lid.enc,wrap_ok,Int.natCast_add,Int.natCast_one,↓WX,simprocAttr]
  ·rw[hh]at chs htk
   simp(maxSteps:=1000000)(disch:=omega)only[push_cast,hal,h0,h1,h5,h6,h7,h8,h9,hlj,hltj,hnn,htn,hlt,hid,hkT,hp,chs,htk,encC,Lid.enc,wrap_ok,Int.natCast_add,Int.natCast_one,↓WX,simprocAttr]
theorem All_c (hn:1030≤n) (h:StkAt S lab o kL (.loc k 0 0) s k m ps) (ok:StkOk 9999 s) (hl:ids.length≤20) (hids:∀id∈ids,id.Ok) {di:D} (hdi:FLs 4 Lid.enc di ids):
  ∃d T,(∀st,callD E (dcall E n) st S 26 [.loc k 0 0,di]=some (d,T))∧GL 2 encC T d (allF s ids)∧ExtS S T:=by
 obtain⟨q,rfl⟩:∃q,n=q+1:=⟨n-1,by omega⟩
 obtain⟨d,T,ho,h1,h2⟩:=All_d (n:=q) (by omega) h ok hl hids hdi
 exact⟨d,T,fun st=>callD_extS rfl ho h2,h1,h2⟩
theorem rAll_c (hn:1030≤n) (h:RefAt S lab o s k rd rows) (ok:StkOk 9999 s) (hrl:rows.length≤100) (hls:s.l.length≤100) (hl:ids.length≤20) {di:D} (hdi:FLs 4 Lid.enc di ids):
  ∃d T,(∀st,callD E (dcall E n) st S 28 [.loc k 0 0,di]=some (d,T))∧GL 2 encC T d (allF s ids)∧ExtS S T:=by
 obtain⟨q,rfl⟩:∃q,n=q+1:=⟨n-1,by omega⟩
 obtain⟨d,T,ho,h1,h2⟩:=rAll_d (n:=q) (by omega) h ok hrl hls hl hdi
 exact⟨d,T,fun st=>callD_extS rfl ho h2,h1,h2⟩
theorem allF_len {s:Stk} (ok:StkOk 9999 s) (ids:List Lid):(allF s ids).length≤1000:=by
 unfold allF
 split
 ·rcases ids with _ | ⟨id,rest⟩
  ·simp
  ·dsimp only
   exact Nat.le_trans (outF_len _ _ _ _) (counts_len ok id)
 ·simp
end
end Go.Proofs.YtkemehicndccmaaGreatDoor.Dm
namespace Go.Proofs.YtkemehicndccmaaGreatDoor
open Go Go.ChangeShapes Go.WideShapes Go.ChangeAt Go.RowKit Dm
end Go.Proofs.YtkemehicndccmaaGreatDoor
