/-
  The reference's combinations of classes on sale.
-/
import Derived.Test.YtkemehicndccmaaGreatDoorShD
set_option linter.unusedSimpArgs false
set_option linter.unusedVariables false
namespace Go.Proofs.YtkemehicndccmaaGreatDoor.Dm
open Go Gw
set_option linter.unusedSimpArgs false
set_option linter.unusedSimpArgs false
section
variable {n k : Nat} {S : List Ob} {lab : Lab} {s : Stk} {rd : D} {rows : List RRow}
set_option maxHeartbeats 64000000 in
set_option maxRecDepth 100000 in
theorem rClasses_d (hn:3000000≤n) (h:RefAt S lab 2 s k rd rows) (ok:StkOk 9999 s) (hrl:rows.length≤100) (hls:s.l.length≤100) {dc:D} {cv:List (D×List Lid)} (hc:LZ 1 encCv S dc cv) (hcl:cv.length≤1000000) (hcv:∀v∈cv,FLs 4 Lid.enc v.1 v.2∧v.2.length≤20) (q:Int):
  WO (dcall E (n+1) 10 [.loc k 0 0,dc,.int .i64 q] S) fun r T=>ExtS S T∧∃outs,OL S.length T r outs∧outs.map (·.2)=if 1≤q∧cv≠[]∧cv.length≤3 then cmbF s q (cv.map (·.2)) else []:=by
 have hlen:=fun (T:List Ob) (hx:ExtS S T)=>len_ls Tryz.underlying48 (hc.ext hx)
 simp only[push_cast]at hlen
 have hlen0:=hlen S (fun _ _ h=>h)
 refine wo_dcall Tryz.func10 rfl (by decide) rfl 78 rfl (fun a hal ha=>?_)
 have h0:a[0]? =some (.loc k 0 0):=ha 0 (by simp)
 have h1:a[1]? =some (dc):=ha 1 (by simp)
 have h2:a[2]? =some (.int .i64 q):=ha 2 (by simp)
 clear ha
 by_cases b1:q<1
 ·simp(maxSteps:=1000000)(disch:=omega)only[push_cast,ne_eq,hal,h2,b1,Tryz.f10,↓WX,simprocAttr]
  exact⟨fun _ _ h=>h,[],OL.nil,by rw[if_neg (by omega)];rfl⟩
 by_cases b2:(cv.length:Int)=0
 ·simp(maxSteps:=1000000)(disch:=omega)only[push_cast,ne_eq,hal,h1,h2,b1,hlen0,b2,decide_true,Tryz.f10,↓WX,simprocAttr]
  exact⟨fun _ _ h=>h,[],OL.nil,by rw[if_neg (fun h=>h.2.1 (List.eq_nil_of_length_eq_zero (by omega)))];rfl⟩
 by_cases b3:(3:Int)<cv.length
 ·simp(maxSteps:=1000000)(disch:=omega)only[push_cast,gt_iff_lt,ne_eq,hal,h1,h2,b1,hlen0,b2,b3,decide_false,Tryz.f10,↓WX,simprocAttr]
  exact⟨fun _ _ h=>h,[],OL.nil,by rw[if_neg (by omega)];rfl⟩
 have hne:cv≠[]:=fun e=>by rw[e]at b2;simp at b2
 rw[if_pos ⟨by omega,hne,by omega⟩]
 refine wc_scut (fun a V=>V=S∧a.length=78∧a[0]? =some (.loc k 0 0)∧a[1]? =some (dc)∧a[2]? =some (.int .i64 q)) ?_ ?_
 ·simp(maxSteps:=1000000)(disch:=omega)only[push_cast,hal,h0,h1,h2,↓WX,simprocAttr]
 clear hal h0 h1 h2 a
 rintro a V ⟨rfl,hal,h0,h1,h2⟩
 refine wc_scut (fun a W=>W=V∧a.length=78∧a[0]? =some (.loc k 0 0)∧a[1]? =some (dc)∧a[2]? =some (.int .i64 q)) ?_ ?_
 ·simp(maxSteps:=1000000)(disch:=omega)only[push_cast,gt_iff_lt,hal,h0,h1,h2,b1,hlen0,b2,b3,decide_false,↓WX,simprocAttr]
 clear hal h0 h1 h2 a
 rintro a W ⟨rfl,hal,h0,h1,h2⟩
 refine wc_scut (fun a V=>V=W∧a.length=78∧a[0]? =some (.loc k 0 0)∧a[1]? =some (dc)∧a[2]? =some (.int .i64 q)∧a[7]? =some (.sl 1 [[.nils]] true)) ?_ ?_
 ·simp(maxSteps:=1000000)(disch:=omega)only[push_cast,hal,h0,h1,h2,↓WX,simprocAttr]
 clear hal h0 h1 h2 a
 rintro a V ⟨rfl,hal,h0,h1,h2,h7⟩
 refine wc_scut (fun a T=>(ExtS V T∧∃d outs,a[7]? =some d∧OL V.length T d outs∧outs.map (·.2)=cmbF s q (cv.map (·.2)))∧a.length=78) ?_ ?_
 ·simp(maxSteps:=1000000)(disch:=omega)only[push_cast,↓WX,simprocAttr]
  refine wl_loop (fun i a T=>(ExtS V T∧∃d outs,a[7]? =some d∧OutS V.length T d outs i∧outs.map (·.2)=cmbF s q ((cv.map (·.2)).take i))∧a.length=78∧a[0]? =some (.loc k 0 0)∧a[1]? =some (dc)∧a[2]? =some (.int .i64 q)∧a[8]? =some (.int .i64 i)) cv.length ?_ (by omega) ?_
  ·simp(maxSteps:=1000000)(disch:=omega)only[push_cast,hal,h0,h1,h2,h7,Int.natCast_zero,simprocAttr]
   exact⟨fun _ _ h=>h,_,_,rfl,.inl ⟨rfl,rfl,rfl⟩,by simp[cmbF]⟩
  clear hal h0 h1 h2 h7 a
  rintro i a T hi ⟨⟨hxT,d7,outs,h7,hO,hout⟩,hal,h0,h1,h2,h8⟩
  have hlT:=hlen T hxT
  rcases Nat.lt_or_eq_of_le hi with hlt |rfl
  case inr=>
   simp(maxSteps:=1000000)(disch:=omega)only[push_cast,hal,h1,h7,h8,hlT,Int.lt_irrefl,↓WX,simprocAttr]
   rcases hO with ⟨e,-⟩ | ⟨-,hO⟩
   ·omega
   ·exact⟨hxT,_,_,rfl,hO,by rw[hout,List.take_of_length_le (by simp)]⟩
  have hltc:(i:Int)<cv.length:=by omega
  obtain⟨v,hv⟩:∃v,cv[i]? =some v:=⟨cv[i],by simp⟩
  obtain⟨hv1,hv2⟩:=hcv v (List.mem_of_getElem? hv)
  have hi2:i≤2:=by omega
  have hoL:outs.length≤1000000:=by
   have h1:=cmbF_len ok q (cv.map (·.2)) i (by simp;omega)
   have h2:=pow3 hi2
   have h3:=congrArg List.length hout
   simp only[List.length_map]at h3
   omega
  have hoE:∀w∈outs,w.2.length≤1000:=fun w hw=>by
   have h1:w.2∈cmbF s q ((cv.map (·.2)).take i):=by rw[←hout];exact List.mem_map_of_mem hw
   have:=cmbF_el i (by simp;omega) _ h1
   omega
  have hvs:(cv.map (·.2))[i]? =some v.2:=by rw[List.getElem?_map,hv];rfl
  have hLl:=allF_len ok v.2
  obtain⟨da,TA,ca,hga,hxa⟩:=rAll_c (n:=n) (by omega) (h.keep (lab':=lab) (KeepO.ext hxT)) ok hrl hls hv2 hv1
  have hVT:V.length≤TA.length:=Nat.le_trans hxT.len hxa.len
  have hlA:=fun (U:List Ob) (hx:ExtS TA U)=>len_ls Tryz.underlying92 (hga.lz.ext hx)
  simp only[push_cast]at hlA
  have hl7:=fun (U:List Ob) (hx:ExtS T U)=>len_ls Tryz.underlying55 (hO.lz.ext hx)
  simp only[push_cast]at hl7
  refine wc_scut (fun a V'=>V'=T∧a.length=78∧a[0]? =some (.loc k 0 0)∧a[1]? =some (dc)∧a[2]? =some (.int .i64 q)∧a[7]? =some (d7)∧a[8]? =some (.int .i64 i)) ?_ ?_
  ·simp(maxSteps:=1000000)(disch:=omega)only[push_cast,hal,h0,h1,h2,h7,h8,hlT,hltc,↓WX,simprocAttr]
  clear hal h0 h1 h2 h7 h8 a
  rintro a T' ⟨rfl,hal,h0,h1,h2,h7,h8⟩
  rw[wc_seq,wc_block]
  refine wc_scut (fun a W=>W=TA∧a.length=78∧a[0]? =some (.loc k 0 0)∧a[1]? =some (dc)∧a[2]? =some (.int .i64 q)∧a[7]? =some (d7)∧a[8]? =some (.int .i64 i)∧a[9]? =some (da)) ?_ ?_
  ·have hcT:=hc.ext hxT
   rcases hcT with ⟨rfl,e⟩ | ⟨x,rfl⟩ | ⟨kc,rfl,hkc⟩
   ·exact absurd e hne
   ·simp(maxSteps:=1000000)(disch:=omega)only[push_cast,hal,h0,h1,h2,h7,h8,hv,ca,↓WX,simprocAttr]
   ·simp(maxSteps:=1000000)(disch:=omega)only[push_cast,hal,h0,h1,h2,h7,h8,hkc,hlt,hv,ca,↓WX,simprocAttr]
  clear hal h0 h1 h2 h7 h8 a
  rintro a W ⟨rfl,hal,h0,h1,h2,h7,h8,h9⟩
  refine wc_scut (fun a V'=>V'=W∧a.length=78∧a[0]? =some (.loc k 0 0)∧a[1]? =some (dc)∧a[2]? =some (.int .i64 q)∧a[7]? =some (d7)∧a[8]? =some (.int .i64 i)∧a[9]? =some (da)∧a[10]? =some (.nils)) ?_ ?_
  ·simp(maxSteps:=1000000)(disch:=omega)only[push_cast,hal,h0,h1,h2,h7,h8,h9,↓WX,simprocAttr]
  clear hal h0 h1 h2 h7 h8 h9 a
  rintro a W' ⟨rfl,hal,h0,h1,h2,h7,h8,h9,h10⟩
  have hst:=cmbF_succ (s:=s) (n:=q) hvs
  generalize allF s v.2=L at*
  refine wc_scut (fun a U=>(ExtS W' U∧∃d nx,a[10]? =some d∧OL W'.length U d nx∧nx.map (·.2)=stepC q (outs.map (·.2)) L)∧a.length=78∧a[0]? =some (.loc k 0 0)∧a[1]? =some (dc)∧a[2]? =some (.int .i64 q)∧a[8]? =some (.int .i64 i)) ?_ ?_
  ·simp(maxSteps:=1000000)(disch:=omega)only[push_cast,↓WX,simprocAttr]
   refine wl_loop (fun j a U=>(ExtS W' U∧∃d nx,a[10]? =some d∧OL W'.length U d nx∧nx.map (·.2)=stepC q ((outs.map (·.2)).take j) L)∧a.length=78∧a[0]? =some (.loc k 0 0)∧a[1]? =some (dc)∧a[2]? =some (.int .i64 q)∧a[7]? =some (d7)∧a[8]? =some (.int .i64 i)∧a[9]? =some (da)∧a[11]? =some (.int .i64 j)) outs.length ?_ (by omega) ?_
   ·simp(maxSteps:=1000000)(disch:=omega)only[push_cast,hal,h0,h1,h2,h7,h8,h9,h10,Int.natCast_zero,simprocAttr]
    exact⟨fun _ _ h=>h,_,_,rfl,OL.nil,by simp[stepC]⟩
   clear hal h0 h1 h2 h7 h8 h9 h10 a
   rintro j a U hj ⟨⟨hxU,d10,nx,h10,hN,hnx⟩,hal,h0,h1,h2,h7,h8,h9,h11⟩
   have hlU:=hl7 U (fun k o h=>hxU k o (hxa k o h))
   rcases Nat.lt_or_eq_of_le hj with hjt |rfl
   case inr=>
    simp(maxSteps:=1000000)(disch:=omega)only[push_cast,hal,h0,h1,h2,h7,h8,h10,h11,hlU,Int.lt_irrefl,↓WX,simprocAttr]
    exact⟨hxU,_,_,rfl,hN,by rw[hnx,List.take_of_length_le (by simp)]⟩
   have hjtc:(j:Int)<outs.length:=by omega
   obtain⟨w,hw⟩:∃w,outs[j]? =some w:=⟨outs[j],by simp⟩
   have hwm:=List.mem_of_getElem? hw
   have hwE:=hO.el w hwm
   have hwl:=hoE w hwm
   have hws:(outs.map (·.2))[j]? =some w.2:=by rw[List.getElem?_map,hw];rfl
   refine wc_scut (fun a V'=>V'=U∧a.length=78∧a[0]? =some (.loc k 0 0)∧a[1]? =some (dc)∧a[2]? =some (.int .i64 q)∧a[7]? =some (d7)∧a[8]? =some (.int .i64 i)∧a[9]? =some (da)∧a[10]? =some (d10)∧a[11]? =some (.int .i64 j)) ?_ ?_
   ·simp(maxSteps:=1000000)(disch:=omega)only[push_cast,hal,h0,h1,h2,h7,h8,h9,h10,h11,hlU,hjtc,↓WX,simprocAttr]
   clear hal h0 h1 h2 h7 h8 h9 h10 h11 a
   clear hlU
   rintro a V' ⟨rfl,hal,h0,h1,h2,h7,h8,h9,h10,h11⟩
   rw[wc_seq,wc_block]
   simp(maxSteps:=1000000)(disch:=omega)only[push_cast,↓WX,simprocAttr]
   refine wl_loop (fun r a U'=>(ExtS W' U'∧∃d nx,a[10]? =some d∧OL W'.length U' d nx∧nx.map (·.2)=stepC q ((outs.map (·.2)).take j) L++pickN q w.2 (L.take r))∧a.length=78∧a[0]? =some (.loc k 0 0)∧a[1]? =some (dc)∧a[2]? =some (.int .i64 q)∧a[7]? =some (d7)∧a[8]? =some (.int .i64 i)∧a[9]? =some (da)∧a[11]? =some (.int .i64 j)∧a[12]? =some (.int .i64 r)) L.length ?_ (by omega) ?_
   ·simp(maxSteps:=1000000)(disch:=omega)only[push_cast,hal,h0,h1,h2,h7,h8,h9,h10,h11,Int.natCast_zero,simprocAttr]
    exact⟨hxU,_,_,rfl,hN,by rw[hnx];simp[pickN]⟩
   clear hal h0 h1 h2 h7 h8 h9 h10 h11 a
   clear hN hnx nx d10 hxU
   rintro r a U' hr ⟨⟨hxU,d10,nx,h10,hN,hnx⟩,hal,h0,h1,h2,h7,h8,h9,h11,h12⟩
   have hlU:=hlA U' hxU
   rcases Nat.lt_or_eq_of_le hr with hrt |rfl
   case inr=>
    simp(maxSteps:=1000000)(disch:=omega)only[push_cast,hal,h0,h1,h2,h7,h8,h9,h10,h11,h12,hlU,hjt,Int.lt_irrefl,wrap_ok,Int.natCast_add,Int.natCast_one,↓WX,simprocAttr]
    exact⟨hxU,_,_,rfl,hN,by rw[hnx,List.take_length,stepC_succ hws]⟩
   have hrtc:(r:Int)<L.length:=by omega
   obtain⟨c,hcr⟩:∃c,L[r]? =some c:=⟨L[r],by simp⟩
   have hnl:nx.length<1000000000:=by
    have h1:=congrArg List.length hnx
    have h2:=stepC_len (n:=q) hLl ((outs.map (·.2)).take j)
    have h3:=pickN_len q w.2 (L.take r)
    rw[List.length_take]at h3
    rw[List.length_take,List.length_map]at h2
    rw[List.length_append,List.length_map]at h1
    omega
   refine wc_scut (fun a V=>V=U'∧a.length=78∧a[0]? =some (.loc k 0 0)∧a[1]? =some (dc)∧a[2]? =some (.int .i64 q)∧a[7]? =some (d7)∧a[8]? =some (.int .i64 i)∧a[9]? =some (da)∧a[10]? =some (d10)∧a[11]? =some (.int .i64 j)∧a[12]? =some (.int .i64 r)) ?_ ?_
   ·simp(maxSteps:=1000000)(disch:=omega)only[push_cast,hal,h0,h1,h2,h7,h8,h9,h10,h11,h12,hlU,hrtc,↓WX,simprocAttr]
   clear hal h0 h1 h2 h7 h8 h9 h10 h11 h12 a
   clear hlU
   rintro a V2 ⟨rfl,hal,h0,h1,h2,h7,h8,h9,h10,h11,h12⟩
   rw[wc_seq,wc_block]
   have hx7:ExtS T' V2:=fun k o h=>hxU k o (hxa k o h)
   by_cases hq:q≤c.2
   case neg=>
    rcases hga.ext hxU with ⟨rfl,e⟩ | ⟨ka,rfl,hka⟩
    ·rw[e]at hrt;simp at hrt
    ·simp(maxSteps:=1000000)(disch:=omega)only[push_cast,hal,h0,h1,h2,h7,h8,h9,h10,h11,h12,hka,hcr,hq,hrt,encC,decide_false,wrap_ok,Int.natCast_add,Int.natCast_one,↓WX,simprocAttr]
     exact⟨hxU,_,_,rfl,hN,by rw[hnx,pickN_succ hcr,if_neg hq,List.append_nil]⟩
   refine wc_scut (fun a Y=>Y=V2∧a.length=78∧a[0]? =some (.loc k 0 0)∧a[1]? =some (dc)∧a[2]? =some (.int .i64 q)∧a[7]? =some (d7)∧a[8]? =some (.int .i64 i)∧a[9]? =some (da)∧a[10]? =some (d10)∧a[11]? =some (.int .i64 j)∧a[12]? =some (.int .i64 r)∧a[57]? =some (.bool true)) ?_ ?_
   ·rcases hga.ext hxU with ⟨rfl,e⟩ | ⟨ka,rfl,hka⟩
    ·rw[e]at hrt;simp at hrt
    ·simp(maxSteps:=1000000)(disch:=omega)only[push_cast,hal,h0,h1,h2,h7,h8,h9,h10,h11,h12,hka,hcr,hq,hrt,encC,decide_true,↓WX,simprocAttr]
   clear hal h0 h1 h2 h7 h8 h9 h10 h11 h12 a
   rintro a Y ⟨rfl,hal,h0,h1,h2,h7,h8,h9,h10,h11,h12,h57⟩
   refine wc_tmpTT h57 ?_
   obtain⟨e1,T1,e2,T2,pc,pa,hE2,x1,x2⟩:=copy_add ((hwE.ext hx7)) hwl c.1
   obtain⟨d3,T3,p3,hN3,k3,kn3,l3⟩:=app_ol (hN.ext x2) (Nat.le_trans hxU.len x2.len) hE2 hnl
   obtain⟨q2,ln,rfl⟩:∃q2 ln,e2=.os q2 0 ln false:=by
    rcases hE2 with ⟨-,e⟩ | ⟨-,q2,e,-⟩
    ·simp at e
    ·exact⟨q2,_,e⟩
   refine wc_scut (fun a Z=>Z=Y∧a.length=78∧a[0]? =some (.loc k 0 0)∧a[1]? =some (dc)∧a[2]? =some (.int .i64 q)∧a[7]? =some (d7)∧a[8]? =some (.int .i64 i)∧a[9]? =some (da)∧a[10]? =some (d10)∧a[11]? =some (.int .i64 j)∧a[12]? =some (.int .i64 r)∧a[13]? =some (.nils)) ?_ ?_
   ·simp(maxSteps:=1000000)(disch:=omega)only[push_cast,hal,h0,h1,h2,h7,h8,h9,h10,h11,h12,↓WX,simprocAttr]
   clear hal h0 h1 h2 h7 h8 h9 h10 h11 h12 h57 a
   rintro a Z ⟨rfl,hal,h0,h1,h2,h7,h8,h9,h10,h11,h12,h13⟩
   refine wc_scut (fun a W=>W=T1∧a.length=78∧a[0]? =some (.loc k 0 0)∧a[1]? =some (dc)∧a[2]? =some (.int .i64 q)∧a[7]? =some (d7)∧a[8]? =some (.int .i64 i)∧a[9]? =some (da)∧a[10]? =some (d10)∧a[11]? =some (.int .i64 j)∧a[12]? =some (.int .i64 r)∧a[13]? =some (e1)) ?_ ?_
   ·rcases (hO.ext hx7).lz with ⟨rfl,e⟩ | ⟨x,rfl⟩ | ⟨kc,rfl,hkc⟩
    ·rw[e]at hjt;simp at hjt
    ·simp(maxSteps:=1000000)(disch:=omega)only[push_cast,hal,h0,h1,h2,h7,h8,h9,h10,h11,h12,h13,hw,pc,↓WX,simprocAttr]
    ·simp(maxSteps:=1000000)(disch:=omega)only[push_cast,hal,h0,h1,h2,h7,h8,h9,h10,h11,h12,h13,hkc,hjt,hw,pc,↓WX,simprocAttr]
   clear hal h0 h1 h2 h7 h8 h9 h10 h11 h12 h13 a
   rintro a W ⟨rfl,hal,h0,h1,h2,h7,h8,h9,h10,h11,h12,h13⟩
   refine wc_scut (fun a X=>X=T2∧a.length=78∧a[0]? =some (.loc k 0 0)∧a[1]? =some (dc)∧a[2]? =some (.int .i64 q)∧a[7]? =some (d7)∧a[8]? =some (.int .i64 i)∧a[9]? =some (da)∧a[10]? =some (d10)∧a[11]? =some (.int .i64 j)∧a[12]? =some (.int .i64 r)∧a[13]? =some (.os q2 0 ln false)) ?_ ?_
   ·rcases (hga.ext hxU).ext x1 with ⟨rfl,e⟩ | ⟨ka,rfl,hka⟩
    ·rw[e]at hrt;simp at hrt
    ·simp(maxSteps:=1000000)(disch:=omega)only[push_cast,hal,h0,h1,h2,h7,h8,h9,h10,h11,h12,h13,hka,hcr,hrt,pa,encC,↓WX,simprocAttr]
   clear hal h0 h1 h2 h7 h8 h9 h10 h11 h12 h13 a
   rintro a X ⟨rfl,hal,h0,h1,h2,h7,h8,h9,h10,h11,h12,h13⟩
   simp(maxSteps:=1000000)(disch:=omega)only[push_cast,hal,h0,h1,h2,h7,h8,h9,h10,h11,h12,h13,p3,hrt,wrap_ok,Int.natCast_add,Int.natCast_one,↓WX,simprocAttr]
   exact⟨fun k o hk=>k3 k o (List.getElem?_eq_some_iff.1 hk).1 (x2 k o (hxU k o hk)),_,_,rfl,hN3,by rw[List.map_append,hnx,pickN_succ hcr,if_pos hq,List.append_assoc];rfl⟩
  clear hal h0 h1 h2 h7 h8 h9 h10 a
  rintro a U ⟨⟨hxU,d10,nx,h10,hN,hnx⟩,hal,h0,h1,h2,h8⟩
  simp(maxSteps:=1000000)(disch:=omega)only[push_cast,hal,h0,h1,h2,h8,h10,hlt,wrap_ok,Int.natCast_add,Int.natCast_one,↓WX,simprocAttr]
  exact⟨fun k o hk=>hxU k o (hxa k o (hxT k o hk)),_,_,rfl,.inr ⟨by omega,hN.gl,hN.el,fun k n e=>Nat.le_trans hVT (hN.own k n e)⟩,by rw[hnx,hout,hst]⟩
 clear hal h0 h1 h2 h7 a
 rintro a T ⟨⟨hxT,d7,outs,h7,hO,hout⟩,hal⟩
 simp(maxSteps:=1000000)(disch:=omega)only[push_cast,hal,h7,Tryz.f10,↓WX,simprocAttr]
 exact⟨hxT,_,hO,hout⟩
theorem rClasses_c (hn:3000001≤n) (h:RefAt S lab 2 s k rd rows) (ok:StkOk 9999 s) (hrl:rows.length≤100) (hls:s.l.length≤100) {dc:D} {cv:List (D×List Lid)} (hc:LZ 1 encCv S dc cv) (hcl:cv.length≤1000000) (hcv:∀v∈cv,FLs 4 Lid.enc v.1 v.2∧v.2.length≤20) (q:Int):
  ∃d T outs,(∀st,callD E (dcall E n) st S 10 [.loc k 0 0,dc,.int .i64 q]=some (d,T))∧ExtS S T∧OL S.length T d outs∧outs.map (·.2)=if 1≤q∧cv≠[]∧cv.length≤3 then cmbF s q (cv.map (·.2)) else []:=by
 obtain⟨n,rfl⟩:∃m,n=m+1:=⟨n-1,by omega⟩
 obtain⟨d,T,ho,hx,outs,h1,h2⟩:=rClasses_d (n:=n) (by omega) h ok hrl hls hc hcl hcv q
 exact⟨d,T,outs,fun st=>callD_extS rfl ho hx,hx,h1,h2⟩
end
end Go.Proofs.YtkemehicndccmaaGreatDoor.Dm
