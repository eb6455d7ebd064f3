/-
  The machine at tables without sales, the program's and the reference's.
  The machine at the program's inventory: Open and Close.
-/
import Derived.Test.YtkemehicndccmaaGreatDoorCdA
set_option linter.unusedSimpArgs false
set_option linter.unusedVariables false
namespace Go.Proofs.YtkemehicndccmaaGreatDoor.Dm
open Go Gw
set_option linter.unusedSimpArgs false
set_option linter.unusedSimpArgs false

abbrev encR (p:Nat×Nat):List D:=[.os p.1 0 p.2 false]
theorem el_tab:elemT Tryz.prog 140=some 120:=by kernel_rfl
theorem sz_tab:sizeT Tryz.prog 120=some 1:=by kernel_rfl
theorem ze_tab:zeroT Tryz.prog 120=some .nils:=by kernel_rfl
theorem by_tab:bytesT Tryz.prog 120≤100000:=by
 have:bytesT Tryz.prog 120=24:=by kernel_rfl
 rw[this];omega
structure TabG (S0:Nat) (T:List Ob) (lab:Lab) (o i:Nat) (d:D) (l:List (Nat×Nat)) (t:List (List Int)):Prop where
 gl:GL 1 encR T d l
 len:l.length=t.length
 own:∀k n,d=.os k 0 n false→S0≤k∧lab k=[o,2,i]
 row:∀(j r n:Nat) (row:List Int),l[j]? =some (r,n)→t[j]? =some row→n=row.length∧S0≤r∧lab r=[o,3,i,j]∧T[r]? =some (.row 1 (row.map encZ))
theorem TabG.nil {S0:Nat} {T:List Ob} {lab:Lab} {o i:Nat}:TabG S0 T lab o i .nils [] []:=⟨GL.nil,rfl,fun k n h=>(by cases h),fun j r n row h=>by simp at h⟩
theorem TabG.push {S0:Nat} {T:List Ob} {lab:Lab} {o i:Nat} {d:D} {l:List (Nat×Nat)} {t:List (List Int)} (h:TabG S0 T lab o i d l t) (x:Ob):TabG S0 (T++[x]) lab o i d l t:=
 ⟨h.gl.push x,h.len,h.own,fun j r n row h1 h2=>by
  obtain⟨g1,g2,g3,g4⟩:=h.row j r n row h1 h2
  exact⟨g1,g2,g3,get_old g4⟩⟩
theorem get_snoc {α:Type} {l:List α} {x y:α} {j:Nat} (h:(l++[x])[j]? =some y):l[j]? =some y∨(j=l.length∧y=x):=by
 by_cases hj:j<l.length
 ·rw[List.getElem?_append_left hj]at h;exact .inl h
 ·rw[List.getElem?_append_right (by omega)]at h
  by_cases e:j=l.length
  ·subst e
   rw[Nat.sub_self]at h
   exact .inr ⟨rfl,by simpa using h.symm⟩
  ·rw[List.getElem?_eq_none (by simp;omega)]at h;cases h
theorem TabG.add {S0:Nat} {T:List Ob} {lab:Lab} {o i:Nat} {d:D} {l:List (Nat×Nat)} {t:List (List Int)} (h:TabG S0 T lab o i d l t) (hf:FreshL T lab) (hS:S0≤T.length) (hl:l.length≤1000) (row:List Int):
  ∃T2 lab2,dAppend Tryz.prog (T++[.row 1 (row.map encZ)]) 140 140 d (.sl 1 [[.os T.length 0 row.length false]] true)=some (.os (T.length+1) 0 (l.length+1) false,T2)∧
   TabG S0 T2 lab2 o i (.os (T.length+1) 0 (l.length+1) false) (l++[(T.length,row.length)]) (t++[row])∧FreshL T2 lab2∧T.length≤T2.length∧(∀x,x<T.length→lab2 x=lab x)∧(∀(x:Nat) (ob:Ob),x<S0→T[x]? =some ob→T2[x]? =some ob)∧(∀(x sz:Nat) (es:List (List D)),sz≠1→T[x]? =some (.row sz es)→T2[x]? =some (.row sz es)):=by
 obtain⟨T2,ha,hg,hlen,hkeep,hrw⟩:=app_gl (enc:=encR) el_tab sz_tab ze_tab rfl by_tab (h.gl.push (.row 1 (row.map encZ))) (by omega) (T.length,row.length)
 have hL:(T++[Ob.row 1 (row.map encZ)]).length=T.length+1:=by simp
 rw[hL]at ha hg hlen
 have hown:∀k n,d=.os k 0 n false→k<T.length:=fun k n e=>by
  rcases h.gl with ⟨e',-⟩ | ⟨k',e',hk⟩
  ·rw[e]at e';cases e'
  ·rw[e]at e';cases e';exact lt_of_get hk
 refine⟨T2,setL (setL lab T.length [o,3,i,l.length]) (T.length+1) [o,2,i],ha,⟨hg,by simp[h.len],fun k n e=>?_,fun j r n row' h1 h2=>?_⟩,fun x hx=>?_,by omega,fun x hx=>?_,fun x ob hx h1=>?_,fun x sz es hz h1=>hrw x sz es hz (get_old h1)⟩
 ·injection e with e1
  subst e1
  exact⟨by omega,setL_self⟩
 ·rcases get_snoc h1 with h1 | ⟨rfl,e2⟩
  ·have hj:j<t.length:=by rw[←h.len];exact lt_of_get h1
   rw[List.getElem?_append_left hj]at h2
   obtain⟨g1,g2,g3,g4⟩:=h.row j r n row' h1 h2
   have hr:=lt_of_get g4
   refine⟨g1,g2,?_,hkeep r _ (fun n' e=>?_) (get_old g4)⟩
   ·rw[setL_ne (by omega),setL_ne (by omega)];exact g3
   ·have:=(h.own r n' e).2
    rw[g3]at this
    simp at this
  ·injection e2 with e2 e3
   subst e2 e3
   rw[h.len,List.getElem?_append_right (Nat.le_refl _),Nat.sub_self]at h2
   have:row=row':=by simpa using h2
   subst this
   refine⟨rfl,hS,?_,hkeep _ _ (fun n' e=>?_) get_end⟩
   ·rw[setL_ne (by omega),setL_self]
   ·have:=hown _ _ e;omega
 ·rw[setL_ne (by omega),setL_ne (by omega)]
  exact hf x (by omega)
 ·rw[setL_ne (by omega),setL_ne (by omega)]
 ·refine hkeep x ob (fun n e=>?_) (get_old h1)
  have:=(h.own x n e).1
  omega
theorem TabG.tab {S0:Nat} {T:List Ob} {lab:Lab} {o i:Nat} {d:D} {l:List (Nat×Nat)} {t:List (List Int)} (h:TabG S0 T lab o i d l t) (ht:t≠[]):TabAt T lab o i d t:=by
 rcases h.gl with ⟨-,e⟩ | ⟨k,e,hk⟩
 ·have:=h.len
  rw[e]at this
  exact absurd (List.eq_nil_of_length_eq_zero this.symm) ht
 ·refine⟨k,fun j=>((l[j]?).map (·.1)).getD 0,l.map encR,by rw[e,h.len],(h.own k _ e).2,hk,by rw[List.length_map,h.len],fun j row hj=>?_⟩
  have hjl:j<l.length:=by rw[h.len];exact lt_of_get hj
  obtain⟨g1,g2,g3,g4⟩:=h.row j (l[j]).1 (l[j]).2 row (List.getElem?_eq_getElem hjl) hj
  simp only[List.getElem?_map,List.getElem?_eq_getElem hjl,Option.map_some,Option.getD_some]
  exact⟨by rw[←g1],g3,g4⟩
theorem TabG.ge {S0:Nat} {T:List Ob} {lab:Lab} {o i:Nat} {d:D} {l:List (Nat×Nat)} {t:List (List Int)} (h:TabG S0 T lab o i d l t) {s0:Nat} (hs:s0≤S0):TabG s0 T lab o i d l t:=
 ⟨h.gl,h.len,fun k n e=>⟨Nat.le_trans hs (h.own k n e).1,(h.own k n e).2⟩,fun j r n row h1 h2=>by
  obtain⟨g1,g2,g3,g4⟩:=h.row j r n row h1 h2
  exact⟨g1,Nat.le_trans hs g2,g3,g4⟩⟩
def cutL (S0:Nat) (lab:Lab):Lab:=fun z=>if S0≤z then lab z else []
theorem cutL_eq {S0 z a:Nat} {t:List Nat} {lab:Lab} (h:cutL S0 lab z=a::t):S0≤z∧lab z=a::t:=by
 unfold cutL at h
 split at h
 ·rename_i h1;exact⟨h1,h⟩
 ·cases h
theorem TabG.cut {S0:Nat} {T:List Ob} {lab:Lab} {o i:Nat} {d:D} {l:List (Nat×Nat)} {t:List (List Int)} (h:TabG S0 T lab o i d l t):TabG S0 T (cutL S0 lab) o i d l t:=
 ⟨h.gl,h.len,fun k n e=>⟨(h.own k n e).1,by unfold cutL;rw[if_pos (h.own k n e).1];exact (h.own k n e).2⟩,fun j r n row h1 h2=>by
  obtain⟨g1,g2,g3,g4⟩:=h.row j r n row h1 h2
  exact⟨g1,g2,by unfold cutL;rw[if_pos g2];exact g3,g4⟩⟩
theorem TabAt.uncut {S0:Nat} {T:List Ob} {lab:Lab} {o i:Nat} {d:D} {t:List (List Int)} (h:TabAt T (cutL S0 lab) o i d t):TabAt T lab o i d t:=by
 obtain⟨q,r,es,h1,h2,h3,h4,h5⟩:=h
 refine⟨q,r,es,h1,(cutL_eq h2).2,h3,h4,fun j row hj=>?_⟩
 obtain⟨g1,g2,g3⟩:=h5 j row hj
 exact⟨g1,(cutL_eq g2).2,g3⟩
def emptyT (cabs:List Cab) (c:Nat):List (List Int):=(cabs.take c).map fun y=>List.replicate y.cls.length 0
theorem emptyT_succ {cabs:List Cab} {c:Nat} {y:Cab} (h:cabs[c]? =some y):emptyT cabs (c+1)=emptyT cabs c++[List.replicate y.cls.length 0]:=by
 unfold emptyT
 rw[List.take_add_one,h,List.map_append]
 rfl
theorem emptyT_len {cabs:List Cab} {c:Nat} (h:c≤cabs.length):(emptyT cabs c).length=c:=by
 unfold emptyT
 rw[List.length_map,List.length_take];omega
theorem rep_row (n:Nat):(List.replicate n (0:Int)).map encZ=rowH n fun _=>0:=by
 rw[List.map_replicate];exact rowH_zero n
theorem mkI' {S:List Ob} {n:Nat} (hn:n≤100000):dMakeSlice Tryz.prog S 120 n n=some (.os S.length 0 n false,S++[.row 1 ((List.replicate n (0:Int)).map encZ)]):=by
 rw[rep_row];exact mkI hn
set_option maxHeartbeats 4000000 in
set_option maxRecDepth 100000 in
theorem empty_d {n o i:Nat} {c:Cfg} {S:List Ob} {lab:Lab} (hn:110≤n) (hc:CfgOk c) (hf:FreshL S lab):
  WO (dcall E (n+1) 51 [.agg c.enc] S) fun d T=>∃l lab2,TabG S.length T lab2 o i d l (emptyF c)∧FreshL T lab2∧(∀x,x<S.length→lab2 x=lab x)∧ExtS S T:=by
 have hl4:=hc.l2
 refine wo_dcall Tryz.func51 rfl (by decide) rfl 22 rfl (fun a hal ha=>?_)
 have h0:a[0]? =some (.agg c.enc):=ha 0 (by simp)
 clear ha
 simp only[Cfg.enc]at h0
 simp(maxSteps:=1000000)(disch:=omega)only[push_cast,hal,h0,get_end,↓WX,simprocAttr]
 refine wl_loop (fun k a T=>a.length=22∧a[7]? =some (.sl 4 (c.cabs.map Cab.enc) c.cabsx)∧a[8]? =some (.int .i64 c.cabs.length)∧a[9]? =some (.int .i64 k)∧∃d l lab2,a[3]? =some d∧TabG S.length T lab2 o i d l (emptyT c.cabs k)∧FreshL T lab2∧(∀x,x<S.length→lab2 x=lab x)∧ExtS S T) c.cabs.length ?_ (by omega) ?_
 ·simp(maxSteps:=1000000)(disch:=omega)only[push_cast,hal,Int.natCast_zero,simprocAttr]
  exact⟨_,[],lab,rfl,TabG.nil,hf.push _,fun _ _=>rfl,ExtS.app⟩
 clear hal h0 a
 rintro k a T hk ⟨hal,h7,h8,h9,d,l,lab2,h3,hg,hf2,hlab,hx⟩
 rcases Nat.lt_or_eq_of_le hk with hlt |rfl
 case inr=>
  have he:emptyT c.cabs c.cabs.length=emptyF c:=by unfold emptyT emptyF;rw[List.take_length]
  rw[he]at hg
  simp(maxSteps:=1000000)(disch:=omega)only[push_cast,hal,h3,h8,h9,Nat.lt_irrefl,Tryz.f51,↓WX,simprocAttr]
  exact⟨_,_,hg,hf2,hlab,hx⟩
 obtain⟨y,hy⟩:∃y,c.cabs[k]? =some y:=⟨c.cabs[k],by simp[hlt]⟩
 have hyo:=hc.cab y (List.mem_of_getElem? hy)
 have hl26:=hyo.l2
 have hgl:=hg.len
 rw[emptyT_len (by omega)]at hgl
 have hSl:=hx.len
 obtain⟨T',lab3,ha,hg',hf3,hlen,hlab3,hkeep,-⟩:=(hg.push (cabR y)).add (hf2.push [cabR y]) (by rw[List.length_append];omega) (by omega) (List.replicate y.cls.length 0)
 rw[←emptyT_succ hy]at hg'
 have mk:=mkI' (S:=T++[cabR y]) (n:=y.cls.length) (by omega)
 rw[List.length_replicate]at ha
 have hL:(T++[cabR y]).length=T.length+1:=by simp
 rw[hL]at ha mk
 rw[hL,List.length_replicate]at hg'
 simp(maxSteps:=1000000)(disch:=omega)only[push_cast,hal,h3,h7,h8,h9,hlt,hy,set_end,get_end,mk,ha,Cab.enc,wrap_ok,Int.natCast_add,Int.natCast_one,↓WX,simprocAttr]
 exact⟨_,_,_,rfl,hg',hf3,fun x hx'=>(hlab3 x (by rw[hL];omega)).trans (hlab x hx'),fun x ob hob=>hkeep x ob (lt_of_get hob) (get_old (hx x ob hob))⟩
theorem emptyF_ne {c:Cfg} (hc:CfgOk c):emptyF c≠[]:=fun e=>by
 have h:(emptyF c).length=0:=by rw[e];rfl
 unfold emptyF at h
 rw[List.length_map]at h
 have:=hc.l1
 omega
theorem empty_c {n o i:Nat} {c:Cfg} {S:List Ob} {lab:Lab} (hn:120≤n) (hc:CfgOk c) (hf:FreshL S lab):
  ∃d T lab2,(∀st,callD E (dcall E n) st S 51 [.agg c.enc]=some (d,T))∧TabAt T (cutL S.length lab2) o i d (emptyF c)∧(∃q len,d=.os q 0 len false)∧FreshL T lab2∧(∀x,x<S.length→lab2 x=lab x)∧ExtS S T:=by
 obtain⟨q,rfl⟩:∃q,n=q+1:=⟨n-1,by omega⟩
 obtain⟨d,T,ho,l,lab2,h1,h2,h3,h4⟩:=empty_d (n:=q) (o:=o) (i:=i) (by omega) hc hf
 have hne:=emptyF_ne hc
 have ht:=h1.cut.tab hne
 obtain⟨q',r,es,e,-⟩:=id ht
 exact⟨d,T,lab2,fun st=>callD_extS rfl ho h4,ht,⟨q',_,e⟩,h2,h3,h4⟩
set_option maxHeartbeats 4000000 in
set_option maxRecDepth 100000 in
theorem rempty_d {n o i:Nat} {c:Cfg} {S:List Ob} {lab:Lab} (hn:110≤n) (hc:CfgOk c) (hf:FreshL S lab):
  WO (dcall E (n+1) 55 [.agg c.enc] S) fun d T=>∃l lab2,TabG S.length T lab2 o i d l (emptyF c)∧FreshL T lab2∧(∀x,x<S.length→lab2 x=lab x)∧ExtS S T:=by
 have hl4:=hc.l2
 refine wo_dcall Tryz.func55 rfl (by decide) rfl 24 rfl (fun a hal ha=>?_)
 have h0:a[0]? =some (.agg c.enc):=ha 0 (by simp)
 clear ha
 simp only[Cfg.enc]at h0
 simp(maxSteps:=1000000)(disch:=omega)only[push_cast,h0,↓WX,simprocAttr]
 refine wl_loop (fun k a T=>a.length=24∧a[1]? =some (.loc S.length 0 0)∧a[4]? =some (.int .i64 k)∧T[S.length]? =some (.row 2 [[.str c.equip,.sl 4 (c.cabs.map Cab.enc) c.cabsx]])∧∃d l lab2,a[3]? =some d∧TabG (S.length+1) T lab2 o i d l (emptyT c.cabs k)∧FreshL T lab2∧(∀x,x<S.length→lab2 x=lab x)∧ExtS S T) c.cabs.length ?_ (by omega) ?_
 ·simp(maxSteps:=1000000)(disch:=omega)only[push_cast,hal,Int.natCast_zero,simprocAttr]
  exact⟨get_end,_,[],lab,rfl,TabG.nil,hf.push _,fun _ _=>rfl,ExtS.app⟩
 clear hal h0 a
 rintro k a T hk ⟨hal,h1,h4,hT0,d,l,lab2,h3,hg,hf2,hlab,hx⟩
 rcases Nat.lt_or_eq_of_le hk with hlt |rfl
 case inr=>
  have he:emptyT c.cabs c.cabs.length=emptyF c:=by unfold emptyT emptyF;rw[List.take_length]
  rw[he]at hg
  simp(maxSteps:=1000000)(disch:=omega)only[push_cast,hal,h1,h3,h4,Nat.lt_irrefl,hT0,Tryz.f55,↓WX,simprocAttr]
  exact⟨_,_,hg.ge (by omega),hf2,hlab,hx⟩
 obtain⟨y,hy⟩:∃y,c.cabs[k]? =some y:=⟨c.cabs[k],by simp[hlt]⟩
 have hyo:=hc.cab y (List.mem_of_getElem? hy)
 have hl26:=hyo.l2
 have hgl:=hg.len
 rw[emptyT_len (by omega)]at hgl
 have hSl:=hx.len
 have hlT:=lt_of_get hT0
 obtain⟨T',lab3,ha,hg',hf3,hlen,hlab3,hkeep,-⟩:=hg.add hf2 (by omega) (by omega) (List.replicate y.cls.length 0)
 rw[←emptyT_succ hy]at hg'
 have mk:=mkI' (S:=T) (n:=y.cls.length) (by omega)
 rw[List.length_replicate]at ha hg'
 simp(maxSteps:=1000000)(disch:=omega)only[push_cast,hal,h1,h3,h4,hlt,hy,hT0,mk,ha,Cab.enc,wrap_ok,Int.natCast_add,Int.natCast_one,↓WX,simprocAttr]
 exact⟨hkeep _ _ (by omega) hT0,_,_,_,rfl,hg',hf3,fun x hx'=>(hlab3 x (by omega)).trans (hlab x hx'),fun x ob hob=>hkeep x ob (by have:=lt_of_get hob;omega) (hx x ob hob)⟩
theorem rempty_c {n o i:Nat} {c:Cfg} {S:List Ob} {lab:Lab} (hn:120≤n) (hc:CfgOk c) (hf:FreshL S lab):
  ∃d T lab2,(∀st,callD E (dcall E n) st S 55 [.agg c.enc]=some (d,T))∧TabAt T (cutL S.length lab2) o i d (emptyF c)∧(∃q len,d=.os q 0 len false)∧FreshL T lab2∧(∀x,x<S.length→lab2 x=lab x)∧ExtS S T:=by
 obtain⟨q,rfl⟩:∃q,n=q+1:=⟨n-1,by omega⟩
 obtain⟨d,T,ho,l,lab2,h1,h2,h3,h4⟩:=rempty_d (n:=q) (o:=o) (i:=i) (by omega) hc hf
 have hne:=emptyF_ne hc
 have ht:=h1.cut.tab hne
 obtain⟨q',r,es,e,-⟩:=id ht
 exact⟨d,T,lab2,fun st=>callD_extS rfl ho h4,ht,⟨q',_,e⟩,h2,h3,h4⟩
end Go.Proofs.YtkemehicndccmaaGreatDoor.Dm
namespace Go.Proofs.YtkemehicndccmaaGreatDoor.Dm
open Go Gw
set_option linter.unusedSimpArgs false
set_option linter.unusedSimpArgs false

theorem LegAt.keep' {S T:List Ob} {lab lab':Lab} {o i p:Nat} {x:Leg} (h:LegAt S lab o i p x)
  (g:∀(z:Nat) (ob:Ob),S[z]? =some ob→(lab z=[o,1,i]∨lab z=[o,2,i]∨∃j,lab z=[o,3,i,j])→T[z]? =some ob∧lab' z=lab z):LegAt T lab' o i p x:=by
 obtain⟨h1,d,h2,h3⟩:=h
 obtain⟨g1,g2⟩:=g p _ h2 (.inl h1)
 refine⟨by rw[g2,h1],d,g1,h3.keep fun y ob tl hy hl=>?_⟩
 rcases hl with hl | ⟨j,hl⟩
 ·exact g y ob hy (.inr (.inl hl))
 ·exact g y ob hy (.inr (.inr ⟨j,hl⟩))
theorem putM_none:∀ {ps:List (D×D)} {k v:D},lookM ps k=none→putM ps k v=ps++[(k,v)]
 | [],k,v,_=>rfl
 | (a,b)::ps,k,v,h=>by
  have hk:keyBeq a k=false:=by
   cases e:keyBeq a k with
   |false=>rfl
   |true=>simp[lookM,e]at h
  have h':lookM ps k=none:=by simpa [lookM,hk] using h
  rw[putM,hk,if_neg (by simp),putM_none h']
  rfl
def SAt (S:List Ob) (lab:Lab) (o k:Nat) (s:Stk):Prop:=FreshL S lab∧∃m ps,StkAt S lab o kL (.loc k 0 0) s k m ps
theorem SAt.other {S T:List Ob} {lab lab':Lab} {o o' k:Nat} {s:Stk} (h:SAt S lab o k s) (g:Step o' S lab T lab') (ho:o≠o'):SAt T lab' o k s:=by
 obtain⟨-,m,ps,h⟩:=h
 exact⟨g.fresh,m,ps,h.keep (g.keepO ho)⟩
theorem SAt.push {S:List Ob} {lab:Lab} {o k:Nat} {s:Stk} (h:SAt S lab o k s) (J:List Ob):SAt (S++J) lab o k s:=by
 obtain⟨hf,m,ps,h⟩:=h
 exact⟨hf.push J,m,ps,h.push J⟩
section
variable {S : List Ob} {lab : Lab} {o k m n : Nat} {s : Stk} {ps : List (D × D)} {id : Lid}
theorem StkAt.add {T:List Ob} {lab':Lab} {p:Nat} {x:Leg} (h:StkAt S lab o kL (.loc k 0 0) s k m ps) (hT:∀(z:Nat) (ob:Ob),z<S.length→z≠m→S[z]? =some ob→T[z]? =some ob) (hlab:∀z,z<S.length→lab' z=lab z)
  (hm:T[m]? =some (.map kL (ps++[(.agg id.enc,.loc p 0 0)]))) (hx:LegAt T lab' o s.legs.length p x):StkAt T lab' o kL (.loc k 0 0) { s with legs:=s.legs++[(id,x)] } k m (ps++[(.agg id.enc,.loc p 0 0)]) where
 dat:=rfl
 labk:=by rw[hlab k (lt_of_get h.row),h.labk]
 labm:=by rw[hlab m (lt_of_get h.map),h.labm]
 row:=hT k _ (lt_of_get h.row) (fun e=>by
  have h1:=h.labk
  rw[e,h.labm]at h1
  simp at h1) h.row
 map:=hm
 len:=by simp[h.len]
 leg i id' y hy:=by
  rcases get_snoc hy with hy | ⟨rfl,e⟩
  ·obtain⟨p',h1,h2⟩:=h.leg i id' y hy
   refine⟨p',by rw[List.getElem?_append_left (lt_of_get h1)];exact h1,h2.keep' fun z ob hz hl=>⟨hT z ob (lt_of_get hz) (fun e=>?_) hz,hlab z (lt_of_get hz)⟩⟩
   have hm':=h.labm
   rw[←e]at hm'
   rcases hl with hl |hl | ⟨j,hl⟩ <;> rw[hl]at hm' <;> simp at hm'
  ·cases e
   exact⟨p,by rw[←h.len,List.getElem?_append_right (Nat.le_refl _),Nat.sub_self];rfl,hx⟩
set_option maxHeartbeats 8000000 in
set_option maxRecDepth 100000 in
theorem SOpen_d (hn:180≤n) (h:SAt S lab o k s) (hs:s.l.length≤100) (hc:CfgsOk s.l) (hid:id.Ok) (e:ByteArray):
  WO (dcall E (n+1) 20 [.loc k 0 0,.agg id.enc,.str e] S) fun d T=>d=.int .i64 (s.open id e).1∧∃lab',SAt T lab' o k (s.open id e).2∧Step o S lab T lab':=by
 obtain⟨hf,m,ps,h⟩:=h
 have hx:=h.push [.row 4 [id.enc]]
 have cm:=made_c (n:=n) (by omega) hx.row
 have kl:=keyOk_lid hid
 have ks:=keys_lid
 have cf:=Find_c (n:=n) (l:=s.l) (x:=s.x) (e:=e) (by omega) hs
 refine wo_dcall Tryz.func20 rfl (by decide) rfl 40 rfl (fun a hal ha=>?_)
 have h0:a[0]? =some (.loc k 0 0):=ha 0 (by simp)
 have h1:a[1]? =some (.agg id.enc):=ha 1 (by simp)
 have h2:a[2]? =some (.str e):=ha 2 (by simp)
 clear ha
 unfold Stk.open
 rcases hx.look id with ⟨e1,e2⟩ | ⟨i,x,p,-,-,e1,e2,-,-⟩
 case inr=>
  rw[e1]
  have hxr:=hx.row
  have hxm:=hx.map
  simp only[Lid.enc]at h1 cm kl e2 hxr hxm
  simp(maxSteps:=1000000)(disch:=omega)only[push_cast,hal,h0,h1,get_end,hxr,hxm,cm,kl,ks,e2,dUn,eqp_leg,Tryz.f20,↓WX,simprocAttr]
  exact⟨lab,⟨hf.push _,m,ps,hx⟩,Step.push hf _⟩
 rw[e1]
 rcases hfd:findF s.l e with _ |c
 ·rw[hfd]at cf
  have hxr:=hx.row
  have hxm:=hx.map
  simp only[foundC]at cf
  simp only[Lid.enc]at h1 cm kl e2 hxr hxm
  simp(maxSteps:=1000000)(disch:=omega)only[push_cast,hal,h0,h1,h2,get_end,set_end,hxr,hxm,cm,kl,ks,e2,cf,dUn,eqp_leg0,Tryz.f20,↓WX,simprocAttr]
  exact⟨lab,⟨(hf.push _).push _,m,ps,hx.push _⟩,(Step.push hf _).trans (Step.push (hf.push _) _)⟩
 ·rw[hfd]at cf
  have hcm:c∈s.l:=by unfold findF at hfd;exact List.mem_of_find?_eq_some hfd
  have hco:=hc.cfg c hcm
  have hx2:=hx.push [.row 2 [c.enc]]
  have hf2:FreshL (S++[Ob.row 4 [id.enc]]++[Ob.row 2 [c.enc]]) lab:=(hf.push _).push _
  obtain⟨d,T,lab2,ce,ht,⟨q,len,rfl⟩,hf3,hl3,hx3⟩:=empty_c (n:=n) (o:=o) (i:=s.legs.length) (by omega) hco hf2
  have ht:=ht.uncut
  have hxr:=hx.row
  have hxm:=hx.map
  have hxr2:=hx2.row
  have hxm3:=hx3 m _ hx2.map
  have hxr3:=hx3 k _ hx2.row
  have hid3:=hx3 S.length (.row 4 [id.enc]) (get_old get_end)
  have hpm:=putM_none (v:=.loc T.length 0 0) e2
  have hxm4:∀ob,(T++[ob])[m]? =some (.map kL ps):=fun ob=>get_old hxm3
  have hlen3:=hx3.len
  simp only[List.length_append,List.length_cons,List.length_nil]at hlen3
  have hmS:=lt_of_get h.map
  have hlq:T.length<((T++[Ob.row 4 [legCells ⟨c,false,emptyF c⟩ (.os q 0 len false)]]).set m (.map kL (ps++[(.agg id.enc,.loc T.length 0 0)]))).length:=by simp
  have fin:∃lab',SAt ((T++[Ob.row 4 [legCells ⟨c,false,emptyF c⟩ (.os q 0 len false)]]).set m (.map kL (ps++[(.agg id.enc,.loc T.length 0 0)]))) lab' o k { s with legs:=s.legs++[(id,⟨c,false,emptyF c⟩)] }∧Step o S lab ((T++[Ob.row 4 [legCells ⟨c,false,emptyF c⟩ (.os q 0 len false)]]).set m (.map kL (ps++[(.agg id.enc,.loc T.length 0 0)]))) lab':=by
   have hold:∀(z:Nat) (ob:Ob),z<S.length→z≠m→S[z]? =some ob→((T++[Ob.row 4 [legCells ⟨c,false,emptyF c⟩ (.os q 0 len false)]]).set m (.map kL (ps++[(.agg id.enc,.loc T.length 0 0)])))[z]? =some ob:=fun z ob hz hne hzo=>by
    rw[List.getElem?_set_ne (fun e=>hne e.symm)]
    exact get_old (hx3 z ob (get_old (get_old hzo)))
   have hlb:∀z,z<S.length→setL lab2 T.length [o,1,s.legs.length] z=lab z:=fun z hz=>by
    rw[setL_ne (by omega)]
    exact hl3 z (by rw[List.length_append,List.length_append];omega)
   have hfr:FreshL ((T++[Ob.row 4 [legCells ⟨c,false,emptyF c⟩ (.os q 0 len false)]]).set m (.map kL (ps++[(.agg id.enc,.loc T.length 0 0)]))) (setL lab2 T.length [o,1,s.legs.length]):=fun z hz=>by
    rw[List.length_set,List.length_append,List.length_singleton]at hz
    rw[setL_ne (by omega)]
    exact hf3 z (by omega)
   have hmL:(T++[Ob.row 4 [legCells ⟨c,false,emptyF c⟩ (.os q 0 len false)]])[m]? =some (.map kL ps):=get_old hxm3
   refine⟨setL lab2 T.length [o,1,s.legs.length],⟨hfr,m,_,h.add hold hlb (List.getElem?_set_self (lt_of_get hmL)) ⟨setL_self,_,?_,ht.keep fun z ob tl hz hl=>?_⟩⟩,⟨by rw[List.length_set,List.length_append];omega,hfr,hlb,fun z hz hne=>?_⟩⟩
   ·rw[List.getElem?_set_ne (by omega)]
    exact get_end
   ·have hzT:=lt_of_get hz
    rw[setL_ne (by omega),List.getElem?_set_ne]
    ·exact⟨get_old hz,rfl⟩
    ·rintro rfl
     have h1:=hl3 m (by rw[List.length_append,List.length_append];omega)
     rw[h.labm]at h1
     rcases hl with hl | ⟨j,hl⟩ <;> rw[hl]at h1 <;> simp at h1
   ·have hne':z≠m:=by rintro rfl;rw[h.labm]at hne;simp at hne
    have:=hold z (S[z]'hz) hz hne' (List.getElem?_eq_getElem hz)
    rw[this,List.getElem?_eq_getElem hz]
  simp only[foundC]at cf
  simp only[Lid.enc]at h1 cm kl e2 hxr hxm hxr2 hxm3 hxr3 hid3 hpm ce hf2
  simp only[Cfg.enc]at cf hxr2 ce
  simp(maxSteps:=1000000)(disch:=omega)only[push_cast,hal,h0,h1,h2,get_end,get_end0,set_end,hxr,hxm,hxr2,cm,kl,ks,e2,cf,ce,dUn,eqp_leg0,hxm4,hpm,Tryz.f20,↓WX,simprocAttr]
  exact fin
theorem StkAt.upd {T:List Ob} {lab':Lab} {i p:Nat} {x:Leg} {f:Leg→Leg} (h:StkAt S lab o kL (.loc k 0 0) s k m ps) (hnd:(s.legs.map (·.1)).Nodup) (hi:s.legs[i]? =some (id,x)) (hp:ps[i]? =some (.agg id.enc,.loc p 0 0))
  (hT:∀(z:Nat) (ob:Ob),S[z]? =some ob→lab z≠[o,1,i]→lab z≠[o,2,i]→(∀j,lab z≠[o,3,i,j])→T[z]? =some ob) (hlab:∀z,z<S.length→lab' z=lab z) (hx:LegAt T lab' o i p (f x)):StkAt T lab' o kL (.loc k 0 0) { s with legs:=updL s.legs id f } k m ps where
 dat:=rfl
 labk:=by rw[hlab k (lt_of_get h.row),h.labk]
 labm:=by rw[hlab m (lt_of_get h.map),h.labm]
 row:=hT k _ h.row (by rw[h.labk];simp) (by rw[h.labk];simp) (by rw[h.labk];simp)
 map:=hT m _ h.map (by rw[h.labm];simp) (by rw[h.labm];simp) (by rw[h.labm];simp)
 len:=by rw[h.len,updL_len]
 leg i' id' y hy:=by
  unfold updL at hy
  rw[List.getElem?_map]at hy
  obtain⟨q,hq,e⟩:=Option.map_eq_some_iff.1 hy
  obtain⟨p',h1,h2⟩:=h.leg i' q.1 q.2 hq
  by_cases hii:i'=i
  ·subst hii
   rw[hi]at hq
   cases hq
   rw[if_pos rfl]at e
   cases e
   exact⟨p,hp,hx⟩
  ·have hne:q.1≠id:=by
    intro e'
    have h3:(s.legs.map (·.1))[i']? =some id:=by rw[List.getElem?_map,hq,←e'];rfl
    have h4:(s.legs.map (·.1))[i]? =some id:=by rw[List.getElem?_map,hi];rfl
    exact hii ((List.getElem?_inj (lt_of_get h3) hnd).1 (h3.trans h4.symm))
   rw[if_neg hne]at e
   subst e
   refine⟨p',h1,h2.keep' fun z ob hz hl=>⟨hT z ob hz ?_ ?_ ?_,hlab z (lt_of_get hz)⟩⟩
   all_goals rcases hl with hl |hl | ⟨j,hl⟩ <;> rw[hl] <;> simp <;> omega
theorem StkAt.cell {i p q:Nat} {x:Leg} {f:Leg→Leg} (h:StkAt S lab o kL (.loc k 0 0) s k m ps) (hf:FreshL S lab) (hnd:(s.legs.map (·.1)).Nodup) (hi:s.legs[i]? =some (id,x)) (hp:ps[i]? =some (.agg id.enc,.loc p 0 0)) (hx:LegAt S lab o i p x)
  (hpS:S[p]? =some (.row 4 [legCells x (.os q 0 x.sold.length false)])) (hfx:(f x).sold=x.sold):
  SAt (S.set p (.row 4 [legCells (f x) (.os q 0 x.sold.length false)])) lab o k { s with legs:=updL s.legs id f }∧Step o S lab (S.set p (.row 4 [legCells (f x) (.os q 0 x.sold.length false)])) lab:=by
 have hlp:=hx.1
 have hst:Step o S lab (S.set p (.row 4 [legCells (f x) (.os q 0 x.sold.length false)])) lab:=Step.set hf _ (by rw[hlp];rfl)
 refine⟨⟨hst.fresh,m,ps,h.upd hnd hi hp (fun z ob hz n1 n2 n3=>?_) (fun _ _=>rfl) ⟨hlp,_,List.getElem?_set_self (lt_of_get hpS),?_⟩⟩,hst⟩
 ·rw[List.getElem?_set_ne]
  ·exact hz
  ·rintro rfl;exact n1 hlp
 ·obtain⟨-,d,h2,h3⟩:=hx
  rw[hpS]at h2
  have:d=.os q 0 x.sold.length false:=by simpa [legCells] using h2.symm
  subst this
  rw[hfx]
  refine h3.keep fun z ob tl hz hl=>⟨?_,rfl⟩
  rw[List.getElem?_set_ne]
  ·exact hz
  ·rintro rfl
   rw[hlp]at hl
   rcases hl with hl | ⟨j,hl⟩ <;> simp at hl
end
end Go.Proofs.YtkemehicndccmaaGreatDoor.Dm
