/-
  The violations of configurations as plain data, and what configurations without any are.
  The machine at configurations: Find, Place, the program's and the reference's.
  The inventory of seats in the store: what lies where, whose it is, and what a step keeps.
-/
import Derived.Test.YtkemehicndccmaaGreatDoorSkT
import Derived.Test.YtkemehicndccmaaGreatDoorGw
set_option linter.unusedSimpArgs false
set_option linter.unusedVariables false
namespace Go.Proofs.YtkemehicndccmaaGreatDoor.Dm
open Go Gw

/-! ### Sets of texts as maps -/
def inB (t:ByteArray) (l:List ByteArray):Bool:=l.any fun u=>decide (u=t)
theorem inB_iff {t:ByteArray} {l:List ByteArray}:inB t l=true↔t∈l:=by
 unfold inB
 rw[List.any_eq_true]
 constructor
 ·rintro⟨u,hu,e⟩
  have:u=t:=by simpa using e
  rw[←this];exact hu
 ·intro h;exact⟨t,h,by simp⟩
theorem inB_no {t:ByteArray} {l:List ByteArray} (h:inB t l=false):t ∉ l:=fun hm=>by rw[inB_iff.2 hm]at h;cases h
theorem inB_app (t:ByteArray) (a b:List ByteArray):inB t (a++b)=(inB t a || inB t b):=by unfold inB;rw[List.any_append]
theorem inB_one (t u:ByteArray):inB t [u]=decide (u=t):=by simp[inB]
def SetIs (ps:List (D×D)) (l:List ByteArray):Prop:=(∀p∈ps,∃s,p.1=.str s)∧∀t:ByteArray,lookM ps (.str t)=if inB t l=true then some (.bool true) else none
theorem SetIs.nil:SetIs [] []:=⟨fun p h=>(by cases h),fun t=>by simp[lookM,inB]⟩
theorem look_put:∀(ps:List (D×D)) (s t:ByteArray) (v:D),(∀p∈ps,∃s,p.1=.str s)→lookM (putM ps (.str s) v) (.str t)=if s=t then some v else lookM ps (.str t)
 | [],s,t,v,_=>by
  by_cases e:s=t
  ·simp[putM,lookM,keyBeq,kBeq,e]
  ·simp[putM,lookM,keyBeq,kBeq,e]
 | (a,b)::ps,s,t,v,h=>by
  obtain⟨u,hu⟩:=h (a,b) (by simp)
  have hu:a=.str u:=hu
  subst hu
  have ih:=look_put ps s t v (fun p hp=>h p (by simp[hp]))
  have hk:∀x y:ByteArray,keyBeq (.str x) (.str y)=decide (x=y):=fun x y=>rfl
  by_cases e:u=s
  ·subst e
   rw[putM,hk,if_pos (by simp)]
   by_cases e2:u=t
   ·simp[lookM,hk,e2]
   ·simp[lookM,hk,e2]
  ·rw[putM,hk,if_neg (by simpa using e)]
   by_cases e2:u=t
   ·subst e2
    rw[if_neg (fun x=>e x.symm)]
    simp[lookM,hk]
   ·have l1:lookM ((.str u,b)::putM ps (.str s) v) (.str t)=lookM (putM ps (.str s) v) (.str t):=by simp[lookM,hk,e2]
    have l2:lookM ((.str u,b)::ps) (.str t)=lookM ps (.str t):=by simp[lookM,hk,e2]
    rw[l1,l2,ih]
theorem put_keys:∀(ps:List (D×D)) (s:ByteArray) (v:D),(∀p∈ps,∃s,p.1=.str s)→∀p∈putM ps (.str s) v,∃s,p.1=.str s
 | [],s,v,_,p,hp=>by
  simp only[putM,List.mem_singleton]at hp
  subst hp
  exact⟨s,rfl⟩
 | (a,b)::ps,s,v,h,p,hp=>by
  rw[putM]at hp
  split at hp
  ·rcases List.mem_cons.1 hp with rfl |hp
   ·exact h (a,b) (by simp)
   ·exact h p (by simp[hp])
  ·rcases List.mem_cons.1 hp with rfl |hp
   ·exact h (a,b) (by simp)
   ·exact put_keys ps s v (fun q hq=>h q (by simp[hq])) p hp
theorem SetIs.put {ps:List (D×D)} {l:List ByteArray} (h:SetIs ps l) (s:ByteArray):SetIs (putM ps (.str s) (.bool true)) (l++[s]):=by
 refine⟨put_keys ps s _ h.1,fun t=>?_⟩
 rw[look_put ps s t _ h.1,h.2,inB_app,inB_one]
 by_cases e:s=t
 ·simp[e]
 ·simp[e]

/-! ### The violations -/
def rngB (y:Cab):Bool:=decide (1≤y.seats) && decide (y.seats≤999) && decide (0≤y.over) && decide (y.over≤999)
def cnfS (i:Nat):ByteArray:=ByteArray.mk #[99,111,110,102,105,103,32]++dec2 i
def cbnS (at':ByteArray) (k:Nat):ByteArray:=at'++ByteArray.mk #[32,99,97,98,105,110,32]++dec2 k
def clsS (at':ByteArray) (k:Nat):ByteArray:=at'++ByteArray.mk #[32,99,108,97,115,115,32]++dec2 k
def clsB (s:ByteArray):Bool:=decide (s.size=1) && capB ((s[0]?).getD 0)
def protB (y:Cab) (j:Nat) (z:Cls):Bool:=decide (z.prot<0) || (decide (0<j) && decide (z.prot<((y.cls[j-1]?).map (·.prot)).getD 0)) || (rngB y && decide (autF y<z.prot))
def clsF (at':ByteArray) (seen:List ByteArray) (y:Cab) (j:Nat) (z:Cls):List (Int×ByteArray):=
 ifF (!clsB z.code) 16 (clsS at' j)++ifF (inB z.code seen) 6 (clsS at' j)++ifF (protB y j z) 2 (clsS at' j)
def clsL (at':ByteArray) (seen:List ByteArray) (y:Cab):Nat→List (Int×ByteArray)
 |0=>[]
 |j+1=>clsL at' seen y j++match y.cls[j]? with
  |some z=>clsF at' (seen++(y.cls.take j).map (·.code)) y j z
  |none=>[]
def cabF (at':ByteArray) (pre:List Cab) (k:Nat) (y:Cab):List (Int×ByteArray):=
 ifF (!codeS y.name 1 8) 5 (cbnS at' k)++ifF (inB y.name (pre.map (·.name))) 6 (cbnS at' k)++ifF (!rngB y) 2 (cbnS at' k)++ifF (decide (y.cls.length<1) || decide (26<y.cls.length)) 4 (cbnS at' k)++clsL (cbnS at' k) (codes pre) y y.cls.length
def cabL (at':ByteArray) (l:List Cab):Nat→List (Int×ByteArray)
 |0=>[]
 |k+1=>cabL at' l k++match l[k]? with
  |some y=>cabF at' (l.take k) k y
  |none=>[]
def cfgF (pre:List Cfg) (i:Nat) (x:Cfg):List (Int×ByteArray):=
 ifF (!codeS x.equip 3 3) 5 (cnfS i)++ifF (inB x.equip (pre.map (·.equip))) 6 (cnfS i)++ifF (decide (x.cabs.length<1) || decide (4<x.cabs.length)) 4 (cnfS i)++cabL (cnfS i) x.cabs x.cabs.length
def cfgL (l:List Cfg):Nat→List (Int×ByteArray)
 |0=>[]
 |i+1=>cfgL l i++match l[i]? with
  |some x=>cfgF (l.take i) i x
  |none=>[]
theorem clsL_len (at':ByteArray) (seen:List ByteArray) (y:Cab):∀j,(clsL at' seen y j).length≤3*j
 |0=>Nat.le_refl _
 |j+1=>by
  have:=clsL_len at' seen y j
  unfold clsL
  rw[List.length_append]
  rcases y.cls[j]? with _ |z
  ·simp;omega
  ·have h1:=ifF_len (!clsB z.code) 16 (clsS at' j)
   have h2:=ifF_len (inB z.code (seen++(y.cls.take j).map (·.code))) 6 (clsS at' j)
   have h3:=ifF_len (protB y j z) 2 (clsS at' j)
   simp only[clsF,List.length_append];omega
theorem cabL_len (at':ByteArray) (l:List Cab) (h:∀y∈l,y.cls.length≤30):∀k,(cabL at' l k).length≤94*k
 |0=>Nat.le_refl _
 |k+1=>by
  have:=cabL_len at' l h k
  unfold cabL
  rw[List.length_append]
  rcases e:l[k]? with _ |y
  ·simp;omega
  ·have h0:=h y (List.mem_of_getElem? e)
   have h1:=ifF_len (!codeS y.name 1 8) 5 (cbnS at' k)
   have h2:=ifF_len (inB y.name ((l.take k).map (·.name))) 6 (cbnS at' k)
   have h3:=ifF_len (!rngB y) 2 (cbnS at' k)
   have h4:=ifF_len (decide (y.cls.length<1) || decide (26<y.cls.length)) 4 (cbnS at' k)
   have h5:=clsL_len (cbnS at' k) (codes (l.take k)) y y.cls.length
   simp only[cabF,List.length_append];omega

/-! ### No violations -/
theorem ifF_nil {b:Bool} {e:Int} {s:ByteArray} (h:ifF b e s=[]):b=false:=by
 unfold ifF at h
 split at h
 ·cases h
 ·rename_i hb;simpa using hb
theorem clsL_nil {at':ByteArray} {seen:List ByteArray} {y:Cab}:∀ {n:Nat},clsL at' seen y n=[]→∀(j:Nat) (z:Cls),j<n→y.cls[j]? =some z→z.code ∉ seen++(y.cls.take j).map (·.code)∧protB y j z=false
 |0,_,j,z,hj,_=>by omega
 |n+1,h,j,z,hj,hz=>by
  unfold clsL at h
  rw[List.append_eq_nil_iff]at h
  by_cases e:j=n
  ·subst e
   rw[hz]at h
   have h2:=h.2
   simp only[clsF,List.append_eq_nil_iff]at h2
   exact⟨inB_no (ifF_nil h2.1.2),ifF_nil h2.2⟩
  ·exact clsL_nil h.1 j z (by omega) hz
theorem nodup_of_take {α:Type}:∀(l:List α),(∀(j:Nat) (x:α),l[j]? =some x→x ∉ l.take j)→l.Nodup
 |l,h=>by
  refine List.pairwise_iff_getElem.2 fun i j hi hj hij e=>?_
  refine h j l[j] (List.getElem?_eq_getElem hj) ?_
  have h1:(l.take j)[i]? =l[i]? :=List.getElem?_take_of_lt hij
  exact List.mem_of_getElem? (h1.trans ((List.getElem?_eq_getElem hi).trans (congrArg some e)))
theorem cab_ok {at':ByteArray} {pre:List Cab} {k:Nat} {y:Cab} (h:cabF at' pre k y=[]):CabOk y∧(y.cls.map (·.code)).Nodup∧∀c∈y.cls.map (·.code),c ∉ codes pre:=by
 simp only[cabF,List.append_eq_nil_iff]at h
 obtain⟨⟨⟨⟨h1,h2⟩,h3⟩,h4⟩,h5⟩:=h
 have h3:=ifF_nil h3
 have h4:=ifF_nil h4
 have hr:rngB y=true:=by simpa using h3
 have h5:=clsL_nil h5
 have hr':=hr
 simp only[rngB,Bool.and_eq_true,decide_eq_true_eq]at hr'
 simp only[Bool.or_eq_false_iff,decide_eq_false_iff_not]at h4
 have hp:∀(j:Nat) (z:Cls),y.cls[j]? =some z→protB y j z=false:=fun j z hz=>(h5 j z (List.getElem?_eq_some_iff.1 hz).1 hz).2
 refine⟨⟨hr'.1.1.1,hr'.1.1.2,hr'.1.2,hr'.2,by omega,by omega,fun j z hz=>?_,fun j z w hz hw=>?_⟩,?_,?_⟩
 ·have:=hp j z hz
  simp only[protB,hr,Bool.true_and,Bool.or_eq_false_iff,decide_eq_false_iff_not]at this
  omega
 ·have:=hp (j+1) w hw
  simp only[protB,Nat.add_sub_cancel,hz,Option.map_some,Option.getD_some,Bool.or_eq_false_iff,Bool.and_eq_false_iff,decide_eq_false_iff_not]at this
  omega
 ·refine nodup_of_take _ fun j c hc=>?_
  rw[List.getElem?_map]at hc
  obtain⟨z,hz,rfl⟩:=Option.map_eq_some_iff.1 hc
  have:=(h5 j z (List.getElem?_eq_some_iff.1 hz).1 hz).1
  rw[←List.map_take]
  exact fun hm=>this (List.mem_append.2 (.inr hm))
 ·intro c hc hm
  obtain⟨z,hz,rfl⟩:=List.mem_map.1 hc
  obtain⟨j,hj⟩:=List.mem_iff_getElem?.1 hz
  exact (h5 j z (List.getElem?_eq_some_iff.1 hj).1 hj).1 (List.mem_append.2 (.inl hm))
theorem cabL_nil {at':ByteArray} {l:List Cab}:∀ {n:Nat},cabL at' l n=[]→∀(k:Nat) (y:Cab),k<n→l[k]? =some y→cabF at' (l.take k) k y=[]
 |0,_,k,y,hk,_=>by omega
 |n+1,h,k,y,hk,hy=>by
  unfold cabL at h
  rw[List.append_eq_nil_iff]at h
  by_cases e:k=n
  ·subst e
   rw[hy]at h
   exact h.2
  ·exact cabL_nil h.1 k y (by omega) hy
theorem codes_take_succ {l:List Cab} {k:Nat} {y:Cab} (h:l[k]? =some y):codes (l.take (k+1))=codes (l.take k)++y.cls.map (·.code):=by
 rw[List.take_add_one,h]
 simp[codes]
theorem cfg_ok {pre:List Cfg} {i:Nat} {x:Cfg} (h:cfgF pre i x=[]):CfgOk x∧x.equip ∉ pre.map (·.equip):=by
 simp only[cfgF,List.append_eq_nil_iff]at h
 obtain⟨⟨⟨h1,h2⟩,h3⟩,h4⟩:=h
 have h3:=ifF_nil h3
 have h2:=ifF_nil h2
 simp only[Bool.or_eq_false_iff,decide_eq_false_iff_not]at h3
 have hc:=fun k y hk=>cab_ok (cabL_nil h4 k y (List.getElem?_eq_some_iff.1 hk).1 hk)
 refine⟨⟨by omega,by omega,fun y hy=>?_,?_⟩,inB_no h2⟩
 ·obtain⟨k,hk⟩:=List.mem_iff_getElem?.1 hy
  exact (hc k y hk).1
 ·have key:∀n,n≤x.cabs.length→(codes (x.cabs.take n)).Nodup:=by
   intro n
   induction n with
   |zero=>intro _;simp[codes]
   |succ n ih=>
    intro hn
    have e:x.cabs[n]? =some (x.cabs[n]):=List.getElem?_eq_getElem (by omega)
    rw[codes_take_succ e,List.nodup_append]
    exact⟨ih (by omega),(hc n _ e).2.1,fun a ha b hb hab=>(hc n _ e).2.2 b hb (hab ▸ ha)⟩
  have:=key x.cabs.length (Nat.le_refl _)
  rwa [List.take_length]at this
theorem cfgL_nil {l:List Cfg}:∀ {n:Nat},cfgL l n=[]→∀(i:Nat) (x:Cfg),i<n→l[i]? =some x→cfgF (l.take i) i x=[]
 |0,_,k,y,hk,_=>by omega
 |n+1,h,k,y,hk,hy=>by
  unfold cfgL at h
  rw[List.append_eq_nil_iff]at h
  by_cases e:k=n
  ·subst e
   rw[hy]at h
   exact h.2
  ·exact cfgL_nil h.1 k y (by omega) hy
theorem cfgs_ok {l:List Cfg} (h:cfgL l l.length=[]):CfgsOk l:=by
 have hc:=fun i x hi=>cfg_ok (cfgL_nil h i x (List.getElem?_eq_some_iff.1 hi).1 hi)
 refine⟨fun c hc'=>?_,nodup_of_take _ fun j e he=>?_⟩
 ·obtain⟨i,hi⟩:=List.mem_iff_getElem?.1 hc'
  exact (hc i c hi).1
 ·rw[List.getElem?_map]at he
  obtain⟨z,hz,rfl⟩:=Option.map_eq_some_iff.1 he
  rw[←List.map_take]
  exact (hc j z hz).2
end Go.Proofs.YtkemehicndccmaaGreatDoor.Dm
namespace Go.Proofs.YtkemehicndccmaaGreatDoor.Dm
open Go Gw
set_option linter.unusedSimpArgs false
set_option linter.unusedSimpArgs false

structure Sm (c:Cfg):Prop where
 cabs:c.cabs.length≤30
 cls:∀y∈c.cabs,y.cls.length≤30
theorem CfgOk.sm {c:Cfg} (h:CfgOk c):Sm c:=⟨by have:=h.l2;omega,fun y hy=>by have:=(h.cab y hy).l2;omega⟩
def zCfg:Cfg:=⟨ByteArray.mk #[],[],true⟩
def foundC:Option Cfg→D
 |some c=>.tup [.agg c.enc,.bool true]
 |none=>.tup [.agg [.str (ByteArray.mk #[]),.nils],.bool false]
theorem foundC_pure (o:Option Cfg):(foundC o).pure=true:=by
 cases o with
 |none=>rfl
 |some c=>simp only[foundC,D.pure,pureL_cons,pureL_nil,Cfg_pure,Bool.and_true]
theorem findF_drop {l:List Cfg} {e:ByteArray} {i:Nat} {c:Cfg} (h:l[i]? =some c):findF (l.drop i) e=if c.equip=e then some c else findF (l.drop (i+1)) e:=by
 rw[drop_at h]
 unfold findF
 rw[List.find?_cons]
 by_cases q:c.equip=e
 ·simp[q]
 ·simp[q]
set_option maxHeartbeats 4000000 in
set_option maxRecDepth 100000 in
theorem Find_d {n:Nat} {l:List Cfg} {x:Bool} {e:ByteArray} (hn:110≤n) (hl:l.length≤100):WO (dcall E (n+1) 50 [.sl 2 (l.map Cfg.enc) x,.str e] []) fun d _=>d=foundC (findF l e):=by
 refine wo_dcall Tryz.func50 rfl (by decide) rfl 21 rfl (fun a hal ha=>?_)
 have h0:a[0]? =some (.sl 2 (l.map Cfg.enc) x):=ha 0 (by simp)
 have h1:a[1]? =some (.str e):=ha 1 (by simp)
 clear ha
 simp(maxSteps:=1000000)(disch:=omega)only[push_cast,hal,h0,↓WX,simprocAttr]
 refine wl_loop (fun i a T=>a.length=21∧a[1]? =some (.str e)∧a[4]? =some (.loc 0 0 0)∧a[8]? =some (.sl 2 (l.map Cfg.enc) x)∧a[9]? =some (.int .i64 l.length)∧a[10]? =some (.int .i64 i)∧T[0]? =some (.row 2 [[.str (ByteArray.mk #[]),.nils]])∧findF l e=findF (l.drop i) e) l.length ?_ (by omega) ?_
 ·simp(maxSteps:=1000000)(disch:=omega)only[push_cast,hal,h1,Int.natCast_zero,simprocAttr]
 clear hal h0 h1 a
 rintro i a T hi ⟨hal,h1,h4,h8,h9,h10,hr,hv⟩
 have hlT:0<T.length:=(List.getElem?_eq_some_iff.1 hr).1
 rcases Nat.lt_or_eq_of_le hi with hlt |rfl
 ·obtain⟨c,hc⟩:∃c,l[i]? =some c:=⟨l[i],by simp[hlt]⟩
  rw[findF_drop hc]at hv
  have hr2:(T++[Ob.row 2 [c.enc]])[0]? =some (.row 2 [[.str (ByteArray.mk #[]),.nils]]):=get_old hr
  have hne:(T.length=0)=False:=eq_false (by omega)
  by_cases q:c.equip=e
  ·rw[if_pos q]at hv
   subst q
   simp only[Cfg.enc]at hr2
   simp(maxSteps:=1000000)(disch:=omega)only[push_cast,hal,h1,h4,h8,h9,h10,hlt,hc,Cfg.enc,set_end,get_end,hr2,hv,foundC,str_eq,List.length_append,Nat.lt_add_right,Tryz.f50,↓WX,simprocAttr]
  ·rw[if_neg q]at hv
   simp(maxSteps:=1000000)(disch:=omega)only[push_cast,hal,h1,h4,h8,h9,h10,hlt,hc,Cfg.enc,set_end,get_end,q,str_eq,wrap_ok,Int.natCast_add,Int.natCast_one,↓WX,simprocAttr]
   exact⟨get_old hr,hv⟩
 ·have hv:findF l e=none:=by rw[hv,List.drop_length];rfl
  simp(maxSteps:=1000000)(disch:=omega)only[push_cast,hal,h4,h9,h10,Nat.lt_irrefl,hr,hlT,hv,foundC,Tryz.f50,↓WX,simprocAttr]
theorem Find_c {n:Nat} {l:List Cfg} {x:Bool} {e:ByteArray} (hn:120≤n) (hl:l.length≤100) (st:Bool) (S:List Ob):callD E (dcall E n) st S 50 [.sl 2 (l.map Cfg.enc) x,.str e]=some (foundC (findF l e),S):=by
 obtain⟨m,rfl⟩:∃m,n=m+1:=⟨n-1,by omega⟩
 obtain⟨d,T,ho,rfl⟩:=Find_d (n:=m) (x:=x) (e:=e) (by omega) hl
 exact callD_pure rfl (by simp[pureL_cons,pureL_nil,D.pure,Cfgs_pure]) ho (freeze_pure (foundC_pure _))
def placeD:Option (Nat×Nat)→D
 |some (i,k)=>.tup [.int .i64 i,.int .i64 k,.bool true]
 |none=>.tup [.int .i64 0,.int .i64 0,.bool false]
theorem placeD_pure (o:Option (Nat×Nat)):(placeD o).pure=true:=by
 rcases o with _ | ⟨i,k⟩ <;> rfl
theorem placeF_drop {cl:ByteArray} {l:List Cab} {i:Nat} {y:Cab} (h:l[i]? =some y):placeF cl i (l.drop i)=match rankF cl 0 y.cls with
  |some k=>some (i,k)
  |none=>placeF cl (i+1) (l.drop (i+1)):=by
 rw[drop_at h,placeF]
 rfl
theorem rankF_drop {cl:ByteArray} {l:List Cls} {i:Nat} {z:Cls} (h:l[i]? =some z):rankF cl i (l.drop i)=if z.code=cl then some i else rankF cl (i+1) (l.drop (i+1)):=by
 rw[drop_at h,rankF]
set_option maxHeartbeats 4000000 in
set_option maxRecDepth 100000 in
theorem Place_d {n:Nat} {c:Cfg} {cl:ByteArray} (hn:110≤n) (hc:Sm c):WO (dcall E (n+1) 60 [.agg c.enc,.str cl] []) fun d _=>d=placeD (placeF cl 0 c.cabs):=by
 refine wo_dcall Tryz.func60 rfl (by decide) rfl 35 rfl (fun a hal ha=>?_)
 have h0:a[0]? =some (.agg c.enc):=ha 0 (by simp)
 have h1:a[1]? =some (.str cl):=ha 1 (by simp)
 clear ha
 have hl:=hc.cabs
 simp only[Cfg.enc]at h0
 simp(maxSteps:=1000000)(disch:=omega)only[push_cast,hal,h0,↓WX,simprocAttr]
 refine wl_loop (fun i a T=>a.length=35∧a[1]? =some (.str cl)∧a[12]? =some (.sl 4 (c.cabs.map Cab.enc) c.cabsx)∧a[13]? =some (.int .i64 c.cabs.length)∧a[14]? =some (.int .i64 i)∧placeF cl 0 c.cabs=placeF cl i (c.cabs.drop i)) c.cabs.length ?_ (by omega) ?_
 ·simp(maxSteps:=1000000)(disch:=omega)only[push_cast,hal,h1,Int.natCast_zero,simprocAttr]
 clear hal h0 h1 a
 rintro i a T hi ⟨hal,h1,h12,h13,h14,hv⟩
 rcases Nat.lt_or_eq_of_le hi with hlt |rfl
 case inr=>
  have hv:placeF cl 0 c.cabs=none:=by rw[hv,List.drop_length];rfl
  simp(maxSteps:=1000000)(disch:=omega)only[push_cast,hal,h13,h14,Nat.lt_irrefl,hv,placeD,Tryz.f60,↓WX,simprocAttr]
 obtain⟨y,hy⟩:∃y,c.cabs[i]? =some y:=⟨c.cabs[i],by simp[hlt]⟩
 have hly:=hc.cls y (List.mem_of_getElem? hy)
 rw[placeF_drop hy]at hv
 simp(maxSteps:=1000000)(disch:=omega)only[push_cast,hal,h12,h13,h14,hlt,hy,Cab.enc,set_end,get_end,↓WX,simprocAttr]
 refine wl_loop (fun k a T=>a.length=35∧a[1]? =some (.str cl)∧a[7]? =some (.int .i64 i)∧a[12]? =some (.sl 4 (c.cabs.map Cab.enc) c.cabsx)∧a[13]? =some (.int .i64 c.cabs.length)∧a[14]? =some (.int .i64 i)∧a[20]? =some (.sl 2 (y.cls.map Cls.enc) y.clsx)∧a[21]? =some (.int .i64 y.cls.length)∧a[22]? =some (.int .i64 k)∧rankF cl 0 y.cls=rankF cl k (y.cls.drop k)) y.cls.length ?_ (by omega) ?_
 ·simp(maxSteps:=1000000)(disch:=omega)only[push_cast,hal,h1,h12,h13,h14,Int.natCast_zero,simprocAttr]
 clear hal h1 h12 h13 h14 a
 rintro k a T hk ⟨hal,h1,h7,h12,h13,h14,h20,h21,h22,hw⟩
 rcases Nat.lt_or_eq_of_le hk with hlk |rfl
 case inr=>
  have hw:rankF cl 0 y.cls=none:=by rw[hw,List.drop_length];rfl
  rw[hw]at hv
  simp(maxSteps:=1000000)(disch:=omega)only[push_cast,hal,h1,h12,h13,h14,h21,h22,Nat.lt_irrefl,hlt,wrap_ok,Int.natCast_add,Int.natCast_one,↓WX,simprocAttr]
  exact hv
 obtain⟨z,hz⟩:∃z,y.cls[k]? =some z:=⟨y.cls[k],by simp[hlk]⟩
 rw[rankF_drop hz]at hw
 by_cases q:z.code=cl
 ·subst q
  rw[if_pos rfl]at hw
  rw[hw]at hv
  simp(maxSteps:=1000000)(disch:=omega)only[push_cast,hal,h1,h7,h20,h21,h22,hlk,hz,Cls.enc,set_end,get_end,hv,placeD,str_eq,Tryz.f60,↓WX,simprocAttr]
 ·rw[if_neg q]at hw
  simp(maxSteps:=1000000)(disch:=omega)only[push_cast,hal,h1,h7,h12,h13,h14,h20,h21,h22,hlk,hz,Cls.enc,set_end,get_end,q,str_eq,wrap_ok,Int.natCast_add,Int.natCast_one,↓WX,simprocAttr]
  exact hw
theorem Place_c {n:Nat} {c:Cfg} {cl:ByteArray} (hn:120≤n) (hc:Sm c) (st:Bool) (S:List Ob):callD E (dcall E n) st S 60 [.agg c.enc,.str cl]=some (placeD (placeF cl 0 c.cabs),S):=by
 obtain⟨m,rfl⟩:∃m,n=m+1:=⟨n-1,by omega⟩
 obtain⟨d,T,ho,rfl⟩:=Place_d (n:=m) (cl:=cl) (by omega) hc
 exact callD_pure rfl (by simp[pureL_cons,pureL_nil,D.pure,Cfg_pure]) ho (freeze_pure (placeD_pure _))
set_option maxHeartbeats 4000000 in
set_option maxRecDepth 100000 in
theorem rFind_d {n:Nat} {l:List Cfg} {x:Bool} {e:ByteArray} (hn:110≤n) (hl:l.length≤100):WO (dcall E (n+1) 54 [.sl 2 (l.map Cfg.enc) x,.str e] []) fun d _=>d=foundC (findF l e):=by
 refine wo_dcall Tryz.func54 rfl (by decide) rfl 25 rfl (fun a hal ha=>?_)
 have h0:a[0]? =some (.sl 2 (l.map Cfg.enc) x):=ha 0 (by simp)
 have h1:a[1]? =some (.str e):=ha 1 (by simp)
 clear ha
 simp(maxSteps:=1000000)(disch:=omega)only[push_cast,↓WX,simprocAttr]
 refine wl_loop (fun i a T=>T=[Ob.row 2 [[.str (ByteArray.mk #[]),.nils]]]∧a.length=25∧a[0]? =some (.sl 2 (l.map Cfg.enc) x)∧a[1]? =some (.str e)∧a[4]? =some (.loc 0 0 0)∧a[6]? =some (.int .i64 i)∧findF l e=findF (l.drop i) e) l.length ?_ (by omega) ?_
 ·simp(maxSteps:=1000000)(disch:=omega)only[push_cast,hal,h0,h1,Int.natCast_zero,simprocAttr]
 clear hal h0 h1 a
 rintro i a T hi ⟨rfl,hal,h0,h1,h4,h6,hv⟩
 rcases Nat.lt_or_eq_of_le hi with hlt |rfl
 ·obtain⟨c,hc⟩:∃c,l[i]? =some c:=⟨l[i],by simp[hlt]⟩
  rw[findF_drop hc]at hv
  by_cases q:c.equip=e
  ·rw[if_pos q]at hv
   subst q
   simp(maxSteps:=1000000)(disch:=omega)only[push_cast,hal,h0,h1,h4,h6,hlt,hc,Cfg.enc,hv,foundC,str_eq,Tryz.f54,↓WX,simprocAttr]
  ·rw[if_neg q]at hv
   simp(maxSteps:=1000000)(disch:=omega)only[push_cast,hal,h0,h1,h4,h6,hlt,hc,Cfg.enc,q,str_eq,wrap_ok,Int.natCast_add,Int.natCast_one,↓WX,simprocAttr]
   exact hv
 ·have hv:findF l e=none:=by rw[hv,List.drop_length];rfl
  simp(maxSteps:=1000000)(disch:=omega)only[push_cast,hal,h0,h4,h6,Nat.lt_irrefl,hv,foundC,Tryz.f54,↓WX,simprocAttr]
theorem rFind_c {n:Nat} {l:List Cfg} {x:Bool} {e:ByteArray} (hn:120≤n) (hl:l.length≤100) (st:Bool) (S:List Ob):callD E (dcall E n) st S 54 [.sl 2 (l.map Cfg.enc) x,.str e]=some (foundC (findF l e),S):=by
 obtain⟨m,rfl⟩:∃m,n=m+1:=⟨n-1,by omega⟩
 obtain⟨d,T,ho,rfl⟩:=rFind_d (n:=m) (x:=x) (e:=e) (by omega) hl
 exact callD_pure rfl (by simp[pureL_cons,pureL_nil,D.pure,Cfgs_pure]) ho (freeze_pure (foundC_pure _))
set_option maxHeartbeats 4000000 in
set_option maxRecDepth 100000 in
theorem rPlace_d {n:Nat} {c:Cfg} {cl:ByteArray} (hn:110≤n) (hc:Sm c):WO (dcall E (n+1) 63 [.agg c.enc,.str cl] []) fun d _=>d=placeD (placeF cl 0 c.cabs):=by
 refine wo_dcall Tryz.func63 rfl (by decide) rfl 41 rfl (fun a hal ha=>?_)
 have h0:a[0]? =some (.agg c.enc):=ha 0 (by simp)
 have h1:a[1]? =some (.str cl):=ha 1 (by simp)
 clear ha
 have hl:=hc.cabs
 simp only[Cfg.enc]at h0
 simp(maxSteps:=1000000)(disch:=omega)only[push_cast,h0,↓WX,simprocAttr]
 refine wl_loop (fun i a T=>T=[Ob.row 2 [[.str c.equip,.sl 4 (c.cabs.map Cab.enc) c.cabsx]]]∧a.length=41∧a[1]? =some (.str cl)∧a[2]? =some (.loc 0 0 0)∧a[7]? =some (.int .i64 i)∧placeF cl 0 c.cabs=placeF cl i (c.cabs.drop i)) c.cabs.length ?_ (by omega) ?_
 ·simp(maxSteps:=1000000)(disch:=omega)only[push_cast,hal,h1,Int.natCast_zero,simprocAttr]
 clear hal h0 h1 a
 rintro i a T hi ⟨rfl,hal,h1,h2,h7,hv⟩
 rcases Nat.lt_or_eq_of_le hi with hlt |rfl
 case inr=>
  have hv:placeF cl 0 c.cabs=none:=by rw[hv,List.drop_length];rfl
  simp(maxSteps:=1000000)(disch:=omega)only[push_cast,hal,h2,h7,Nat.lt_irrefl,hv,placeD,Tryz.f63,↓WX,simprocAttr]
 obtain⟨y,hy⟩:∃y,c.cabs[i]? =some y:=⟨c.cabs[i],by simp[hlt]⟩
 have hly:=hc.cls y (List.mem_of_getElem? hy)
 rw[placeF_drop hy]at hv
 simp(maxSteps:=1000000)(disch:=omega)only[push_cast,hal,h2,h7,hlt,↓WX,simprocAttr]
 refine wl_loop (fun k a T=>T=[Ob.row 2 [[.str c.equip,.sl 4 (c.cabs.map Cab.enc) c.cabsx]]]∧a.length=41∧a[1]? =some (.str cl)∧a[2]? =some (.loc 0 0 0)∧a[7]? =some (.int .i64 i)∧a[8]? =some (.int .i64 k)∧rankF cl 0 y.cls=rankF cl k (y.cls.drop k)) y.cls.length ?_ (by omega) ?_
 ·simp(maxSteps:=1000000)(disch:=omega)only[push_cast,hal,h1,h2,h7,Int.natCast_zero,simprocAttr]
 clear hal h1 h2 h7 a
 rintro k a T hk ⟨rfl,hal,h1,h2,h7,h8,hw⟩
 rcases Nat.lt_or_eq_of_le hk with hlk |rfl
 case inr=>
  have hw:rankF cl 0 y.cls=none:=by rw[hw,List.drop_length];rfl
  rw[hw]at hv
  simp(maxSteps:=1000000)(disch:=omega)only[push_cast,hal,h1,h2,h7,h8,Nat.lt_irrefl,hlt,hy,Cab.enc,wrap_ok,Int.natCast_add,Int.natCast_one,↓WX,simprocAttr]
  exact hv
 obtain⟨z,hz⟩:∃z,y.cls[k]? =some z:=⟨y.cls[k],by simp[hlk]⟩
 rw[rankF_drop hz]at hw
 by_cases q:z.code=cl
 ·subst q
  rw[if_pos rfl]at hw
  rw[hw]at hv
  simp(maxSteps:=1000000)(disch:=omega)only[push_cast,hal,h1,h2,h7,h8,hlk,hz,hy,Cab.enc,Cls.enc,hv,placeD,str_eq,Tryz.f63,↓WX,simprocAttr]
 ·rw[if_neg q]at hw
  simp(maxSteps:=1000000)(disch:=omega)only[push_cast,hal,h1,h2,h7,h8,hlk,hz,hy,Cab.enc,Cls.enc,q,str_eq,wrap_ok,Int.natCast_add,Int.natCast_one,↓WX,simprocAttr]
  exact hw
theorem rPlace_c {n:Nat} {c:Cfg} {cl:ByteArray} (hn:120≤n) (hc:Sm c) (st:Bool) (S:List Ob):callD E (dcall E n) st S 63 [.agg c.enc,.str cl]=some (placeD (placeF cl 0 c.cabs),S):=by
 obtain⟨m,rfl⟩:∃m,n=m+1:=⟨n-1,by omega⟩
 obtain⟨d,T,ho,rfl⟩:=rPlace_d (n:=m) (cl:=cl) (by omega) hc
 exact callD_pure rfl (by simp[pureL_cons,pureL_nil,D.pure,Cfg_pure]) ho (freeze_pure (placeD_pure _))

/-! ### What may be sold in a cabin, and which class takes the place of a class -/
theorem Auth_c {n:Nat} (hn:1≤n) {y:Cab} (h1: -1000000≤y.seats) (h2:y.seats≤1000000) (h3: -1000000≤y.over) (h4:y.over≤1000000) (st:Bool) (S:List Ob):callD E (dcall E n) st S 133 [.agg y.enc]=some (.int .i64 (autF y),S):=by
 obtain⟨m,rfl⟩:∃m,n=m+1:=⟨n-1,by omega⟩
 have:WO (dcall E (m+1) 133 [.agg y.enc] []) fun d T=>d=.int .i64 (autF y):=by
  refine wo_dcall Tryz.func133 rfl (by decide) rfl 8 rfl (fun a hal ha=>?_)
  have h0:a[0]? =some (.agg y.enc):=ha 0 (by simp)
  clear ha
  simp only[Cab.enc]at h0
  simp(maxSteps:=1000000)(disch:=omega)only[push_cast,hal,h0,autF,wrap_ok,Tryz.f133,↓WX,simprocAttr]
 obtain⟨d,T,ho,rfl⟩:=this
 exact callD_pure rfl (by simp[pureL_cons,pureL_nil,D.pure,Cab_pure]) ho rfl
theorem rAuth_c {n:Nat} (hn:1≤n) {y:Cab} (h1: -1000000≤y.seats) (h2:y.seats≤1000000) (h3: -1000000≤y.over) (h4:y.over≤1000000) (st:Bool) (S:List Ob):callD E (dcall E n) st S 123 [.agg y.enc]=some (.int .i64 (autF y),S):=by
 obtain⟨m,rfl⟩:∃m,n=m+1:=⟨n-1,by omega⟩
 have:WO (dcall E (m+1) 123 [.agg y.enc] []) fun d T=>d=.int .i64 (autF y):=by
  refine wo_dcall Tryz.func123 rfl (by decide) rfl 8 rfl (fun a hal ha=>?_)
  have h0:a[0]? =some (.agg y.enc):=ha 0 (by simp)
  clear ha
  simp only[Cab.enc]at h0
  simp(maxSteps:=1000000)(disch:=omega)only[push_cast,hal,h0,autF,wrap_ok,Tryz.f123,↓WX,simprocAttr]
 obtain⟨d,T,ho,rfl⟩:=this
 exact callD_pure rfl (by simp[pureL_cons,pureL_nil,D.pure,Cab_pure]) ho rfl
def likeD:Option ByteArray→D
 |some s=>.tup [.str s,.bool true]
 |none=>.tup [.str (ByteArray.mk #[]),.bool false]
end Go.Proofs.YtkemehicndccmaaGreatDoor.Dm
namespace Go.Proofs.YtkemehicndccmaaGreatDoor.Dm
open Go Gw

abbrev Lab:=Nat→List Nat
def FreshL (S:List Ob) (lab:Lab):Prop:=∀x,S.length≤x→lab x=[]
structure Step (o:Nat) (S:List Ob) (lab:Lab) (T:List Ob) (lab':Lab):Prop where
 len:S.length≤T.length
 fresh:FreshL T lab'
 labs:∀x,x<S.length→lab' x=lab x
 keep:∀x,x<S.length→(lab x).head? ≠some o→T[x]? =S[x]?
theorem Step.refl {o:Nat} {S:List Ob} {lab:Lab} (h:FreshL S lab):Step o S lab S lab:=⟨Nat.le_refl _,h,fun _ _=>rfl,fun _ _ _=>rfl⟩
theorem Step.trans {o:Nat} {S T U:List Ob} {l m n:Lab} (h:Step o S l T m) (g:Step o T m U n):Step o S l U n where
 len:=Nat.le_trans h.len g.len
 fresh:=g.fresh
 labs x hx:=(g.labs x (Nat.lt_of_lt_of_le hx h.len)).trans (h.labs x hx)
 keep x hx hl:=(g.keep x (Nat.lt_of_lt_of_le hx h.len) (by rw[h.labs x hx];exact hl)).trans (h.keep x hx hl)
theorem lt_of_get {α:Type} {l:List α} {i:Nat} {x:α} (h:l[i]? =some x):i<l.length:=(List.getElem?_eq_some_iff.1 h).1
theorem FreshL.push {S:List Ob} {lab:Lab} (h:FreshL S lab) (J:List Ob):FreshL (S++J) lab:=fun x hx=>h x (by rw[List.length_append]at hx;omega)
theorem Step.push {o:Nat} {S:List Ob} {lab:Lab} (h:FreshL S lab) (J:List Ob):Step o S lab (S++J) lab where
 len:=by rw[List.length_append];omega
 fresh:=h.push J
 labs _ _:=rfl
 keep x hx _:=List.getElem?_append_left hx
def setL (lab:Lab) (x:Nat) (t:List Nat):Lab:=fun y=>if y=x then t else lab y
theorem setL_self {lab:Lab} {x:Nat} {t:List Nat}:setL lab x t x=t:=by simp[setL]
theorem setL_ne {lab:Lab} {x y:Nat} {t:List Nat} (h:y≠x):setL lab x t y=lab y:=by simp[setL,h]
theorem Step.add {o:Nat} {S:List Ob} {lab:Lab} (h:FreshL S lab) (ob:Ob) (t:List Nat):Step o S lab (S++[ob]) (setL lab S.length t) where
 len:=by rw[List.length_append];omega
 fresh x hx:=by
  rw[List.length_append,List.length_singleton]at hx
  rw[setL_ne (by omega)]
  exact h x (by omega)
 labs x hx:=setL_ne (by omega)
 keep x hx _:=List.getElem?_append_left hx
theorem Step.set {o:Nat} {S:List Ob} {lab:Lab} (h:FreshL S lab) {k:Nat} (ob:Ob) (hk:(lab k).head? =some o):Step o S lab (S.set k ob) lab where
 len:=by simp
 fresh x hx:=h x (by simpa using hx)
 labs _ _:=rfl
 keep x hx hl:=by
  rw[List.getElem?_set_ne]
  rintro rfl
  exact hl hk
theorem Step.other {o o':Nat} {S T:List Ob} {l m:Lab} (h:Step o S l T m) (ho:o'≠o) {x:Nat} {ob:Ob} {t:List Nat} (hx:S[x]? =some ob) (hl:l x=o'::t):T[x]? =some ob∧m x=o'::t:=by
 have hlt:=lt_of_get hx
 refine⟨by rw[h.keep x hlt (by rw[hl];simpa using ho)];exact hx,by rw[h.labs x hlt];exact hl⟩
theorem Step.free {o:Nat} {S T:List Ob} {l m:Lab} (h:Step o S l T m) {x:Nat} {ob:Ob} (hx:S[x]? =some ob) (hl:l x=[]):T[x]? =some ob∧m x=[]:=by
 have hlt:=lt_of_get hx
 refine⟨by rw[h.keep x hlt (by rw[hl];simp)];exact hx,by rw[h.labs x hlt];exact hl⟩

abbrev encZ (n:Int):List D:=[.int .i64 n]
def TabAt (S:List Ob) (lab:Lab) (o i:Nat) (d:D) (t:List (List Int)):Prop:=
 ∃(q:Nat) (r:Nat→Nat) (es:List (List D)),d=.os q 0 t.length false∧lab q=[o,2,i]∧S[q]? =some (.row 1 es)∧es.length=t.length∧
  ∀(j:Nat) (row:List Int),t[j]? =some row→es[j]? =some [.os (r j) 0 row.length false]∧lab (r j)=[o,3,i,j]∧S[r j]? =some (.row 1 (row.map encZ))
def KeepO (o:Nat) (S:List Ob) (lab:Lab) (T:List Ob) (lab':Lab):Prop:=∀(x:Nat) (ob:Ob) (t:List Nat),S[x]? =some ob→lab x=o::t→T[x]? =some ob∧lab' x=o::t
theorem Step.keepO {o o':Nat} {S T:List Ob} {l m:Lab} (h:Step o S l T m) (ho:o'≠o):KeepO o' S l T m:=fun _ _ _ hx hl=>h.other ho hx hl
theorem KeepO.push {o:Nat} {S J:List Ob} {lab:Lab}:KeepO o S lab (S++J) lab:=fun _ _ _ hx hl=>⟨get_old hx,hl⟩
theorem TabAt.keep {S T:List Ob} {lab lab':Lab} {o i:Nat} {d:D} {t:List (List Int)} (h:TabAt S lab o i d t)
  (g:∀(x:Nat) (ob:Ob) (tl:List Nat),S[x]? =some ob→(lab x=[o,2,i]∨∃j,lab x=[o,3,i,j])→T[x]? =some ob∧lab' x=lab x):TabAt T lab' o i d t:=by
 obtain⟨q,r,es,rfl,hq,hs,hl,hr⟩:=h
 obtain⟨g1,g2⟩:=g q _ [] hs (.inl hq)
 refine⟨q,r,es,rfl,by rw[g2,hq],g1,hl,fun j row hj=>?_⟩
 obtain⟨h1,h2,h3⟩:=hr j row hj
 obtain⟨g1,g2⟩:=g (r j) _ [] h3 (.inr ⟨j,h2⟩)
 exact⟨h1,by rw[g2,h2],g1⟩
theorem modify_get {α:Type} {l:List α} {i j:Nat} {f:α→α} {y:α} (h:(l.modify i f)[j]? =some y):∃x,l[j]? =some x∧y=if i=j then f x else x:=by
 rw[List.getElem?_modify]at h
 cases hx:l[j]? with
 |none=>rw[hx]at h;cases h
 |some x=>
  rw[hx]at h
  refine⟨x,rfl,?_⟩
  have:=Option.some.inj h
  rw[←this]
theorem TabAt.add {S:List Ob} {lab:Lab} {o i a b:Nat} {d:D} {t:List (List Int)} {row:List Int} {r:Nat} {n:Int} (h:TabAt S lab o i d t) (ha:t[a]? =some row) (hl:lab r=[o,3,i,a]) (hr:∃(q:Nat) (es:List (List D)),d=.os q 0 t.length false∧S[q]? =some (.row 1 es)∧es[a]? =some [.os r 0 row.length false]):
  TabAt (S.set r (.row 1 ((row.modify b (· +n)).map encZ))) lab o i d (addAt t a b n):=by
 obtain⟨q,f,es,rfl,hq,hs,hel,hf⟩:=h
 obtain⟨q',es',e1,hs',hes'⟩:=hr
 cases e1
 rw[hs]at hs'
 injection hs' with hs'
 injection hs' with _ hs'
 subst hs'
 obtain⟨f1,f2,f3⟩:=hf a row ha
 have hfr:f a=r:=by
  rw[f1]at hes'
  simpa using hes'
 have hne:r≠q:=by rintro rfl;rw[hl]at hq;simp at hq
 refine⟨q,f,es,by rw[addAt,List.length_modify],hq,by rw[List.getElem?_set_ne hne];exact hs,by rw[addAt,List.length_modify];exact hel,fun j y hj=>?_⟩
 obtain⟨x,hx,rfl⟩:=modify_get hj
 obtain⟨g1,g2,g3⟩:=hf j x hx
 by_cases haj:a=j
 ·subst haj
  rw[ha]at hx
  cases hx
  rw[if_pos rfl,hfr,List.length_modify]
  rw[hfr]at g1 g2 g3
  exact⟨g1,g2,List.getElem?_set_self (lt_of_get g3)⟩
 ·rw[if_neg haj]
  refine⟨g1,g2,?_⟩
  rw[List.getElem?_set_ne]
  ·exact g3
  ·intro e
   rw[e,g2]at hl
   simp at hl
   omega

/-! ### The program's inventory -/
abbrev legCells (x:Leg) (d:D):List D:=[.str x.cfg.equip,.sl 4 (x.cfg.cabs.map Cab.enc) x.cfg.cabsx,d,.bool x.closed]
def LegAt (S:List Ob) (lab:Lab) (o i p:Nat) (x:Leg):Prop:=
 lab p=[o,1,i]∧∃d,S[p]? =some (.row 4 [legCells x d])∧TabAt S lab o i d x.sold
structure StkAt (S:List Ob) (lab:Lab) (o:Nat) (kt:TypeId) (d:D) (s:Stk) (k m:Nat) (ps:List (D×D)):Prop where
 dat:d=.loc k 0 0
 labk:lab k=[o,0]
 labm:lab m=[o,4]
 row:S[k]? =some (.row 2 [[.sl 2 (s.l.map Cfg.enc) s.x,.map m]])
 map:S[m]? =some (.map kt ps)
 len:ps.length=s.legs.length
 leg:∀(i:Nat) (id:Lid) (x:Leg),s.legs[i]? =some (id,x)→∃p,ps[i]? =some (.agg id.enc,.loc p 0 0)∧LegAt S lab o i p x
theorem LegAt.keep {S T:List Ob} {lab lab':Lab} {o i p:Nat} {x:Leg} (h:LegAt S lab o i p x) (g:KeepO o S lab T lab'):LegAt T lab' o i p x:=by
 obtain⟨h1,d,h2,h3⟩:=h
 obtain⟨g1,g2⟩:=g p _ _ h2 h1
 refine⟨g2,d,g1,h3.keep fun y ob tl hy hl=>?_⟩
 rcases hl with hl | ⟨j,hl⟩
 ·obtain⟨g1,g2⟩:=g y _ _ hy hl
  exact⟨g1,by rw[g2,hl]⟩
 ·obtain⟨g1,g2⟩:=g y _ _ hy hl
  exact⟨g1,by rw[g2,hl]⟩
theorem StkAt.keep {S T:List Ob} {lab lab':Lab} {o:Nat} {kt:TypeId} {d:D} {s:Stk} {k m:Nat} {ps:List (D×D)} (h:StkAt S lab o kt d s k m ps) (g:KeepO o S lab T lab'):StkAt T lab' o kt d s k m ps where
 dat:=h.dat
 labk:=(g k _ _ h.row h.labk).2
 labm:=(g m _ _ h.map h.labm).2
 row:=(g k _ _ h.row h.labk).1
 map:=(g m _ _ h.map h.labm).1
 len:=h.len
 leg i id x hx:=by
  obtain⟨p,h1,h2⟩:=h.leg i id x hx
  exact⟨p,h1,h2.keep g⟩

/-! ### Keys -/
theorem key_eq (a b:Lid):keyBeq (.agg a.enc) (.agg b.enc)=decide (a=b):=by
 cases a;cases b
 simp only[keyBeq,Lid.enc,kBeqs,kBeq,decide_true,Bool.true_and,Bool.and_true,Lid.mk.injEq]
 rw[Bool.eq_iff_iff]
 simp
theorem look_go {S:List Ob} {lab:Lab} {o:Nat} {id:Lid}:∀(ps:List (D×D)) (legs:List (Lid×Leg)) (n:Nat),ps.length=legs.length→(∀(i:Nat) (id:Lid) (x:Leg),legs[i]? =some (id,x)→∃p,ps[i]? =some (.agg id.enc,.loc p 0 0)∧LegAt S lab o (i+n) p x)→
  (getL legs id=none∧lookM ps (.agg id.enc)=none)∨∃i x p,legs[i]? =some (id,x)∧(∀j y,j<i→legs[j]? =some y→y.1≠id)∧getL legs id=some x∧lookM ps (.agg id.enc)=some (.loc p 0 0)∧ps[i]? =some (.agg id.enc,.loc p 0 0)∧LegAt S lab o (i+n) p x
 | [],[],_,_,_=>.inl ⟨rfl,rfl⟩
 |q::ps,(id',x)::legs,n,hl,h=>by
  obtain⟨p,h1,h2⟩:=h 0 id' x rfl
  have hq:q=(.agg id'.enc,.loc p 0 0):=by simpa using h1
  subst hq
  by_cases e:id'=id
  ·subst e
   refine .inr ⟨0,x,p,rfl,fun j y hj=>by omega,?_,?_,rfl,h2⟩
   ·simp[getL]
   ·simp[lookM,key_eq]
  ·have hk:keyBeq (.agg id'.enc) (.agg id.enc)=false:=by rw[key_eq];exact decide_eq_false e
   rcases look_go ps legs (n+1) (by simpa using hl) (fun i id x hx=>by
    obtain⟨p,h1,h2⟩:=h (i+1) id x (by simpa using hx)
    exact⟨p,by simpa using h1,by rw[show i+(n+1)=i+1+n by omega];exact h2⟩) with ⟨g1,g2⟩ | ⟨i,y,p',g1,g0,g2,g3,g4,g5⟩
   ·refine .inl ⟨?_,?_⟩
    ·simpa [getL,e] using g1
    ·simpa [lookM,hk] using g2
   ·refine .inr ⟨i+1,y,p',by simpa using g1,fun j y hj hy=>?_,?_,?_,by simpa using g4,by rw[show i+1+n=i+(n+1) by omega];exact g5⟩
    ·cases j with
     |zero=>have:(id',x)=y:=by simpa using hy
            rw[←this];exact e
     |succ j=>exact g0 j y (by omega) (by simpa using hy)
    ·simpa [getL,e] using g2
    ·simpa [lookM,hk] using g3
theorem StkAt.look {S:List Ob} {lab:Lab} {o:Nat} {kt:TypeId} {d:D} {s:Stk} {k m:Nat} {ps:List (D×D)} (h:StkAt S lab o kt d s k m ps) (id:Lid):
  (s.get id=none∧lookM ps (.agg id.enc)=none)∨∃i x p,s.legs[i]? =some (id,x)∧(∀j y,j<i→s.legs[j]? =some y→y.1≠id)∧s.get id=some x∧lookM ps (.agg id.enc)=some (.loc p 0 0)∧ps[i]? =some (.agg id.enc,.loc p 0 0)∧LegAt S lab o i p x:=by
 have:=look_go (id:=id) ps s.legs 0 h.len (fun i id x hx=>h.leg i id x hx)
 exact this
end Go.Proofs.YtkemehicndccmaaGreatDoor.Dm
