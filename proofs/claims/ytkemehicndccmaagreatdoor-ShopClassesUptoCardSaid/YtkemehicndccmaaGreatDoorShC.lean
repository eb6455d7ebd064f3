/-
  Two inventories of a market, the program's and the reference's: after openings and sales they hold the same.
-/
import Derived.Test.YtkemehicndccmaaGreatDoorShB
import Derived.Test.YtkemehicndccmaaGreatDoorRoC
import Derived.Test.YtkemehicndccmaaGreatDoorPlT
import Derived.Test.YtkemehicndccmaaGreatDoorCoA
set_option linter.unusedSimpArgs false
set_option linter.unusedVariables false
namespace Go.Proofs.YtkemehicndccmaaGreatDoor.Dm
open Go Gw
set_option linter.unusedSimpArgs false
set_option linter.unusedSimpArgs false
structure OkL (s:Stk):Prop where
 ok:StkOk 9999 s
 lim:LimOk s
theorem okL_nil {l:List Cfg} {x:Bool} (h:CfgsOk l):OkL ⟨l,x,[]⟩:=⟨⟨h,List.nodup_nil,fun p hp=>by cases hp⟩,fun id y hy=>by cases hy⟩
theorem okL_open {s:Stk} (h:OkL s) (id:Lid) (e:ByteArray):OkL (s.open id e).2:=⟨open_ok h.ok (by omega) id e,(open_lim h.ok h.lim id e).1⟩
theorem okL_sell {s:Stk} (h:OkL s) (id:Lid) (cl:ByteArray) (w:Int):OkL (s.sell [id] cl w).2:=by
 by_cases e:(s.sell [id] cl w).1=0
 case neg=>rw[sell_err e];exact h
 obtain⟨e1,e2,e3⟩:=sell_inv e
 obtain⟨n1,-,n3,n4⟩:=named_inv e2
 have hw:w≤1998:=by
  obtain⟨x,q,hx,hq⟩:=n4 id (by simp)
  have h1:=e3 id (by simp) x hx
  have h2:=left_le h.ok id cl
  have h3:=named_closed e2 id (by simp) x hx
  unfold Stk.left at h2
  rw[hx]at h2
  simp only[h3,Bool.false_eq_true,if_false]at h2
  omega
 have hk:=sell_keeps h.ok [id] cl w (W:=1998) hw (by omega)
 have hlim:LimOk (s.sell [id] cl w).2:=by
  rw[e1]
  intro id' x' hx'
  have hx':getL (addIds cl w [id] s.legs) id'=some x':=hx'
  rw[getL_addIds cl w id' [id] s.legs n3]at hx'
  by_cases ee:id'∈[id]
  ·rw[if_pos ee]at hx'
   obtain⟨x0,h0,rfl⟩:=Option.map_eq_some_iff.1 hx'
   exact addL_lim (h.ok.get h0) (h.lim _ _ h0) (.inr (e3 id' ee x0 h0))
  ·rw[if_neg ee]at hx'
   exact h.lim _ _ hx'
 refine⟨⟨hk.cfgs,hk.ids,fun p hp=>?_⟩,hlim⟩
 have hg:=get_of_mem hk.ids hp
 have hlo:=hk.leg p hp
 have ht:=lim_tot hlo (hlim _ _ hg)
 exact { hlo with tot:=by omega }
theorem open_n (s:Stk) (id:Lid) (e:ByteArray):(s.open id e).2.legs.length≤s.legs.length+1:=by
 unfold Stk.open
 split
 ·exact Nat.le_succ _
 ·split
  ·exact Nat.le_succ _
  ·simp
theorem sell_n (s:Stk) (ids:List Lid) (cl:ByteArray) (w:Int):(s.sell ids cl w).2.legs.length=s.legs.length:=by
 unfold Stk.sell
 split
 ·rfl
 ·split
  ·rfl
  ·have:=congrArg List.length (addIds_ids cl w ids s.legs)
   simpa using this
structure Two (F:Nat→Ob→Prop) (T:List Ob) (k kr:Nat) (g:List Cfg) (mx:Nat) (s:Stk):Prop where
 ex:∃lab,SAt T lab 1 k s∧RAt T lab 2 kr s∧∀x o,F x o→T[x]? =some o∧lab x=[]
 ok:OkL s
 l:s.l=g
 m:s.legs.length≤mx
section
variable {n k kr mx : Nat} {F : Nat → Ob → Prop} {T : List Ob} {g : List Cfg} {s : Stk}
theorem Two.get (h:Two F T k kr g mx s) {x:Nat} {o:Ob} (hF:F x o):T[x]? =some o:=by
 obtain⟨lab,-,-,hf⟩:=h.ex
 exact (hf x o hF).1
theorem Two.weak {F':Nat→Ob→Prop} (h:Two F T k kr g mx s) (hF:∀x o,F' x o→F x o):Two F' T k kr g mx s:=by
 obtain⟨lab,h1,h2,h3⟩:=h.ex
 exact⟨⟨lab,h1,h2,fun x o hx=>h3 x o (hF x o hx)⟩,h.ok,h.l,h.m⟩
theorem Two.push (h:Two F T k kr g mx s) (ob:Ob):Two (fun x o=>F x o∨(x=T.length∧o=ob)) (T++[ob]) k kr g mx s:=by
 obtain⟨lab,h1,⟨hfr,rd,rows,h2⟩,h3⟩:=h.ex
 refine⟨⟨lab,h1.push _,⟨hfr.push _,rd,rows,h2.push _⟩,fun x o hx=>?_⟩,h.ok,h.l,h.m⟩
 rcases hx with hx | ⟨rfl,rfl⟩
 ·exact⟨get_old (h3 x o hx).1,(h3 x o hx).2⟩
 ·exact⟨get_end,hfr _ (Nat.le_refl _)⟩
theorem Two.mono {my:Nat} (h:Two F T k kr g mx s) (hm:mx≤my):Two F T k kr g my s:=⟨h.ex,h.ok,h.l,Nat.le_trans h.m hm⟩
theorem two_open (hn:400≤n) (h:Two F T k kr g mx s) (hg:g.length≤30) (hm:mx≤99) {id:Lid} (hid:id.Ok) (e:ByteArray):
  ∃(c:Int) (T1 T2:List Ob) (s':Stk),(∀st,callD E (dcall E n) st T 20 [.loc k 0 0,.agg id.enc,.str e]=some (.int .i64 c,T1))∧(∀st,callD E (dcall E n) st T1 22 [.loc kr 0 0,.agg id.enc,.str e]=some (.int .i64 c,T2))∧(∀x o,F x o→T1[x]? =some o)∧Two F T2 k kr g (mx+1) s':=by
 obtain⟨lab,h1,h2,h3⟩:=h.ex
 have hl:=h.l
 have hlm:=h.m
 obtain⟨T1,lab1,c1,s1,st1⟩:=SOpen_c (n:=n) (by omega) h1 (by rw[hl];omega) h.ok.ok.cfgs hid e
 obtain⟨_,T2,c2,rfl,lab2,s2,st2⟩:=gen_of (n:=n) (by omega) rfl (rsOpen_d (n:=n-1) (id:=id) (by omega) (h2.other st1 (by decide)) (by omega) (by rw[hl];omega) h.ok.ok.cfgs e)
 refine⟨_,T1,T2,(s.open id e).2,c1,c2,fun x o hx=>(st1.free (h3 x o hx).1 (h3 x o hx).2).1,⟨lab2,s1.other st2 (by decide),s2,fun x o hx=>?_⟩,okL_open h.ok id e,by rw[(open_l s id e).1,hl],Nat.le_trans (open_n s id e) (by omega)⟩
 have a1:=st1.free (h3 x o hx).1 (h3 x o hx).2
 exact st2.free a1.1 a1.2
theorem two_sell (hn:400≤n) (h:Two F T k kr g mx s) (hg:g.length≤30) (hm:mx≤100) {id:Lid} (hid:id.Ok) (cl:ByteArray) (w:Int):
  ∃(c:Int) (T1 T2:List Ob) (s':Stk),(∀st,callD E (dcall E n) st T 23 [.loc k 0 0,.sl 4 [id.enc] true,.str cl,.int .i64 w]=some (.int .i64 c,T1))∧(∀st,callD E (dcall E n) st T1 24 [.loc kr 0 0,.sl 4 [id.enc] true,.str cl,.int .i64 w]=some (.int .i64 c,T2))∧(∀x o,F x o→T1[x]? =some o)∧Two F T2 k kr g mx s':=by
 obtain⟨lab,h1,h2,h3⟩:=h.ex
 have hl:=h.l
 have hlm:=h.m
 obtain⟨T1,lab1,c1,s1,st1⟩:=Sell_c (n:=n) (ids:=[id]) (by omega) h1 h.ok.ok (by simp) (by simpa using hid) (di:=.sl 4 [id.enc] true) (.inr ⟨true,rfl⟩) cl w
 obtain⟨_,T2,c2,rfl,lab2,s2,st2⟩:=gen_of (n:=n) (by omega) rfl (rSell_d (n:=n-1) (ids:=[id]) (by omega) (h2.other st1 (by decide)) h.ok.ok (by omega) (by rw[hl];omega) (by simp) (di:=.sl 4 [id.enc] true) (.inr ⟨true,rfl⟩) cl w)
 refine⟨_,T1,T2,(s.sell [id] cl w).2,c1,c2,fun x o hx=>(st1.free (h3 x o hx).1 (h3 x o hx).2).1,⟨lab2,s1.other st2 (by decide),s2,fun x o hx=>?_⟩,okL_sell h.ok id cl w,by rw[(sell_l s [id] cl w).1,hl],by rw[sell_n];exact hlm⟩
 have a1:=st1.free (h3 x o hx).1 (h3 x o hx).2
 exact st2.free a1.1 a1.2
set_option maxHeartbeats 64000000 in
set_option maxRecDepth 100000 in
theorem stocks30_d (hn:3000000≤n) {m:Mkt} (hm:MktB m) (hf:MktF m) (x:Int) {S:List Ob}:
  WO (dcall E (n+1) 6 [.agg m.enc,.int .i64 x] S) fun r T=>∃(k kr:Nat) (s:Stk),r=.tup [.loc k 0 0,.loc kr 0 0,.bool true]∧Two (fun x o=>S[x]? =some o) T k kr m.g 96 s:=by
 obtain⟨rl,l,hrl,hll,hly,cl⟩:=legs30_c (n:=n) (by omega) hm hf x
 have hsl:=hf.s
 have hgl:=hf.g
 have hgood:=good_of (n:=n-1) (by omega) hf.cfg (fun c h=>(hm.cfg c h).z (by omega))
 have hsm:∀c∈m.g,Sm c:=fun c hc=>((cfgs_ok hf.cfg).cfg c hc).sm
 have hcz:∀c∈m.g,CfgZ (n-3) c:=fun c h=>(hm.cfg c h).z (by omega)
 have cid:=fun (y:Dtd) st S=>id30_c (n:=n) (by omega) y st S
 simp only[Mkt.enc]at cl ⊢
 obtain⟨rw0,hrw⟩:∃rw0,rw0=Ob.row 12 [[.sl 5 (m.p.aps.map Apt.enc) m.p.apsx,.sl 3 (m.p.dts.map Dst.enc) m.p.dtsx,.sl 6 (m.l.map Flt.enc) m.lx,.sl 9 (m.w.map Shr.enc) m.wx,.sl 4 (m.c.map Cnn.enc) m.cx,.sl 2 (m.g.map Cfg.enc) m.gx,.int .i64 m.days,.sl 3 (m.s.map Sal.enc) m.sx,.sl 9 (m.t.fares.map Far.enc) m.t.fx,.sl 15 (m.t.rules.map Rul.enc) m.t.rx,.sl 3 (m.t.rous.map Rou.enc) m.t.ox,.sl 7 (m.t.taxes.map Tx.enc) m.t.tx]]:=⟨_,rfl⟩
 obtain⟨S1,hS1⟩:∃S1,S1=S++[rw0]:=⟨_,rfl⟩
 obtain⟨F,hF⟩:∃F:Nat→Ob→Prop,F=fun x o=>S1[x]? =some o:=⟨_,rfl⟩
 have hFS:∀x o,S[x]? =some o→F x o:=fun x o h=>by rw[hF,hS1];exact get_old h
 have hFw:F S.length rw0:=by rw[hF,hS1];exact get_end
 obtain⟨T1,lab1,p,cn,s1,st1⟩:=New_c (S:=S1) (lab:=fun _=>[]) (o:=1) (n:=n) (lx:=m.gx) (by omega) hgood (fun _ _=>rfl)
 obtain⟨T2,lab2,r,cm,r2,st2⟩:=rNew_c (n:=n) (o:=2) (lx:=m.gx) (by omega) (by omega) hsm hcz hf.cfg s1.1
 have hT1:T1[S.length]? =some rw0:=(st1.free (by rw[hS1];exact get_end) rfl).1
 have h0:Two F T2 p r m.g 0 ⟨m.g,m.gx,[]⟩:=⟨⟨lab2,s1.other st2 (by decide),r2,fun x o hx=>by
  rw[hF]at hx
  have a1:=st1.free hx rfl
  exact st2.free a1.1 a1.2⟩,okL_nil (cfgs_ok hf.cfg),rfl,Nat.le_refl _⟩
 clear s1 r2 st1 st2
 refine wo_dcall Tryz.func6 rfl (by decide) rfl 125 rfl (fun a hal ha=>?_)
 have h0:a[0]? =some (.agg [.sl 5 (m.p.aps.map Apt.enc) m.p.apsx,.sl 3 (m.p.dts.map Dst.enc) m.p.dtsx,.sl 6 (m.l.map Flt.enc) m.lx,.sl 9 (m.w.map Shr.enc) m.wx,.sl 4 (m.c.map Cnn.enc) m.cx,.sl 2 (m.g.map Cfg.enc) m.gx,.int .i64 m.days,.sl 3 (m.s.map Sal.enc) m.sx,.sl 9 (m.t.fares.map Far.enc) m.t.fx,.sl 15 (m.t.rules.map Rul.enc) m.t.rx,.sl 3 (m.t.rous.map Rou.enc) m.t.ox,.sl 7 (m.t.taxes.map Tx.enc) m.t.tx]):=ha 0 (by simp)
 have h1:a[1]? =some (.int .i64 x):=ha 1 (by simp)
 clear ha
 refine wc_scut (fun a V=>V=S1∧a.length=125∧a[1]? =some (.int .i64 x)∧a[2]? =some (.loc S.length 0 0)) ?_ ?_
 ·rw[hS1,hrw]
  simp(maxSteps:=1000000)(disch:=omega)only[push_cast,hal,h0,h1,↓WX,simprocAttr]
 clear hal h0 h1 a
 rintro a V ⟨rfl,hal,h1,h2⟩
 refine wc_scut (fun a W=>W=T1∧a.length=125∧a[1]? =some (.int .i64 x)∧a[2]? =some (.loc S.length 0 0)∧a[7]? =some (.loc p 0 0)∧a[8]? =some (.nils)) ?_ ?_
 ·have v:=(show V[S.length]? =some rw0 by rw[hS1];exact get_end)
  rw[hrw]at v
  simp(maxSteps:=1000000)(disch:=omega)only[push_cast,hal,h1,h2,v,cn,↓WX,simprocAttr]
 clear hal h1 h2 a
 rintro a W ⟨rfl,hal,h1,h2,h7,h8⟩
 refine wc_scut (fun a V=>V=T2∧a.length=125∧a[1]? =some (.int .i64 x)∧a[2]? =some (.loc S.length 0 0)∧a[7]? =some (.loc p 0 0)∧a[8]? =some (.nils)∧a[9]? =some (.loc r 0 0)) ?_ ?_
 ·rw[hrw]at hT1
  simp(maxSteps:=1000000)(disch:=omega)only[push_cast,hal,h1,h2,h7,h8,hT1,cm,↓WX,simprocAttr]
 clear hal h1 h2 h7 h8 a
 rintro a V2 ⟨rfl,hal,h1,h2,h7,h8,h9⟩
 refine wc_scut (fun a V=>V=V2∧a.length=125∧a[1]? =some (.int .i64 x)∧a[2]? =some (.loc S.length 0 0)∧a[7]? =some (.loc p 0 0)∧a[9]? =some (.loc r 0 0)) ?_ ?_
 ·have eqr:dEq Tryz.prog 10000 43 (.loc r 0 0) .nilp=some false:=eqp_loc Tryz.underlying43
  simp(maxSteps:=1000000)(disch:=omega)only[push_cast,gt_iff_lt,hal,h1,h2,h7,h8,h9,eqp_stk,eqr,Int.lt_irrefl,decide_false,↓WX,simprocAttr]
 clear hal h1 h2 h7 h8 h9 a
 rintro a V ⟨rfl,hal,h1,h2,h7,h9⟩
 have hV:=h0.get hFw
 refine wc_scut (fun a V'=>V'=V∧a.length=125∧a[2]? =some (.loc S.length 0 0)∧a[7]? =some (.loc p 0 0)∧a[9]? =some (.loc r 0 0)∧a[11]? =some (rl)) ?_ ?_
 ·rw[hrw]at hV
  simp(maxSteps:=1000000)(disch:=omega)only[push_cast,hal,h1,h2,h7,h9,hV,cl,↓WX,simprocAttr]
 clear hal h1 h2 h7 h9 a
 rintro a V' ⟨rfl,hal,h2,h7,h9,h11⟩
 have hok:∀y∈l,y.id.Ok:=fun y hy=>by
  have hb:=hly y hy
  have h1:=hb.car
  have h2:=hb.frm
  have h3:=hb.num
  have h4:=hb.day
  exact⟨Nat.le_trans h1 (by decide),h3,h4,Nat.le_trans h2 (by decide),trivial⟩
 refine wc_scut (fun a V''=>(∃s,Two F V'' p r m.g 96 s)∧a.length=125∧a[2]? =some (.loc S.length 0 0)∧a[7]? =some (.loc p 0 0)∧a[9]? =some (.loc r 0 0)∧a[11]? =some (rl)) ?_ ?_
 ·rcases hrl with ⟨rfl,rfl⟩ | ⟨y,rfl⟩
  ·simp(maxSteps:=1000000)(disch:=omega)only[push_cast,↓WX,simprocAttr]
   refine wl_loop (fun i a T=>(i=0∧T=V')∧a.length=125∧a[2]? =some (.loc S.length 0 0)∧a[7]? =some (.loc p 0 0)∧a[9]? =some (.loc r 0 0)∧a[11]? =some (.nils)∧a[12]? =some (.int .i64 0)) 0 ?_ (by omega) ?_
   ·simp(maxSteps:=1000000)(disch:=omega)only[push_cast,hal,h2,h7,h9,h11,simprocAttr]
   clear hal h2 h7 h9 h11 a
   rintro i a T hi ⟨⟨rfl,rfl⟩,hal,h2,h7,h9,h11,h12⟩
   simp(maxSteps:=1000000)(disch:=omega)only[push_cast,hal,h2,h7,h9,h11,h12,Int.lt_irrefl,↓WX,simprocAttr]
   exact⟨_,h0.mono (by omega)⟩
  ·simp(maxSteps:=1000000)(disch:=omega)only[push_cast,↓WX,simprocAttr]
   refine wl_loop (fun i a T=>(∃s,Two F T p r m.g i s)∧a.length=125∧a[2]? =some (.loc S.length 0 0)∧a[7]? =some (.loc p 0 0)∧a[9]? =some (.loc r 0 0)∧a[11]? =some (.sl 8 (l.map Dtd.enc) y)∧a[12]? =some (.int .i64 i)) l.length ?_ (by omega) ?_
   ·simp(maxSteps:=1000000)(disch:=omega)only[push_cast,hal,h2,h7,h9,h11,Int.natCast_zero,simprocAttr]
    exact⟨_,h0⟩
   clear hal h2 h7 h9 h11 a
   rintro i a T hi ⟨⟨s,hs⟩,hal,h2,h7,h9,h11,h12⟩
   rcases Nat.lt_or_eq_of_le hi with hlt |rfl
   case inr=>
    simp(maxSteps:=1000000)(disch:=omega)only[push_cast,hal,h2,h7,h9,h11,h12,Int.lt_irrefl,↓WX,simprocAttr]
    exact⟨_,hs.mono (by omega)⟩
   obtain⟨z,hz⟩:∃z,l[i]? =some z:=⟨l[i],by simp⟩
   have hltc:(i:Int)<l.length:=by omega
   obtain⟨c,U1,U2,s',ca,cb,-,h2'⟩:=two_open (n:=n) (by omega) hs (by omega) (by omega) (hok z (List.mem_of_getElem? hz)) z.eqp
   have ci:=cid z
   simp only[Dtd.enc,Dtd.id,Lid.enc]at ci ca cb
   refine wc_scut (fun a V=>V=T∧a.length=125∧a[2]? =some (.loc S.length 0 0)∧a[7]? =some (.loc p 0 0)∧a[9]? =some (.loc r 0 0)∧a[11]? =some (.sl 8 (l.map Dtd.enc) y)∧a[12]? =some (.int .i64 i)) ?_ ?_
   ·simp(maxSteps:=1000000)(disch:=omega)only[push_cast,hal,h2,h7,h9,h11,h12,hltc,↓WX,simprocAttr]
   clear hal h2 h7 h9 h11 h12 a
   rintro a V ⟨rfl,hal,h2,h7,h9,h11,h12⟩
   rw[wc_seq,wc_block]
   refine wc_scut (fun a W=>W=U2∧a.length=125∧a[2]? =some (.loc S.length 0 0)∧a[7]? =some (.loc p 0 0)∧a[9]? =some (.loc r 0 0)∧a[11]? =some (.sl 8 (l.map Dtd.enc) y)∧a[12]? =some (.int .i64 i)∧a[74]? =some (.bool false)) ?_ ?_
   ·rw[wc_plan (p:=(steps [0,1,2,3,4,5,6,7,8,9,10,12,13,14,18,19] (.both (steps [11,15,16,17,20,21,22] .done) (.both (steps [15] (.both (steps [11,16,17,20,21,22] .done) (.both (steps [16] (.both (steps [11,17,20,21,22] .done) (steps [20,21] (.both (steps [11,17,22] .done) (steps [22,11,17] .done))))) (steps [20,21] (.both (steps [11,16,17,22] .done) (.both (steps [16] (.both (steps [11,17,22] .done) (steps [22,11,17] .done))) (steps [22] (.both (steps [11,16,17] .done) (steps [16,11,17] .done))))))))) (steps [20,21] (.both (steps [11,15,16,17,22] .done) (.both (steps [15] (.both (steps [11,16,17,22] .done) (.both (steps [16] (.both (steps [11,17,22] .done) (steps [22,11,17] .done))) (steps [22] (.both (steps [11,16,17] .done) (steps [16,11,17] .done)))))) (steps [22] (.both (steps [11,15,16,17] .done) (steps [15] (.both (steps [11,16,17] .done) (steps [16,11,17] .done))))))))))).andThen (steps [23,24] .done)) rfl]
    apply wp_then
    rw[wp_pick rfl]
    simp only[opsOf,List.filterMap_cons,List.filterMap_nil,List.getElem?_toArray,List.getElem?_cons_zero,List.getElem?_cons_succ]
    simp(maxSteps:=1000000)(disch:=omega)only[push_cast,hal,h7,h9,h11,h12,hz,ci,Dtd.enc,↓WX,simprocAttr]
    apply wp_both
    ·rw[wp_pick rfl]
     simp only[opsOf,List.filterMap_cons,List.filterMap_nil,List.getElem?_toArray,List.getElem?_cons_zero,List.getElem?_cons_succ]
     simp(maxSteps:=1000000)(disch:=omega)only[push_cast,hal,hz,ci,ca,Dtd.enc,wp_done,↓set_sorti,id_eq,↓WX,simprocAttr]
     exact⟨rfl,rfl⟩
    ·apply wp_both
     ·rw[wp_pick rfl]
      simp only[opsOf,List.filterMap_cons,List.filterMap_nil,List.getElem?_toArray,List.getElem?_cons_zero,List.getElem?_cons_succ]
      simp(maxSteps:=1000000)(disch:=omega)only[push_cast,hal,hz,Dtd.enc,↓set_sorti,id_eq,↓WX,simprocAttr]
      apply wp_both
      ·rw[wp_pick rfl]
       simp only[opsOf,List.filterMap_cons,List.filterMap_nil,List.getElem?_toArray,List.getElem?_cons_zero,List.getElem?_cons_succ]
       simp(maxSteps:=1000000)(disch:=omega)only[push_cast,hal,hz,ci,ca,Dtd.enc,wp_done,↓set_sorti,id_eq,↓WX,simprocAttr]
       exact⟨rfl,rfl⟩
      ·apply wp_both
       ·rw[wp_pick rfl]
        simp only[opsOf,List.filterMap_cons,List.filterMap_nil,List.getElem?_toArray,List.getElem?_cons_zero,List.getElem?_cons_succ]
        simp(maxSteps:=1000000)(disch:=omega)only[push_cast,hal,↓set_sorti,id_eq,↓WX,simprocAttr]
        apply wp_both
        ·rw[wp_pick rfl]
         simp only[opsOf,List.filterMap_cons,List.filterMap_nil,List.getElem?_toArray,List.getElem?_cons_zero,List.getElem?_cons_succ]
         simp(maxSteps:=1000000)(disch:=omega)only[push_cast,hal,hz,ci,ca,Dtd.enc,wp_done,↓set_sorti,id_eq,↓WX,simprocAttr]
         exact⟨rfl,rfl⟩
        ·rw[wp_pick rfl]
         simp only[opsOf,List.filterMap_cons,List.filterMap_nil,List.getElem?_toArray,List.getElem?_cons_zero,List.getElem?_cons_succ]
         simp(maxSteps:=1000000)(disch:=omega)only[push_cast,hal,hz,Dtd.enc,↓WX,simprocAttr]
         apply wp_both
         ·rw[wp_pick rfl]
          simp only[opsOf,List.filterMap_cons,List.filterMap_nil,List.getElem?_toArray,List.getElem?_cons_zero,List.getElem?_cons_succ]
          simp(maxSteps:=1000000)(disch:=omega)only[push_cast,hal,ci,ca,wp_done,↓set_sorti,id_eq,↓WX,simprocAttr]
          exact⟨rfl,rfl⟩
         ·rw[wp_pick rfl]
          simp only[opsOf,List.filterMap_cons,List.filterMap_nil,List.getElem?_toArray,List.getElem?_cons_zero,List.getElem?_cons_succ]
          simp(maxSteps:=1000000)(disch:=omega)only[push_cast,hal,ci,ca,wp_done,↓set_sorti,id_eq,↓WX,simprocAttr]
         ·exact⟨rfl,rfl⟩
        ·exact⟨rfl,rfl⟩
       ·rw[wp_pick rfl]
        simp only[opsOf,List.filterMap_cons,List.filterMap_nil,List.getElem?_toArray,List.getElem?_cons_zero,List.getElem?_cons_succ]
        simp(maxSteps:=1000000)(disch:=omega)only[push_cast,hal,hz,Dtd.enc,↓WX,simprocAttr]
        apply wp_both
        ·rw[wp_pick rfl]
         simp only[opsOf,List.filterMap_cons,List.filterMap_nil,List.getElem?_toArray,List.getElem?_cons_zero,List.getElem?_cons_succ]
         simp(maxSteps:=1000000)(disch:=omega)only[push_cast,hal,ci,ca,wp_done,↓set_sorti,id_eq,↓WX,simprocAttr]
         exact⟨rfl,rfl⟩
        ·apply wp_both
         ·rw[wp_pick rfl]
          simp only[opsOf,List.filterMap_cons,List.filterMap_nil,List.getElem?_toArray,List.getElem?_cons_zero,List.getElem?_cons_succ]
          simp(maxSteps:=1000000)(disch:=omega)only[push_cast,hal,↓set_sorti,id_eq,↓WX,simprocAttr]
          apply wp_both
          ·rw[wp_pick rfl]
           simp only[opsOf,List.filterMap_cons,List.filterMap_nil,List.getElem?_toArray,List.getElem?_cons_zero,List.getElem?_cons_succ]
           simp(maxSteps:=1000000)(disch:=omega)only[push_cast,hal,ci,ca,wp_done,↓set_sorti,id_eq,↓WX,simprocAttr]
           exact⟨rfl,rfl⟩
          ·rw[wp_pick rfl]
           simp only[opsOf,List.filterMap_cons,List.filterMap_nil,List.getElem?_toArray,List.getElem?_cons_zero,List.getElem?_cons_succ]
           simp(maxSteps:=1000000)(disch:=omega)only[push_cast,hal,ci,ca,wp_done,↓set_sorti,id_eq,↓WX,simprocAttr]
          ·exact⟨rfl,rfl⟩
         ·rw[wp_pick rfl]
          simp only[opsOf,List.filterMap_cons,List.filterMap_nil,List.getElem?_toArray,List.getElem?_cons_zero,List.getElem?_cons_succ]
          simp(maxSteps:=1000000)(disch:=omega)only[push_cast,hal,↓WX,simprocAttr]
          apply wp_both
          ·rw[wp_pick rfl]
           simp only[opsOf,List.filterMap_cons,List.filterMap_nil,List.getElem?_toArray,List.getElem?_cons_zero,List.getElem?_cons_succ]
           simp(maxSteps:=1000000)(disch:=omega)only[push_cast,hal,ci,ca,wp_done,↓set_sorti,id_eq,↓WX,simprocAttr]
           exact⟨rfl,rfl⟩
          ·rw[wp_pick rfl]
           simp only[opsOf,List.filterMap_cons,List.filterMap_nil,List.getElem?_toArray,List.getElem?_cons_zero,List.getElem?_cons_succ]
           simp(maxSteps:=1000000)(disch:=omega)only[push_cast,hal,ci,ca,wp_done,↓set_sorti,id_eq,↓WX,simprocAttr]
          ·exact⟨rfl,rfl⟩
         ·exact⟨rfl,rfl⟩
        ·exact⟨rfl,rfl⟩
       ·exact⟨rfl,rfl⟩
      ·exact⟨rfl,rfl⟩
     ·rw[wp_pick rfl]
      simp only[opsOf,List.filterMap_cons,List.filterMap_nil,List.getElem?_toArray,List.getElem?_cons_zero,List.getElem?_cons_succ]
      simp(maxSteps:=1000000)(disch:=omega)only[push_cast,hal,hz,Dtd.enc,↓WX,simprocAttr]
      apply wp_both
      ·rw[wp_pick rfl]
       simp only[opsOf,List.filterMap_cons,List.filterMap_nil,List.getElem?_toArray,List.getElem?_cons_zero,List.getElem?_cons_succ]
       simp(maxSteps:=1000000)(disch:=omega)only[push_cast,hal,hz,ci,ca,Dtd.enc,wp_done,↓set_sorti,id_eq,↓WX,simprocAttr]
       exact⟨rfl,rfl⟩
      ·apply wp_both
       ·rw[wp_pick rfl]
        simp only[opsOf,List.filterMap_cons,List.filterMap_nil,List.getElem?_toArray,List.getElem?_cons_zero,List.getElem?_cons_succ]
        simp(maxSteps:=1000000)(disch:=omega)only[push_cast,hal,hz,Dtd.enc,↓set_sorti,id_eq,↓WX,simprocAttr]
        apply wp_both
        ·rw[wp_pick rfl]
         simp only[opsOf,List.filterMap_cons,List.filterMap_nil,List.getElem?_toArray,List.getElem?_cons_zero,List.getElem?_cons_succ]
         simp(maxSteps:=1000000)(disch:=omega)only[push_cast,hal,ci,ca,wp_done,↓set_sorti,id_eq,↓WX,simprocAttr]
         exact⟨rfl,rfl⟩
        ·apply wp_both
         ·rw[wp_pick rfl]
          simp only[opsOf,List.filterMap_cons,List.filterMap_nil,List.getElem?_toArray,List.getElem?_cons_zero,List.getElem?_cons_succ]
          simp(maxSteps:=1000000)(disch:=omega)only[push_cast,hal,↓set_sorti,id_eq,↓WX,simprocAttr]
          apply wp_both
          ·rw[wp_pick rfl]
           simp only[opsOf,List.filterMap_cons,List.filterMap_nil,List.getElem?_toArray,List.getElem?_cons_zero,List.getElem?_cons_succ]
           simp(maxSteps:=1000000)(disch:=omega)only[push_cast,hal,ci,ca,wp_done,↓set_sorti,id_eq,↓WX,simprocAttr]
           exact⟨rfl,rfl⟩
          ·rw[wp_pick rfl]
           simp only[opsOf,List.filterMap_cons,List.filterMap_nil,List.getElem?_toArray,List.getElem?_cons_zero,List.getElem?_cons_succ]
           simp(maxSteps:=1000000)(disch:=omega)only[push_cast,hal,ci,ca,wp_done,↓set_sorti,id_eq,↓WX,simprocAttr]
          ·exact⟨rfl,rfl⟩
         ·rw[wp_pick rfl]
          simp only[opsOf,List.filterMap_cons,List.filterMap_nil,List.getElem?_toArray,List.getElem?_cons_zero,List.getElem?_cons_succ]
          simp(maxSteps:=1000000)(disch:=omega)only[push_cast,hal,↓WX,simprocAttr]
          apply wp_both
          ·rw[wp_pick rfl]
           simp only[opsOf,List.filterMap_cons,List.filterMap_nil,List.getElem?_toArray,List.getElem?_cons_zero,List.getElem?_cons_succ]
           simp(maxSteps:=1000000)(disch:=omega)only[push_cast,hal,ci,ca,wp_done,↓set_sorti,id_eq,↓WX,simprocAttr]
           exact⟨rfl,rfl⟩
          ·rw[wp_pick rfl]
           simp only[opsOf,List.filterMap_cons,List.filterMap_nil,List.getElem?_toArray,List.getElem?_cons_zero,List.getElem?_cons_succ]
           simp(maxSteps:=1000000)(disch:=omega)only[push_cast,hal,ci,ca,wp_done,↓set_sorti,id_eq,↓WX,simprocAttr]
          ·exact⟨rfl,rfl⟩
         ·exact⟨rfl,rfl⟩
        ·exact⟨rfl,rfl⟩
       ·rw[wp_pick rfl]
        simp only[opsOf,List.filterMap_cons,List.filterMap_nil,List.getElem?_toArray,List.getElem?_cons_zero,List.getElem?_cons_succ]
        simp(maxSteps:=1000000)(disch:=omega)only[push_cast,hal,↓WX,simprocAttr]
        apply wp_both
        ·rw[wp_pick rfl]
         simp only[opsOf,List.filterMap_cons,List.filterMap_nil,List.getElem?_toArray,List.getElem?_cons_zero,List.getElem?_cons_succ]
         simp(maxSteps:=1000000)(disch:=omega)only[push_cast,hal,hz,ci,ca,Dtd.enc,wp_done,↓set_sorti,id_eq,↓WX,simprocAttr]
         exact⟨rfl,rfl⟩
        ·rw[wp_pick rfl]
         simp only[opsOf,List.filterMap_cons,List.filterMap_nil,List.getElem?_toArray,List.getElem?_cons_zero,List.getElem?_cons_succ]
         simp(maxSteps:=1000000)(disch:=omega)only[push_cast,hal,hz,Dtd.enc,↓set_sorti,id_eq,↓WX,simprocAttr]
         apply wp_both
         ·rw[wp_pick rfl]
          simp only[opsOf,List.filterMap_cons,List.filterMap_nil,List.getElem?_toArray,List.getElem?_cons_zero,List.getElem?_cons_succ]
          simp(maxSteps:=1000000)(disch:=omega)only[push_cast,hal,ci,ca,wp_done,↓set_sorti,id_eq,↓WX,simprocAttr]
          exact⟨rfl,rfl⟩
         ·rw[wp_pick rfl]
          simp only[opsOf,List.filterMap_cons,List.filterMap_nil,List.getElem?_toArray,List.getElem?_cons_zero,List.getElem?_cons_succ]
          simp(maxSteps:=1000000)(disch:=omega)only[push_cast,hal,ci,ca,wp_done,↓set_sorti,id_eq,↓WX,simprocAttr]
         ·exact⟨rfl,rfl⟩
        ·exact⟨rfl,rfl⟩
       ·exact⟨rfl,rfl⟩
      ·exact⟨rfl,rfl⟩
     ·exact⟨rfl,rfl⟩
    rw[wp_pick rfl]
    simp only[opsOf,List.filterMap_cons,List.filterMap_nil,List.getElem?_toArray,List.getElem?_cons_zero,List.getElem?_cons_succ]
    simp(maxSteps:=1000000)(disch:=omega)only[push_cast,not_true_eq_false,hal,h2,h7,h9,h11,h12,cb,wp_done,↓WX,simprocAttr]
   clear hal h2 h7 h9 h11 h12 a
   rintro a W ⟨rfl,hal,h2,h7,h9,h11,h12,h74⟩
   simp(maxSteps:=1000000)(disch:=omega)only[push_cast,hal,h2,h7,h9,h11,h12,h74,hlt,wrap_ok,Int.natCast_add,Int.natCast_one,↓WX,simprocAttr]
   exact⟨_,h2'⟩
 clear hal h2 h7 h9 h11 a
 clear h0 hV
 rintro a V'' ⟨⟨s,h0⟩,hal,h2,h7,h9,h11⟩
 simp(maxSteps:=1000000)(disch:=omega)only[push_cast,↓WX,simprocAttr]
 refine wl_loop (fun i a T=>(∃s,Two F T p r m.g 96 s)∧a.length=125∧a[2]? =some (.loc S.length 0 0)∧a[7]? =some (.loc p 0 0)∧a[9]? =some (.loc r 0 0)∧a[11]? =some (rl)∧a[13]? =some (.int .i64 i)) m.s.length ?_ (by omega) ?_
 ·simp(maxSteps:=1000000)(disch:=omega)only[push_cast,hal,h2,h7,h9,h11,Int.natCast_zero,simprocAttr]
  exact⟨_,h0⟩
 clear hal h2 h7 h9 h11 a
 clear h0
 rintro i a T hi ⟨⟨s,hs⟩,hal,h2,h7,h9,h11,h13⟩
 have hV:=hs.get hFw
 rw[hrw]at hV
 rcases Nat.lt_or_eq_of_le hi with hlt |rfl
 case inr=>
  simp(maxSteps:=1000000)(disch:=omega)only[push_cast,hal,h2,h7,h9,h13,hV,Int.lt_irrefl,Tryz.f6,↓WX,simprocAttr]
  exact⟨_,_,_,rfl,hs.weak hFS⟩
 obtain⟨z,hz⟩:∃z,m.s[i]? =some z:=⟨m.s[i],by simp⟩
 have hltc:(i:Int)<m.s.length:=by omega
 refine wc_scut (fun a V=>V=T∧a.length=125∧a[2]? =some (.loc S.length 0 0)∧a[7]? =some (.loc p 0 0)∧a[9]? =some (.loc r 0 0)∧a[11]? =some (rl)∧a[13]? =some (.int .i64 i)) ?_ ?_
 ·simp(maxSteps:=1000000)(disch:=omega)only[push_cast,hal,h2,h7,h9,h11,h13,hV,hltc,↓WX,simprocAttr]
 clear hal h2 h7 h9 h11 h13 a
 rintro a V ⟨rfl,hal,h2,h7,h9,h11,h13⟩
 rw[wc_seq,wc_block]
 obtain⟨T3,hT3⟩:∃T3,T3=V++[Ob.row 3 [[.int .i64 z.leg,.str z.cls,.int .i64 z.n]]]:=⟨_,rfl⟩
 have hs3:=hs.push (Ob.row 3 [[.int .i64 z.leg,.str z.cls,.int .i64 z.n]])
 rw[←hT3]at hs3
 refine wc_scut (fun a W=>W=T3∧a.length=125∧a[2]? =some (.loc S.length 0 0)∧a[7]? =some (.loc p 0 0)∧a[9]? =some (.loc r 0 0)∧a[11]? =some (rl)∧a[13]? =some (.int .i64 i)∧a[14]? =some (.loc V.length 0 0)) ?_ ?_
 ·simp(maxSteps:=1000000)(disch:=omega)only[push_cast,hal,h2,h7,h9,h11,h13,hV,hz,Sal.enc,set_end,get_end,↓WX,simprocAttr]
  exact hT3.symm
 clear hal h2 h7 h9 h11 h13 a
 rintro a W ⟨rfl,hal,h2,h7,h9,h11,h13,h14⟩
 have e3:=hs3.get (.inr ⟨rfl,rfl⟩)
 have hback:Two F W p r m.g 96 s:=hs3.weak (fun x o h=>.inl h)
 by_cases q1:z.leg<0
 ·simp(maxSteps:=1000000)(disch:=omega)only[push_cast,hal,h2,h7,h9,h11,h13,h14,e3,q1,hlt,wrap_ok,Int.natCast_add,Int.natCast_one,↓WX,simprocAttr]
  exact⟨_,hback⟩
 rcases hrl with ⟨rfl,rfl⟩ | ⟨y,rfl⟩
 ·have q2:(0:Int)≤z.leg:=by omega
  simp(maxSteps:=1000000)(disch:=omega)only[push_cast,hal,h2,h7,h9,h11,h13,h14,e3,q1,q2,hlt,wrap_ok,Int.natCast_add,Int.natCast_one,↓WX,simprocAttr]
  exact⟨_,hback⟩
 by_cases q2:(l.length:Int)≤z.leg
 ·simp(maxSteps:=1000000)(disch:=omega)only[push_cast,hal,h2,h7,h9,h11,h13,h14,e3,q1,q2,hlt,wrap_ok,Int.natCast_add,Int.natCast_one,↓WX,simprocAttr]
  exact⟨_,hback⟩
 obtain⟨j,hj⟩:=Int.eq_ofNat_of_zero_le (show 0≤z.leg by omega)
 have hjl:j<l.length:=by omega
 have hjn:(0:Int)≤j:=by omega
 obtain⟨u,hu⟩:∃u,l[j]? =some u:=⟨l[j],by simp⟩
 obtain⟨c,U1,U2,s',ca,cb,hF1,h2'⟩:=two_sell (n:=n) (by omega) hs3 (by omega) (by omega) (hok u (List.mem_of_getElem? hu)) z.cls z.n
 have e4:=hF1 _ _ (.inr ⟨rfl,rfl⟩)
 have ci:=cid u
 simp only[Dtd.enc,Dtd.id,Lid.enc]at ci ca cb
 refine wc_scut (fun a X=>X=W∧a.length=125∧a[2]? =some (.loc S.length 0 0)∧a[7]? =some (.loc p 0 0)∧a[9]? =some (.loc r 0 0)∧a[11]? =some (.sl 8 (l.map Dtd.enc) y)∧a[13]? =some (.int .i64 i)∧a[14]? =some (.loc V.length 0 0)) ?_ ?_
 ·simp(maxSteps:=1000000)(disch:=omega)only[push_cast,hal,h2,h7,h9,h11,h13,h14,e3,q1,q2,↓WX,simprocAttr]
 clear hal h2 h7 h9 h11 h13 h14 a
 rintro a X ⟨rfl,hal,h2,h7,h9,h11,h13,h14⟩
 refine wc_scut (fun a X'=>X'=X∧a.length=125∧a[2]? =some (.loc S.length 0 0)∧a[7]? =some (.loc p 0 0)∧a[9]? =some (.loc r 0 0)∧a[11]? =some (.sl 8 (l.map Dtd.enc) y)∧a[13]? =some (.int .i64 i)∧a[14]? =some (.loc V.length 0 0)∧a[15]? =some (.sl 4 [[.str u.car,.int .i64 u.num,.int .i64 u.day,.str u.frm]] true)) ?_ ?_
 ·simp(maxSteps:=1000000)(disch:=omega)only[push_cast,hal,h2,h7,h9,h11,h13,h14,e3,hj,hjn,hu,ci,Dtd.enc,↓WX,simprocAttr]
 clear hal h2 h7 h9 h11 h13 h14 a
 rintro a X' ⟨rfl,hal,h2,h7,h9,h11,h13,h14,h15⟩
 refine wc_scut (fun a Y=>Y=U2∧a.length=125∧a[2]? =some (.loc S.length 0 0)∧a[7]? =some (.loc p 0 0)∧a[9]? =some (.loc r 0 0)∧a[11]? =some (.sl 8 (l.map Dtd.enc) y)∧a[13]? =some (.int .i64 i)∧a[120]? =some (.bool false)) ?_ ?_
 ·rw[wc_plan (p:=(steps [0,1,2,3,4,5,7,8,9,11] (.both (steps [6,10,12] .done) (.both (steps [10] (.both (steps [6,12] .done) (steps [12,6] .done))) (steps [12] (.both (steps [6,10] .done) (steps [10,6] .done)))))).andThen (steps [13,14] .done)) rfl]
  apply wp_then
  rw[wp_pick rfl]
  simp only[opsOf,List.filterMap_cons,List.filterMap_nil,List.getElem?_toArray,List.getElem?_cons_zero,List.getElem?_cons_succ]
  simp(maxSteps:=1000000)(disch:=omega)only[push_cast,hal,h7,h9,h14,h15,e3,↓WX,simprocAttr]
  apply wp_both
  ·rw[wp_pick rfl]
   simp only[opsOf,List.filterMap_cons,List.filterMap_nil,List.getElem?_toArray,List.getElem?_cons_zero,List.getElem?_cons_succ]
   simp(maxSteps:=1000000)(disch:=omega)only[push_cast,hal,e4,ca,wp_done,↓set_sorti,id_eq,↓WX,simprocAttr]
   exact⟨rfl,rfl⟩
  ·apply wp_both
   ·rw[wp_pick rfl]
    simp only[opsOf,List.filterMap_cons,List.filterMap_nil,List.getElem?_toArray,List.getElem?_cons_zero,List.getElem?_cons_succ]
    simp(maxSteps:=1000000)(disch:=omega)only[push_cast,hal,e3,↓set_sorti,id_eq,↓WX,simprocAttr]
    apply wp_both
    ·rw[wp_pick rfl]
     simp only[opsOf,List.filterMap_cons,List.filterMap_nil,List.getElem?_toArray,List.getElem?_cons_zero,List.getElem?_cons_succ]
     simp(maxSteps:=1000000)(disch:=omega)only[push_cast,hal,e4,ca,wp_done,↓set_sorti,id_eq,↓WX,simprocAttr]
     exact⟨rfl,rfl⟩
    ·rw[wp_pick rfl]
     simp only[opsOf,List.filterMap_cons,List.filterMap_nil,List.getElem?_toArray,List.getElem?_cons_zero,List.getElem?_cons_succ]
     simp(maxSteps:=1000000)(disch:=omega)only[push_cast,hal,e3,ca,wp_done,↓set_sorti,id_eq,↓WX,simprocAttr]
    ·exact⟨rfl,rfl⟩
   ·rw[wp_pick rfl]
    simp only[opsOf,List.filterMap_cons,List.filterMap_nil,List.getElem?_toArray,List.getElem?_cons_zero,List.getElem?_cons_succ]
    simp(maxSteps:=1000000)(disch:=omega)only[push_cast,hal,e3,↓WX,simprocAttr]
    apply wp_both
    ·rw[wp_pick rfl]
     simp only[opsOf,List.filterMap_cons,List.filterMap_nil,List.getElem?_toArray,List.getElem?_cons_zero,List.getElem?_cons_succ]
     simp(maxSteps:=1000000)(disch:=omega)only[push_cast,hal,e4,ca,wp_done,↓set_sorti,id_eq,↓WX,simprocAttr]
     exact⟨rfl,rfl⟩
    ·rw[wp_pick rfl]
     simp only[opsOf,List.filterMap_cons,List.filterMap_nil,List.getElem?_toArray,List.getElem?_cons_zero,List.getElem?_cons_succ]
     simp(maxSteps:=1000000)(disch:=omega)only[push_cast,hal,e3,ca,wp_done,↓set_sorti,id_eq,↓WX,simprocAttr]
    ·exact⟨rfl,rfl⟩
   ·exact⟨rfl,rfl⟩
  rw[wp_pick rfl]
  simp only[opsOf,List.filterMap_cons,List.filterMap_nil,List.getElem?_toArray,List.getElem?_cons_zero,List.getElem?_cons_succ]
  simp(maxSteps:=1000000)(disch:=omega)only[push_cast,not_true_eq_false,hal,h2,h7,h9,h11,h13,cb,wp_done,↓WX,simprocAttr]
 clear hal h2 h7 h9 h11 h13 h14 h15 a
 rintro a Y ⟨rfl,hal,h2,h7,h9,h11,h13,h120⟩
 simp(maxSteps:=1000000)(disch:=omega)only[push_cast,hal,h2,h7,h9,h11,h13,h120,hlt,wrap_ok,Int.natCast_add,Int.natCast_one,↓WX,simprocAttr]
 exact⟨_,h2'.weak (fun x o h=>.inl h)⟩
end
end Go.Proofs.YtkemehicndccmaaGreatDoor.Dm
