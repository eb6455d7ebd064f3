/-
  Lists of plain data and how much they hold; what the frames of rows without listed variables import.
  Conditions and trips: the program's and the reference's are the same where places and tariffs are in order.
  The search for the cheapest price: its state, and whether a component is worth a try.
  A place that is laid ahead and not yet filled: a run does not see what lies there.
  The search for the cheapest price: the end of a way.
  The search for the cheapest price: all ways on from a segment.
  The machine at slices.SortFunc of components.
  Components sorted: by their fares, and by their amounts.
  The fares that apply to a component: the program.
  What the search is prepared with: the plain law. The fares in their order, the least amounts by any fuel.
  What the search is prepared with: the lists made.
  The cheapest price of a journey: the program.
-/
import Derived.Test.YtaklebjoenophaaGreatZg
import Derived.Test.YtaklebjoenophaaGreatRows
import Derived.ProofKit
import Derived.OpenShut
import Derived.ShutString
import Derived.Stop.Joined
import Derived.JoinedCond
import Derived.Test.YtaklebjoenophaaGreatRmD
import Derived.Test.YtaklebjoenophaaGreatPrX
import Derived.Test.YtaklebjoenophaaGreatEnvB
import Derived.Sort.AssemblyPlain
set_option linter.unusedSimpArgs false
set_option linter.unusedVariables false
namespace Go.Proofs.YtaklebjoenophaaGreat
open Go Go.ChangeShapes Go.WideShapes Go.ChangeAt Go.RowKit Dm
theorem own:ownKnob Tryz.prog.godebug=none:=by kernel_rfl
theorem list_relB {α:Type} {R:List D->α->Prop}:∀ {es:List (List D)},(∀(j:Nat) (c:List D),es[j]?=some c->∃r:α,R c r)->∃rs:List α,rs.length=es.length/\∀(j:Nat) (c:List D) (r:α),es[j]?=some c->rs[j]?=some r->R c r
 | [],_=>⟨[],rfl,λj c r h=>by simp at h⟩
 |e::es,h=>by
  obtain⟨r,hr⟩:=h 0 e rfl
  obtain⟨rs,h1,h2⟩:=list_relB (es:=es) λj c hc=>h (j+1) c (by simpa using hc)
  refine⟨r::rs,by simp[h1],λj c r' hc hr'=>?_⟩
  cases j with
  |zero=>
   have e1:e=c:=by simpa using hc
   have e2:r=r':=by simpa using hr'
   rw[<-e1,<-e2];exact hr
  |succ j=>exact h2 j c r' (by simpa using hc) (by simpa using hr')
theorem bulk_map {α:Type} {enc:α->List D}:∀ {es:List (List D)} {rs:List α},rs.length=es.length->(∀(j:Nat) (c:List D) (r:α),es[j]?=some c->rs[j]?=some r->Yn (enc r)<=Yn c)->Jj (rs.map enc)<=Jj es
 | [],[],_,_=>Uk _
 |e::es,r::rs,hl,h=>by
  have h0:=h 0 e r rfl rfl
  have:=bulk_map (es:=es) (rs:=rs) (by simpa using hl) (λj c r h1 h2=>h (j+1) c r (by simpa using h1) (by simpa using h2))
  simp only[Uy,Jj];omega
 | [],_::_,hl,_=>by simp at hl
 |_::_,[],hl,_=>by simp at hl
theorem Jh {α:Type} {enc:α->List D} {Q:α->Prop} {t e:TypeId} {n:Nat} (ht:Tryz.prog.underlying t=some (.slice e)) (hn:Tryz.prog.cellsOf e=n) (hof:∀c,TC Tryz.prog e c->∃r:α,CellR c (enc r)/\Q r/\Yn (enc r)<=Yn c) {d:D} (h:TC Tryz.prog t [d]):
  ∃(l:List α) (x:Bool),(∀r∈l,Q r)/\(∀W C u,VR W C d u->VR W C (.sl n (l.map enc) x) u)/\Jj (l.map enc)+1<=Zy d:=by
 rcases h.toSlice ht with h | ⟨es,x,h,hle,hes⟩
 ·have:d=.nils:=by simpa using h
  subst this
  exact⟨[],true,(λr h=>by cases h),λW C u hu=>nils_sl hu,Uk _⟩
 ·rw[hn]at h
  have:d=.sl n es x:=by simpa using h
  subst this
  obtain⟨l,hl,hr⟩:=list_relB (R:=λc r=>CellR c (enc r)/\Q r/\Yn (enc r)<=Yn c) λj c hc=>hof c (hes j c hc)
  refine⟨l,x,λr hm=>?_,λW C u hu=>VR.sl_rel hu (by rw[Uq];exact hl) λj e e' he he'=>?_,?_⟩
  ·obtain⟨j,hj⟩:=Vv.1 hm
   have hjl:j<es.length:=by rw[<-hl];exact (Kr.1 hj).1
   exact (hr j es[j] r (Uh hjl) hj).2.1
  ·rw[Vd]at he'
   obtain⟨r,hr',rfl⟩:=Ks.1 he'
   exact (hr j e r he hr').1
  ·have:=bulk_map (enc:=enc) hl (λj c r h1 h2=>(hr j c r h1 h2).2.2)
   simp only[Zy];omega
theorem bulk_mem {c:List D}:∀ {es:List (List D)},c∈es->Yn c<=Jj es
 | [],h=>by cases h
 |e::es,h=>by
  simp only[Jj]
  rcases List.mem_cons.1 h with rfl |h
  ·omega
  ·have:=bulk_mem h;omega
theorem bulk_len {m:Nat}:∀ {es:List (List D)},(∀c∈es,m<=Yn c)->m*es.length<=Jj es
 | [],_=>by simp[Jj]
 |e::es,h=>by
  have h0:=h e (by simp)
  have:=bulk_len (es:=es) (λc hc=>h c (by simp[hc]))
  simp only[Jj,Uu,Nat.mul_add];omega
theorem Zt:Tryz.prog.cellsOf 3=1:=by kernel_rfl
theorem Zu:Tryz.prog.cellsOf 9=1:=by kernel_rfl
end Go.Proofs.YtaklebjoenophaaGreat
namespace Go.Proofs.YtaklebjoenophaaGreat.Dm
open Go Gw
mutual
theorem hol_eq (t:Trp):∀c:Cnd,c.KG->hol t c=holP t c
 | .mk k l lx a b pf pt pd c cx,h=>by
  rw[Cnd.KG]at h
  obtain⟨⟨⟨k1,k2⟩,k3⟩,hl⟩:=h
  obtain⟨e1,e2⟩:=cnt_eq t l hl
  rw[hol,holP]
  by_cases c1:k=1
  ·rw[if_pos c1,if_pos c1]
  rw[if_neg c1,if_neg c1]
  by_cases c2:k=2
  ·rw[if_pos c2,if_pos c2]
   cases h:ayP t false l
   ·exact Ue (by rw[e1.1 h])
   ·exact Ud λhc=>by
     have:=e1.2 (by omega)
     rw[h]at this
     cases this
  rw[if_neg c2,if_neg c2]
  by_cases c3:k=3
  ·rw[if_pos c3,if_pos c3]
   cases h:ayP t true l
   ·exact Ud λhc=>by
     have:=e2.2 (by omega)
     rw[h]at this
     cases this
   ·exact Ue (by have:=e2.1 h;omega)
  rw[if_neg c3,if_neg c3]
  by_cases c4:k=4
  ·rw[if_pos c4,if_pos c4]
   have hl1:=k3 c4
   have hle:=cnt_le t l
   cases h:ayP t false l
   ·have:=e1.1 h
    exact Ud (by omega)
   ·exact Ue (by
     have:cnt t l≠l.length:=λhc=>by
      have:=e1.2 hc
      rw[h]at this
      cases this
     omega)
  rw[if_neg c4,if_neg c4]
  by_cases c5:k=5
  ·rw[if_pos c5,if_pos c5]
  rw[if_neg c5,if_neg c5]
  by_cases c6:k=6
  ·rw[if_pos c6,if_pos c6]
  rw[if_neg c6,if_neg c6]
  by_cases c7:k=7
  ·rw[if_pos c7,if_pos c7]
  rw[if_neg c7,if_neg c7]
  by_cases c8:k=8
  ·rw[if_pos c8,if_pos c8]
  rw[if_neg c8,if_neg c8]
  by_cases c9:k=9
  ·rw[if_pos c9,if_pos c9]
  rw[if_neg c9,if_neg c9]
  by_cases c10:k=10
  ·rw[if_pos c10,if_pos c10]
  rw[if_neg c10,if_neg c10]
  by_cases c11:k=11
  ·rw[if_pos c11,if_pos c11]
  rw[if_neg c11,if_neg c11]
  by_cases c12:k=12
  ·rw[if_pos c12,if_pos c12]
  rw[if_neg c12,if_neg c12]
  by_cases c13:k=13
  ·rw[if_pos c13,if_pos c13]
  rw[if_neg c13,if_neg c13,if_pos (by omega)]
theorem cnt_eq (t:Trp):∀l:List Cnd,Cnd.KGs l->(ayP t false l=false↔cnt t l=l.length)/\(ayP t true l=true↔0<cnt t l)
 | [],_=>by
  rw[ayP,ayP,cnt]
  exact⟨⟨λ_=>rfl,λ_=>rfl⟩,⟨λh=>(by cases h),λh=>by omega⟩⟩
 |c::cs,h=>by
  rw[Cnd.KGs]at h
  have hc:=hol_eq t c h.1
  obtain⟨e1,e2⟩:=cnt_eq t cs h.2
  have hle:=cnt_le t cs
  rw[ayP,ayP,cnt,Uu,<-hc]
  cases hol t c
  ·rw[if_neg (by decide),Nat.zero_add]
   refine⟨⟨λh=>by simp at h,λh=>by omega⟩,?_⟩
   show ayP t true cs=true↔_
   exact e2
  ·rw[if_pos rfl]
   refine⟨?_,⟨λ_=>by omega,λ_=>rfl⟩⟩
   show ayP t false cs=false↔_
   rw[e1]
   omega
end
theorem stp_eq {u v:Wnt} (hu:u.tm) (hv:v.tm):(stpP u.arr v.dep=true)↔1440<=IntKind.i64.wrap (v.dep-u.arr):=by
 obtain⟨u1,u2,u3,u4⟩:=hu
 obtain⟨v1,v2,v3,v4⟩:=hv
 unfold stpP
 rw[uw v1 (by omega),uw u3 (by omega),Yf (by omega) (by omega)]
 by_cases c:v.dep<=u.arr
 ·rw[Ue c]
  constructor
  ·intro h;cases h
  ·intro h;omega
 ·rw[Ud c,uw (by omega) (by omega)]
  simp only[Up,WY]
theorem stpN_M:∀l:List Wnt,(∀u∈l,u.tm)->stpN l=stpM l
 | [],_=>rfl
 | [a],_=>rfl
 |a::b::r,h=>by
  have ih:=stpN_M (b::r) λu hu=>h u (Um _ hu)
  rw[stpN,stpM,ih]
  have:=stp_eq (h a (Uo ..)) (h b (Um _ (Uo ..)))
  congr 1
  by_cases c:stpP a.arr b.dep=true
  ·rw[if_pos (this.1 c),if_pos c]
  ·rw[if_neg (λe=>c (this.2 e)),if_neg c]
theorem trip_eq {p:Plc} (hp:PlG p) {l:List Wnt} (hl:∀u∈l,u.tm) (s:ByteArray) (sale:Int):tripF p l s sale=tripP p l s sale:=by
 unfold tripF tripP
 dsimp only
 rw[stpN_M l hl]
 generalize l.headD ⟨ByteArray.mk #[],0,0,ByteArray.mk #[],ByteArray.mk #[],0,0,ByteArray.mk #[]⟩=w
 rw[loc_eq (λa h=>hp.so a (List.mem_of_find?_eq_some h))]
def KGt (t:Trf):Prop:=∀r∈t.rules,r.when.KG
section
variable {n : Nat}
theorem RWhy_n {p:Plc} (hpg:PlG p) {t:Trf} (htg:TrG t) (hk:KGt t) (hn:50000030<=n) (k:Int) (l:List Wnt) (lx:Bool) (hl:l.length<=900) (hl0:l≠[]) (htm:∀u∈l,u.tm) (s:ByteArray) (sale:Int):
  ∀st S,Yi E (Yb E n) st S 33 [.agg p.enc,.agg t.enc,.int .i64 k,.sl 8 (l.map Wnt.enc) lx,.str s,.int .i64 sale]=some (.int .i64 (whyN p t k l s sale),S):=
 RWhy25_x hpg htg hn k l lx hl hl0 s sale λr hr=>by rw[trip_eq hpg htm];exact hol_eq _ _ (hk r hr)
end
def seaR (p:Plc) (t:Trf) (w:List Wnt) (wx:Bool) (s:ByteArray) (sale:Int) (ko kl:Nat) (dp:D) (sum:Int) (c0 c1 c2:D) (c3 c4:Int) (fd:Bool):List D:=
 [.sl 5 (p.aps.map Apt.enc) p.apsx,.sl 3 (p.dts.map Dst.enc) p.dtsx,.sl 9 (t.fares.map Far.enc) t.fx,.sl 15 (t.rules.map Rul.enc) t.rx,.sl 3 (t.rous.map Rou.enc) t.ox,.sl 7 (t.taxes.map Tx.enc) t.tx,.sl 8 (w.map Wnt.enc) wx,.str s,.int .i64 sale,.os ko 0 w.length false,.os kl 0 (w.length+1) false,dp,.int .i64 sum,c0,c1,c2,.int .i64 c3,.int .i64 c4,.bool fd]
def PtsO (N:Nat) (T:List Ob) (dp:D) (l:List Prt):Prop:=(dp=.nils/\l=[])∨∃k es,dp=.os k 0 l.length false/\N<=k/\T[k]?=some (.row 4 (l.map Prt.enc++es))
theorem PtsO.lr {N:Nat} {T:List Ob} {dp:D} {l:List Prt} (h:PtsO N T dp l):LR 4 Prt.enc T dp l:=
 h.elim .inl λ⟨k,es,h,_,g⟩=>.inr (.inr ⟨k,es,h,λ_=>Ym g⟩)
def BstO (N:Nat) (T:List Ob) (dp c0 c1 c2:D) (c3 c4:Int) (fd:Bool):Option Quo->Prop
 |none=>fd=false/\c0=.nils/\c1=.nils/\c2=.nils
 |some q=>fd=true/\c3=q.fare/\c4=q.total/\∃k,c0=.os k 0 q.parts.length false/\N<=k/\(∀k' n,dp=.os k' 0 n false->k'≠k)/\T[k]?=some (.row 4 (q.parts.map Prt.enc))/\LQ 2 Xa T c1 q.pairs/\FLs 2 Jf c2 q.taxes
structure Sea (p:Plc) (t:Trf) (w:List Wnt) (wx:Bool) (s:ByteArray) (sale:Int) (ko kl:Nat) (T0:List Ob) (kS:Nat) (T:List Ob) (dp:D) (l:List Prt) (sum:Int) (c0 c1 c2:D) (c3 c4:Int) (fd:Bool) (b:Option Quo):Prop where
 ks:∃r,T0[kS]?=some (.row 19 r)
 kp:∀k o,k≠kS->T0[k]?=some o->T[k]?=some o
 ln:T0.length<=T.length
 row:T[kS]?=some (.row 19 [seaR p t w wx s sale ko kl dp sum c0 c1 c2 c3 c4 fd])
 pts:PtsO T0.length T dp l
 bst:BstO T0.length T dp c0 c1 c2 c3 c4 fd b
section
variable {n : Nat}
end
section
variable {i : Nat} {ob : Ob} {S T : List Ob} {P : Program}
variable {E : Env} {call : Call}
end
section
variable {i : Nat} {ob : Ob}
end
section
variable {p : Plc} {t : Trf} {w : List Wnt} {wx : Bool} {s : ByteArray} {sale : Int} {ko kl : Nat} {T0 : List Ob} {kS : Nat} {T U : List Ob} {dp : D} {l : List Prt} {sum : Int} {c0 c1 c2 : D} {c3 c4 : Int} {fd : Bool} {b : Option Quo} {N : Nat}
theorem PtsO.ext (h:PtsO N T dp l) (g:ExtS T U):PtsO N U dp l:=h.imp id λ⟨k,es,a,b,c⟩=>⟨k,es,a,b,g _ _ c⟩
theorem BstO.ext (h:BstO N T dp c0 c1 c2 c3 c4 fd b) (g:ExtS T U):BstO N U dp c0 c1 c2 c3 c4 fd b:=by
 cases b with
 |none=>exact h
 |some q=>
  obtain⟨h1,h2,h3,k,h4,h5,h6,h7,h8,h9⟩:=h
  exact⟨h1,h2,h3,k,h4,h5,h6,g _ _ h7,h8.ext g,h9⟩
theorem Sea.ext (h:Sea p t w wx s sale ko kl T0 kS T dp l sum c0 c1 c2 c3 c4 fd b) (g:ExtS T U) (hl:T.length<=U.length):Sea p t w wx s sale ko kl T0 kS U dp l sum c0 c1 c2 c3 c4 fd b:=
 ⟨h.ks,λk o hk ho=>g _ _ (h.kp k o hk ho),Vk h.ln hl,g _ _ h.row,h.pts.ext g,h.bst.ext g⟩
end
section
variable {n : Nat}
end
structure Frm (kS:Nat) (T:List Ob) (dp:D) (U:List Ob) (dp':D):Prop where
 ln:T.length<=U.length
 kp:∀k o,k≠kS->(∀n,dp=.os k 0 n false->False)->T[k]?=some o->U[k]?=some o
 nw:∀k n,dp'=.os k 0 n false->T.length<=k∨∃n',dp=.os k 0 n' false
section
variable {kS : Nat} {T U V : List Ob} {dp dp' dp'' : D}
theorem Frm.refl:Frm kS T dp T dp:=⟨Uk _,λ_ _ _ _ h=>h,λk n h=>.inr ⟨n,h⟩⟩
theorem Frm.trans (h:Frm kS T dp U dp') (g:Frm kS U dp' V dp''):Frm kS T dp V dp'':=by
 refine⟨Vk h.ln g.ln,λk o hk hd ho=>g.kp k o hk (λn hn=>?_) (h.kp k o hk hd ho),λk n hn=>?_⟩
 ·rcases h.nw k n hn with h1 | ⟨n',h1⟩
  ·have:=Jo ho
   omega
  ·exact hd n' h1
 ·rcases g.nw k n hn with h1 | ⟨n',h1⟩
  ·exact .inl (Vk h.ln h1)
  ·exact h.nw k n' h1
theorem Frm.ext (g:ExtS T U) (hl:T.length<=U.length):Frm kS T dp U dp:=⟨hl,λ_ _ _ _ h=>g _ _ h,λk n h=>.inr ⟨n,h⟩⟩
end
section
variable {n : Nat}
end
def El:Type:={ x:Prt // 0<=x.fa/\x.fa<=1048576 }
instance:Inhabited El:=⟨⟨⟨0,0,0,0⟩,by decide⟩⟩
def vl (x:El):List D:=Prt.enc x.1
namespace Srp
variable {S0 T : List Ob} {k : Nat} {d : Array El} {cf : D} {c : El -> El -> Int}
def rowS (d:Array El):List (List D):=d.toList.map vl
structure R (S0:List Ob) (k:Nat) (d:Array El) (T:List Ob):Prop where
 row:T[k]?=some (.row 4 (rowS d))
 old:∀j o,j≠k->S0[j]?=some o->T[j]?=some o
 len:S0.length<=T.length
def lt (c:El->El->Int) (x y:El):Bool:=decide (c x y<0)
theorem R.put (h:R S0 k d T) {d':Array El}:R S0 k d' (T.set k (.row 4 (rowS d'))) where
 row:=by rw[Uf ((Kr.1 h.row).1)]
 old:=λj o hj ho=>by rw[Kt (Ne.symm hj)];exact h.old j o hj ho
 len:=by rw[Ux];exact h.len
theorem R.push (h:R S0 k d T) (o:Ob):R S0 k d (T++[o]) where
 row:=Ym h.row
 old:=λj o hj ho=>Ym (h.old j o hj ho)
 len:=by rw[Ku];exact Vk h.len (Nat.le_add_right _ _)
theorem R.lt (h:R S0 k d T):k<T.length:=(Kr.1 h.row).1
theorem wc_asc {E:Env} {call:Call} {n:Nat} {x y z:Code} {a:List D} {S:List Ob} {Q:PostX}:WC (Yr E call n (.seq x (.seq y z)) a S) Q=WC (Yr E call n (.seq (.seq x y) z) a S) Q:=by
 rw[Zx,Zx,Zx]
 congr 1
 funext r b U
 cases r
 ·simp only[seqQ,Zx]
 ·rfl
 ·rfl
end Srp
namespace Srp
variable {S0 T : List Ob} {k : Nat} {d : Array El} {cf : D} {c : El -> El -> Int}
end Srp
namespace Srp
variable {S0 T : List Ob} {k : Nat} {d : Array El} {cf : D} {c : El -> El -> Int}
end Srp
namespace Srp
variable {S0 T : List Ob} {k : Nat} {d : Array El} {cf : D} {c : El -> El -> Int}
end Srp
namespace Srp
variable {S0 T : List Ob} {k : Nat} {d : Array El} {cf : D} {c : El -> El -> Int}
end Srp
namespace Srp
end Srp
namespace Srp
variable {S0 T : List Ob} {k : Nat} {d : Array El} {cf : D} {c : El -> El -> Int}
end Srp
def cmpIP (a b:Int):Int:=if a<b then -1 else if b<a then 1 else 0
section
variable {n : Nat}
end
def El.p (x:El):Prt:=x.1
section
variable {n : Nat} {T : List Ob} {k : Nat} {l : List Prt}
end
noncomputable def fasF (p:Plc) (t:Trf) (l:List Wnt) (s:ByteArray) (sale:Int) (i:Nat):List Prt:=
 (List.range i).filterMap λ(f:Nat)=>if whyN p t f l s sale=0/\(amtN p t f l s).2=0 then some ⟨0,l.length,f,(amtN p t f l s).1⟩ else none
section
variable {n : Nat}
end
noncomputable def wyW (p:Plc) (t:Trf) (w:List Wnt) (s:ByteArray) (sale:Int) (i k:Nat) (f:Int):Int:=whyN p t f ((w.drop i).take (k-i)) s sale
section
variable {call : Call} {ops : Array Oper} {a : List D} {S : List Ob} {Q : Post} {L : List Nat}
end
structure Pre (p:Plc) (t:Trf) (w:List Wnt) (wx:Bool) (s:ByteArray) (sale:Int) (V:List Ob) (kS:Nat) (T:List Ob) (ds:List D) (Ls:List Int):Prop where
 kp:∀k o,k<V.length->k≠kS->V[k]?=some o->T[k]?=some o
 ks:kS<V.length
 row:T[kS]?=some (.row 19 [[.sl 5 (p.aps.map Apt.enc) p.apsx,.sl 3 (p.dts.map Dst.enc) p.dtsx,.sl 9 (t.fares.map Far.enc) t.fx,.sl 15 (t.rules.map Rul.enc) t.rx,.sl 3 (t.rous.map Rou.enc) t.ox,.sl 7 (t.taxes.map Tx.enc) t.tx,.sl 8 (w.map Wnt.enc) wx,.str s,.int .i64 sale,.os V.length 0 w.length false,.os (V.length+1) 0 (w.length+1) false,.nils,.int .i64 0,.nils,.nils,.nils,.int .i64 0,.int .i64 0,.bool false]])
 ob:T[V.length]?=some (.row 1 (ds.map λd=>[d]))
 lb:T[V.length+1]?=some (.row 1 (Ls.map encZ))
 dl:ds.length=w.length
 ll:Ls.length=w.length+1
section
variable {p : Plc} {t : Trf} {w : List Wnt} {wx : Bool} {s : ByteArray} {sale : Int} {V : List Ob} {kS : Nat} {T U : List Ob} {ds : List D} {Ls : List Int}
theorem Pre.keep (h:Pre p t w wx s sale V kS T ds Ls) (g:∀k o,k<V.length+2->T[k]?=some o->U[k]?=some o):Pre p t w wx s sale V kS U ds Ls:=
 ⟨λk o hk hs ho=>g _ _ (by omega) (h.kp k o hk hs ho),h.ks,g _ _ (by have:=h.ks;omega) h.row,g _ _ (by omega) h.ob,g _ _ (by omega) h.lb,h.dl,h.ll⟩
theorem Pre.setL (h:Pre p t w wx s sale V kS T ds Ls) (i:Nat) (v:Int):Pre p t w wx s sale V kS (T.set (V.length+1) (.row 1 ((Ls.set i v).map encZ))) ds (Ls.set i v):=by
 have hk:=h.ks
 have hl:=Jo h.lb
 refine⟨λk o hk hs ho=>?_,hk,?_,?_,Uf hl,h.dl,by rw[Ux];exact h.ll⟩
 ·rw[Kt (by omega)];exact h.kp k o hk hs ho
 ·rw[Kt (by omega)];exact h.row
 ·rw[Kt (by omega)];exact h.ob
end
section
variable {n : Nat}
end
def QuoR (o:Option Quo) (r:D):Prop:=
 match o with
 |none=>∃e:Int,e≠0/\r=.tup [.agg [.nils,.nils,.nils,.int .i64 0,.int .i64 0],.int .i64 e]
 |some q=>∃dp dq dt,r=.tup [.agg [dp,dq,dt,.int .i64 q.fare,.int .i64 q.total],.int .i64 0]/\FLs 4 Prt.enc dp q.parts/\FLs 2 Xa dq q.pairs/\FLs 2 Jf dt q.taxes
section
variable {n : Nat}
theorem Pright_x (p:Plc) (t:Trf) (w:List Wnt) (wx:Bool) (s:ByteArray) (sale:Int) (hn:1<=n):∀st S,Yi E (Yb E n) st S 23 [.agg [.sl 5 (p.aps.map Apt.enc) p.apsx,.sl 3 (p.dts.map Dst.enc) p.dtsx,.sl 9 (t.fares.map Far.enc) t.fx,.sl 15 (t.rules.map Rul.enc) t.rx,.sl 3 (t.rous.map Rou.enc) t.ox,.sl 7 (t.taxes.map Tx.enc) t.tx,.sl 8 (w.map Wnt.enc) wx,.str s,.int .i64 sale]]=some (.bool (decide (0<w.length) && decide (w.length<=6)),S):=by
 obtain⟨m,rfl⟩:∃m,n=m+1:=⟨n-1,by omega⟩
 have hp:Yp [.agg [.sl 5 (p.aps.map Apt.enc) p.apsx,.sl 3 (p.dts.map Dst.enc) p.dtsx,.sl 9 (t.fares.map Far.enc) t.fx,.sl 15 (t.rules.map Rul.enc) t.rx,.sl 3 (t.rous.map Rou.enc) t.ox,.sl 7 (t.taxes.map Tx.enc) t.tx,.sl 8 (w.map Wnt.enc) wx,.str s,.int .i64 sale]]=true:=by
  have h1:=Yt p
  have h2:=Ja t
  simp only[Plc.enc,Trf.enc,Yc,Yg,D.pure,Ua,Kv]at h1 h2
  simp only[Yc,Yg,D.pure,h1,h2,Jd,Ua]
 have:WO (Yb E (m+1) 23 [.agg [.sl 5 (p.aps.map Apt.enc) p.apsx,.sl 3 (p.dts.map Dst.enc) p.dtsx,.sl 9 (t.fares.map Far.enc) t.fx,.sl 15 (t.rules.map Rul.enc) t.rx,.sl 3 (t.rous.map Rou.enc) t.ox,.sl 7 (t.taxes.map Tx.enc) t.tx,.sl 8 (w.map Wnt.enc) wx,.str s,.int .i64 sale]] []) λr T=>r=.bool (decide (0<w.length) && decide (w.length<=6)):=by
  clear hp
  refine Ye Tryz.func23 rfl (by decide) rfl 13 rfl (λa hal ha=>?_)
  have h0:=aQ1 ha
  clear ha
  by_cases c:0<w.length
  ·have c1:((w.length:Int)>0)=True:=eq_true (by omega)
   by_cases d:w.length<=6
   ·have d1:((w.length:Int)<=6)=True:=eq_true (by omega)
    simp only[push_cast,Vn,hal,h0,c1,d1,Tryz.f23,↓WX,simprocAttr,WY]
    rw[Ue c,Ue d]
    rfl
   ·have d1:((w.length:Int)<=6)=False:=eq_false (by omega)
    simp only[push_cast,Vn,hal,h0,c1,d1,Tryz.f23,↓WX,simprocAttr,WY]
    rw[Ue c,Ud d]
    rfl
  ·have c1:((w.length:Int)>0)=False:=eq_false (by omega)
   simp only[push_cast,Vn,hal,h0,c1,Tryz.f23,↓WX,simprocAttr,WY]
   rw[Ud c]
   rfl
 obtain⟨_,T,ho,rfl⟩:=this
 exact λst S=>Yd rfl hp ho rfl
end
end Go.Proofs.YtaklebjoenophaaGreat.Dm
