/-
  The price of components: the program, exactly.
-/
import Derived.Test.YtaklebjoenophaaGreatPrW
set_option maxHeartbeats 64000000
set_option maxRecDepth 100000
set_option linter.unusedSimpArgs false
set_option linter.unusedVariables false
namespace Go.Proofs.YtaklebjoenophaaGreat.Dm
open Go Gw
theorem pctOk:PctOk pctF:=⟨λf a h1 h2 h3 h4 e=>by
  unfold pctF at e ⊢
  have:=Int.mul_nonneg h1 h3
  repeat' split
  all_goals omega,λf g a h0 h1 h2 h3 h4 e1 e2=>by
  unfold pctF at e1 e2 ⊢
  have:=Int.mul_le_mul_of_nonneg_right h1 h3
  split at e1
  ·cases e1
  ·split at e1
   ·cases e1
   ·split at e2
    ·cases e2
    ·split at e2
     ·cases e2
     ·rename_i c1 c2 c3 c4
      rw[if_neg c1,if_neg c2,if_neg c3,if_neg c4]
      dsimp only
      omega⟩
theorem prcF_eq {p:Plc} {t:Trf} {w:List Wnt} {s:ByteArray} (hw:w.length<=900) (ht:∀x∈t.taxes,TxG x) {l:List Prt} (h0:∀x∈l,0<=x.am):prcF pctF p t w s l=
  if (Xq t l).2=0 then if sm (l.map Prt.am)<=1099511627776 then if (taxF pctF p w s (sm (l.map Prt.am)) t.taxes []).2=0 then if sm (l.map Prt.am)+sm ((taxF pctF p w s (sm (l.map Prt.am)) t.taxes []).1.map (·.2))<=1099511627776 then
   some ⟨l,false,(Xq t l).1,false,(taxF pctF p w s (sm (l.map Prt.am)) t.taxes []).1,false,sm (l.map Prt.am),sm (l.map Prt.am)+sm ((taxF pctF p w s (sm (l.map Prt.am)) t.taxes []).1.map (·.2))⟩ else none else none else none else none:=by
 have ha:∀x∈l.map Prt.am,0<=x:=λx hx=>by obtain⟨y,hy,rfl⟩:=Vq.1 hx;exact h0 y hy
 have hA:=sm_pos _ ha
 unfold prcF sumsF
 rw[famF_eq _ 0 ha (by omega) (by omega),Int.zero_add]
 split
 case isFalse=>rfl
 by_cases c1:sm (l.map Prt.am)<=1099511627776
 case neg=>rw[if_neg c1,if_neg c1]
 rw[if_pos c1,if_pos c1]
 dsimp only
 by_cases c2:(taxF pctF p w s (sm (l.map Prt.am)) t.taxes []).2=0
 case neg=>rw[if_neg c2,if_neg c2]
 rw[if_pos c2,if_pos c2]
 have hc:∀x∈(taxF pctF p w s (sm (l.map Prt.am)) t.taxes []).1.map (·.2),0<=x:=λx hx=>by
  obtain⟨y,hy,rfl⟩:=Vq.1 hx
  exact taxF_pos pctOk hw ⟨hA,c1⟩ t.taxes [] (λx hx=>(ht x hx).am) (λc hc=>by cases hc) y hy
 rw[famF_eq _ _ hc hA c1]
 by_cases c3:sm (l.map Prt.am)+sm ((taxF pctF p w s (sm (l.map Prt.am)) t.taxes []).1.map (·.2))<=1099511627776
 ·rw[if_pos c3,if_pos c3]
  rfl
 ·rw[if_neg c3,if_neg c3]
theorem elP:Ki Tryz.prog 37=some 79:=by kernel_rfl
theorem szP:Yw Tryz.prog 79=some (3+1):=by kernel_rfl
theorem byP:Kl Tryz.prog 79<=100000:=Nat.le_of_ble_eq_true (by kernel_rfl)
theorem le_maxP {m:Nat} (h:m<=200000):(m<=maxLen)=True:=eq_true (Vk h (by unfold maxLen;omega))
theorem appP {S:List Ob} {x:D} {r:List (List D)} (e1:Jw S (3+1) x=some r) (h0:r≠[]) (h1:r.length<=100000):Zb Tryz.prog S 37 37 (.sl 4 [] true) x=some (.os S.length 0 r.length false,S++[.row 4 r]):=by
 have hb:r.length*Kl Tryz.prog 79<=140737488355328:=Vk (Nat.mul_le_mul h1 byP) (by decide)
 have hmx:(r.length<=maxLen)=True:=le_maxP (by omega)
 have hz:(D.agg [.int .i64 0,.int .i64 0,.int .i64 0,.int .i64 0]).cells.length=3+1:=rfl
 have hne:r.length≠0:=λh=>h0 (List.length_eq_zero_iff.1 h)
 simp only[Zb,elP,szP,zePart,hz,e1,show Jw S (3+1) (.sl 4 [] true)=some [] from rfl,Vs,Nat.zero_add,hmx,hb,hne,↓reduceIte,Vr,WY]
theorem appP0 {S:List Ob} {x:D} (e1:Jw S (3+1) x=some []):Zb Tryz.prog S 37 37 (.sl 4 [] true) x=some (.sl 4 [] true,S):=by
 have hz:(D.agg [.int .i64 0,.int .i64 0,.int .i64 0,.int .i64 0]).cells.length=3+1:=rfl
 simp only[Zb,elP,szP,zePart,hz,e1,show Jw S (3+1) (.sl 4 [] true)=some [] from rfl,Vs,↓reduceIte]
theorem LR.src {S:List Ob} {d:D} {l:List Prt} (h:LR 4 Prt.enc S d l):Jw S (3+1) d=some (l.map Prt.enc):=by
 rcases h with ⟨rfl,rfl⟩ | ⟨x,rfl,-⟩ | ⟨k,es,rfl,hk⟩
 ·rfl
 ·rfl
 ·have:=hk []
  rw[Ur]at this
  simp only[Jw,this]
  simp
section
variable {n : Nat}
theorem CloneP {S:List Ob} {d:D} {l:List Prt} (h:LR 4 Prt.enc S d l) (hs:∀x,d≠.sl 4 [] x) (hl:l.length<=100000) (hn:1<=n):∃d' J,(∀st,Yi E (Yb E n) st S 74 [d]=some (d',S++J))/\((l=[]/\J=[]/\(d'=.nils∨d'=.sl 4 [] true))∨(l≠[]/\d'=.os S.length 0 l.length false/\J=[.row 4 (l.map Prt.enc)])):=by
 obtain⟨m,rfl⟩:∃m,n=m+1:=⟨n-1,by omega⟩
 have e1:=h.src
 rcases h with ⟨rfl,rfl⟩ | ⟨x,rfl,-⟩ | ⟨k,es,rfl,hk⟩
 ·have e0:dEq Tryz.prog 10000 37 .nils .nils=some true:=by kernel_rfl
  have:WO (Yb E (m+1) 74 [.nils] S) λd T=>d=.nils/\T=S:=by
   refine Ye Tryz.func74 rfl (by decide) rfl 8 rfl (λa hal ha=>?_)
   have h0:=aQ1 ha
   clear ha
   simp only[push_cast,hal,h0,e0,Tryz.f74,↓WX,simprocAttr]
  obtain⟨d,T,ho,rfl,rfl⟩:=this
  exact⟨_,[],λst=>callD_ext rfl (by rw[Ur];exact ho),.inl ⟨rfl,rfl,.inl rfl⟩⟩
 ·have h0:l≠[]:=λh=>by subst h;exact hs x rfl
  have e0:dEq Tryz.prog 10000 37 (.sl 4 (l.map Prt.enc) x) .nils=some false:=by
   obtain⟨y,ys,rfl⟩:=List.exists_cons_of_ne_nil h0
   rw[show (10000:Nat)=9999+1 from rfl,Uy]
   unfold dEq
   rw[Tryz.underlying37]
  have ha:=appP e1 (λh=>h0 (List.map_eq_nil_iff.1 h)) (by rw[Uq];exact hl)
  rw[Uq]at ha
  have:WO (Yb E (m+1) 74 [.sl 4 (l.map Prt.enc) x] S) λd T=>d=.os S.length 0 l.length false/\T=S++[.row 4 (l.map Prt.enc)]:=by
   refine Ye Tryz.func74 rfl (by decide) rfl 8 rfl (λa hal ha=>?_)
   have h0:=aQ1 ha
   clear ha
   simp only[push_cast,hal,h0,e0,ha,Tryz.f74,↓WX,simprocAttr]
  obtain⟨d,T,ho,rfl,rfl⟩:=this
  exact⟨_,_,λst=>callD_ext rfl ho,.inr ⟨h0,rfl,rfl⟩⟩
 ·have e0:dEq Tryz.prog 10000 37 (.os k 0 l.length false) .nils=some false:=by rw[show (10000:Nat)=9999+1 from rfl];simp only[dEq,Tryz.underlying37]
  by_cases h0:l=[]
  ·have ha:=appP0 (x:=.os k 0 l.length false) (S:=S) (by rw[e1,h0];rfl)
   have:WO (Yb E (m+1) 74 [.os k 0 l.length false] S) λd T=>d=.sl 4 [] true/\T=S:=by
    refine Ye Tryz.func74 rfl (by decide) rfl 8 rfl (λa hal ha=>?_)
    have h0:=aQ1 ha
    clear ha
    simp only[push_cast,hal,h0,e0,ha,Tryz.f74,↓WX,simprocAttr]
   obtain⟨d,T,ho,rfl,rfl⟩:=this
   exact⟨_,[],λst=>callD_ext rfl (by rw[Ur];exact ho),.inl ⟨h0,rfl,.inr rfl⟩⟩
  ·have ha:=appP e1 (λh=>h0 (List.map_eq_nil_iff.1 h)) (by rw[Uq];exact hl)
   rw[Uq]at ha
   have:WO (Yb E (m+1) 74 [.os k 0 l.length false] S) λd T=>d=.os S.length 0 l.length false/\T=S++[.row 4 (l.map Prt.enc)]:=by
    refine Ye Tryz.func74 rfl (by decide) rfl 8 rfl (λa hal ha=>?_)
    have h0:=aQ1 ha
    clear ha
    simp only[push_cast,hal,h0,e0,ha,Tryz.f74,↓WX,simprocAttr]
   obtain⟨d,T,ho,rfl,rfl⟩:=this
   exact⟨_,_,λst=>callD_ext rfl ho,.inr ⟨h0,rfl,rfl⟩⟩
end
structure PrS (S:List Ob) (j:List D) (l:List Prt) (V:List Ob) (c:List D):Prop where
 x:ExtS S V
 j:V[S.length]?=some (.row 9 [j])
 o:V[S.length+1]?=some (.row 5 [[.nils,.nils,.nils,.int .i64 0,.int .i64 0]])
 p:V[S.length+2]?=some (.row 4 (l.map Prt.enc))
 q:V[S.length+3]?=some (.row 5 [c])
section
variable {S V W : List Ob} {j : List D} {l : List Prt} {c : List D}
theorem Jo {α:Type} {l:List α} {k:Nat} {x:α} (h:l[k]?=some x):k<l.length:=(Kr.1 h).1
theorem PrS.keep (h:PrS S j l V c) (g:∀k o,k<=S.length+3->V[k]?=some o->W[k]?=some o):PrS S j l W c:=
 ⟨λk o ho=>g k o (by have:=Jo ho;omega) (h.x k o ho),g _ _ (by omega) h.j,g _ _ (by omega) h.o,g _ _ (by omega) h.p,g _ _ (by omega) h.q⟩
theorem PrS.ext (h:PrS S j l V c) (g:ExtS V W):PrS S j l W c:=h.keep λk o _ ho=>g k o ho
theorem PrS.set (h:PrS S j l V c) (c':List D):PrS S j l (V.set (S.length+3) (.row 5 [c'])) c':=by
 have hl:=Jo h.q
 have g:∀k,k≠S.length+3->(V.set (S.length+3) (.row 5 [c']))[k]?=V[k]? :=λk hk=>Kt (λe=>hk e.symm)
 refine⟨λk o ho=>?_,?_,?_,?_,Uf hl⟩
 ·rw[g k (by have:=Jo ho;omega)]
  exact h.x k o ho
 ·rw[g _ (by omega)];exact h.j
 ·rw[g _ (by omega)];exact h.o
 ·rw[g _ (by omega)];exact h.p
theorem PrS.fin (h:PrS S j l V c) (o:Ob):ExtS S (V.set (S.length+1) o):=λk o' ho=>by
 rw[Kt (by have:=Jo ho;omega)]
 exact h.x k o' ho
theorem LQ.keepz {α:Type} {sz:Nat} {enc:α->List D} {d:D} {r:List α} (h:LQ sz enc V d r) (g:∀(k:Nat) (es:List (List D)),V[k]?=some (Ob.row sz es)->W[k]?=some (Ob.row sz es)):LQ sz enc W d r:=by
 rcases h with h | ⟨x,h,-⟩ | ⟨k,h,hk⟩
 ·exact .inl h
 ·exact FLs.lq (.inr ⟨x,h⟩)
 ·exact .inr (.inr ⟨k,h,λJ=>Ym (g k _ (by have:=hk [];rwa [Ur]at this))⟩)
theorem set_keepz {k z sz:Nat} {r:List (List D)} {o:Ob} (h:V[k]?=some (.row z r)) (hz:z≠sz):∀(i:Nat) (es:List (List D)),V[i]?=some (Ob.row sz es)->(V.set k o)[i]?=some (Ob.row sz es):=λi es hi=>by
 rw[Kt (λe=>by subst e;rw[h]at hi;exact hz (Ob.row.inj (Kz hi)).1)]
 exact hi
end
def PrcR (S T:List Ob) (o:Option Quo) (r:D):Prop:=
 match o with
 |none=>∃e:Int,e≠0/\r=.tup [.agg [.nils,.nils,.nils,.int .i64 0,.int .i64 0],.int .i64 e]
 |some q=>∃k dq dt,r=.tup [.agg [.os k 0 q.parts.length false,dq,dt,.int .i64 q.fare,.int .i64 q.total],.int .i64 0]/\S.length<=k/\T[k]?=some (.row 4 (q.parts.map Prt.enc))/\LQ 2 Xa T dq q.pairs/\FLs 2 Jf dt q.taxes
section
variable {n : Nat}
theorem Pprice_d {S:List Ob} {p:Plc} (hp:PlG p) {t:Trf} (ht:TrG t) (w:List Wnt) (wx:Bool) (s:ByteArray) (sale:Int) (hw0:w≠[]) (hw:w.length<=900) (htm:∀u∈w,u.tm) {d:D} {l:List Prt} (h:LR 4 Prt.enc S d l) (hl0:l≠[]) (hl:l.length<=900) (h0:∀x∈l,0<=x.am) (hn:2000000<=n):
  WO (Yb E (n+1) 31 [.agg [.sl 5 (p.aps.map Apt.enc) p.apsx,.sl 3 (p.dts.map Dst.enc) p.dtsx,.sl 9 (t.fares.map Far.enc) t.fx,.sl 15 (t.rules.map Rul.enc) t.rx,.sl 3 (t.rous.map Rou.enc) t.ox,.sl 7 (t.taxes.map Tx.enc) t.tx,.sl 8 (w.map Wnt.enc) wx,.str s,.int .i64 sale],d] S) λr T=>ExtS S T/\PrcR S T (prcF pctF p t w s l) r:=by
 obtain⟨q,hq⟩:∃q,q=prcF pctF p t w s l:=⟨_,rfl⟩
 rw[<-hq]
 rw[prcF_eq hw ht.tg h0]at hq
 have hy:=lr_len Tryz.underlying37 h
 simp only[push_cast]at hy
 have ap:∀ {T:List Ob} {d:D} {cs:List Int},GL 1 encZ T d cs->cs.length<=100000->∀c:Int,∃S',Zb Tryz.prog T 70 70 d (.sl 1 [[.int .i64 c]] true)=some (.os T.length 0 (cs.length+1) false,S')/\GL 1 encZ S' (.os T.length 0 (cs.length+1) false) (cs++[c])/\(∀k o,(∀n,d=.os k 0 n false->False)->T[k]?=some o->S'[k]?=some o)/\(∀(k sz:Nat) (es:List (List D)),sz≠0+1->T[k]?=some (.row sz es)->S'[k]?=some (.row sz es)):=λh hc c=>by
  obtain⟨S',a1,a2,a3,a4,a5⟩:=app_gl (t:=70) (e:=3) (z:=.int .i64 0) (n:=0) (by kernel_rfl) (by kernel_rfl) (by kernel_rfl) rfl (Nat.le_of_ble_eq_true (by kernel_rfl)) h hc c
  exact⟨S',a1,a2,a4,a5⟩
 have ham:∀x∈l.map Prt.am,0<=x:=λx hx=>by obtain⟨y,hy,rfl⟩:=Vq.1 hx;exact h0 y hy
 have csu:=λ{T:List Ob} {e:D} (g:GL 1 encZ T e (l.map Prt.am))=>PSum_x (n:=n) g.lq (by rw[Uq];omega) ham (by omega)
 obtain⟨sgx,csg⟩:=PSegs_x (n:=n) p t w wx s sale (by omega) hw0 (by omega)
 have cta:=λf hf=>Ptax_x (n:=n) p hp.apl t.taxes t.tx ht.tl ht.tg ht.tf w sgx (by omega) htm s f hf (by omega)
 have hA:=sm_pos _ ham
 have hcs:=λ(c:sm (l.map Prt.am)<=1099511627776)=>taxF_pos pctOk (p:=p) (s:=s) hw ⟨hA,c⟩ t.taxes [] (λx hx=>(ht.tg x hx).am) (λc hc=>by cases hc)
 have hcl:=taxF_len (pct:=pctF) (p:=p) (w:=w) (s:=s) (fare:=sm (l.map Prt.am)) t.taxes []
 have htl:=ht.tl
 obtain⟨jv,hjv⟩:∃jv:List D,jv=[.sl 5 (p.aps.map Apt.enc) p.apsx,.sl 3 (p.dts.map Dst.enc) p.dtsx,.sl 9 (t.fares.map Far.enc) t.fx,.sl 15 (t.rules.map Rul.enc) t.rx,.sl 3 (t.rous.map Rou.enc) t.ox,.sl 7 (t.taxes.map Tx.enc) t.tx,.sl 8 (w.map Wnt.enc) wx,.str s,.int .i64 sale]:=⟨_,rfl⟩
 have cpa:=λ{T:List Ob} (hx:ExtS S T)=>PPairs_x (n:=n) t (h.ext hx) hl (by omega)
 have hdn:∀x,d≠.sl 4 [] x:=λx e=>by
  rcases h with ⟨h,-⟩ | ⟨y,h,-⟩ | ⟨k,es,h,-⟩
  ·rw[h]at e;cases e
  ·rw[h]at e
   exact hl0 (List.map_eq_nil_iff.1 (D.sl.inj e).2.1)
  ·rw[h]at e;cases e
 have ccl:=λ{T:List Ob} (hx:ExtS S T)=>CloneP (n:=n) (h.ext hx) hdn (by omega) (by omega)
 unfold sumR at csu
 generalize (Xq t l).2=pe at*
 generalize (Xq t l).1=ps at*
 generalize hAs:sm (l.map Prt.am)=A at*
 simp only[Plc.enc,Trf.enc]at cpa cta
 rw[Vs,Nat.zero_add]at hcl
 refine Ye Tryz.func31 rfl (by decide) rfl 92 rfl (λa hal ha=>?_)
 obtain⟨h0,h1⟩:=aQ2 ha
 clear ha
 refine Ya (λa V=>V=S++[.row 9 [jv]]++[.row 5 [[.nils,.nils,.nils,.int .i64 0,.int .i64 0]]]/\gQ a 92 (a[4]?=some (.loc (S.length+1) 0 0)) [(1,d),(2,.loc S.length 0 0)]) ?_ ?_
 ·simp only[push_cast,hal,h0,h1,hjv,Ku,Uu,↓WX,simprocAttr]
 rintro a V ⟨hV,hal,h1,h2,h4⟩
 have hSV:ExtS S V:=by rw[hV];exact λ_ _ h=>Ym (Ym h)
 have hVl:V.length=S.length+2:=by rw[hV,Ku,Ku];rfl
 have gj:V[S.length]?=some (.row 9 [jv]):=by rw[hV];exact end0
 have go:V[S.length+1]?=some (.row 5 [[.nils,.nils,.nils,.int .i64 0,.int .i64 0]]):=by rw[hV];exact end1
 clear hV
 obtain⟨dc,Jc,ccl,hdc⟩:=ccl hSV
 rcases hdc with ⟨hdc,-⟩ | ⟨-,rfl,rfl⟩
 ·exact absurd hdc hl0
 refine Ya (λa W=>W=V++[.row 4 (l.map Prt.enc)]++[.row 5 [[.os V.length 0 l.length false,.nils,.nils,.int .i64 0,.int .i64 0]]]/\gQ a 92 (a[6]?=some (.loc (V.length+1) 0 0)) [(1,d),(2,.loc S.length 0 0),(4,.loc (S.length+1) 0 0)]) ?_ ?_
 ·simp only[push_cast,hal,h1,h2,h4,ccl,end1,end1s,Ku,Uu,↓WX,simprocAttr]
 rintro a W ⟨hW,hal,h1,h2,h4,h6⟩
 have hPS:PrS S jv l W [.os (S.length+2) 0 l.length false,.nils,.nils,.int .i64 0,.int .i64 0]:=by
  rw[hW,hVl]
  refine⟨λk o ho=>Ym (Ym (hSV k o ho)),Ym (Ym gj),Ym (Ym go),?_,?_⟩
  ·rw[<-hVl];exact end0
  ·rw[show S.length+3=V.length+1 by omega];exact end1
 rw[hVl]at h6
 clear hW ccl gj go hSV hVl V
 refine Ya (λa V=>V=W/\gQ a 92 (a[6]?=some (.loc (S.length+3) 0 0)) [(1,d),(2,.loc S.length 0 0),(4,.loc (S.length+1) 0 0)]) ?_ ?_
 ·simp only[push_cast,hal,h1,h2,h4,h6,↓WX,simprocAttr]
 rintro a V ⟨rfl,hal,h1,h2,h4,h6⟩
 -- pairs
 obtain⟨dp,U,cpa,hXU,hlp⟩:=cpa hPS.x
 have hPU:=hPS.ext hXU
 have gj:=hPS.j
 have gq:=hPU.q
 rw[hjv]at gj
 refine Za (λa W=>(pe=0/\LQ 2 Xa W dp ps/\PrS S jv l W [.os (S.length+2) 0 l.length false,dp,.nils,.int .i64 0,.int .i64 0])/\gQ a 92 (a[6]?=some (.loc (S.length+3) 0 0)) [(1,d),(2,.loc S.length 0 0),(4,.loc (S.length+1) 0 0)]) ?_ ?_
 ·have hd1:=hlp.one
  have hP2:=hPU.set [.os (S.length+2) 0 l.length false,dp,.nils,.int .i64 0,.int .i64 0]
  have hl2:LQ 2 Xa (U.set (S.length+3) (.row 5 [[.os (S.length+2) 0 l.length false,dp,.nils,.int .i64 0,.int .i64 0]])) dp ps:=hlp.keepz (set_keepz gq (by decide))
  refine Ya (λa W=>W=U.set (S.length+3) (.row 5 [[.os (S.length+2) 0 l.length false,dp,.nils,.int .i64 0,.int .i64 0]])/\gQ a 92 (a[7]?=some (.int .i64 pe)) [(1,d),(2,.loc S.length 0 0),(4,.loc (S.length+1) 0 0),(6,.loc (S.length+3) 0 0)]) ?_ ?_
  ·rcases hlp with ⟨rfl,-⟩ | ⟨x2,rfl,-⟩ | ⟨k2,rfl,-⟩
   all_goals
    simp only[push_cast,hal,h1,h2,h4,h6,gj,gq,cpa,↓WX,simprocAttr]
  clear gj gq cpa hXU hPU hlp
  rintro a W ⟨rfl,hal,h1,h2,h4,h6,h7⟩
  have go:=hP2.o
  generalize U.set (S.length+3) (.row 5 [[.os (S.length+2) 0 l.length false,dp,.nils,.int .i64 0,.int .i64 0]])=W at*
  by_cases c:pe=0
  ·simp only[push_cast,Vp,hal,h1,h2,h4,h6,h7,c,↓WX,simprocAttr,WY]
   exact⟨hl2,hP2⟩
  ·rw[if_neg c]at hq
   subst hq
   have hgo:=Uf (a:=Ob.row 5 [[.nils,.nils,.nils,.int .i64 0,.int .i64 0]]) (Jo go)
   simp only[push_cast,Vo,hal,h4,h7,c,go,hgo,Tryz.f31,↓WX,simprocAttr,WY]
   exact⟨hP2.fin _,pe,c,rfl⟩
 clear cpa hXU hPU hlp gj gq U hPS V
 rintro a V ⟨⟨rfl,hlp,hPS⟩,hal,h1,h2,h4,h6⟩
 rw[if_pos rfl]at hq
 -- the sum of the amounts
 refine Ya (λa W=>W=V/\gQ a 92 (a[8]?=some (.nils)) [(1,d),(2,.loc S.length 0 0),(4,.loc (S.length+1) 0 0),(6,.loc (S.length+3) 0 0)]) ?_ ?_
 ·simp only[push_cast,hal,h1,h2,h4,h6,↓WX,simprocAttr]
 rintro a W ⟨rfl,hal,h1,h2,h4,h6,h8⟩
 refine Ya (λa V=>(∃e,a[8]?=some e/\GL 1 encZ V e (l.map Prt.am)/\LQ 2 Xa V dp ps/\PrS S jv l V [.os (S.length+2) 0 l.length false,dp,.nils,.int .i64 0,.int .i64 0])/\gQ a 92 (a[6]?=some (.loc (S.length+3) 0 0)) [(2,.loc S.length 0 0),(4,.loc (S.length+1) 0 0)]) ?_ ?_
 ·simp only[push_cast,hal,h1,hy,↓WX,simprocAttr]
  refine Yk (λi a V=>(∃e,a[8]?=some e/\GL 1 encZ V e ((l.take i).map Prt.am)/\(∀k n,e=.os k 0 n false->S.length+3<k)/\LQ 2 Xa V dp ps/\PrS S jv l V [.os (S.length+2) 0 l.length false,dp,.nils,.int .i64 0,.int .i64 0])/\a.length=92/\a[2]?=some (.loc S.length 0 0)/\a[4]?=some (.loc (S.length+1) 0 0)/\a[6]?=some (.loc (S.length+3) 0 0)/\a[27]?=some (d)/\a[28]?=some (.int .i64 l.length)/\a[29]?=some (.int .i64 i)) l.length ?_ (by omega) ?_
  ·simp only[push_cast,hal,h2,h4,h6,h8,simprocAttr,WY]
   exact⟨_,rfl,GL.nil,(λk n h=>by cases h),hlp,hPS⟩
  clear hy hlp hPS W
  rintro i a V hi ⟨⟨e,h8,hg,he,hlp,hPS⟩,hal,h2,h4,h6,h27,h28,h29⟩
  rcases Kw hi with hlt |rfl
  case inr=>
   rw[Vi]at hg
   simp only[push_cast,hal,h2,h4,h6,h8,h28,h29,↓WX,simprocAttr,WY]
   exact⟨_,rfl,hg,hlp,hPS⟩
  have hltc:(i:Int)<l.length:=by omega
  obtain⟨z,hx⟩:∃z,l[i]?=some z:=⟨l[i],by simp⟩
  have hti:(l.take (i+1)).map Prt.am=(l.take i).map Prt.am++[z.am]:=by rw[List.take_add_one,hx,List.map_append];rfl
  refine Ya (λa T=>T=V/\gQ a 92 (a[30]?=some (.bool true)) [(2,.loc S.length 0 0),(4,.loc (S.length+1) 0 0),(6,.loc (S.length+3) 0 0),(8,e),(27,d),(28,.int .i64 l.length),(29,.int .i64 i)]) ?_ ?_
  ·simp only[push_cast,hal,h2,h4,h6,h8,h27,h28,h29,hltc,↓WX,simprocAttr]
  rintro a T ⟨rfl,hal,h2,h4,h6,h8,h27,h28,h29,h30⟩
  refine Ya (λa V=>V=T/\gQ a 92 (a[29]?=some (.int .i64 i)) [(2,.loc S.length 0 0),(4,.loc (S.length+1) 0 0),(6,.loc (S.length+3) 0 0),(8,e),(27,d),(28,.int .i64 l.length)]) ?_ ?_
  ·simp only[push_cast,hal,h2,h4,h6,h8,h27,h28,h29,h30,↓WX]
  rintro a V ⟨rfl,hal,h2,h4,h6,h8,h27,h28,h29⟩
  rw[Zx,Yx]
  refine Ya (λa T=>T=V++[.row 4 [[.int .i64 z.fr,.int .i64 z.to,.int .i64 z.fa,.int .i64 z.am]]]/\gQ a 92 (a[29]?=some (.int .i64 i)) [(2,.loc S.length 0 0),(4,.loc (S.length+1) 0 0),(6,.loc (S.length+3) 0 0),(8,e),(10,.loc V.length 0 0),(27,d),(28,.int .i64 l.length)]) ?_ ?_
  ·have hap:=apl (enc:=Prt.enc) hx
   rcases h.ext hPS.x with ⟨-,rfl⟩ | ⟨lx,rfl,hk0⟩ | ⟨kk,es,rfl,hk0⟩
   ·cases hx
   case' inr.inr=>have hk0:=hk0 [];rw[Ur]at hk0
   all_goals
    simp only[push_cast,hal,h2,h4,h6,h8,h27,h28,h29,hap,hk0,hlt,hx,Yq,Yl,Prt.enc,↓WX,simprocAttr]
  rintro a T ⟨hT,hal,h2,h4,h6,h8,h10,h27,h28,h29⟩
  have hVT:ExtS V T:=by rw[hT];exact Jx
  have hg:GL 1 encZ T e ((l.take i).map Prt.am):=hg.imp id λ⟨k,e,g⟩=>⟨k,e,hVT _ _ g⟩
  have gx:T[V.length]?=some (.row 4 [[.int .i64 z.fr,.int .i64 z.to,.int .i64 z.fa,.int .i64 z.am]]):=by rw[hT];exact Yl
  have hPT:=hPS.ext hVT
  have hlT:=hlp.ext hVT
  obtain⟨S',a1,a2,a4,a5⟩:=ap hg (by rw[Uq,Ve];omega) z.am
  have hP3:PrS S jv l S' _:=hPT.keep λk o hk ho=>a4 k o (λn hn=>by have:=he k n hn;omega) ho
  have hl3:LQ 2 Xa S' dp ps:=hlT.keepz λk es hk=>a5 k 2 es (by decide) hk
  have hTl:=Jo hPT.q
  clear hT hVT
  simp(disch:=omega)only[push_cast,hal,h2,h4,h6,h8,h10,h27,h28,h29,hlt,gx,a1,Yf,↓WX,simprocAttr,WY]
  exact⟨_,rfl,by rw[hti];first |exact a2 |simpa only[List.length_map]using a2,λk n h=>by obtain⟨rfl,-⟩:=D.os.inj h;exact hTl,hl3,hP3⟩
 clear hy hlp hPS W ap
 rintro a V ⟨⟨e,h8,hg,hlp,hPS⟩,hal,h2,h4,h6⟩
 have csu:=csu hg
 have gq:=hPS.q
 refine Za (λa W=>(A<=1099511627776/\LQ 2 Xa W dp ps/\PrS S jv l W [.os (S.length+2) 0 l.length false,dp,.nils,.int .i64 A,.int .i64 0])/\gQ a 92 (a[6]?=some (.loc (S.length+3) 0 0)) [(2,.loc S.length 0 0),(4,.loc (S.length+1) 0 0)]) ?_ ?_
 ·by_cases c:A<=1099511627776
  ·rw[if_pos c]at csu
   dsimp only at csu
   have hP2:=hPS.set [.os (S.length+2) 0 l.length false,dp,.nils,.int .i64 A,.int .i64 0]
   have hl2:=hlp.keepz (set_keepz (o:=.row 5 [[.os (S.length+2) 0 l.length false,dp,.nils,.int .i64 A,.int .i64 0]]) gq (by decide))
   simp only[push_cast,Vp,hal,h2,h4,h6,h8,csu,gq,↓WX,simprocAttr,WY]
   exact⟨c,hl2,hP2⟩
  ·rw[if_neg c]at csu hq
   dsimp only at csu
   subst hq
   have hP2:=hPS.set [.os (S.length+2) 0 l.length false,dp,.nils,.int .i64 0,.int .i64 0]
   have go:=hP2.o
   have hgo:=Uf (a:=Ob.row 5 [[.nils,.nils,.nils,.int .i64 0,.int .i64 0]]) (Jo go)
   simp only[push_cast,Vo,hal,h2,h4,h6,h8,csu,gq,go,hgo,Tryz.f31,↓WX,simprocAttr,WY]
   exact⟨hP2.fin _,11,by decide,rfl⟩
 clear csu hg gq hlp hPS V
 rintro a V ⟨⟨cA,hlp,hPS⟩,hal,h2,h4,h6⟩
 rw[if_pos cA]at hq
 -- the taxes
 obtain⟨dt,hdt,cta⟩:=cta A hA
 have hcs:=hcs cA
 generalize taxF pctF p w s A t.taxes []=tx at*
 obtain⟨cs,te⟩:=tx
 dsimp only at hq hcs hdt cta hcl
 have cts:=PTSum_x (n:=n) hdt (by omega) hcs (by omega)
 unfold sumR at cts
 have hC:=sm_pos (cs.map (·.2)) λx hx=>by obtain⟨y,hy,rfl⟩:=Vq.1 hx;exact hcs y hy
 generalize sm (cs.map (·.2))=C at*
 have cad:=PAdd_x (n:=n) A C hA hC (by omega)
 unfold sumR at cad
 rw[show sm [A,C]=A+C by rw[sm,sm,sm];omega]at cad
 have gj:=hPS.j
 have gq:=hPS.q
 have hd1:=Yv hdt
 rw[hjv]at gj
 refine Za (λa W=>(te=0/\LQ 2 Xa W dp ps/\PrS S jv l W [.os (S.length+2) 0 l.length false,dp,dt,.int .i64 A,.int .i64 0])/\gQ a 92 (a[6]?=some (.loc (S.length+3) 0 0)) [(4,.loc (S.length+1) 0 0)]) ?_ ?_
 ·have hP2:=hPS.set [.os (S.length+2) 0 l.length false,dp,dt,.int .i64 A,.int .i64 0]
  have hl2:=hlp.keepz (set_keepz (o:=.row 5 [[.os (S.length+2) 0 l.length false,dp,dt,.int .i64 A,.int .i64 0]]) gq (by decide))
  have go:=hP2.o
  have hgo:=Uf (a:=Ob.row 5 [[.nils,.nils,.nils,.int .i64 0,.int .i64 0]]) (Jo go)
  by_cases c:te=0
  ·subst c
   rcases hdt with ⟨rfl,-⟩ | ⟨x2,rfl⟩
   all_goals
    simp only[push_cast,Vp,hal,h2,h4,h6,gj,gq,csg,cta,↓WX,simprocAttr,WY]
    exact⟨hl2,hP2⟩
  ·rw[if_neg c]at hq
   subst hq
   rcases hdt with ⟨rfl,-⟩ | ⟨x2,rfl⟩
   all_goals
    simp only[push_cast,Vo,hal,h2,h4,h6,gj,gq,go,hgo,csg,cta,c,Tryz.f31,↓WX,simprocAttr,WY]
    exact⟨hP2.fin _,te,c,rfl⟩
 clear gj gq hlp hPS V
 rintro a V ⟨⟨rfl,hlp,hPS⟩,hal,h4,h6⟩
 rw[if_pos rfl]at hq
 have gq:=hPS.q
 have go:=hPS.o
 have hgo:=Uf (a:=Ob.row 5 [[.nils,.nils,.nils,.int .i64 0,.int .i64 0]]) (Jo go)
 by_cases c2:C<=1099511627776
 case neg=>
  rw[if_neg (by omega)]at hq
  subst hq
  rw[if_neg c2]at cts
  dsimp only at cts
  simp only[push_cast,Vo,hal,h4,h6,gq,go,hgo,cts,Tryz.f31,↓WX,simprocAttr]
  exact⟨hPS.fin _,11,by decide,rfl⟩
 rw[if_pos c2]at cts
 dsimp only at cts
 refine Ya (λa W=>W=V/\gQ a 92 (a[11]?=some (.int .i64 C)) [(4,.loc (S.length+1) 0 0),(6,.loc (S.length+3) 0 0),(7,.int .i64 0)]) ?_ ?_
 ·simp only[push_cast,hal,h4,h6,gq,cts,↓WX,simprocAttr]
 rintro a W ⟨rfl,hal,h4,h6,h7,h11⟩
 refine Ya (λa V=>V=W/\gQ a 92 (a[11]?=some (.int .i64 C)) [(4,.loc (S.length+1) 0 0),(6,.loc (S.length+3) 0 0)]) ?_ ?_
 ·simp only[push_cast,Vp,hal,h4,h6,h7,h11,↓WX,simprocAttr]
 rintro a V ⟨rfl,hal,h4,h6,h11⟩
 by_cases c3:A+C<=1099511627776
 case neg=>
  rw[if_neg c3]at hq
  subst hq
  rw[if_neg c3]at cad
  dsimp only at cad
  have hP2:=hPS.set [.os (S.length+2) 0 l.length false,dp,dt,.int .i64 A,.int .i64 0]
  have go:=hP2.o
  have hgo:=Uf (a:=Ob.row 5 [[.nils,.nils,.nils,.int .i64 0,.int .i64 0]]) (Jo go)
  simp only[push_cast,Vo,hal,h4,h6,h11,gq,go,hgo,cad,Tryz.f31,↓WX,simprocAttr]
  exact⟨hP2.fin _,11,by decide,rfl⟩
 rw[if_pos c3]at cad hq
 dsimp only at cad
 subst hq
 have hP2:=hPS.set [.os (S.length+2) 0 l.length false,dp,dt,.int .i64 A,.int .i64 (A+C)]
 have hl2:=hlp.keepz (set_keepz (o:=.row 5 [[.os (S.length+2) 0 l.length false,dp,dt,.int .i64 A,.int .i64 (A+C)]]) gq (by decide))
 have go:=hP2.o
 have gq2:=hP2.q
 have hgo:=Uf (a:=Ob.row 5 [[.os (S.length+2) 0 l.length false,dp,dt,.int .i64 A,.int .i64 (A+C)]]) (Jo go)
 have hp1:=hlp.one
 simp only[D.one]at hd1 hp1
 have hl3:=hl2.keepz (set_keepz (o:=.row 5 [[.os (S.length+2) 0 l.length false,dp,dt,.int .i64 A,.int .i64 (A+C)]]) go (by decide))
 have hfn:=hP2.fin (.row 5 [[.os (S.length+2) 0 l.length false,dp,dt,.int .i64 A,.int .i64 (A+C)]])
 have hpp:=set_keepz (o:=.row 5 [[.os (S.length+2) 0 l.length false,dp,dt,.int .i64 A,.int .i64 (A+C)]]) go (show 5≠4 by decide) _ _ hP2.p
 simp only[push_cast,Vp,hal,h4,h6,h11,gq,gq2,go,hgo,cad,hd1,hp1,Tryz.f31,↓WX,simprocAttr]
 exact⟨hfn,_,_,_,rfl,by omega,hpp,hl3,hdt⟩
end
end Go.Proofs.YtaklebjoenophaaGreat.Dm
