/-
  The search for the cheapest price: its state, and whether a component is worth a try.
-/
import Derived.Test.YtaklebjoenophaaGreatPrX
set_option maxHeartbeats 64000000
set_option maxRecDepth 100000
set_option linter.unusedSimpArgs false
set_option linter.unusedVariables false
namespace Go.Proofs.YtaklebjoenophaaGreat.Dm
open Go Gw
def seaR (p:Plc) (t:Trf) (w:List Wnt) (wx:Bool) (s:ByteArray) (sale:Int) (ko kl:Nat) (dp:D) (sum:Int) (c0 c1 c2:D) (c3 c4:Int) (fd:Bool):List D:=
 [.sl 5 (p.aps.map Apt.enc) p.apsx,.sl 3 (p.dts.map Dst.enc) p.dtsx,.sl 9 (t.fares.map Far.enc) t.fx,.sl 15 (t.rules.map Rul.enc) t.rx,.sl 3 (t.rous.map Rou.enc) t.ox,.sl 7 (t.taxes.map Tx.enc) t.tx,.sl 8 (w.map Wnt.enc) wx,.str s,.int .i64 sale,.os ko 0 w.length false,.os kl 0 (w.length+1) false,dp,.int .i64 sum,c0,c1,c2,.int .i64 c3,.int .i64 c4,.bool fd]
def PtsO (N:Nat) (T:List Ob) (dp:D) (l:List Prt):Prop:=(dp=.nils/\l=[])∨∃k es,dp=.os k 0 l.length false/\N<=k/\T[k]?=some (.row 4 (l.map Prt.enc++es))
theorem PtsO.lr {N:Nat} {T:List Ob} {dp:D} {l:List Prt} (h:PtsO N T dp l):LR 4 Prt.enc T dp l:=
 h.elim .inl λ⟨k,es,h,_,g⟩=>.inr (.inr ⟨k,es,h,λ_=>get_old g⟩)
theorem PtsO.nsl {N:Nat} {T:List Ob} {dp:D} {l:List Prt} (h:PtsO N T dp l):∀x,dp≠.sl 4 [] x:=λx e=>by
 rcases h with ⟨h,-⟩ | ⟨k,es,h,-⟩ <;> rw[h]at e <;> cases e
def BstO (N:Nat) (T:List Ob) (dp c0 c1 c2:D) (c3 c4:Int) (fd:Bool):Option Quo->Prop
 |none=>fd=false/\c0=.nils/\c1=.nils/\c2=.nils
 |some q=>fd=true/\c3=q.fare/\c4=q.total/\∃k,c0=.os k 0 q.parts.length false/\N<=k/\(∀k' n,dp=.os k' 0 n false->k'≠k)/\T[k]?=some (.row 4 (q.parts.map Prt.enc))/\LQ 2 encPr T c1 q.pairs/\FLs 2 encCh c2 q.taxes
structure Sea (p:Plc) (t:Trf) (w:List Wnt) (wx:Bool) (s:ByteArray) (sale:Int) (ko kl:Nat) (T0:List Ob) (kS:Nat) (T:List Ob) (dp:D) (l:List Prt) (sum:Int) (c0 c1 c2:D) (c3 c4:Int) (fd:Bool) (b:Option Quo):Prop where
 ks:∃r,T0[kS]?=some (.row 19 r)
 kp:∀k o,k≠kS->T0[k]?=some o->T[k]?=some o
 ln:T0.length<=T.length
 row:T[kS]?=some (.row 19 [seaR p t w wx s sale ko kl dp sum c0 c1 c2 c3 c4 fd])
 pts:PtsO T0.length T dp l
 bst:BstO T0.length T dp c0 c1 c2 c3 c4 fd b
theorem wc_condT {E:Env} {call:Call} {n:Nat} {x y:Code} {a:List D} {S:List Ob} {Q:PostX} {k:Nat} (h:a[k]?=some (.bool true)) (g:WC (codeD E call n x a S) Q):WC (codeD E call n (.cond (.tmp k) x y) a S) Q:=by
 rw[wc_cond]
 show pickQ ((a[k]?).getD .undef) _ _
 rw[h]
 exact⟨λ_=>g,λh=>by cases h⟩
theorem appS {N:Nat} {T:List Ob} {dp:D} {l:List Prt} (h:PtsO N T dp l) (hN:N<=T.length) (hl:l.length<=90000) (x:Prt):
  ∃k' T',dAppend Tryz.prog T 37 37 dp (.sl 4 [x.enc] true)=some (.os k' 0 (l.length+1) false,T')/\PtsO N T' (.os k' 0 (l.length+1) false) (l++[x])/\T.length<=T'.length/\(k'=T.length∨∃n,dp=.os k' 0 n false)/\(∀k o,(∀n,dp=.os k 0 n false->False)->T[k]?=some o->T'[k]?=some o):=by
 have hll:(l++[x]).length=l.length+1:=by rw[Yd];rfl
 have ap:∀ {d:D},GL 4 Prt.enc T d l->_:=λ{d} g=>app_gl (t:=37) (e:=79) (z:=.agg [.int .i64 0,.int .i64 0,.int .i64 0,.int .i64 0]) (n:=3) elP szP zePart rfl byP g (by omega:l.length<=100000) x
 have fin:∀ {d:D},GL 4 Prt.enc T d l->∃k' T',dAppend Tryz.prog T 37 37 d (.sl 4 [x.enc] true)=some (.os k' 0 (l.length+1) false,T')/\PtsO N T' (.os k' 0 (l.length+1) false) (l++[x])/\T.length<=T'.length/\(k'=T.length∨∃n,d=.os k' 0 n false)/\(∀k o,(∀n,d=.os k 0 n false->False)->T[k]?=some o->T'[k]?=some o):=λ{d} g=>by
  obtain⟨S',a1,a2,a3,a4,-⟩:=ap g
  refine⟨_,S',a1,?_,by omega,.inl rfl,a4⟩
  rcases a2 with ⟨h,-⟩ | ⟨k,h,hk⟩
  ·cases h
  ·obtain⟨rfl,-⟩:=D.os.inj h
   exact .inr ⟨_,[],by rw[hll],hN,by rw[Za];exact hk⟩
 rcases h with ⟨rfl,rfl⟩ | ⟨k,es,rfl,hk,g⟩
 ·exact fin GL.nil
 ·cases es with
  |nil=>
   rw[Za]at g
   exact fin (.inr ⟨k,rfl,g⟩)
  |cons y ys=>
   have e1:srcOf T (3+1) (.os k 0 l.length false)=some (l.map Prt.enc):=LR.src (.inr (.inr ⟨k,y::ys,rfl,λ_=>get_old g⟩))
   have e2:srcOf T (3+1) (.sl 4 [x.enc] true)=some [x.enc]:=rfl
   have hz:(D.agg [.int .i64 0,.int .i64 0,.int .i64 0,.int .i64 0]).cells.length=3+1:=rfl
   have hmx:(l.length+1<=maxLen)=True:=le_maxP (by omega)
   have hb:(l.length+1)*bytesT Tryz.prog 79<=140737488355328:=Zu (Nat.mul_le_mul (show l.length+1<=100000 by omega) byP) (by decide)
   have f1:(l.length=(l.map Prt.enc++y::ys).length)=False:=eq_false (by rw[Yd,Yz,Zd];omega)
   have f2:(l.length+1<=(l.map Prt.enc++y::ys).length)=True:=eq_true (by rw[Yd,Yz,Zd];omega)
   have f3:(l.map Prt.enc++y::ys).take l.length++[x.enc]++(l.map Prt.enc++y::ys).drop (l.length+1)=(l++[x]).map Prt.enc++ys:=by
    rw[List.take_left' (by rw[Yz]),List.drop_append,Yz,List.drop_of_length_le (by rw[Yz];omega),Nat.add_sub_cancel_left,List.map_append]
    rfl
   refine⟨k,T.set k (.row 4 ((l++[x]).map Prt.enc++ys)),?_,.inr ⟨k,ys,by rw[hll],hk,Yo (lt_of_some g)⟩,by rw[Zg];exact Yt _,.inr ⟨_,rfl⟩,λj o hd hj=>?_⟩
   ·rw[<-f3]
    generalize l.map Prt.enc++y::ys=es at*
    simp only[dAppend,elP,szP,zePart,hz,e1,e2,g,Yz,Zd,Xa,Nat.zero_add,hmx,hb,f1,f2,and_self,Nat.one_ne_zero,↓reduceIte]
   ·rw[Yc (λe=>by subst e;exact hd _ rfl)]
    exact hj
theorem appC {S:List Ob} {d:D} {J:List Ob} {l:List Prt} (h:(l=[]/\J=[]/\(d=.nils∨d=.sl 4 [] true))∨(l≠[]/\d=.os S.length 0 l.length false/\J=[.row 4 (l.map Prt.enc)])) (hl:l.length<=90000) (x:Prt):
  ∃S2,dAppend Tryz.prog (S++J) 37 37 d (.sl 4 [x.enc] true)=some (.os (S++J).length 0 (l.length+1) false,S2)/\ExtS S S2/\S2[(S++J).length]?=some (.row 4 ((l++[x]).map Prt.enc)):=by
 rcases h with ⟨rfl,rfl,rfl |rfl⟩ | ⟨h0,rfl,rfl⟩
 ·obtain⟨S',a1,a2,a3,a4,-⟩:=app_gl (t:=37) (e:=79) (z:=.agg [.int .i64 0,.int .i64 0,.int .i64 0,.int .i64 0]) (n:=3) elP szP zePart rfl byP (GL.nil (S:=S++[])) (by show 0<=100000;omega) x
  refine⟨S',a1,λk o ho=>a4 k o (λn h=>by cases h) (by rw[Za];exact ho),?_⟩
  rcases a2 with ⟨h,-⟩ | ⟨k,h,hk⟩
  ·cases h
  ·obtain⟨rfl,-⟩:=D.os.inj h
   exact hk
 ·have:=appP (S:=S++[]) (x:=.sl 4 [x.enc] true) (r:=[x.enc]) rfl (by simp) (by simp)
  exact⟨_,this,λk o ho=>get_old (get_old ho),get_end⟩
 ·obtain⟨S',a1,a2,a3,a4,-⟩:=app_gl (t:=37) (e:=79) (z:=.agg [.int .i64 0,.int .i64 0,.int .i64 0,.int .i64 0]) (n:=3) elP szP zePart rfl byP (show GL 4 Prt.enc (S++[.row 4 (l.map Prt.enc)]) (.os S.length 0 l.length false) l from .inr ⟨_,rfl,get_end⟩) (by omega:l.length<=100000) x
  refine⟨S',a1,λk o ho=>a4 k o (λn h=>?_) (get_old ho),?_⟩
  ·obtain⟨rfl,-⟩:=D.os.inj h
   exact absurd (lt_of_some ho) (Zv _)
  ·rcases a2 with ⟨h,-⟩ | ⟨k,h,hk⟩
   ·cases h
   ·obtain⟨rfl,-⟩:=D.os.inj h
    exact hk
section
variable {n : Nat}
theorem PBetterO {S:List Ob} {ku kv:Nat} {x1 x2 y1 y2:D} {u v:Quo} (hu:S[ku]?=some (.row 4 (u.parts.map Prt.enc))) (hv:S[kv]?=some (.row 4 (v.parts.map Prt.enc))) (o1:x1.one=true) (o2:x2.one=true) (o3:y1.one=true) (o4:y2.one=true) (hl:u.parts.length<=100000) (hn:100010<=n):∀st,callD E (dcall E n) st S 15 [.agg [.os ku 0 u.parts.length false,x1,x2,.int .i64 u.fare,.int .i64 u.total],.agg [.os kv 0 v.parts.length false,y1,y2,.int .i64 v.fare,.int .i64 v.total]]=some (.bool (betterF u v),S):=by
 obtain⟨m,rfl⟩:∃m,n=m+1:=⟨n-1,by omega⟩
 obtain⟨du,hdu⟩:∃du,du=D.os ku 0 u.parts.length false:=⟨_,rfl⟩
 obtain⟨dv,hdv⟩:∃dv,dv=D.os kv 0 v.parts.length false:=⟨_,rfl⟩
 simp only[D.one]at o1 o2 o3 o4
 obtain⟨ra,hra⟩:∃r:List D,r=[.os ku 0 u.parts.length false,x1,x2,.int .i64 u.fare,.int .i64 u.total]:=⟨_,rfl⟩
 obtain⟨rb,hrb⟩:∃r:List D,r=[.os kv 0 v.parts.length false,y1,y2,.int .i64 v.fare,.int .i64 v.total]:=⟨_,rfl⟩
 have:WO (dcall E (m+1) 15 [.agg [.os ku 0 u.parts.length false,x1,x2,.int .i64 u.fare,.int .i64 u.total],.agg [.os kv 0 v.parts.length false,y1,y2,.int .i64 v.fare,.int .i64 v.total]] S) λr T=>r=.bool (betterF u v)/\∃J,T=S++J:=by
  refine wo_dcall Tryz.func15 rfl (by decide) rfl 68 rfl (λa hal ha=>?_)
  have h0:a[0]?=some (.agg [.os ku 0 u.parts.length false,x1,x2,.int .i64 u.fare,.int .i64 u.total]):=ha 0 (by simp)
  have h1:a[1]?=some (.agg [.os kv 0 v.parts.length false,y1,y2,.int .i64 v.fare,.int .i64 v.total]):=ha 1 (by simp)
  clear ha
  refine wc_scut (λa V=>V=S++[.row 5 [ra]]++[.row 5 [rb]]/\a.length=68/\a[2]?=some (.loc S.length 0 0)/\a[3]?=some (.loc (S.length+1) 0 0)) ?_ ?_
  ·simp(maxSteps:=1000000)(disch:=omega)only[push_cast,hal,h0,h1,hra,hrb,o1,o2,o3,o4,Yd,Zd,↓WX,simprocAttr]
  clear hal h0 h1 a
  rintro a V ⟨hV,hal,h2,h3⟩
  have hSV:∃J,V=S++J:=⟨[.row 5 [ra],.row 5 [rb]],by rw[hV];simp⟩
  have ga:V[S.length]?=some (.row 5 [ra]):=by rw[hV];exact end0
  have gb:V[S.length+1]?=some (.row 5 [rb]):=by rw[hV];exact end1
  have gu:V[ku]?=some (.row 4 (u.parts.map Prt.enc)):=by rw[hV];exact get_old (get_old hu)
  have gv:V[kv]?=some (.row 4 (v.parts.map Prt.enc)):=by rw[hV];exact get_old (get_old hv)
  rw[hra]at ga
  rw[hrb]at gb
  clear hV
  by_cases c1:u.total=v.total
  case neg=>
   have d1:decide (u.total=v.total)=false:=Ym c1
   simp(maxSteps:=1000000)(disch:=omega)only[push_cast,decide_not,hal,h2,h3,ga,gb,d1,Bool.not_false,Tryz.f15,↓WX,simprocAttr]
   refine⟨?_,hSV⟩
   unfold betterF
   rw[if_neg c1]
  have d1:decide (u.total=v.total)=true:=Yn c1
  by_cases c2:u.parts.length=v.parts.length
  case neg=>
   have d2:decide ((u.parts.length:Int)=v.parts.length)=false:=Ym (by omega)
   simp(maxSteps:=1000000)(disch:=omega)only[push_cast,decide_not,hal,h2,h3,ga,gb,d1,d2,Bool.not_false,Bool.not_true,Tryz.f15,↓WX,simprocAttr]
   refine⟨?_,hSV⟩
   unfold betterF
   rw[if_pos c1,if_neg c2]
  have d2:decide ((u.parts.length:Int)=v.parts.length)=true:=Yn (by omega)
  have e0:betterF u v=ltP u.parts v.parts:=by unfold betterF;rw[if_pos c1,if_pos c2]
  simp(maxSteps:=1000000)(disch:=omega)only[push_cast,decide_not,hal,h2,h3,ga,gb,d1,d2,Bool.not_true,↓WX,simprocAttr]
  refine wl_loop (λi a T=>((∃X,T=V++X)/\betterF u v=ltP (u.parts.drop i) (v.parts.drop i))/\a.length=68/\a[3]?=some (.loc (S.length+1) 0 0)/\a[35]?=some (.os ku 0 u.parts.length false)/\a[36]?=some (.int .i64 u.parts.length)/\a[37]?=some (.int .i64 i)) u.parts.length ?_ (by omega) ?_
  ·simp(maxSteps:=1000000)(disch:=omega)only[push_cast,hal,h3,Int.natCast_zero,simprocAttr]
   exact⟨⟨[],(Za _).symm⟩,e0⟩
  clear hal h2 h3 a
  rintro i a T hi ⟨⟨⟨X,rfl⟩,e⟩,hal,h3,h35,h36,h37⟩
  obtain⟨J,rfl⟩:=hSV
  have hJX:∀K,∃J',(S++J)++X++K=S++J':=λK=>⟨J++X++K,by simp⟩
  rcases Yf hi with hlt |rfl
  case inr=>
   simp(maxSteps:=1000000)(disch:=omega)only[push_cast,hal,h36,h37,Int.lt_irrefl,Tryz.f15,↓WX,simprocAttr]
   refine⟨?_,by have:=hJX [];rwa [Za]at this⟩
   rw[e,List.drop_of_length_le (Yt _)]
   unfold ltP
   rfl
  have hltc:(i:Int)<u.parts.length:=by omega
  have hltv:i<v.parts.length:=by omega
  obtain⟨x,hx⟩:∃x,u.parts[i]?=some x:=⟨u.parts[i],by simp⟩
  obtain⟨y,hy⟩:∃y,v.parts[i]?=some y:=⟨v.parts[i],by simp⟩
  rw[ltP_drop hx hy]at e
  have gu:=get_old (J:=X) gu
  have gv:=get_old (J:=X) gv
  have gb:=get_old (J:=X) gb
  have hXV:∀K,∃X',(S++J)++X++K=(S++J)++X':=λK=>⟨X++K,by simp⟩
  generalize (S++J)++X=V at*
  have hi1:(0<=(i:Int))=True:=eq_true (by omega)
  have hltvc:((i:Int)<v.parts.length)=True:=eq_true (by omega)
  refine wc_scut (λa T=>T=V/\a.length=68/\a[3]?=some (.loc (S.length+1) 0 0)/\a[35]?=some (.os ku 0 u.parts.length false)/\a[36]?=some (.int .i64 u.parts.length)/\a[37]?=some (.int .i64 i)/\a[38]?=some (.bool true)) ?_ ?_
  ·simp(maxSteps:=1000000)(disch:=omega)only[push_cast,hal,h3,h35,h36,h37,hltc,↓WX,simprocAttr]
  clear hal h3 h35 h36 h37 a
  rintro a T ⟨rfl,hal,h3,h35,h36,h37,h38⟩
  refine wc_scut (λa V=>V=T/\a.length=68/\a[3]?=some (.loc (S.length+1) 0 0)/\a[35]?=some (.os ku 0 u.parts.length false)/\a[36]?=some (.int .i64 u.parts.length)/\a[37]?=some (.int .i64 i)) ?_ ?_
  ·simp(maxSteps:=1000000)(disch:=omega)only[push_cast,hal,h3,h35,h36,h37,h38,↓WX]
  clear hal h3 h35 h36 h37 h38 a
  rintro a V ⟨rfl,hal,h3,h35,h36,h37⟩
  rw[wc_seq,wc_block]
  refine wc_scut (λa T=>T=V++[.row 4 [[.int .i64 x.fr,.int .i64 x.to,.int .i64 x.fa,.int .i64 x.am]]]/\a.length=68/\a[3]?=some (.loc (S.length+1) 0 0)/\a[5]?=some (.int .i64 i)/\a[6]?=some (.loc V.length 0 0)/\a[35]?=some (.os ku 0 u.parts.length false)/\a[36]?=some (.int .i64 u.parts.length)/\a[37]?=some (.int .i64 i)) ?_ ?_
  ·simp(maxSteps:=1000000)(disch:=omega)only[push_cast,hal,h3,h35,h36,h37,gu,hlt,hx,set_end,get_end,Prt.enc,↓WX,simprocAttr]
  clear hal h3 h35 h36 h37 a
  rintro a T ⟨rfl,hal,h3,h5,h6,h35,h36,h37⟩
  have gx:(V++[Ob.row 4 [[.int .i64 x.fr,.int .i64 x.to,.int .i64 x.fa,.int .i64 x.am]]]++[Ob.row 4 [[.int .i64 y.fr,.int .i64 y.to,.int .i64 y.fa,.int .i64 y.am]]])[V.length]?=some (.row 4 [[.int .i64 x.fr,.int .i64 x.to,.int .i64 x.fa,.int .i64 x.am]]):=end0
  have gy:(V++[Ob.row 4 [[.int .i64 x.fr,.int .i64 x.to,.int .i64 x.fa,.int .i64 x.am]]]++[Ob.row 4 [[.int .i64 y.fr,.int .i64 y.to,.int .i64 y.fa,.int .i64 y.am]]])[V.length+1]?=some (.row 4 [[.int .i64 y.fr,.int .i64 y.to,.int .i64 y.fa,.int .i64 y.am]]):=end1
  have gv1:=get_old (J:=[Ob.row 4 [[.int .i64 x.fr,.int .i64 x.to,.int .i64 x.fa,.int .i64 x.am]]]) gv
  have gb1:=get_old (J:=[Ob.row 4 [[.int .i64 x.fr,.int .i64 x.to,.int .i64 x.fa,.int .i64 x.am]]]) gb
  refine wc_scut (λa T=>T=V++[.row 4 [[.int .i64 x.fr,.int .i64 x.to,.int .i64 x.fa,.int .i64 x.am]]]++[.row 4 [[.int .i64 y.fr,.int .i64 y.to,.int .i64 y.fa,.int .i64 y.am]]]/\a.length=68/\a[3]?=some (.loc (S.length+1) 0 0)/\a[6]?=some (.loc V.length 0 0)/\a[7]?=some (.loc (V.length+1) 0 0)/\a[35]?=some (.os ku 0 u.parts.length false)/\a[36]?=some (.int .i64 u.parts.length)/\a[37]?=some (.int .i64 i)) ?_ ?_
  ·simp(maxSteps:=1000000)(disch:=omega)only[push_cast,hal,h3,h5,h6,h35,h36,h37,gv1,gb1,hi1,hltvc,hy,end1s,end1,Yd,Zd,Prt.enc,↓WX,simprocAttr]
  clear hal h3 h5 h6 h35 h36 h37 a
  rintro a T ⟨hT,hal,h3,h6,h7,h35,h36,h37⟩
  rw[<-hT]at gx gy
  have hTS:∃J',T=S++J':=by obtain⟨K,hK⟩:=hJX [Ob.row 4 [[.int .i64 x.fr,.int .i64 x.to,.int .i64 x.fa,.int .i64 x.am]],Ob.row 4 [[.int .i64 y.fr,.int .i64 y.to,.int .i64 y.fa,.int .i64 y.am]]];exact⟨K,by rw[hT,<-hK];simp⟩
  have hTX:∃X',T=S++J++X':=by obtain⟨K,hK⟩:=hXV [Ob.row 4 [[.int .i64 x.fr,.int .i64 x.to,.int .i64 x.fa,.int .i64 x.am]],Ob.row 4 [[.int .i64 y.fr,.int .i64 y.to,.int .i64 y.fa,.int .i64 y.am]]];exact⟨K,by rw[hT,<-hK];simp⟩
  clear hT
  by_cases q1:x.to=y.to
  case neg=>
   rw[if_neg q1]at e
   have p1:decide (x.to=y.to)=false:=Ym q1
   simp(maxSteps:=1000000)(disch:=omega)only[push_cast,decide_not,hal,h6,h7,gx,gy,p1,Bool.not_false,Tryz.f15,↓WX,simprocAttr]
   exact⟨by rw[e],hTS⟩
  rw[if_pos q1]at e
  have p1:decide (x.to=y.to)=true:=Yn q1
  by_cases q2:x.fa=y.fa
  case neg=>
   rw[if_neg q2]at e
   have p2:decide (x.fa=y.fa)=false:=Ym q2
   simp(maxSteps:=1000000)(disch:=omega)only[push_cast,decide_not,hal,h6,h7,gx,gy,p1,p2,Bool.not_false,Bool.not_true,Tryz.f15,↓WX,simprocAttr]
   exact⟨by rw[e],hTS⟩
  rw[if_pos q2]at e
  have p2:decide (x.fa=y.fa)=true:=Yn q2
  simp(maxSteps:=1000000)(disch:=omega)only[push_cast,decide_not,hal,h3,h6,h7,h35,h36,h37,gx,gy,p1,p2,hlt,Bool.not_true,wrap_ok,Int.natCast_add,Int.natCast_one,↓WX,simprocAttr]
  exact⟨hTX,e⟩
 obtain⟨_,T,ho,rfl,J,rfl⟩:=this
 exact λst=>callD_obsJ rfl (by simp only[pureL_cons,pureL_nil,D.pure,Bool.false_and]) ho rfl
def lsI:Option Int->Int
 |none=> -1
 |some r=>r
theorem Pworth_x {W:Nat->Nat->Int->Int} {A:Nat->Nat->Int->Int×Int} {p:Plc} {t:Trf} (ht:TrG t) {w:List Wnt} {wx:Bool} {s:ByteArray} {sale:Int} {ko kl:Nat} {T0:List Ob} {kS:Nat} {T:List Ob} {dp:D} {l:List Prt} {sum:Int} {c0 c1 c2:D} {c3 c4:Int} {fd:Bool} {b:Option Quo}
  (h:Sea p t w wx s sale ko kl T0 kS T dp l sum c0 c1 c2 c3 c4 fd b) (hw:w.length<=900) (hl:l.length<=899) {Ls:List Int} (hkl:T0[kl]?=some (.row 1 (Ls.map encZ))) (hLl:Ls.length=w.length+1) (hLs:∀i,i<=w.length->Ls[i]?=some (lsI ((srcF W A pctF p t w s).least i))) (hLb:∀i r,i<=w.length->(srcF W A pctF p t w s).least i=some r->0<=r/\r<=1125899906842624) (hsum:0<=sum/\sum<=1099511627776)
  (x:Prt) (hx0:0<=x.to) (hx1:x.to<=w.length) (hxa:0<=x.am/\x.am<=1099511627776) (hn:2000000<=n):∀st,callD E (dcall E n) st T 54 [.loc kS 0 0,.agg x.enc]=some (.bool ((srcF W A pctF p t w s).wrt l sum b x),T):=by
 obtain⟨m,rfl⟩:∃m,n=m+1:=⟨n-1,by omega⟩
 have hgk:kl≠kS:=by
  rintro rfl
  obtain⟨r,hr⟩:=h.ks
  rw[hkl]at hr
  have:=(Ob.row.inj (Yi hr)).1
  omega
 have gl:=h.kp _ _ hgk hkl
 have gS:=h.row
 unfold seaR at gS
 have hy:=lr_len Tryz.underlying37 h.pts.lr
 simp only[push_cast]at hy
 have hll:(l++[x]).length=l.length+1:=by rw[Yd];rfl
 have cmx:=λ{V:List Ob} {d:D} (g:LR 4 Prt.enc V d (l++[x]))=>PMixed_x (n:=m) t g (by rw[hll];omega) ht.rl ht.cb (by omega)
 have hLx:=hLs x.to.toNat (by omega)
 have hLbx:=λr=>hLb x.to.toNat r (by omega)
 obtain⟨q,hq⟩:∃q,q=(srcF W A pctF p t w s).wrt l sum b x:=⟨_,rfl⟩
 rw[<-hq]
 unfold Srch.wrt at hq
 rw[show (srcF W A pctF p t w s).mix (l++[x])=decide (mixedF t (l++[x])=0) from rfl,show (srcF W A pctF p t w s).n=w.length from rfl]at hq
 generalize (srcF W A pctF p t w s).least x.to.toNat=ls at*
 obtain⟨one,hone⟩:∃one,one=(if x.to<(w.length:Int) then 1 else 0):=⟨_,rfl⟩
 rw[<-hone]at hq
 have hx0':(0<=x.to)=True:=eq_true hx0
 have hx1':(x.to<(w.length:Int)+1)=True:=eq_true (by omega)
 have hx2':x.to.toNat<Ls.length:=by omega
 have ccl:=λ(V:List Ob) (g:ExtS T V)=>CloneP (n:=m) (h.pts.lr.ext g) h.pts.nsl (by omega) (by omega)
 have:WO (dcall E (m+1) 54 [.loc kS 0 0,.agg x.enc] T) λr U=>r=.bool q/\∃J,U=T++J:=by
  simp only[Prt.enc,Trf.enc]at cmx ⊢
  refine wo_dcall Tryz.func54 rfl (by decide) rfl 101 rfl (λa hal ha=>?_)
  have h0:a[0]?=some (.loc kS 0 0):=ha 0 (by simp)
  have h1:a[1]?=some (.agg [.int .i64 x.fr,.int .i64 x.to,.int .i64 x.fa,.int .i64 x.am]):=ha 1 (by simp)
  clear ha
  refine wc_scut (λa V=>V=T++[.row 4 [[.int .i64 x.fr,.int .i64 x.to,.int .i64 x.fa,.int .i64 x.am]]]/\a.length=101/\a[0]?=some (.loc kS 0 0)/\a[3]?=some (.loc T.length 0 0)) ?_ ?_
  ·simp(maxSteps:=1000000)(disch:=omega)only[push_cast,hal,h0,h1,↓WX,simprocAttr]
  clear hal h0 h1 a
  rintro a V ⟨hV,hal,h0,h3⟩
  have hTV:ExtS T V:=by rw[hV];exact extS_app
  have hVJ:∃J,V=T++J:=⟨_,hV⟩
  have gS:=hTV _ _ gS
  have gl:=hTV _ _ gl
  have gx:V[T.length]?=some (.row 4 [[.int .i64 x.fr,.int .i64 x.to,.int .i64 x.fa,.int .i64 x.am]]):=by rw[hV];exact get_end
  clear hV
  refine wc_scut (λa U=>U=V/\a.length=101/\a[0]?=some (.loc kS 0 0)/\a[3]?=some (.loc T.length 0 0)/\a[5]?=some (.int .i64 (lsI ls))) ?_ ?_
  ·simp(maxSteps:=1000000)(disch:=omega)only[push_cast,hal,h0,h3,gS,gl,gx,hx0',hx1',hLx,encZ,↓WX,simprocAttr]
  clear hal h0 h3 a
  rintro a U ⟨rfl,hal,h0,h3,h5⟩
  cases ls with
  |none=>
   have hq:q=false:=hq
   subst hq
   have hm1:lsI none= -1:=rfl
   simp(maxSteps:=1000000)(disch:=omega)only[push_cast,hal,h5,hm1,decide_true,Tryz.f54,↓WX,simprocAttr]
   exact hVJ
  |some r=>
   have hr:=hLbx r rfl
   dsimp only at hq
   have hm1:lsI (some r)=r:=rfl
   rw[hm1]at h5
   have hr1:(r= -1)=False:=eq_false (by omega)
   have hw1:IntKind.i64.wrap (sum+x.am)=sum+x.am:=wrap_ok (by omega) (by omega)
   have hw2:IntKind.i64.wrap (sum+x.am+r)=sum+x.am+r:=wrap_ok (by omega) (by omega)
   by_cases k1:sum+x.am+r>1099511627776
   ·rw[if_pos k1]at hq
    subst hq
    have k1':(sum+x.am+r>1099511627776)=True:=eq_true k1
    simp(maxSteps:=1000000)(disch:=omega)only[push_cast,Zx,hal,h0,h3,h5,gS,gx,hr1,hw1,hw2,k1',decide_false,decide_true,Tryz.f54,↓WX,simprocAttr]
    exact hVJ
   rw[if_neg k1]at hq
   have k1':(sum+x.am+r>1099511627776)=False:=eq_false k1
   refine wc_scut (λa V=>V=U/\a.length=101/\a[0]?=some (.loc kS 0 0)/\a[3]?=some (.loc T.length 0 0)/\a[5]?=some (.int .i64 r)) ?_ ?_
   ·simp(maxSteps:=1000000)(disch:=omega)only[push_cast,Zx,hal,h0,h3,h5,gS,gx,hr1,hw1,hw2,k1',decide_false,↓WX,simprocAttr]
   clear hal h0 h3 h5 a
   rintro a V ⟨rfl,hal,h0,h3,h5⟩
   obtain⟨q2,hq2⟩:∃q2,q2=decide (mixedF t (l++[x])=0):=⟨_,rfl⟩
   rw[<-hq2]at hq
   refine wc_rcut (λa U=>(U=V/\q=q2)/\a.length=101/\a[0]?=some (.loc kS 0 0)/\a[3]?=some (.loc T.length 0 0)) ?_ ?_
   ·cases b with
    |none=>
     obtain⟨rfl,-⟩:=h.bst
     have hq:q=q2:=by rw[hq];rfl
     simp(maxSteps:=1000000)(disch:=omega)only[push_cast,hal,h0,h3,gS,false_and,or_false,true_and,↓WX,simprocAttr]
     exact hq
    |some c=>
     obtain⟨rfl,rfl,rfl,kb,rfl,-,-,gb,-⟩:=h.bst
     dsimp only at hq
     have hyV:=hy V
     refine wc_scut (λa U=>U=V/\a.length=101/\a[0]?=some (.loc kS 0 0)/\a[3]?=some (.loc T.length 0 0)/\a[5]?=some (.int .i64 r)/\a[33]?=some (.bool true)) ?_ ?_
     ·simp(maxSteps:=1000000)(disch:=omega)only[push_cast,hal,h0,h3,h5,gS,↓WX,simprocAttr]
     clear hal h0 h3 h5 a
     rintro a U ⟨rfl,hal,h0,h3,h5,h33⟩
     refine wc_condT h33 ?_
     refine wc_scut (λa V=>V=U/\a.length=101/\a[0]?=some (.loc kS 0 0)/\a[3]?=some (.loc T.length 0 0)/\a[5]?=some (.int .i64 r)/\a[6]?=some (.int .i64 ((l.length:Int)+1))) ?_ ?_
     ·simp(maxSteps:=1000000)(disch:=omega)only[push_cast,hal,h0,h3,h5,gS,hyV,wrap_ok,↓WX,simprocAttr]
     clear hal h0 h3 h5 h33 a
     rintro a V ⟨rfl,hal,h0,h3,h5,h6⟩
     clear hyV
     obtain⟨K,hK⟩:∃K:Int,K=((l.length+1+one:Nat):Int):=⟨_,rfl⟩
     refine wc_scut (λa U=>U=V/\a.length=101/\a[0]?=some (.loc kS 0 0)/\a[3]?=some (.loc T.length 0 0)/\a[5]?=some (.int .i64 r)/\a[6]?=some (.int .i64 K)) ?_ ?_
     ·by_cases c1:x.to<(w.length:Int)
      ·rw[if_pos c1]at hone
       have hK1:K=(l.length:Int)+1+1:=by rw[hK,hone];push_cast<;>rfl
       have c1':(x.to<(w.length:Int))=True:=eq_true c1
       subst hK1
       simp(maxSteps:=1000000)(disch:=omega)only[push_cast,hal,h0,h3,h5,h6,gS,gx,c1',wrap_ok,↓WX,simprocAttr]
      ·rw[if_neg c1]at hone
       have hK1:K=(l.length:Int)+1:=by rw[hK,hone];push_cast<;>rfl
       have c1':(x.to<(w.length:Int))=False:=eq_false c1
       subst hK1
       simp(maxSteps:=1000000)(disch:=omega)only[push_cast,hal,h0,h3,h5,h6,gS,gx,c1',↓WX,simprocAttr]
     clear hal h0 h3 h5 h6 a
     rintro a U ⟨rfl,hal,h0,h3,h5,h6⟩
     refine wc_scut (λa V=>V=U/\a.length=101/\a[0]?=some (.loc kS 0 0)/\a[3]?=some (.loc T.length 0 0)/\a[6]?=some (.int .i64 K)/\a[7]?=some (.int .i64 (sum+x.am+r))) ?_ ?_
     ·simp(maxSteps:=1000000)(disch:=omega)only[push_cast,hal,h0,h3,h5,h6,gS,gx,hw1,hw2,↓WX,simprocAttr]
     clear hal h0 h3 h5 h6 a
     rintro a V ⟨rfl,hal,h0,h3,h6,h7⟩
     generalize sum+x.am+r=z at*
     by_cases e1:z>c.fare
     ·rw[if_pos e1]at hq
      have e1':(z>c.fare)=True:=eq_true e1
      have hq:q=false:=by rw[hq];rfl
      subst hq
      simp(maxSteps:=1000000)(disch:=omega)only[push_cast,Zx,hal,h0,h3,h7,gS,e1',decide_true,false_and,false_or,true_and,Tryz.f54,↓WX,simprocAttr]
      exact hVJ
     rw[if_neg e1]at hq
     have e1':(z>c.fare)=False:=eq_false e1
     by_cases e2:z=c.fare
     ·by_cases e3:l.length+1+one>=c.parts.length
      ·rw[if_pos ⟨e2,e3⟩]at hq
       have hq:q=false:=by rw[hq];rfl
       subst hq
       have e3':(K>=(c.parts.length:Int))=True:=eq_true (by omega)
       subst e2
       simp(maxSteps:=1000000)(disch:=omega)only[push_cast,Zx,hal,h0,h3,h6,h7,gS,e1',e3',decide_true,decide_false,false_and,false_or,true_and,Tryz.f54,↓WX,simprocAttr]
       exact hVJ
      ·rw[if_neg (λh=>e3 h.2)]at hq
       have hq:q=q2:=by rw[hq];rfl
       have e3':(K>=(c.parts.length:Int))=False:=eq_false (by omega)
       subst e2
       simp(maxSteps:=1000000)(disch:=omega)only[push_cast,Zx,hal,h0,h3,h6,h7,gS,e1',e3',decide_true,decide_false,false_and,or_false,true_and,↓WX,simprocAttr]
       exact hq
     ·rw[if_neg (λh=>e2 h.1)]at hq
      have hq:q=q2:=by rw[hq];rfl
      have e2':(z=c.fare)=False:=eq_false e2
      simp(maxSteps:=1000000)(disch:=omega)only[push_cast,Zx,hal,h0,h3,h7,gS,e1',e2',decide_false,false_and,or_false,true_and,↓WX,simprocAttr]
      exact hq
   clear hal h0 h3 h5 a
   rintro a U ⟨⟨rfl,rfl⟩,hal,h0,h3⟩
   obtain⟨d',J,ccl,hd'⟩:=ccl U hTV
   obtain⟨S2,a1,a2,a3⟩:=appC hd' (by omega) x
   have cmx:=cmx (V:=S2) (d:=.os (U++J).length 0 (l.length+1) false) (.inr (.inr ⟨_,[],by rw[hll],λ_=>by rw[Za];exact get_old a3⟩))
   have gSJ:=get_old (J:=J) gS
   have gxJ:=get_old (J:=J) gx
   have gS2:=a2 _ _ gS
   have gx2:=a2 _ _ gx
   simp only[Prt.enc]at a1
   obtain⟨KJ,hKJ⟩:=extS_pre a2
   obtain⟨TJ,hTJ⟩:=hVJ
   refine wc_scut (λa X=>(∃J,X=T++J)/\a.length=101/\a[4]?=some (.bool q)) ?_ ?_
   ·rw[wc_plan (p:=steps [0,1,2,3,5,6,7,8,10,11] (.both (steps [4,9,12,13,14,15] .done) (steps [9] (.both (steps [4,12,13,14,15] .done) (steps [12,4,13,14,15] .done))))) rfl]
    rw[wp_pick rfl]
    simp only[opsOf,Yw,Zb,Yk,Yl,Yh]
    simp(maxSteps:=1000000)(disch:=omega)only[push_cast,hal,h0,h3,gS,gx,↓WX,simprocAttr]
    apply wp_both
    ·rw[wp_pick rfl]
     simp only[opsOf,Yw,Zb,Yk,Yl,Yh]
     simp(maxSteps:=1000000)(disch:=omega)only[push_cast,hal,gS,ccl,a1,cmx,wp_done,↓set_sorti,id_eq,↓WX,simprocAttr]
     exact⟨rfl,rfl⟩
    ·rw[wp_pick rfl]
     simp only[opsOf,Yw,Zb,Yk,Yl,Yh]
     simp(maxSteps:=1000000)(disch:=omega)only[push_cast,hal,ccl,↓set_sorti,id_eq,↓WX,simprocAttr]
     apply wp_both
     ·rw[wp_pick rfl]
      simp only[opsOf,Yw,Zb,Yk,Yl,Yh]
      simp(maxSteps:=1000000)(disch:=omega)only[push_cast,hal,gSJ,a1,cmx,wp_done,↓set_sorti,id_eq,↓WX,simprocAttr]
      exact⟨rfl,rfl⟩
     ·rw[wp_pick rfl]
      simp only[opsOf,Yw,Zb,Yk,Yl,Yh]
      simp(maxSteps:=1000000)(disch:=omega)only[push_cast,hal,gS2,a1,cmx,wp_done,↓set_sorti,id_eq,↓WX,simprocAttr]
     ·exact⟨rfl,rfl⟩
    simp(maxSteps:=1000000)(disch:=omega)only[push_cast,hal,simprocAttr]
    exact⟨⟨_,by rw[hKJ,hTJ,Zp]⟩,by rw[hq2]⟩
   clear hal h0 h3 a
   rintro a X ⟨hX,hal,h4⟩
   simp(maxSteps:=1000000)(disch:=omega)only[push_cast,Int.reduceNeg,h4,Tryz.f54,↓WX]
   exact hX
 obtain⟨_,V,ho,rfl,J,rfl⟩:=this
 exact λst=>callD_obsJ rfl rfl ho rfl
end
end Go.Proofs.YtaklebjoenophaaGreat.Dm
