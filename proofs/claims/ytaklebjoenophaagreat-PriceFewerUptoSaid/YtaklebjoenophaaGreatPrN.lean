/-
  Components of a journey that have fares and that cover it, the rules and the days of components: the program, exactly.
-/
import Derived.Test.YtaklebjoenophaaGreatPrM
set_option maxHeartbeats 64000000
set_option maxRecDepth 100000
set_option linter.unusedSimpArgs false
set_option linter.unusedVariables false
namespace Go.Proofs.YtaklebjoenophaaGreat.Dm
open Go Gw
theorem at_app {α:Type} {S J:List α} {R:α}:(S++R::J)[S.length]?=some R:=by simp
def LR {α:Type} (sz:Nat) (enc:α->List D) (S:List Ob) (d:D) (l:List α):Prop:=(d=.nils/\l=[])∨(∃x,d=.sl sz (l.map enc) x/\∀J:List Ob,(J++S)[(J++S).length]?=none)∨∃k es,d=.os k 0 l.length false/\∀J,(S++J)[k]?=some (.row sz (l.map enc++es))
section
variable {α : Type} {sz : Nat} {enc : α -> List D} {S T : List Ob} {d : D} {l : List α}
theorem apl {i:Nat} {x:α} (h:l[i]?=some x) (es:List (List D)):(l.map enc++es)[i]?=some (enc x):=by
 have:=(Ya.1 h).1
 rw[Zc (by rw[Yz];exact this),Zm,h]
 rfl
theorem FLs.lr (h:FLs sz enc d l):LR sz enc S d l:=h.elim .inl λ⟨x,h⟩=>.inr (.inl ⟨x,h,λ_=>List.getElem?_eq_none (Yt _)⟩)
theorem GL.lr (h:GL sz enc S d l):LR sz enc S d l:=h.elim .inl λ⟨k,h,g⟩=>.inr (.inr ⟨k,[],h,λ_=>by rw[Za];exact get_old g⟩)
theorem LR.ext (h:LR sz enc S d l) (g:ExtS S T):LR sz enc T d l:=by
 rcases h with h | ⟨x,h,-⟩ | ⟨k,es,h,hk⟩
 ·exact .inl h
 ·exact FLs.lr (.inr ⟨x,h⟩)
 ·exact .inr (.inr ⟨k,es,h,λJ=>get_old (g _ _ (by have:=hk [];rwa [Za]at this))⟩)
theorem lr_len {t e:TypeId} (ht:Tryz.prog.underlying t=some (.slice e)) (h:LR sz enc S d l) (T:List Ob):dLen Tryz.prog T t d=some (.int .i64 l.length):=by
 unfold dLen
 rw[ht]
 rcases h with ⟨rfl,rfl⟩ | ⟨x,rfl,-⟩ | ⟨k,es,rfl,-⟩
 ·rfl
 ·dsimp only
  rw[Yz]
 ·rfl
theorem LR.one (h:LR sz enc S d l):d.one=true:=by
 rcases h with ⟨rfl,-⟩ | ⟨x,rfl,-⟩ | ⟨k,es,rfl,-⟩ <;> rfl
theorem LR.pure0 (h:LR sz enc S d l) (hp:d.pure=true):FLs sz enc d l:=by
 rcases h with h | ⟨x,h,-⟩ | ⟨k,es,rfl,-⟩
 ·exact .inl h
 ·exact .inr ⟨x,h⟩
 ·cases hp
theorem obs_r {n:Nat} {f:FuncId} {A:D->List D} {v:D} (hm:E.mode f=.obs) (hp:pureLL (l.map enc)=true) (hv:v.pure=true) (hA:∀d,d.pure=true->pureL (A d)=true) (hB:∀k n,pureL (A (.os k 0 n false))=false) (h:∀S,LR sz enc S d l->WO (dcall E n f (A d) S) λr T=>r=v/\∃J,T=S++J) (hl:LR sz enc S d l):∀st,callD E (dcall E n) st S f (A d)=some (v,S):=by
 intro st
 rcases hl with h0 | ⟨x,h0,h1⟩ | ⟨k,es,h0,h1⟩
 ·obtain⟨_,_,ho,rfl,J,rfl⟩:=h [] (.inl h0)
  exact callD_obsP hm (hA _ (by rw[h0.1];rfl)) ho (freeze_pure hv)
 ·obtain⟨_,_,ho,rfl,J,rfl⟩:=h [] (FLs.lr (.inr ⟨x,h0⟩))
  exact callD_obsP hm (hA _ (by rw[h0];simp only[D.pure,hp])) ho (freeze_pure hv)
 ·obtain⟨_,_,ho,rfl,J,rfl⟩:=h S (.inr (.inr ⟨k,es,h0,h1⟩))
  exact callD_obsJ hm (by rw[h0];exact hB _ _) ho hv
end
section
variable {n : Nat}
theorem Ppriced_d {S:List Ob} (t:Trf) {d:D} {l:List Prt} (h:LR 4 Prt.enc S d l) (hl:l.length<=1000) (hn:2000<=n):WO (dcall E (n+1) 128 [.agg t.enc,d] S) λr T=>r=.bool (l.all (knoF t))/\∃J,T=S++J:=by
 have hy:=lr_len Tryz.underlying37 h
 simp only[push_cast]at hy
 obtain⟨q,hq⟩:∃q,q=l.all (knoF t):=⟨_,rfl⟩
 rw[<-hq]
 obtain⟨R0,hR0⟩:∃R0,R0=Ob.row 4 [t.enc]:=⟨_,rfl⟩
 simp only[Trf.enc]at hR0 ⊢
 refine wo_dcall Tryz.func128 rfl (by decide) rfl 25 rfl (λa hal ha=>?_)
 have h0:a[0]?=some _:=ha 0 (by simp)
 have h1:a[1]?=some _:=ha 1 (by simp)
 clear ha
 refine wc_scut (λa V=>(∃J,V=S++R0::J)/\a.length=25/\a[1]?=some (d)/\a[2]?=some (.loc S.length 0 0)) ?_ ?_
 ·simp only[push_cast,hal,h0,h1,hR0,↓WX,simprocAttr]
  exact⟨[],rfl⟩
 rintro a V ⟨hV,hal,h1,h2⟩
 refine wc_rcut (λa T=>(q=true/\∃J,T=S++J)/\a.length=25) ?_ ?_
 ·simp only[push_cast,hal,h1,hy,↓WX,simprocAttr]
  refine wl_loop (λi a T=>((∃J,T=S++R0::J)/\q=(l.drop i).all (knoF t))/\a.length=25/\a[2]?=some (.loc S.length 0 0)/\a[7]?=some (d)/\a[8]?=some (.int .i64 l.length)/\a[9]?=some (.int .i64 i)) l.length ?_ (by omega) ?_
  ·simp only[push_cast,hal,h2,simprocAttr,WY]
   exact⟨hV,hq⟩
  clear hq hV
  rintro i a T hi ⟨⟨⟨J,rfl⟩,e⟩,hal,h2,h7,h8,h9⟩
  rcases Yf hi with hlt |rfl
  case inr=>
   rw[Zt,List.all_nil]at e
   simp only[push_cast,hal,h8,h9,↓WX,simprocAttr,WY]
   exact⟨e,_,rfl⟩
  have hltc:(i:Int)<l.length:=by omega
  obtain⟨x,hx⟩:∃x,l[i]?=some x:=⟨l[i],by simp⟩
  rw[drop_at hx,List.all_cons]at e
  unfold knoF at e
  refine wc_scut (λa V=>V=S++R0::J/\a.length=25/\a[2]?=some (.loc S.length 0 0)/\a[7]?=some (d)/\a[8]?=some (.int .i64 l.length)/\a[9]?=some (.int .i64 i)/\a[10]?=some (.bool true)) ?_ ?_
  ·simp only[push_cast,hal,h2,h7,h8,h9,hltc,↓WX,simprocAttr]
  rintro a V ⟨rfl,hal,h2,h7,h8,h9,h10⟩
  refine wc_scut (λa V=>V=S++R0::J/\a.length=25/\a[2]?=some (.loc S.length 0 0)/\a[7]?=some (d)/\a[8]?=some (.int .i64 l.length)/\a[9]?=some (.int .i64 i)) ?_ ?_
  ·simp only[push_cast,hal,h2,h7,h8,h9,h10,↓WX]
  rintro a V ⟨rfl,hal,h2,h7,h8,h9⟩
  rw[wc_seq,wc_block]
  refine wc_scut (λa W=>(∃kx,a[6]?=some (.loc kx 0 0)/\W[kx]?=some (.row 4 [[.int .i64 x.fr,.int .i64 x.to,.int .i64 x.fa,.int .i64 x.am]])/\∃J,W=S++R0::J)/\a.length=25/\a[2]?=some (.loc S.length 0 0)/\a[7]?=some (d)/\a[8]?=some (.int .i64 l.length)/\a[9]?=some (.int .i64 i)) ?_ ?_
  ·have hap:=apl (enc:=Prt.enc) hx
   rcases h with ⟨-,rfl⟩ | ⟨lx,rfl,hk⟩ | ⟨kk,es,rfl,hk⟩
   ·cases hx
   case' inr.inr=>have hk:=hk (R0::J)
   all_goals
    simp only[push_cast,hal,h2,h7,h8,h9,hap,hk,hlt,hx,set_end,get_end,Prt.enc,↓WX,simprocAttr]
    exact⟨_,rfl,get_end,_,Zp ..⟩
  rintro a W ⟨⟨kx,h6,gx,J',rfl⟩,hal,h2,h7,h8,h9⟩
  have gR:(S++R0::J')[S.length]?=some (Ob.row 4 [[.sl 9 (t.fares.map Far.enc) t.fx,.sl 15 (t.rules.map Rul.enc) t.rx,.sl 3 (t.rous.map Rou.enc) t.ox,.sl 7 (t.taxes.map Tx.enc) t.tx]]):=at_app.trans (congrArg some hR0)
  have hXR:∃J,S++R0::J'=S++R0::J:=⟨_,rfl⟩
  have hXJ:∃J,S++R0::J'=S++J:=⟨_,rfl⟩
  generalize S++R0::J'=W at*
  by_cases c1:x.fa<0
  ·simp only[Yn c1,Bool.true_or,WY]at e
   subst e
   simp only[push_cast,hal,h6,gx,c1,Tryz.f128,↓WX,simprocAttr,WY]
   exact hXJ
  by_cases c2:x.fa>=t.fares.length
  ·simp only[Yn c2,Bool.or_true,WY]at e
   subst e
   have c2':((t.fares.length:Int)<=x.fa)=True:=eq_true c2
   simp only[push_cast,hal,h2,h6,gx,gR,c1,c2',Tryz.f128,↓WX,simprocAttr,WY]
   exact hXJ
  ·simp only[Ym c1,Ym c2,Bool.or_false,WY]at e
   have c2':((t.fares.length:Int)<=x.fa)=False:=eq_false c2
   simp(maxSteps:=1000000)(disch:=omega)only[push_cast,hal,h2,h6,h7,h8,h9,gx,gR,hlt,c1,c2',wrap_ok,Int.natCast_add,Int.natCast_one,true_and,↓WX,simprocAttr]
   exact⟨hXR,e⟩
 rintro a T ⟨⟨rfl,hJ⟩,hal⟩
 simp only[push_cast,hal,Tryz.f128,↓WX,simprocAttr]
 exact hJ
theorem Ppriced_x {S:List Ob} (t:Trf) {d:D} {l:List Prt} (h:LR 4 Prt.enc S d l) (hl:l.length<=1000) (hn:2001<=n):∀st,callD E (dcall E n) st S 128 [.agg t.enc,d]=some (.bool (l.all (knoF t)),S):=by
 obtain⟨m,rfl⟩:∃m,n=m+1:=⟨n-1,by omega⟩
 exact obs_r (A:=λd=>[.agg t.enc,d]) rfl (Prts_pure l) rfl (λd hd=>by simp only[pureL_cons,pureL_nil,D.pure,Trf_pure,hd,Yj]) (λk n=>by simp only[pureL_cons,pureL_nil,D.pure,Bool.and_false,WY]) (λS h=>Ppriced_d t h hl (by omega)) h
def whoF (l:List Prt) (k:Int):Bool:=match whF l 0 with |some z=>decide ((l.length:Int)>0) && decide (z=k) |none=>false
theorem Pcovers_d {S:List Ob} {d:D} {l:List Prt} (h:LR 4 Prt.enc S d l) (hl:l.length<=1000) (k:Int) (hn:2000<=n):WO (dcall E (n+1) 70 [d,.int .i64 k] S) λr T=>r=.bool (whoF l k)/\∃J,T=S++J:=by
 have hy:=lr_len Tryz.underlying37 h
 simp only[push_cast]at hy
 obtain⟨q,hq⟩:∃q,q=whF l 0:=⟨_,rfl⟩
 unfold whoF
 rw[<-hq]
 refine wo_dcall Tryz.func70 rfl (by decide) rfl 36 rfl (λa hal ha=>?_)
 have h0:a[0]?=some _:=ha 0 (by simp)
 have h1:a[1]?=some _:=ha 1 (by simp)
 clear ha
 refine wc_scut (λa V=>V=S/\a.length=36/\a[0]?=some (d)/\a[1]?=some (.int .i64 k)) ?_ ?_
 ·simp only[push_cast,hal,h0,h1,↓WX,simprocAttr]
 rintro a V ⟨rfl,hal,h0,h1⟩
 refine wc_scut (λa W=>W=V/\a.length=36/\a[0]?=some (d)/\a[1]?=some (.int .i64 k)/\a[5]?=some (.int .i64 0)) ?_ ?_
 ·simp only[push_cast,hal,h0,h1,↓WX,simprocAttr]
 rintro a W ⟨rfl,hal,h0,h1,h5⟩
 refine wc_rcut (λa T=>(∃z:Int,q=some z/\a[5]?=some (.int .i64 z)/\∃J,T=W++J)/\a.length=36/\a[0]?=some (d)/\a[1]?=some (.int .i64 k)) ?_ ?_
 ·simp only[push_cast,Zx,hal,h0,hy,↓WX,simprocAttr]
  refine wl_loop (λi a T=>((∃J,T=W++J)/\∃z:Int,a[5]?=some (.int .i64 z)/\q=whF (l.drop i) z)/\a.length=36/\a[0]?=some (d)/\a[1]?=some (.int .i64 k)/\a[8]?=some (d)/\a[9]?=some (.int .i64 l.length)/\a[10]?=some (.int .i64 i)) l.length ?_ (by omega) ?_
  ·simp only[push_cast,hal,h0,h1,h5,simprocAttr,WY]
   exact⟨⟨[],(Za _).symm⟩,0,rfl,hq⟩
  clear hq
  rintro i a T hi ⟨⟨⟨J,rfl⟩,z,h5,e⟩,hal,h0,h1,h8,h9,h10⟩
  rcases Yf hi with hlt |rfl
  case inr=>
   rw[Zt,whF]at e
   simp only[push_cast,hal,h0,h1,h5,h9,h10,↓WX,simprocAttr,WY]
   exact⟨z,e,rfl,_,rfl⟩
  have hltc:(i:Int)<l.length:=by omega
  obtain⟨x,hx⟩:∃x,l[i]?=some x:=⟨l[i],by simp⟩
  rw[drop_at hx,whF]at e
  refine wc_scut (λa V=>V=W++J/\a.length=36/\a[0]?=some (d)/\a[1]?=some (.int .i64 k)/\a[5]?=some (.int .i64 z)/\a[8]?=some (d)/\a[9]?=some (.int .i64 l.length)/\a[10]?=some (.int .i64 i)/\a[11]?=some (.bool true)) ?_ ?_
  ·simp only[push_cast,hal,h0,h1,h5,h8,h9,h10,hltc,↓WX,simprocAttr]
  rintro a V ⟨rfl,hal,h0,h1,h5,h8,h9,h10,h11⟩
  refine wc_scut (λa V=>V=W++J/\a.length=36/\a[0]?=some (d)/\a[1]?=some (.int .i64 k)/\a[5]?=some (.int .i64 z)/\a[8]?=some (d)/\a[9]?=some (.int .i64 l.length)/\a[10]?=some (.int .i64 i)) ?_ ?_
  ·simp only[push_cast,hal,h0,h1,h5,h8,h9,h10,h11,↓WX]
  rintro a V ⟨rfl,hal,h0,h1,h5,h8,h9,h10⟩
  rw[wc_seq,wc_block]
  refine wc_scut (λa V=>(∃kx,a[7]?=some (.loc kx 0 0)/\V[kx]?=some (.row 4 [[.int .i64 x.fr,.int .i64 x.to,.int .i64 x.fa,.int .i64 x.am]])/\∃J,V=W++J)/\a.length=36/\a[0]?=some (d)/\a[1]?=some (.int .i64 k)/\a[5]?=some (.int .i64 z)/\a[8]?=some (d)/\a[9]?=some (.int .i64 l.length)/\a[10]?=some (.int .i64 i)) ?_ ?_
  ·have hap:=apl (enc:=Prt.enc) hx
   rcases h with ⟨-,rfl⟩ | ⟨lx,rfl,hk⟩ | ⟨kk,es,rfl,hk⟩
   ·cases hx
   case' inr.inr=>have hk:=hk J
   all_goals
    simp only[push_cast,hal,h0,h1,h5,h8,h9,h10,hap,hk,hlt,hx,set_end,get_end,Prt.enc,↓WX,simprocAttr]
    exact⟨_,rfl,get_end,_,Zp ..⟩
  rintro a V ⟨⟨kx,h7,gx,J',rfl⟩,hal,h0,h1,h5,h8,h9,h10⟩
  have hXJ:∃J,W++J'=W++J:=⟨_,rfl⟩
  generalize W++J'=V at*
  by_cases c1:x.fr=z
  case neg=>
   simp only[Ym c1,Bool.true_or,if_true,WY]at e
   subst e
   simp only[push_cast,hal,h0,h1,h5,h7,gx,c1,Tryz.f70,↓WX,simprocAttr,WY]
   exact hXJ
  by_cases c2:x.to<=z
  ·simp only[Yn c1,Yn c2,Bool.false_or,if_true,WY]at e
   subst e
   have c3:x.to<=x.fr:=by omega
   simp only[push_cast,hal,h0,h1,h5,h7,gx,c1,c2,Tryz.f70,↓WX,simprocAttr,WY]
   exact hXJ
  ·simp only[Yn c1,Ym c2,Bool.or_false,Yr,if_false,WY]at e
   have c3:¬x.to<=x.fr:=by omega
   simp(maxSteps:=1000000)(disch:=omega)only[push_cast,not_true_eq_false,hal,h0,h1,h5,h7,h8,h9,h10,gx,hlt,c1,c2,wrap_ok,Int.natCast_add,Int.natCast_one,true_and,↓WX,simprocAttr]
   exact⟨hXJ,_,rfl,e⟩
 rintro a T ⟨⟨z,rfl,h5,hJ⟩,hal,h0,h1⟩
 have hyT:=hy T
 by_cases c1:(0:Int)<l.length
 ·simp only[push_cast,Zx,hal,h0,h1,h5,hyT,c1,Tryz.f70,↓WX,simprocAttr,WY]
  exact hJ
 ·simp only[push_cast,Zx,hal,h0,hyT,c1,Tryz.f70,↓WX,simprocAttr,WY]
  exact hJ
theorem Pcovers_x {S:List Ob} {d:D} {l:List Prt} (h:LR 4 Prt.enc S d l) (hl:l.length<=1000) (k:Int) (hn:2001<=n):∀st,callD E (dcall E n) st S 70 [d,.int .i64 k]=some (.bool (whoF l k),S):=by
 obtain⟨m,rfl⟩:∃m,n=m+1:=⟨n-1,by omega⟩
 exact obs_r (A:=λd=>[d,.int .i64 k]) rfl (Prts_pure l) rfl (λd hd=>by simp only[pureL_cons,pureL_nil,D.pure,hd,Yj]) (λk n=>by simp only[pureL_cons,pureL_nil,D.pure,WY]) (λS h=>Pcovers_d h hl k (by omega)) h
def bckF (a b:Far):Bool:=b.rnd && (decide (a.car=b.car) && (decide (a.frm=b.dst) && decide (a.dst=b.frm)))
theorem Pback_x (u v:Far) (hn:1<=n):∀st S,callD E (dcall E n) st S 129 [.agg u.enc,.agg v.enc]=some (.bool (bckF u v),S):=by
 obtain⟨m,rfl⟩:∃m,n=m+1:=⟨n-1,by omega⟩
 have:WO (dcall E (m+1) 129 [.agg u.enc,.agg v.enc] []) λr T=>r=.bool (bckF u v):=by
  simp only[Far.enc]
  unfold bckF
  refine wo_dcall Tryz.func129 rfl (by decide) rfl 28 rfl (λa hal ha=>?_)
  have h0:a[0]?=some _:=ha 0 (by simp)
  have h1:a[1]?=some _:=ha 1 (by simp)
  clear ha
  cases e0:v.rnd
  ·simp only[push_cast,hal,h0,h1,e0,Tryz.f129,↓WX,simprocAttr,WY]
  cases e1:decide (u.car=v.car)
  ·simp only[push_cast,hal,h0,h1,e0,e1,str_eq,Tryz.f129,↓WX,simprocAttr,WY]
  cases e2:decide (u.frm=v.dst)
  ·simp only[push_cast,hal,h0,h1,e0,e1,e2,str_eq,Tryz.f129,↓WX,simprocAttr,WY]
  ·simp only[push_cast,hal,h0,h1,e0,e1,e2,str_eq,Tryz.f129,↓WX,simprocAttr,WY]
 obtain⟨_,T,ho,rfl⟩:=this
 exact λst S=>callD_pure rfl (by simp only[pureL_cons,pureL_nil,D.pure,Far_pure,Yj]) ho rfl
theorem PruleOf_x (t:Trf) (x:Prt) (hx:knoF t x=true) (hr:t.rules.length<=1048576) (hn:1048590<=n):∀st S,callD E (dcall E n) st S 131 [.agg t.enc,.agg x.enc]=some (rulD (rulF t x),S):=by
 obtain⟨m,rfl⟩:∃m,n=m+1:=⟨n-1,by omega⟩
 have hp:pureL [.agg t.enc,.agg x.enc]=true:=by simp only[pureL_cons,pureL_nil,D.pure,Trf_pure,Prt_pure,Yj]
 obtain⟨fx1,fx2,fx3⟩:=knoF_far hx
 have fx1':(0<=x.fa)=True:=eq_true fx1
 have hru:=PRule_x (n:=m) (t.fares.map Far.enc) (t.rous.map Rou.enc) (t.taxes.map Tx.enc) t.fx t.ox t.tx t.rules t.rx (Fars_pure _) (Rous_pure _) (Txs_pure _) hr (by omega) (farF t x).rul
 unfold rulF
 generalize farF t x=f at*
 generalize t.rules.find? (λr=>decide (r.num=f.rul))=o at*
 generalize o.isSome=b at hru
 have hpo:=rulD_pure o
 obtain⟨y1,y2,y3,y4,y5,y6,y7,y8,y9,y10,y11,y12,y13,y14,hy,⟨r1,r2,r3,r4,r5,r6,r7⟩,r8,r9,r10,r11,r12,r13,r14⟩:=rul_lit o
 rw[hy]at hru hpo ⊢
 simp only[D.one]at r1 r2 r3 r4 r5 r6 r7 r8 r9 r10 r11 r12 r13 r14
 simp only[Trf.enc,Prt.enc]at hp hru ⊢
 have:WO (dcall E (m+1) 131 [.agg [.sl 9 (t.fares.map Far.enc) t.fx,.sl 15 (t.rules.map Rul.enc) t.rx,.sl 3 (t.rous.map Rou.enc) t.ox,.sl 7 (t.taxes.map Tx.enc) t.tx],.agg [.int .i64 x.fr,.int .i64 x.to,.int .i64 x.fa,.int .i64 x.am]] []) λr T=>r=.agg [.int .i64 (numF o),y1,y2,y3,y4,y5,y6,y7,y8,y9,y10,y11,y12,y13,y14]:=by
  refine wo_dcall Tryz.func131 rfl (by decide) rfl 20 rfl (λa hal ha=>?_)
  have h0:a[0]?=some _:=ha 0 (by simp)
  have h1:a[1]?=some _:=ha 1 (by simp)
  clear ha
  simp only[push_cast,hal,h0,h1,fx1',fx3,hru,Far.enc,r1,r2,r3,r4,r5,r6,r7,r8,r9,r10,r11,r12,r13,r14,Tryz.f131,↓WX,simprocAttr]
 obtain⟨_,T,ho,rfl⟩:=this
 exact λst S=>callD_pure rfl hp ho (freeze_pure hpo)
end
end Go.Proofs.YtaklebjoenophaaGreat.Dm
