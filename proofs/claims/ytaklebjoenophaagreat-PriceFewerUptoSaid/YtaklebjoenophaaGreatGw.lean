/-
  Words for stores that grow, for lists of violations, for loops of a few rounds, and for results that are texts.
  Lists of any plain elements that grow, wherever they lie.
  Lists of single cells that grow and shrink at their end, in a row that may be longer; calls that look at the caller's store alone.
  Configurations, identifiers of legs, and calls as plain data.
  The inventory of seats as plain data: configurations, what is left in a class, calls.
  The inventory of seats as plain data: what calls keep, and that exactly what is left can be sold.
  The machine at codes of airports, countries and carriers, at decimals below 100, and at lists of violations that are compared: the program's and the reference's.
-/
import Derived.Test.YtaklebjoenophaaGreatWq
set_option maxHeartbeats 64000000
set_option maxRecDepth 100000
set_option linter.unusedSimpArgs false
set_option linter.unusedVariables false
namespace Go.Proofs.YtaklebjoenophaaGreat.Dm.Gw
open Go
/-! A loop of a few rounds, round by round. -/
/-! Lists and stores. -/
theorem set_end {α:Type} {l:List α} {x y:α}:(l++[x]).set l.length y=l++[y]:=by simp
theorem get_end {α:Type} {l:List α} {x:α}:(l++[x])[l.length]?=some x:=by simp
theorem get_end' {α:Type} {l:List α} {i:Nat} {x y:α}:(l.set i y++[x])[l.length]?=some x:=by
 have:(l.set i y).length=l.length:=by simp
 rw[<-this];exact get_end
theorem get_old {S J:List Ob} {k:Nat} {o:Ob} (h:S[k]?=some o):(S++J)[k]?=some o:=by
 rw[Zc ((Ya.1 h).1)];exact h
theorem drop_at {α:Type} {l:List α} {i:Nat} {x:α} (h:l[i]?=some x):l.drop i=x::l.drop (i+1):=by
 obtain⟨hl,hx⟩:=Ya.1 h
 rw[<-hx]
 exact List.drop_eq_getElem_cons hl
theorem callD_own {call:Call} {S:List Ob} {f:FuncId} {args:List D} (hm:E.mode f=.pure) (hp:pureL args=false):callD E call false S f args=call f args S:=by
 unfold callD
 rw[hm]
 dsimp only
 rw[if_neg (by rw[hp];simp),if_neg (by simp)]
def ExtS (S T:List Ob):Prop:=∀(k:Nat) (x:Ob),S[k]?=some x->T[k]?=some x
theorem ExtS.push {S T:List Ob} (h:ExtS S T) (x:Ob):ExtS S (T++[x]):=λk y hy=>get_old (h k y hy)
theorem ExtS.refl {S:List Ob}:ExtS S S:=λ_ _ h=>h
theorem ExtS.trans {S T U:List Ob} (h:ExtS S T) (g:ExtS T U):ExtS S U:=λk y hy=>g k y (h k y hy)
/-! Results that are texts. -/
def strOf:Option (D×List Ob)->Option ByteArray
 |some (.str s,_)=>some s
 |_=>none
def sameS (a b:Option ByteArray):Bool:=
 match a,b with
 |some x,some y=>decide (x=y)
 |_,_=>false
theorem sameS_spec {a b:Option ByteArray} (h:sameS a b=true):∃s,a=some s/\b=some s:=by
 unfold sameS at h
 split at h
 ·simp only[Yy]at h;subst h;exact⟨_,rfl,rfl⟩
 ·cases h
theorem strOf_spec {o:Option (D×List Ob)} {s:ByteArray} (h:strOf o=some s):∃T,o=some (.str s,T):=by
 unfold strOf at h
 split at h
 ·cases h;exact⟨_,rfl⟩
 ·cases h
theorem ba_eq {a b:ByteArray} (h:(a.toList == b.toList)=true):a=b:=by
 rw[beq_iff_eq,ByteArray.toList_eq,ByteArray.toList_eq]at h
 cases a;cases b
 simpa using h
/-! Lists of violations. -/
def encF (f:Int×ByteArray):List D:=[.int .i64 f.1,.str f.2]
def FV (S:List Ob) (d:D) (fs:List (Int×ByteArray)):Prop:=
 (d=.nils/\fs=[])∨(∃x,d=.sl 2 (fs.map encF) x)∨∃k,d=.os k 0 fs.length false/\S[k]?=some (.row 2 (fs.map encF))
theorem encF_pure (fs:List (Int×ByteArray)):pureLL (fs.map encF)=true:=by
 induction fs with
 |nil=>rfl
 |cons f fs ih=>rw[Zh,pureLL_cons,ih];rfl
theorem FV.frozen {T S:List Ob} {d:D} {fs:List (Int×ByteArray)} (h:FV T d fs):∃d',freeze T 40 d=some d'/\FV S d' fs:=by
 rcases h with ⟨rfl,rfl⟩ | ⟨x,rfl⟩ | ⟨k,rfl,hk⟩
 ·exact⟨_,rfl,.inl ⟨rfl,rfl⟩⟩
 ·exact⟨_,freeze_pure (encF_pure fs),.inr (.inl ⟨x,rfl⟩)⟩
 ·have:=freeze_os (n:=38) (x:=false) hk (encF_pure fs)
  rw[Yz]at this
  exact⟨_,this,.inr (.inl ⟨_,rfl⟩)⟩
def GV (S:List Ob) (d:D) (fs:List (Int×ByteArray)):Prop:=
 (d=.nils/\fs=[])∨∃k,d=.os k 0 fs.length false/\S[k]?=some (.row 2 (fs.map encF))
theorem GV.fv {S:List Ob} {d:D} {fs:List (Int×ByteArray)} (h:GV S d fs):FV S d fs:=by
 rcases h with ⟨h1,h2⟩ | ⟨k,h1,h2⟩
 ·exact .inl ⟨h1,h2⟩
 ·exact .inr (.inr ⟨k,h1,h2⟩)
theorem GV.push {S:List Ob} {d:D} {fs:List (Int×ByteArray)} (h:GV S d fs) (o:Ob):GV (S++[o]) d fs:=by
 rcases h with ⟨h1,h2⟩ | ⟨k,h1,h2⟩
 ·exact .inl ⟨h1,h2⟩
 ·exact .inr ⟨k,h1,get_old h2⟩
theorem GV.ext {S T:List Ob} {d:D} {fs:List (Int×ByteArray)} (h:GV S d fs) (g:ExtS S T):GV T d fs:=by
 rcases h with ⟨h1,h2⟩ | ⟨k,h1,h2⟩
 ·exact .inl ⟨h1,h2⟩
 ·exact .inr ⟨k,h1,g k _ h2⟩
theorem el_fault:elemT Tryz.prog 51=some 112:=by kernel_rfl
theorem app_fault {S:List Ob} {d:D} {fs:List (Int×ByteArray)} (h:GV S d fs) (hl:fs.length<=1000) (e:Int) (s:ByteArray):
  ∃S',dAppend Tryz.prog S 51 51 d (.sl 2 [[.int .i64 e,.str s]] true)=some (.os S.length 0 (fs.length+1) false,S')/\S'[S.length]?=some (.row 2 ((fs++[(e,s)]).map encF))/\(∀k o,(∀n,d=.os k 0 n false->False)->S[k]?=some o->S'[k]?=some o):=by
 rcases h with ⟨rfl,rfl⟩ | ⟨k,rfl,hk⟩
 ·refine⟨S++[.row 2 [[.int .i64 e,.str s]]],?_,get_end,λk o _ h=>get_old h⟩
  simp(maxSteps:=1000000)(disch:=omega)only[push_cast,decide_not,Yy,decide_eq_false_iff_not,bne_eq_false_iff_eq,beq_eq_false_iff_ne,Zx,ne_eq,not_true_eq_false,not_false_eq_true,dAppend,↓WX,simprocAttr]
 ·refine⟨S.set k .dead++[.row 2 (fs.map encF++[[.int .i64 e,.str s]])],?_,?_,λk' o hd h=>?_⟩
  ·have hel:(fs.map encF).length=fs.length:=by simp
   have hm:(fs.map encF).take fs.length=fs.map encF:=by rw[<-hel,Zs]
   generalize fs.map encF=es at*
   simp(maxSteps:=1000000)(disch:=omega)only[push_cast,decide_not,Yy,decide_eq_false_iff_not,bne_eq_false_iff_eq,beq_eq_false_iff_ne,Zx,ne_eq,not_true_eq_false,not_false_eq_true,dAppend,hk,hel,hm,if_pos,Yt,↓WX,simprocAttr]
  ·rw[List.map_append];exact get_end'
  ·have hne:k≠k':=λe=>by subst e;exact hd _ rfl
   exact get_old (by rw[Yc hne];exact h)
theorem app_ov {S':List Ob} {k:Nat} {fs:List (Int×ByteArray)} {f:Int×ByteArray} (h:S'[k]?=some (.row 2 ((fs++[f]).map encF))):GV S' (.os k 0 (fs.length+1) false) (fs++[f]):=
 .inr ⟨k,by rw[Yd];rfl,h⟩
def KeepR (S T:List Ob):Prop:=∀(k sz:Nat) (es:List (List D)),sz≠2->S[k]?=some (.row sz es)->T[k]?=some (.row sz es)
theorem app_g {S:List Ob} {d:D} {fs:List (Int×ByteArray)} (h:GV S d fs) (hl:fs.length<=1000) (e:Int) (s:ByteArray):
  ∃S',dAppend Tryz.prog S 51 51 d (.sl 2 [[.int .i64 e,.str s]] true)=some (.os S.length 0 (fs.length+1) false,S')/\GV S' (.os S.length 0 (fs.length+1) false) (fs++[(e,s)])/\KeepR S S'/\(∀k o,(∀n,d=.os k 0 n false->False)->S[k]?=some o->S'[k]?=some o):=by
 obtain⟨S',h1,h2,h3⟩:=app_fault h hl e s
 refine⟨S',h1,app_ov h2,λk sz es hz hs=>h3 k _ (λn e=>?_) hs,h3⟩
 subst e
 rcases h with ⟨g1,-⟩ | ⟨k',g1,g2⟩
 ·cases g1
 ·cases g1
  rw[hs]at g2
  injection g2 with g2
  injection g2 with g2 _
  exact hz g2
def ifF (b:Bool) (e:Int) (s:ByteArray):List (Int×ByteArray):=if b=true then [(e,s)] else []
theorem ifF_len (b:Bool) (e:Int) (s:ByteArray):(ifF b e s).length<=1:=by unfold ifF;split <;> simp
def fdx {α:Type} (p:α->Bool):Nat->List α->Int
 |_,[]=> -1
 |i,x::l=>if p x=true then (i:Int) else fdx p (i+1) l
end Go.Proofs.YtaklebjoenophaaGreat.Dm.Gw
namespace Go.Proofs.YtaklebjoenophaaGreat.Dm
open Go Gw
theorem wc_asc {E:Env} {call:Call} {n:Nat} {x y z:Code} {a:List D} {S:List Ob} {Q:PostX}:WC (codeD E call n (.seq x (.seq y z)) a S) Q=WC (codeD E call n (.seq (.seq x y) z) a S) Q:=by
 rw[wc_seq,wc_seq,wc_seq]
 congr 1
 funext r b U
 cases r
 ·simp only[seqQ,wc_seq]
 ·rfl
 ·rfl
def GL {α:Type} (sz:Nat) (enc:α->List D) (S:List Ob) (d:D) (l:List α):Prop:=
 (d=.nils/\l=[])∨∃k,d=.os k 0 l.length false/\S[k]?=some (.row sz (l.map enc))
def FLs {α:Type} (sz:Nat) (enc:α->List D) (d:D) (l:List α):Prop:=(d=.nils/\l=[])∨∃x,d=.sl sz (l.map enc) x
section
variable {α : Type} {sz : Nat} {enc : α -> List D} {S T : List Ob} {d : D} {l : List α}
theorem GL.nil:GL sz enc S .nils ([]:List α):=.inl ⟨rfl,rfl⟩
theorem GL.push (h:GL sz enc S d l) (o:Ob):GL sz enc (S++[o]) d l:=by
 rcases h with ⟨h1,h2⟩ | ⟨k,h1,h2⟩
 ·exact .inl ⟨h1,h2⟩
 ·exact .inr ⟨k,h1,get_old h2⟩
theorem GL.ext (h:GL sz enc S d l) (g:ExtS S T):GL sz enc T d l:=by
 rcases h with ⟨h1,h2⟩ | ⟨k,h1,h2⟩
 ·exact .inl ⟨h1,h2⟩
 ·exact .inr ⟨k,h1,g k _ h2⟩
theorem GL.fls (h:GL sz enc S d l) (hp:pureLL (l.map enc)=true):∃d',freeze S 40 d=some d'/\FLs sz enc d' l:=by
 rcases h with ⟨rfl,rfl⟩ | ⟨k,rfl,hk⟩
 ·exact⟨_,rfl,.inl ⟨rfl,rfl⟩⟩
 ·have:=freeze_os (n:=38) (x:=false) hk hp
  rw[Yz]at this
  exact⟨_,this,.inr ⟨_,rfl⟩⟩
theorem FLs.pure (h:FLs sz enc d l) (hp:pureLL (l.map enc)=true):d.pure=true:=by
 rcases h with ⟨rfl,-⟩ | ⟨x,rfl⟩
 ·rfl
 ·exact hp
theorem app_glB {t e:TypeId} {z:D} {n:Nat} (h1:elemT Tryz.prog t=some e) (h2:sizeT Tryz.prog e=some (n+1)) (h3:zeroT Tryz.prog e=some z) (h4:z.cells.length=n+1) (hb:(l.length+1)*bytesT Tryz.prog e<=140737488355328) (hm0:l.length+1<=maxLen) (h:GL (n+1) enc S d l) (x:α):
  ∃S',dAppend Tryz.prog S t t d (.sl (n+1) [enc x] true)=some (.os S.length 0 (l.length+1) false,S')/\GL (n+1) enc S' (.os S.length 0 (l.length+1) false) (l++[x])/\S'.length=S.length+1/\(∀k o,(∀n,d=.os k 0 n false->False)->S[k]?=some o->S'[k]?=some o)/\(∀(k sz:Nat) (es:List (List D)),sz≠n+1->S[k]?=some (.row sz es)->S'[k]?=some (.row sz es)):=by
 have hm:(l.length+1<=maxLen)=True:=eq_true hm0
 rcases h with ⟨rfl,rfl⟩ | ⟨k,rfl,hk⟩
 ·refine⟨S++[.row (n+1) [enc x]],?_,.inr ⟨_,rfl,get_end⟩,by simp,λk o _ h=>get_old h,λk sz es _ h=>get_old h⟩
  rw[Xa,Nat.zero_add,Nat.one_mul]at hb
  simp only[Xa,Nat.zero_add]at hm
  simp only[dAppend,if_true,h1,h2,h3,h4,srcOf,Zd,Xa,Nat.zero_add,Nat.one_mul,hm,hb,Nat.succ_ne_zero,if_false,↓reduceIte,WY]
 ·have hel:(l.map enc).length=l.length:=by simp
  refine⟨S.set k .dead++[.row (n+1) (l.map enc++[enc x])],?_,?_,by simp,λk' o hd h=>?_,λk' sz es hz h=>?_⟩
  ·have ht:(l.map enc).take l.length=l.map enc:=by rw[<-hel,Zs]
   generalize l.map enc=es at*
   simp only[dAppend,if_true,h1,h2,h3,h4,srcOf,hk,hel,Nat.zero_add,Yt,List.drop_zero,ht,Zd,Xa,hm,hb,Nat.succ_ne_zero,if_false,↓reduceIte,WY]
  ·refine .inr ⟨_,by rw[Yd];rfl,?_⟩
   rw[List.map_append];exact get_end'
  ·have hne:k≠k':=λe=>by subst e;exact hd _ rfl
   exact get_old (by rw[Yc hne];exact h)
  ·have hne:k≠k':=λe=>by
    subst e
    rw[hk]at h
    injection h with h
    injection h with h _
    exact hz h.symm
   exact get_old (by rw[Yc hne];exact h)
theorem app_gl {t e:TypeId} {z:D} {n:Nat} (h1:elemT Tryz.prog t=some e) (h2:sizeT Tryz.prog e=some (n+1)) (h3:zeroT Tryz.prog e=some z) (h4:z.cells.length=n+1) (h5:bytesT Tryz.prog e<=100000) (h:GL (n+1) enc S d l) (hl:l.length<=100000) (x:α):
  ∃S',dAppend Tryz.prog S t t d (.sl (n+1) [enc x] true)=some (.os S.length 0 (l.length+1) false,S')/\GL (n+1) enc S' (.os S.length 0 (l.length+1) false) (l++[x])/\S'.length=S.length+1/\(∀k o,(∀n,d=.os k 0 n false->False)->S[k]?=some o->S'[k]?=some o)/\(∀(k sz:Nat) (es:List (List D)),sz≠n+1->S[k]?=some (.row sz es)->S'[k]?=some (.row sz es)):=
 app_glB h1 h2 h3 h4 (Zu (Nat.mul_le_mul (Xc hl) h5) (by decide)) (by unfold maxLen;omega) h x
end
def own:D->Option Nat
 | .os k _ _ _=>some k
 |_=>none
section
variable {α : Type} {val : α -> D} {S T : List Ob} {d : D} {l : List α}
def PL (val:α->D) (S:List Ob) (d:D) (l:List α):Prop:=
 (d=.nils/\l=[])∨d=.sl 1 (l.map λa=>[val a]) true∨∃k es,d=.os k 0 l.length false/\S[k]?=some (.row 1 es)/\es.take l.length=l.map (λa=>[val a])/\l.length<=es.length
theorem PL.keep (h:PL val S d l) (g:∀k o,own d=some k->S[k]?=some o->T[k]?=some o):PL val T d l:=by
 rcases h with h |h | ⟨k,es,h1,h2,h3,h4⟩
 ·exact .inl h
 ·exact .inr (.inl h)
 ·exact .inr (.inr ⟨k,es,h1,g k _ (by rw[h1];rfl) h2,h3,h4⟩)
theorem PL.lt (h:PL val S d l) {k:Nat} (hk:own d=some k):k<S.length:=by
 rcases h with ⟨rfl,-⟩ |rfl | ⟨k',es,rfl,h2,-,-⟩
 ·cases hk
 ·cases hk
 ·cases hk;exact (Ya.1 h2).1
theorem PL.os {k n:Nat} (h:PL val S (.os k 0 n false) l):n=l.length/\∃es,S[k]?=some (.row 1 es)/\es.take l.length=l.map (λa=>[val a])/\l.length<=es.length:=by
 rcases h with ⟨h,-⟩ |h | ⟨k',es,h1,h2,h3,h4⟩
 ·cases h
 ·cases h
 ·cases h1;exact⟨rfl,es,h2,h3,h4⟩
theorem take_pre {es:List (List D)} {n m:Nat} (h:es.take n=l.map (λa=>[val a])) (hm:m<=n):es.take m=(l.take m).map (λa=>[val a]):=by
 rw[List.map_take,<-h,List.take_take,Nat.min_eq_left hm]
theorem PL.cut {k n m:Nat} (h:PL val S (.os k 0 n false) l) (hm:m<=n):PL val S (.os k 0 m false) (l.take m):=by
 obtain⟨rfl,es,h2,h3,h4⟩:=h.os
 have hl:(l.take m).length=m:=by rw[Zn];omega
 exact .inr (.inr ⟨k,es,by rw[hl],h2,by rw[hl];exact take_pre h3 hm,by rw[hl];omega⟩)
end
theorem keptS_app:∀(S J:List Ob),keptS S (S++J)=true
 | [],J=>rfl
 |a::S,J=>by simp[keptS,beqOb_refl,keptS_app S J]
section
variable {call : Call} {st : Bool} {S : List Ob} {f : FuncId} {args : List D} {d d' : D} {T : List Ob}
theorem callD_obsJ {J:List Ob} (hm:E.mode f=.obs) (hp:pureL args=false) (h:call f args S=some (d,S++J)) (hd:d.pure=true):callD E call st S f args=some (d,S):=by
 unfold callD
 rw[hm]
 dsimp only
 rw[if_neg (by rw[hp];simp),h]
 dsimp only
 rw[hd,keptS_app];rfl
theorem callD_obsP (hm:E.mode f=.obs) (hp:pureL args=true) (h:call f args []=some (d,T)) (hd:freeze T 40 d=some d'):callD E call st S f args=some (d',S):=by
 unfold callD
 rw[hm]
 dsimp only
 rw[if_pos hp,h]
 dsimp only
 rw[hd];rfl
theorem callD_ext {J:List Ob} (hm:E.mode f=.ext) (h:call f args S=some (d,S++J)):callD E call st S f args=some (d,S++J):=by
 unfold callD
 rw[hm]
 dsimp only
 rw[h]
 dsimp only
 rw[keptS_app];rfl
end
theorem takeP {α:Type} (l:List α) (Q:α->Prop):∃P:Nat->Prop,P 0/\(∀i x,l[i]?=some x->P i->Q x->P (i+1))/\(P l.length->∀x∈l,Q x):=by
 refine⟨λi=>∀x∈l.take i,Q x,λx hx=>by simp at hx,λi x hx h hq y hy=>?_,λh x hx=>h x (by rw[Zs];exact hx)⟩
 rw[List.take_add_one,hx]at hy
 rcases List.mem_append.1 hy with hy |hy
 ·exact h y hy
 ·have:y=x:=by simpa using hy
  rw[this];exact hq
structure Cls where
 code:ByteArray
 prot:Int
def Cls.enc (r:Cls):List D:=[.str r.code,.int .i64 r.prot]
structure Cab where
 name:ByteArray
 seats:Int
 over:Int
 cls:List Cls
 clsx:Bool
def Cab.enc (r:Cab):List D:=[.str r.name,.int .i64 r.seats,.int .i64 r.over,.sl 2 (r.cls.map Cls.enc) r.clsx]
structure Cfg where
 equip:ByteArray
 cabs:List Cab
 cabsx:Bool
def Cfg.enc (r:Cfg):List D:=[.str r.equip,.sl 4 (r.cabs.map Cab.enc) r.cabsx]
structure Lid where
 c:ByteArray
 n:Int
 d:Int
 f:ByteArray
 deriving DecidableEq
def Lid.enc (r:Lid):List D:=[.str r.c,.int .i64 r.n,.int .i64 r.d,.str r.f]
structure Axn where
 kind:Int
 leg:Int
 more:Int
 eq:Int
 cl:Int
 n:Int
def Axn.enc (r:Axn):List D:=[.int .u8 r.kind,.int .u8 r.leg,.int .u8 r.more,.int .u8 r.eq,.int .u8 r.cl,.int .i8 r.n]
def Cls.Ok (r:Cls):Prop:=r.code.size<=9223372036854775807/\(-9223372036854775808<=r.prot/\r.prot<=9223372036854775807)/\True
def Cab.Ok (r:Cab):Prop:=r.name.size<=9223372036854775807/\(-9223372036854775808<=r.seats/\r.seats<=9223372036854775807)/\(-9223372036854775808<=r.over/\r.over<=9223372036854775807)/\((∀e∈r.cls,e.Ok)/\r.cls.length<=9223372036854775807)/\True
def Cfg.Ok (r:Cfg):Prop:=r.equip.size<=9223372036854775807/\((∀e∈r.cabs,e.Ok)/\r.cabs.length<=9223372036854775807)/\True
def Lid.Ok (r:Lid):Prop:=r.c.size<=9223372036854775807/\(-9223372036854775808<=r.n/\r.n<=9223372036854775807)/\(-9223372036854775808<=r.d/\r.d<=9223372036854775807)/\r.f.size<=9223372036854775807/\True
def Axn.Ok (r:Axn):Prop:=(0<=r.kind/\r.kind<=255)/\(0<=r.leg/\r.leg<=255)/\(0<=r.more/\r.more<=255)/\(0<=r.eq/\r.eq<=255)/\(0<=r.cl/\r.cl<=255)/\(-128<=r.n/\r.n<=127)/\True
theorem ba_eq_iff (x y:ByteArray):x.data.toList=y.data.toList↔x=y:=by
 constructor
 ·intro h
  cases x;cases y
  simpa using h
 ·rintro rfl;rfl
theorem str_eq (x y:ByteArray):(x.toList == y.toList)=decide (x=y):=by
 rw[Bool.eq_iff_iff,beq_iff_eq,Yy,ByteArray.toList_eq,ByteArray.toList_eq,ba_eq_iff]
theorem str_eq' (x y:ByteArray):(x == y)=decide (x=y):=by
 obtain⟨x⟩:=x
 obtain⟨y⟩:=y
 rw[Bool.eq_iff_iff,Yy]
 show ((x == y)=true)↔_
 rw[beq_iff_eq,ByteArray.mk.injEq]
/-! ### Configurations -/
def rankF (cl:ByteArray):Nat->List Cls->Option Nat
 |_,[]=>none
 |k,z::l=>if z.code=cl then some k else rankF cl (k+1) l
def placeF (cl:ByteArray):Nat->List Cab->Option (Nat×Nat)
 |_,[]=>none
 |i,y::l=>match rankF cl 0 y.cls with
  |some k=>some (i,k)
  |none=>placeF cl (i+1) l
def findF (l:List Cfg) (e:ByteArray):Option Cfg:=l.find? λx=>decide (x.equip=e)
def autF (c:Cab):Int:=c.seats+c.over
def limF (c:Cab) (i:Nat):Int:=match i with
 |0=>autF c
 |i+1=>autF c-((c.cls[i]?).map (·.prot)).getD 0
def spF (c:Cab) (sold:List Int) (i:Nat):Int:=limF c i-(sold.drop i).sum
def avF (c:Cab) (sold:List Int):Nat->Int
 |0=>spF c sold 0
 |i+1=>min (avF c sold i) (spF c sold (i+1))
def excF (c:Cab) (sold:List Int):Nat->Int
 |0=>0
 |i+1=>max (excF c sold i) (-(spF c sold i))
def likeF (a b:List Cab) (cl:ByteArray):Option ByteArray:=
 match placeF cl 0 a with
 |none=>none
 |some (i,_)=>match placeF cl 0 b with
  |some _=>some cl
  |none=>match b[min i (b.length-1)]? with
   |none=>none
   |some y=>(y.cls.getLast?).map (·.code)
/-! ### Legs -/
structure Leg where
 cfg:Cfg
 closed:Bool
 sold:List (List Int)
structure Stk where
 l:List Cfg
 x:Bool
 legs:List (Lid×Leg)
def getL (legs:List (Lid×Leg)) (id:Lid):Option Leg:=(legs.find? λp=>decide (p.1=id)).map (·.2)
def updL (legs:List (Lid×Leg)) (id:Lid) (f:Leg->Leg):List (Lid×Leg):=legs.map λp=>if p.1=id then (p.1,f p.2) else p
def addAt (t:List (List Int)) (i k:Nat) (n:Int):List (List Int):=t.modify i λr=>r.modify k (· +n)
def emptyF (c:Cfg):List (List Int):=c.cabs.map λy=>List.replicate y.cls.length 0
def leftF (x:Leg) (cl:ByteArray):Int:=match placeF cl 0 x.cfg.cabs with
 |none=>0
 |some (i,k)=>match x.cfg.cabs[i]?,x.sold[i]? with
  |some y,some r=>max 0 (avF y r k)
  |_,_=>0
def Stk.get (s:Stk) (id:Lid):Option Leg:=getL s.legs id
def Stk.left (s:Stk) (id:Lid) (cl:ByteArray):Int:=match s.get id with
 |none=>0
 |some x=>if x.closed then 0 else leftF x cl
def freeF (x:Leg) (cl:ByteArray):Int:=match placeF cl 0 x.cfg.cabs with
 |none=>0
 |some (i,_)=>match x.cfg.cabs[i]?,x.sold[i]? with
  |some y,some r=>max (autF y-r.sum) 0
  |_,_=>0
def Stk.free (s:Stk) (id:Lid) (cl:ByteArray):Int:=match s.get id with
 |none=>0
 |some x=>freeF x cl
def Stk.named (s:Stk) (ids:List Lid) (cl:ByteArray) (n:Int) (sale:Bool):Int:=
 if n<1∨ids=[] then 2
 else if ¬ids.Nodup then 6
 else if ids.any (λid=>(s.get id).isNone) then 7
 else if sale && ids.any (λid=>((s.get id).map (·.closed)).getD false) then 10
 else if ids.any (λid=>((s.get id).bind λx=>placeF cl 0 x.cfg.cabs).isNone) then 16
 else 0
def addL (cl:ByteArray) (n:Int) (x:Leg):Leg:=match placeF cl 0 x.cfg.cabs with
 |none=>x
 |some (i,k)=>{ x with sold:=addAt x.sold i k n }
def addIds (cl:ByteArray) (n:Int):List Lid->List (Lid×Leg)->List (Lid×Leg)
 | [],legs=>legs
 |id::ids,legs=>addIds cl n ids (updL legs id (addL cl n))
def Stk.open (s:Stk) (id:Lid) (e:ByteArray):Int×Stk:=
 if (s.get id).isSome then (6,s) else match findF s.l e with
  |none=>(7,s)
  |some c=>(0,{ s with legs:=s.legs++[(id,⟨c,false,emptyF c⟩)] })
def slJ (c:Nat) (y:Cab):Nat->List (Nat×Nat×Cls)
 |0=>[]
 |j+1=>slJ c y j++match y.cls[j]? with
  |some z=>[(c,j,z)]
  |none=>[]
def slC (cabs:List Cab):Nat->List (Nat×Nat×Cls)
 |0=>[]
 |c+1=>slC cabs c++match cabs[c]? with
  |some y=>slJ c y y.cls.length
  |none=>[]
def Stk.equip (s:Stk) (id:Lid):Option ByteArray:=(s.get id).map (·.cfg.equip)
/-! ### Places -/
theorem rankF_spec {cl:ByteArray}:∀ {l:List Cls} {k r:Nat},rankF cl k l=some r->∃j z,r=k+j/\l[j]?=some z/\z.code=cl
 | [],k,r,h=>by cases h
 |z::l,k,r,h=>by
  unfold rankF at h
  split at h
  ·rename_i e
   cases h
   exact⟨0,z,rfl,rfl,e⟩
  ·obtain⟨j,w,h1,h2,h3⟩:=rankF_spec h
   exact⟨j+1,w,by omega,by simpa using h2,h3⟩
theorem placeF_spec {cl:ByteArray}:∀ {l:List Cab} {i a b:Nat},placeF cl i l=some (a,b)->∃j y z,a=i+j/\l[j]?=some y/\y.cls[b]?=some z/\z.code=cl
 | [],i,a,b,h=>by cases h
 |y::l,i,a,b,h=>by
  unfold placeF at h
  split at h
  ·rename_i k hk
   cases h
   obtain⟨j,z,h1,h2,h3⟩:=rankF_spec hk
   exact⟨0,y,z,rfl,rfl,by rw[show b=j by omega];exact h2,h3⟩
  ·obtain⟨j,y,z,h1,h2,h3⟩:=placeF_spec h
   exact⟨j+1,y,z,by omega,by simpa using h2,h3⟩
theorem place_at {c:Cfg} {cl:ByteArray} {a b:Nat} (h:placeF cl 0 c.cabs=some (a,b)):∃y z,c.cabs[a]?=some y/\y.cls[b]?=some z/\z.code=cl:=by
 obtain⟨j,y,z,h1,h2,h3⟩:=placeF_spec h
 rw[Nat.zero_add]at h1
 subst h1
 exact⟨y,z,h2,h3⟩
/-! ### Legs by their identifiers -/
theorem getL_mem {legs:List (Lid×Leg)} {id:Lid} {x:Leg} (h:getL legs id=some x):(id,x)∈legs:=by
 unfold getL at h
 obtain⟨p,hp,rfl⟩:=Yb.1 h
 have h1:=List.mem_of_find?_eq_some hp
 have h2:=List.find?_some hp
 have:p.1=id:=by simpa using h2
 subst this
 exact h1
/-! ### What is sold -/
def tot (x:Leg):Int:=(x.sold.map List.sum).sum
/-! ### Inventories that are right -/
structure CabOk (y:Cab):Prop where
 s1:1<=y.seats
 s2:y.seats<=999
 o1:0<=y.over
 o2:y.over<=999
 l1:1<=y.cls.length
 l2:y.cls.length<=26
 p:∀(j:Nat) (z:Cls),y.cls[j]?=some z->0<=z.prot/\z.prot<=autF y
 m:∀(j:Nat) (z w:Cls),y.cls[j]?=some z->y.cls[j+1]?=some w->z.prot<=w.prot
def codes (l:List Cab):List ByteArray:=l.flatMap λy=>y.cls.map (·.code)
structure CfgOk (c:Cfg):Prop where
 l1:1<=c.cabs.length
 l2:c.cabs.length<=4
 cab:∀y∈c.cabs,CabOk y
 codes:(codes c.cabs).Nodup
structure CfgsOk (l:List Cfg):Prop where
 cfg:∀c∈l,CfgOk c
 eq:(l.map (·.equip)).Nodup
structure LegOk (l:List Cfg) (B:Int) (x:Leg):Prop where
 cfg:CfgOk x.cfg
 find:findF l x.cfg.equip=some x.cfg
 len:x.sold.length=x.cfg.cabs.length
 rows:∀(i:Nat) (y:Cab) (r:List Int),x.cfg.cabs[i]?=some y->x.sold[i]?=some r->r.length=y.cls.length
 pos:∀(i:Nat) (r:List Int),x.sold[i]?=some r->∀v∈r,0<=v
 tot:tot x<=B
structure StkOk (B:Int) (s:Stk):Prop where
 cfgs:CfgsOk s.l
 ids:(s.legs.map (·.1)).Nodup
 leg:∀p∈s.legs,LegOk s.l B p.2
theorem StkOk.get {B:Int} {s:Stk} (h:StkOk B s) {id:Lid} {x:Leg} (hx:s.get id=some x):LegOk s.l B x:=h.leg _ (getL_mem hx)
theorem LegOk.mono {l:List Cfg} {B B':Int} {x:Leg} (h:LegOk l B x) (hB:B<=B'):LegOk l B' x:={ h with tot:=Int.le_trans h.tot hB }
theorem StkOk.mono {B B':Int} {s:Stk} (h:StkOk B s) (hB:B<=B'):StkOk B' s:={ h with leg:=λp hp=>(h.leg p hp).mono hB }
theorem sum_pos:∀ {l:List Int},(∀v∈l,0<=v)->0<=l.sum
 | [],_=>by simp
 |a::l,h=>by
  have:=sum_pos (l:=l) (λv hv=>h v (by simp[hv]))
  have:=h a (by simp)
  simp;omega
theorem sum_at:∀ {l:List Int} {k:Nat} {v:Int},(∀v∈l,0<=v)->l[k]?=some v->v<=l.sum
 | [],k,v,_,hk=>by simp at hk
 |a::l,k,v,h,hk=>by
  have h0:=h a (by simp)
  have hs:=sum_pos (l:=l) (λv hv=>h v (by simp[hv]))
  cases k with
  |zero=>
   have:a=v:=by simpa using hk
   simp;omega
  |succ k=>
   have:=sum_at (l:=l) (k:=k) (v:=v) (λv hv=>h v (by simp[hv])) (by simpa using hk)
   simp;omega
theorem LegOk.row {l:List Cfg} {B:Int} {x:Leg} (h:LegOk l B x) {i:Nat} {r:List Int} (hr:x.sold[i]?=some r):(∀v∈r,0<=v)/\r.sum<=B:=by
 refine⟨h.pos i r hr,?_⟩
 have h1:(x.sold.map List.sum).sum<=B:=h.tot
 have h2:(x.sold.map List.sum)[i]?=some r.sum:=by rw[Zm,hr];rfl
 have h3:=sum_at (l:=x.sold.map List.sum) (k:=i) (v:=r.sum) (λv hv=>by
  obtain⟨q,hq,rfl⟩:=Zy.1 hv
  obtain⟨j,hj⟩:=Xd.1 hq
  exact sum_pos (h.pos j q hj)) h2
 omega
theorem LegOk.at_ {l:List Cfg} {B:Int} {x:Leg} (h:LegOk l B x) {cl:ByteArray} {i k:Nat} (hp:placeF cl 0 x.cfg.cabs=some (i,k)):∃y r z v,x.cfg.cabs[i]?=some y/\x.sold[i]?=some r/\y.cls[k]?=some z/\z.code=cl/\r[k]?=some v/\r.length=y.cls.length/\CabOk y:=by
 obtain⟨y,z,h1,h2,h3⟩:=place_at hp
 have hi:i<x.sold.length:=by rw[h.len];exact (Ya.1 h1).1
 have hr:x.sold[i]?=some x.sold[i]:=Yq hi
 have hl:=h.rows i y _ h1 hr
 have hk:k<(x.sold[i]).length:=by rw[hl];exact (Ya.1 h2).1
 exact⟨y,_,z,_,h1,hr,h2,h3,Yq hk,hl,h.cfg.cab y (Yg h1)⟩
/-! ### What can be sold -/
/-! ### Journeys -/
def minF (s:Stk) (cl:ByteArray) (m:Int):List Lid->Int
 | []=>m
 |id::ids=>minF s cl (min m (s.left id cl)) ids
/-! ### The errors of a list of legs -/
section named
variable {s : Stk} {ids : List Lid} {cl : ByteArray} {n : Int} {sale : Bool}
end named
/-! ### What calls keep -/
theorem rAirport_c {n:Nat} {s:ByteArray} (hn:s.size+5<n) (hz:s.size<=9223372036854775807) (st:Bool) (S:List Ob):callD E (dcall E n) st S 98 [.str s]=some (.bool (lettS s 3),S):=by
 obtain⟨m,rfl⟩:∃m,n=m+2:=⟨n-2,by omega⟩
 have q:∀st S,callD E (dcall E (m+1)) st S 149 [.str s,.int .i64 3]=some (.bool (lettS s 3),S):=λst S=>callD_pure rfl rfl (eq_of_wo (letters_d (k:=3) (by omega) hz)) rfl
 have:WO (dcall E (m+2) 98 [.str s] []) λd T=>d=.bool (lettS s 3)/\T=[]:=by
  refine wo_dcall Tryz.func98 rfl (by decide) rfl 5 rfl (λa hal ha=>?_)
  have h0:a[0]?=some _:=ha 0 (by simp)
  clear ha
  simp only[push_cast,hal,h0,q,Tryz.f98,↓WX,simprocAttr]
 exact callD_pure rfl rfl (eq_of_wo this) rfl
theorem rCountry_c {n:Nat} {s:ByteArray} (hn:s.size+5<n) (hz:s.size<=9223372036854775807) (st:Bool) (S:List Ob):callD E (dcall E n) st S 99 [.str s]=some (.bool (lettS s 2),S):=by
 obtain⟨m,rfl⟩:∃m,n=m+2:=⟨n-2,by omega⟩
 have q:∀st S,callD E (dcall E (m+1)) st S 149 [.str s,.int .i64 2]=some (.bool (lettS s 2),S):=λst S=>callD_pure rfl rfl (eq_of_wo (letters_d (k:=2) (by omega) hz)) rfl
 have:WO (dcall E (m+2) 99 [.str s] []) λd T=>d=.bool (lettS s 2)/\T=[]:=by
  refine wo_dcall Tryz.func99 rfl (by decide) rfl 5 rfl (λa hal ha=>?_)
  have h0:a[0]?=some _:=ha 0 (by simp)
  clear ha
  simp only[push_cast,hal,h0,q,Tryz.f99,↓WX,simprocAttr]
 exact callD_pure rfl rfl (eq_of_wo this) rfl
def carS (s:ByteArray):Bool:=codeS s 2 2 && !evr digB s s.size
theorem codeS_size {s:ByteArray} {k:Nat} (h:codeS s k k=true):s.size=k:=by
 unfold codeS at h
 simp only[Ye,Yy]at h
 omega
theorem cap_dig {b:UInt8} (h:cdB b=true):digB b= !capB b:=by
 unfold cdB at h
 unfold digB capB at*
 by_cases h1:48<=b.toNat <;> by_cases h2:b.toNat<=57 <;> by_cases h3:65<=b.toNat <;> by_cases h4:b.toNat<=90 <;> simp[h1,h2,h3,h4]at h ⊢ <;> omega
theorem rCarrier_c {n:Nat} {s:ByteArray} (hn:s.size+6<n) (hz:s.size<=9223372036854775807) (st:Bool) (S:List Ob):callD E (dcall E n) st S 104 [.str s]=some (.bool (carS s),S):=by
 obtain⟨m,rfl⟩:∃m,n=m+2:=⟨n-2,by omega⟩
 have cc:∀st S,callD E (dcall E (m+1)) st S 105 [.str s,.int .i64 2,.int .i64 2]=some (.bool (codeS s 2 2),S):=λst S=>callD_pure rfl rfl (eq_of_wo (ref_Code_d (by omega) hz)) rfl
 have cu:=upper_c (n:=m+1) (by omega)
 have:WO (dcall E (m+2) 104 [.str s] []) λd T=>d=.bool (carS s)/\T=[]:=by
  refine wo_dcall Tryz.func104 rfl (by decide) rfl 15 rfl (λa hal ha=>?_)
  have h0:a[0]?=some _:=ha 0 (by simp)
  clear ha
  unfold carS
  cases hc:codeS s 2 2
  ·simp only[push_cast,hal,h0,cc,hc,Tryz.f104,↓WX,simprocAttr,WY]
  ·have hz:=codeS_size (k:=2) hc
   obtain⟨b0,e0⟩:=byte_at' (s:=s) (i:=0) (by omega)
   obtain⟨b1,e1⟩:=byte_at' (s:=s) (i:=1) (by omega)
   have hev:evr cdB s s.size=true:=by
    unfold codeS at hc
    simp only[Ye]at hc
    exact hc.2
   rw[hz]at hev ⊢
   simp only[evr,e0,e1,Option.getD_some,Ye,WY]at hev
   have hd:(!evr digB s 2)=(capB b0 || capB b1):=by
    simp only[evr,e0,e1,Option.getD_some,cap_dig hev.1,cap_dig hev.2,WY]
    cases capB b0 <;> cases capB b1 <;> rfl
   rw[hd]
   cases hb:capB b0
   ·simp only[push_cast,hal,h0,cc,hc,cu,e0,e1,hb,Bool.false_or,Tryz.f104,↓WX,simprocAttr,WY]
   ·simp only[push_cast,hal,h0,cc,hc,cu,e0,hb,Bool.true_or,Tryz.f104,↓WX,simprocAttr,WY]
 exact callD_pure rfl rfl (eq_of_wo this) rfl
/-! Decimals of numbers below 100. -/
def dec2 (n:Nat):ByteArray:=if n<10 then ⟨#[UInt8.ofNat (48+n)]⟩ else ⟨#[UInt8.ofNat (48+n / 10),UInt8.ofNat (48+n % 10)]⟩
theorem rdec2_all:(List.range 100).all (λn=>sameS (strOf (dcall E 40 42 [.int .i64 n] [])) (some (dec2 n)))=true:=by kernel_rfl
theorem rdec2_c {n:Nat} (hn:40<=n) {i:Nat} (hi:i<100) (st:Bool) (S:List Ob):callD E (dcall E n) st S 42 [.int .i64 i]=some (.str (dec2 i),S):=by
 obtain⟨s,h1,h2⟩:=sameS_spec (List.all_eq_true.1 rdec2_all i (List.mem_range.2 hi))
 obtain⟨T,e⟩:=strOf_spec h1
 rw[Yi h2]
 exact callD_up hn (callD_pure rfl rfl e rfl)
theorem dec2_size (n:Nat):(dec2 n).size<=2:=by
 unfold dec2;split <;> simp[ByteArray.size]
/-! Lists of violations that are equal are found equal. -/
def FZ (d:D) (fs:List (Int×ByteArray)):Prop:=(d=.nils/\fs=[])∨∃x,d=.sl 2 (fs.map encF) x
theorem FV.fz {T:List Ob} {d:D} {fs:List (Int×ByteArray)} (h:FV T d fs):∃d',freeze T 40 d=some d'/\FZ d' fs:=by
 rcases h with ⟨rfl,rfl⟩ | ⟨x,rfl⟩ | ⟨k,rfl,hk⟩
 ·exact⟨_,rfl,.inl ⟨rfl,rfl⟩⟩
 ·exact⟨_,freeze_pure (encF_pure fs),.inr ⟨x,rfl⟩⟩
 ·have:=freeze_os (n:=38) (x:=false) hk (encF_pure fs)
  rw[Yz]at this
  exact⟨_,this,.inr ⟨_,rfl⟩⟩
theorem FZ.pure {d:D} {fs:List (Int×ByteArray)} (h:FZ d fs):d.pure=true:=by
 rcases h with ⟨rfl,-⟩ | ⟨x,rfl⟩
 ·rfl
 ·exact encF_pure fs
end Go.Proofs.YtaklebjoenophaaGreat.Dm
