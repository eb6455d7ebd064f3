/-
  Words for stores that grow, for lists of violations, for loops of a few rounds, and for results that are texts.
  Lists of any plain elements that grow, wherever they lie.
  Lists of single cells that grow and shrink at their end, in a row that may be longer; calls that look at the caller's store alone.
  The machine at codes of airports, countries and carriers, at decimals below 100, and at lists of violations that are compared: the program's and the reference's.
-/
import Derived.Test.YtkemehicndccmaaGreatDoorWq
set_option linter.unusedSimpArgs false
set_option linter.unusedVariables false
namespace Go.Proofs.YtkemehicndccmaaGreatDoor.Dm.Gw
open Go
set_option linter.unusedSimpArgs false

/-! A loop of a few rounds, round by round. -/
def WLn (E:Env) (call:Call) (n:Nat) (c:Code) (m:Nat) (a:List D) (S:List Ob) (Q:PostX):Prop:=WC (loopD (codeD E call n c) m a S) Q
def loopQ (E:Env) (call:Call) (n:Nat) (c:Code) (m:Nat) (Q:PostX):PostX
 | .normal,a,S=>WLn E call n c m a S Q
 |x,a,S=>Q x a S
/-! Lists and stores. -/
theorem set_end {α:Type} {l:List α} {x y:α}:(l++[x]).set l.length y=l++[y]:=by simp
theorem get_end {α:Type} {l:List α} {x:α}:(l++[x])[l.length]? =some x:=by simp
theorem get_end' {α:Type} {l:List α} {i:Nat} {x y:α}:(l.set i y++[x])[l.length]? =some x:=by
 have:(l.set i y).length=l.length:=by simp
 rw[←this];exact get_end
theorem get_old {S J:List Ob} {k:Nat} {o:Ob} (h:S[k]? =some o):(S++J)[k]? =some o:=by
 rw[List.getElem?_append_left ((List.getElem?_eq_some_iff.1 h).1)];exact h
theorem drop_at {α:Type} {l:List α} {i:Nat} {x:α} (h:l[i]? =some x):l.drop i=x::l.drop (i+1):=by
 obtain⟨hl,hx⟩:=List.getElem?_eq_some_iff.1 h
 rw[←hx]
 exact List.drop_eq_getElem_cons hl
theorem callD_own {call:Call} {S:List Ob} {f:FuncId} {args:List D} (hm:E.mode f=.pure) (hp:pureL args=false):callD E call false S f args=call f args S:=by
 unfold callD
 rw[hm]
 dsimp only
 rw[if_neg (by rw[hp];simp),if_neg (by simp)]
def ExtS (S T:List Ob):Prop:=∀(k:Nat) (x:Ob),S[k]? =some x→T[k]? =some x
theorem ExtS.push {S T:List Ob} (h:ExtS S T) (x:Ob):ExtS S (T++[x]):=fun k y hy=>get_old (h k y hy)
theorem ExtS.refl {S:List Ob}:ExtS S S:=fun _ _ h=>h
theorem ExtS.trans {S T U:List Ob} (h:ExtS S T) (g:ExtS T U):ExtS S U:=fun k y hy=>g k y (h k y hy)

/-! Results that are texts. -/
def strOf:Option (D×List Ob)→Option ByteArray
 |some (.str s,_)=>some s
 |_=>none
def sameS (a b:Option ByteArray):Bool:=
 match a,b with
 |some x,some y=>decide (x=y)
 |_,_=>false
theorem sameS_spec {a b:Option ByteArray} (h:sameS a b=true):∃s,a=some s∧b=some s:=by
 unfold sameS at h
 split at h
 ·simp only[decide_eq_true_eq]at h;subst h;exact⟨_,rfl,rfl⟩
 ·cases h
theorem strOf_spec {o:Option (D×List Ob)} {s:ByteArray} (h:strOf o=some s):∃T,o=some (.str s,T):=by
 unfold strOf at h
 split at h
 ·cases h;exact⟨_,rfl⟩
 ·cases h
theorem bytes_refl (s:ByteArray):(s == s)=true:=by
 obtain⟨d⟩:=s
 show (d == d)=true
 simp

/-! Lists of violations. -/
def encF (f:Int×ByteArray):List D:=[.int .i64 f.1,.str f.2]
def FV (S:List Ob) (d:D) (fs:List (Int×ByteArray)):Prop:=
 (d=.nils∧fs=[])∨(∃x,d=.sl 2 (fs.map encF) x)∨∃k,d=.os k 0 fs.length false∧S[k]? =some (.row 2 (fs.map encF))
theorem encF_pure (fs:List (Int×ByteArray)):pureLL (fs.map encF)=true:=by
 induction fs with
 |nil=>rfl
 |cons f fs ih=>rw[List.map_cons,pureLL_cons,ih];rfl
theorem FV.frozen {T S:List Ob} {d:D} {fs:List (Int×ByteArray)} (h:FV T d fs):∃d',freeze T 40 d=some d'∧FV S d' fs:=by
 rcases h with ⟨rfl,rfl⟩ | ⟨x,rfl⟩ | ⟨k,rfl,hk⟩
 ·exact⟨_,rfl,.inl ⟨rfl,rfl⟩⟩
 ·exact⟨_,freeze_pure (encF_pure fs),.inr (.inl ⟨x,rfl⟩)⟩
 ·have:=freeze_os (n:=38) (x:=false) hk (encF_pure fs)
  rw[List.length_map]at this
  exact⟨_,this,.inr (.inl ⟨_,rfl⟩)⟩
def GV (S:List Ob) (d:D) (fs:List (Int×ByteArray)):Prop:=
 (d=.nils∧fs=[])∨∃k,d=.os k 0 fs.length false∧S[k]? =some (.row 2 (fs.map encF))
theorem GV.fv {S:List Ob} {d:D} {fs:List (Int×ByteArray)} (h:GV S d fs):FV S d fs:=by
 rcases h with ⟨h1,h2⟩ | ⟨k,h1,h2⟩
 ·exact .inl ⟨h1,h2⟩
 ·exact .inr (.inr ⟨k,h1,h2⟩)
theorem GV.push {S:List Ob} {d:D} {fs:List (Int×ByteArray)} (h:GV S d fs) (o:Ob):GV (S++[o]) d fs:=by
 rcases h with ⟨h1,h2⟩ | ⟨k,h1,h2⟩
 ·exact .inl ⟨h1,h2⟩
 ·exact .inr ⟨k,h1,get_old h2⟩
theorem GV.ext {S T:List Ob} {d:D} {fs:List (Int×ByteArray)} (h:GV S d fs) (g:ExtS S T):GV T d fs:=by
 rcases h with ⟨h1,h2⟩ | ⟨k,h1,h2⟩
 ·exact .inl ⟨h1,h2⟩
 ·exact .inr ⟨k,h1,g k _ h2⟩
theorem el_fault:elemT Tryz.prog 66=some 104:=by kernel_rfl
set_option maxHeartbeats 400000 in
theorem app_fault {S:List Ob} {d:D} {fs:List (Int×ByteArray)} (h:GV S d fs) (hl:fs.length≤1000) (e:Int) (s:ByteArray):
  ∃S',dAppend Tryz.prog S 66 66 d (.sl 2 [[.int .i64 e,.str s]] true)=some (.os S.length 0 (fs.length+1) false,S')∧S'[S.length]? =some (.row 2 ((fs++[(e,s)]).map encF))∧(∀k o,(∀n,d=.os k 0 n false→False)→S[k]? =some o→S'[k]? =some o):=by
 rcases h with ⟨rfl,rfl⟩ | ⟨k,rfl,hk⟩
 ·refine⟨S++[.row 2 [[.int .i64 e,.str s]]],?_,get_end,fun k o _ h=>get_old h⟩
  simp(maxSteps:=1000000)(disch:=omega)only[push_cast,dAppend,simprocAttr]
 ·refine⟨S.set k .dead++[.row 2 (fs.map encF++[[.int .i64 e,.str s]])],?_,?_,fun k' o hd h=>?_⟩
  ·have hel:(fs.map encF).length=fs.length:=by simp
   have hm:(fs.map encF).take fs.length=fs.map encF:=by rw[←hel,List.take_length]
   generalize fs.map encF=es at*
   simp(maxSteps:=1000000)(disch:=omega)only[push_cast,dAppend,hk,hel,hm,if_pos,Nat.le_refl,simprocAttr]
  ·rw[List.map_append];exact get_end'
  ·have hne:k≠k':=fun e=>by subst e;exact hd _ rfl
   exact get_old (by rw[List.getElem?_set_ne hne];exact h)
theorem app_ov {S':List Ob} {k:Nat} {fs:List (Int×ByteArray)} {f:Int×ByteArray} (h:S'[k]? =some (.row 2 ((fs++[f]).map encF))):GV S' (.os k 0 (fs.length+1) false) (fs++[f]):=
 .inr ⟨k,by rw[List.length_append];rfl,h⟩
def KeepR (S T:List Ob):Prop:=∀(k sz:Nat) (es:List (List D)),sz≠2→S[k]? =some (.row sz es)→T[k]? =some (.row sz es)
theorem app_g {S:List Ob} {d:D} {fs:List (Int×ByteArray)} (h:GV S d fs) (hl:fs.length≤1000) (e:Int) (s:ByteArray):
  ∃S',dAppend Tryz.prog S 66 66 d (.sl 2 [[.int .i64 e,.str s]] true)=some (.os S.length 0 (fs.length+1) false,S')∧GV S' (.os S.length 0 (fs.length+1) false) (fs++[(e,s)])∧KeepR S S'∧(∀k o,(∀n,d=.os k 0 n false→False)→S[k]? =some o→S'[k]? =some o):=by
 obtain⟨S',h1,h2,h3⟩:=app_fault h hl e s
 refine⟨S',h1,app_ov h2,fun k sz es hz hs=>h3 k _ (fun n e=>?_) hs,h3⟩
 subst e
 rcases h with ⟨g1,-⟩ | ⟨k',g1,g2⟩
 ·cases g1
 ·cases g1
  rw[hs]at g2
  injection g2 with g2
  injection g2 with g2 _
  exact hz g2
def ifF (b:Bool) (e:Int) (s:ByteArray):List (Int×ByteArray):=if b=true then [(e,s)] else []
theorem ifF_len (b:Bool) (e:Int) (s:ByteArray):(ifF b e s).length≤1:=by unfold ifF;split <;> simp
def fdx {α:Type} (p:α→Bool):Nat→List α→Int
 |_,[]=> -1
 |i,x::l=>if p x=true then (i:Int) else fdx p (i+1) l
theorem fdx_any {α:Type} (p:α→Bool):∀(l:List α) (i:Nat),decide (0≤fdx p i l)=l.any p
 | [],i=>rfl
 |x::l,i=>by
  unfold fdx
  rw[List.any_cons,←fdx_any p l (i+1)]
  cases h:p x
  ·rw[if_neg (by simp),Bool.false_or]
  ·rw[if_pos rfl,Bool.true_or];exact decide_eq_true (by omega)
end Go.Proofs.YtkemehicndccmaaGreatDoor.Dm.Gw
namespace Go.Proofs.YtkemehicndccmaaGreatDoor.Dm
open Go Gw
set_option linter.unusedSimpArgs false

theorem wc_asc {E:Env} {call:Call} {n:Nat} {x y z:Code} {a:List D} {S:List Ob} {Q:PostX}:WC (codeD E call n (.seq x (.seq y z)) a S) Q=WC (codeD E call n (.seq (.seq x y) z) a S) Q:=by
 rw[wc_seq,wc_seq,wc_seq]
 congr 1
 funext r b U
 cases r
 ·simp only[seqQ,wc_seq]
 ·rfl
 ·rfl
def GL {α:Type} (sz:Nat) (enc:α→List D) (S:List Ob) (d:D) (l:List α):Prop:=
 (d=.nils∧l=[])∨∃k,d=.os k 0 l.length false∧S[k]? =some (.row sz (l.map enc))
def FLs {α:Type} (sz:Nat) (enc:α→List D) (d:D) (l:List α):Prop:=(d=.nils∧l=[])∨∃x,d=.sl sz (l.map enc) x
section
variable {α : Type} {sz : Nat} {enc : α → List D} {S T : List Ob} {d : D} {l : List α}
theorem GL.nil:GL sz enc S .nils ([]:List α):=.inl ⟨rfl,rfl⟩
theorem GL.push (h:GL sz enc S d l) (o:Ob):GL sz enc (S++[o]) d l:=by
 rcases h with ⟨h1,h2⟩ | ⟨k,h1,h2⟩
 ·exact .inl ⟨h1,h2⟩
 ·exact .inr ⟨k,h1,get_old h2⟩
theorem GL.ext (h:GL sz enc S d l) (g:ExtS S T):GL sz enc T d l:=by
 rcases h with ⟨h1,h2⟩ | ⟨k,h1,h2⟩
 ·exact .inl ⟨h1,h2⟩
 ·exact .inr ⟨k,h1,g k _ h2⟩
theorem GL.fls (h:GL sz enc S d l) (hp:pureLL (l.map enc)=true):∃d',freeze S 40 d=some d'∧FLs sz enc d' l:=by
 rcases h with ⟨rfl,rfl⟩ | ⟨k,rfl,hk⟩
 ·exact⟨_,rfl,.inl ⟨rfl,rfl⟩⟩
 ·have:=freeze_os (n:=38) (x:=false) hk hp
  rw[List.length_map]at this
  exact⟨_,this,.inr ⟨_,rfl⟩⟩
theorem FLs.pure (h:FLs sz enc d l) (hp:pureLL (l.map enc)=true):d.pure=true:=by
 rcases h with ⟨rfl,-⟩ | ⟨x,rfl⟩
 ·rfl
 ·exact hp
set_option maxHeartbeats 400000 in
theorem app_glB {t e:TypeId} {z:D} {n:Nat} (h1:elemT Tryz.prog t=some e) (h2:sizeT Tryz.prog e=some (n+1)) (h3:zeroT Tryz.prog e=some z) (h4:z.cells.length=n+1) (hb:(l.length+1)*bytesT Tryz.prog e≤140737488355328) (hm0:l.length+1≤maxLen) (h:GL (n+1) enc S d l) (x:α):
  ∃S',dAppend Tryz.prog S t t d (.sl (n+1) [enc x] true)=some (.os S.length 0 (l.length+1) false,S')∧GL (n+1) enc S' (.os S.length 0 (l.length+1) false) (l++[x])∧S'.length=S.length+1∧(∀k o,(∀n,d=.os k 0 n false→False)→S[k]? =some o→S'[k]? =some o)∧(∀(k sz:Nat) (es:List (List D)),sz≠n+1→S[k]? =some (.row sz es)→S'[k]? =some (.row sz es)):=by
 have hm:(l.length+1≤maxLen)=True:=eq_true hm0
 rcases h with ⟨rfl,rfl⟩ | ⟨k,rfl,hk⟩
 ·refine⟨S++[.row (n+1) [enc x]],?_,.inr ⟨_,rfl,get_end⟩,by simp,fun k o _ h=>get_old h,fun k sz es _ h=>get_old h⟩
  rw[List.length_nil,Nat.zero_add,Nat.one_mul]at hb
  simp only[List.length_nil,Nat.zero_add]at hm
  simp only[dAppend,h1,h2,h3,h4,srcOf,List.length_cons,List.length_nil,Nat.zero_add,Nat.one_mul,hm,hb,and_self,Nat.succ_ne_zero,↓reduceIte]
 ·have hel:(l.map enc).length=l.length:=by simp
  refine⟨S.set k .dead++[.row (n+1) (l.map enc++[enc x])],?_,?_,by simp,fun k' o hd h=>?_,fun k' sz es hz h=>?_⟩
  ·have ht:(l.map enc).take l.length=l.map enc:=by rw[←hel,List.take_length]
   generalize l.map enc=es at*
   simp only[dAppend,h1,h2,h3,h4,srcOf,hk,hel,Nat.zero_add,Nat.le_refl,and_self,List.drop_zero,ht,List.length_cons,List.length_nil,hm,hb,Nat.succ_ne_zero,↓reduceIte]
  ·refine .inr ⟨_,by rw[List.length_append];rfl,?_⟩
   rw[List.map_append];exact get_end'
  ·have hne:k≠k':=fun e=>by subst e;exact hd _ rfl
   exact get_old (by rw[List.getElem?_set_ne hne];exact h)
  ·have hne:k≠k':=fun e=>by
    subst e
    rw[hk]at h
    injection h with h
    injection h with h _
    exact hz h.symm
   exact get_old (by rw[List.getElem?_set_ne hne];exact h)
theorem app_gl {t e:TypeId} {z:D} {n:Nat} (h1:elemT Tryz.prog t=some e) (h2:sizeT Tryz.prog e=some (n+1)) (h3:zeroT Tryz.prog e=some z) (h4:z.cells.length=n+1) (h5:bytesT Tryz.prog e≤100000) (h:GL (n+1) enc S d l) (hl:l.length≤100000) (x:α):
  ∃S',dAppend Tryz.prog S t t d (.sl (n+1) [enc x] true)=some (.os S.length 0 (l.length+1) false,S')∧GL (n+1) enc S' (.os S.length 0 (l.length+1) false) (l++[x])∧S'.length=S.length+1∧(∀k o,(∀n,d=.os k 0 n false→False)→S[k]? =some o→S'[k]? =some o)∧(∀(k sz:Nat) (es:List (List D)),sz≠n+1→S[k]? =some (.row sz es)→S'[k]? =some (.row sz es)):=
 app_glB h1 h2 h3 h4 (Nat.le_trans (Nat.mul_le_mul (Nat.succ_le_succ hl) h5) (by decide)) (by unfold maxLen;omega) h x
end
set_option linter.unusedSimpArgs false

def own:D→Option Nat
 | .os k _ _ _=>some k
 |_=>none
section
variable {α : Type} {val : α → D} {S T : List Ob} {d : D} {l : List α}
def PL (val:α→D) (S:List Ob) (d:D) (l:List α):Prop:=
 (d=.nils∧l=[])∨d=.sl 1 (l.map fun a=>[val a]) true∨∃k es,d=.os k 0 l.length false∧S[k]? =some (.row 1 es)∧es.take l.length=l.map (fun a=>[val a])∧l.length≤es.length
theorem PL.keep (h:PL val S d l) (g:∀k o,own d=some k→S[k]? =some o→T[k]? =some o):PL val T d l:=by
 rcases h with h |h | ⟨k,es,h1,h2,h3,h4⟩
 ·exact .inl h
 ·exact .inr (.inl h)
 ·exact .inr (.inr ⟨k,es,h1,g k _ (by rw[h1];rfl) h2,h3,h4⟩)
theorem PL.lt (h:PL val S d l) {k:Nat} (hk:own d=some k):k<S.length:=by
 rcases h with ⟨rfl,-⟩ |rfl | ⟨k',es,rfl,h2,-,-⟩
 ·cases hk
 ·cases hk
 ·cases hk;exact (List.getElem?_eq_some_iff.1 h2).1
theorem PL.os {k n:Nat} (h:PL val S (.os k 0 n false) l):n=l.length∧∃es,S[k]? =some (.row 1 es)∧es.take l.length=l.map (fun a=>[val a])∧l.length≤es.length:=by
 rcases h with ⟨h,-⟩ |h | ⟨k',es,h1,h2,h3,h4⟩
 ·cases h
 ·cases h
 ·cases h1;exact⟨rfl,es,h2,h3,h4⟩
theorem take_pre {es:List (List D)} {n m:Nat} (h:es.take n=l.map (fun a=>[val a])) (hm:m≤n):es.take m=(l.take m).map (fun a=>[val a]):=by
 rw[List.map_take,←h,List.take_take,Nat.min_eq_left hm]
theorem PL.cut {k n m:Nat} (h:PL val S (.os k 0 n false) l) (hm:m≤n):PL val S (.os k 0 m false) (l.take m):=by
 obtain⟨rfl,es,h2,h3,h4⟩:=h.os
 have hl:(l.take m).length=m:=by rw[List.length_take];omega
 exact .inr (.inr ⟨k,es,by rw[hl],h2,by rw[hl];exact take_pre h3 hm,by rw[hl];omega⟩)
end

theorem keptS_app:∀(S J:List Ob),keptS S (S++J)=true
 | [],J=>rfl
 |a::S,J=>by simp[keptS,beqOb_refl,keptS_app S J]
theorem keptS_refl (S:List Ob):keptS S S=true:=by
 have:=keptS_app S []
 rwa [List.append_nil]at this
section
variable {call : Call} {st : Bool} {S : List Ob} {f : FuncId} {args : List D} {d d' : D} {T : List Ob}
theorem callD_obs (hm:E.mode f=.obs) (hp:pureL args=false) (h:call f args S=some (d,S)) (hd:d.pure=true):callD E call st S f args=some (d,S):=by
 unfold callD
 rw[hm]
 dsimp only
 rw[if_neg (by rw[hp];simp),h]
 dsimp only
 rw[hd,keptS_refl];rfl
theorem callD_obsJ {J:List Ob} (hm:E.mode f=.obs) (hp:pureL args=false) (h:call f args S=some (d,S++J)) (hd:d.pure=true):callD E call st S f args=some (d,S):=by
 unfold callD
 rw[hm]
 dsimp only
 rw[if_neg (by rw[hp];simp),h]
 dsimp only
 rw[hd,keptS_app];rfl
theorem callD_ext {J:List Ob} (hm:E.mode f=.ext) (h:call f args S=some (d,S++J)):callD E call st S f args=some (d,S++J):=by
 unfold callD
 rw[hm]
 dsimp only
 rw[h]
 dsimp only
 rw[keptS_app];rfl
end
end Go.Proofs.YtkemehicndccmaaGreatDoor.Dm
namespace Go.Proofs.YtkemehicndccmaaGreatDoor.Dm
open Go Gw
set_option linter.unusedSimpArgs false

theorem rAirport_c {n:Nat} {s:ByteArray} (hn:s.size+5<n) (hz:s.size≤9223372036854775807) (st:Bool) (S:List Ob):callD E (dcall E n) st S 37 [.str s]=some (.bool (lettS s 3),S):=by
 obtain⟨m,rfl⟩:∃m,n=m+2:=⟨n-2,by omega⟩
 have q:∀st S,callD E (dcall E (m+1)) st S 91 [.str s,.int .i64 3]=some (.bool (lettS s 3),S):=fun st S=>callD_pure rfl rfl (eq_of_wo (letters_d (k:=3) (by omega) hz)) rfl
 have:WO (dcall E (m+2) 37 [.str s] []) fun d T=>d=.bool (lettS s 3)∧T=[]:=by
  refine wo_dcall Tryz.func37 rfl (by decide) rfl 5 rfl (fun a hal ha=>?_)
  have h0:a[0]? =some (.str s):=ha 0 (by simp)
  clear ha
  simp(maxSteps:=1000000)(disch:=omega)only[push_cast,hal,h0,q,Tryz.f37,↓WX,simprocAttr]
 exact callD_pure rfl rfl (eq_of_wo this) rfl
theorem rCountry_c {n:Nat} {s:ByteArray} (hn:s.size+5<n) (hz:s.size≤9223372036854775807) (st:Bool) (S:List Ob):callD E (dcall E n) st S 75 [.str s]=some (.bool (lettS s 2),S):=by
 obtain⟨m,rfl⟩:∃m,n=m+2:=⟨n-2,by omega⟩
 have q:∀st S,callD E (dcall E (m+1)) st S 91 [.str s,.int .i64 2]=some (.bool (lettS s 2),S):=fun st S=>callD_pure rfl rfl (eq_of_wo (letters_d (k:=2) (by omega) hz)) rfl
 have:WO (dcall E (m+2) 75 [.str s] []) fun d T=>d=.bool (lettS s 2)∧T=[]:=by
  refine wo_dcall Tryz.func75 rfl (by decide) rfl 5 rfl (fun a hal ha=>?_)
  have h0:a[0]? =some (.str s):=ha 0 (by simp)
  clear ha
  simp(maxSteps:=1000000)(disch:=omega)only[push_cast,hal,h0,q,Tryz.f75,↓WX,simprocAttr]
 exact callD_pure rfl rfl (eq_of_wo this) rfl
def carS (s:ByteArray):Bool:=codeS s 2 2 && !evr digB s s.size
theorem codeS_size {s:ByteArray} {k:Nat} (h:codeS s k k=true):s.size=k:=by
 unfold codeS at h
 simp only[Bool.and_eq_true,decide_eq_true_eq]at h
 omega
theorem cap_dig {b:UInt8} (h:cdB b=true):digB b= !capB b:=by
 unfold cdB at h
 unfold digB capB at*
 by_cases h1:48≤b.toNat <;> by_cases h2:b.toNat≤57 <;> by_cases h3:65≤b.toNat <;> by_cases h4:b.toNat≤90 <;> simp[h1,h2,h3,h4]at h ⊢ <;> omega
set_option maxHeartbeats 400000 in
set_option maxRecDepth 100000 in
theorem rCarrier_c {n:Nat} {s:ByteArray} (hn:s.size+6<n) (hz:s.size≤9223372036854775807) (st:Bool) (S:List Ob):callD E (dcall E n) st S 38 [.str s]=some (.bool (carS s),S):=by
 obtain⟨m,rfl⟩:∃m,n=m+2:=⟨n-2,by omega⟩
 have cc:∀st S,callD E (dcall E (m+1)) st S 40 [.str s,.int .i64 2,.int .i64 2]=some (.bool (codeS s 2 2),S):=fun st S=>callD_pure rfl rfl (eq_of_wo (ref_Code_d (by omega) hz)) rfl
 have cu:=upper_c (n:=m+1) (by omega)
 have:WO (dcall E (m+2) 38 [.str s] []) fun d T=>d=.bool (carS s)∧T=[]:=by
  refine wo_dcall Tryz.func38 rfl (by decide) rfl 15 rfl (fun a hal ha=>?_)
  have h0:a[0]? =some (.str s):=ha 0 (by simp)
  clear ha
  unfold carS
  cases hc:codeS s 2 2
  ·simp(maxSteps:=1000000)(disch:=omega)only[push_cast,hal,h0,cc,hc,Bool.false_and,Tryz.f38,↓WX,simprocAttr]
  ·have hz:=codeS_size (k:=2) hc
   obtain⟨b0,e0⟩:=byte_at' (s:=s) (i:=0) (by omega)
   obtain⟨b1,e1⟩:=byte_at' (s:=s) (i:=1) (by omega)
   have hev:evr cdB s s.size=true:=by
    unfold codeS at hc
    simp only[Bool.and_eq_true]at hc
    exact hc.2
   rw[hz]at hev ⊢
   simp only[evr,e0,e1,Option.getD_some,Bool.true_and,Bool.and_eq_true]at hev
   have hd:(!evr digB s 2)=(capB b0 || capB b1):=by
    simp only[evr,e0,e1,Option.getD_some,Bool.true_and,cap_dig hev.1,cap_dig hev.2]
    cases capB b0 <;> cases capB b1 <;> rfl
   rw[hd]
   cases hb:capB b0
   ·simp(maxSteps:=1000000)(disch:=omega)only[push_cast,hal,h0,cc,hc,cu,e0,e1,hb,Bool.true_and,Bool.false_or,Tryz.f38,↓WX,simprocAttr]
   ·simp(maxSteps:=1000000)(disch:=omega)only[push_cast,hal,h0,cc,hc,cu,e0,hb,Bool.true_and,Bool.true_or,Tryz.f38,↓WX,simprocAttr]
 exact callD_pure rfl rfl (eq_of_wo this) rfl

/-! Decimals of numbers below 100. -/
def dec2 (n:Nat):ByteArray:=if n<10 then ⟨#[UInt8.ofNat (48+n)]⟩ else ⟨#[UInt8.ofNat (48+n / 10),UInt8.ofNat (48+n % 10)]⟩
theorem itoa2_all:(List.range 100).all (fun n=>sameS (strOf (dcall E 40 127 [.int .i64 n] [])) (some (dec2 n)))=true:=by kernel_rfl
theorem itoa2_c {n:Nat} (hn:40≤n) {i:Nat} (hi:i<100) (st:Bool) (S:List Ob):callD E (dcall E n) st S 127 [.int .i64 i]=some (.str (dec2 i),S):=by
 obtain⟨s,h1,h2⟩:=sameS_spec (List.all_eq_true.1 itoa2_all i (List.mem_range.2 hi))
 obtain⟨T,e⟩:=strOf_spec h1
 rw[Option.some.inj h2]
 exact callD_up hn (callD_pure rfl rfl e rfl)
theorem rdec2_all:(List.range 100).all (fun n=>sameS (strOf (dcall E 40 32 [.int .i64 n] [])) (some (dec2 n)))=true:=by kernel_rfl
theorem rdec2_c {n:Nat} (hn:40≤n) {i:Nat} (hi:i<100) (st:Bool) (S:List Ob):callD E (dcall E n) st S 32 [.int .i64 i]=some (.str (dec2 i),S):=by
 obtain⟨s,h1,h2⟩:=sameS_spec (List.all_eq_true.1 rdec2_all i (List.mem_range.2 hi))
 obtain⟨T,e⟩:=strOf_spec h1
 rw[Option.some.inj h2]
 exact callD_up hn (callD_pure rfl rfl e rfl)
theorem dec2_size (n:Nat):(dec2 n).size≤2:=by
 unfold dec2;split <;> simp[ByteArray.size]

/-! Lists of violations that are equal are found equal. -/
def FZ (d:D) (fs:List (Int×ByteArray)):Prop:=(d=.nils∧fs=[])∨∃x,d=.sl 2 (fs.map encF) x
theorem FV.fz {T:List Ob} {d:D} {fs:List (Int×ByteArray)} (h:FV T d fs):∃d',freeze T 40 d=some d'∧FZ d' fs:=by
 rcases h with ⟨rfl,rfl⟩ | ⟨x,rfl⟩ | ⟨k,rfl,hk⟩
 ·exact⟨_,rfl,.inl ⟨rfl,rfl⟩⟩
 ·exact⟨_,freeze_pure (encF_pure fs),.inr ⟨x,rfl⟩⟩
 ·have:=freeze_os (n:=38) (x:=false) hk (encF_pure fs)
  rw[List.length_map]at this
  exact⟨_,this,.inr ⟨_,rfl⟩⟩
theorem FZ.pure {d:D} {fs:List (Int×ByteArray)} (h:FZ d fs):d.pure=true:=by
 rcases h with ⟨rfl,-⟩ | ⟨x,rfl⟩
 ·rfl
 ·exact encF_pure fs
end Go.Proofs.YtkemehicndccmaaGreatDoor.Dm
