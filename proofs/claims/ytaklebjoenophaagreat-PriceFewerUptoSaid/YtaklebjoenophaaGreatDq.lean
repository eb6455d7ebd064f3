/-
  A place that is laid ahead and not yet filled: a run does not see what lies there.
  The search for the cheapest price: the end of a way.
-/
import Derived.Test.YtaklebjoenophaaGreatPtA
set_option maxHeartbeats 64000000
set_option maxRecDepth 100000
set_option linter.unusedSimpArgs false
set_option linter.unusedVariables false
namespace Go.Proofs.YtaklebjoenophaaGreat.Dm
open Go Gw
section
variable {i : Nat} {ob : Ob} {S T : List Ob} {P : Program}
theorem dq_ne {k:Nat} (hk:k≠i):(S.set i ob)[k]?=S[k]? :=Yc (λe=>hk e.symm)
theorem dq_behind (h:S[i]?=some .dead) {x:D} {r:List D×Nat} (e:behind S x=some r):behind (S.set i ob) x=some r:=by
 cases x with
 |loc k j o=>
  by_cases hk:k=i
  ·subst hk
   simp only[behind,h]at e
   cases e
  ·simp only[behind,dq_ne hk]at e ⊢
   exact e
 |_=>exact e
theorem dq_load (h:S[i]?=some .dead) {t:TypeId} {x d:D} (e:dLoad P S t x=some d):dLoad P (S.set i ob) t x=some d:=by
 unfold dLoad at e ⊢
 split at e
 ·rename_i hb
  rw[dq_behind h hb]
  exact e
 ·cases e
theorem dq_store (h:S[i]?=some .dead) {t:TypeId} {x v:D} (e:dStore P S t x v=some T):T[i]?=some .dead/\dStore P (S.set i ob) t x v=some (T.set i ob):=by
 cases x with
 |loc k j o=>
  by_cases hk:k=i
  ·subst hk
   simp only[dStore,h]at e
   cases e
  ·simp only[dStore,dq_ne hk]at e ⊢
   repeat' split at e
   all_goals first |cases e |skip
   rename_i hc
   exact⟨by rw[Yc hk];exact h,by rw[if_pos hc,List.set_comm _ _ hk]⟩
 |_=>cases e
theorem dq_indexAddr (h:S[i]?=some .dead) {t:TypeId} {x d:D} {n:Int} (e:dIndexAddr P S t x n=some d):dIndexAddr P (S.set i ob) t x n=some d:=by
 unfold dIndexAddr at e ⊢
 rcases hu:P.underlying t with _ |u
 ·rw[hu]at e
  cases x <;> exact e
 rw[hu]at e
 cases x with
 |os k j len b=>
  by_cases hk:k=i
  ·subst hk
   cases u <;> first |exact e |skip
   simp only[h]at e
   split at e <;> cases e
  ·cases u <;> first |exact e | (simp only[dq_ne hk];exact e)
 |_=>cases u <;> exact e
theorem dq_slice (h:S[i]?=some .dead) {t:TypeId} {x d:D} {lo hi mx:Option D} (e:dSlice P S t x lo hi mx=some d):dSlice P (S.set i ob) t x lo hi mx=some d:=by
 unfold dSlice at e ⊢
 rcases hu:P.underlying t with _ |u
 ·rw[hu]at e
  cases x <;> exact e
 rw[hu]at e
 cases x with
 |os k j len b=>
  by_cases hk:k=i
  ·subst hk
   cases u <;> first |exact e | (simp only[h]at e;cases e)
  ·cases u <;> first |exact e | (simp only[dq_ne hk];exact e)
 |osc k j len b=>
  by_cases hk:k=i
  ·subst hk
   cases u <;> first |exact e | (simp only[h]at e;cases e)
  ·cases u <;> first |exact e | (simp only[dq_ne hk];exact e)
 |_=>cases u <;> exact e
theorem dq_len (h:S[i]?=some .dead) {t:TypeId} {x d:D} (e:dLen P S t x=some d):dLen P (S.set i ob) t x=some d:=by
 unfold dLen at e ⊢
 rcases hu:P.underlying t with _ |u
 ·rw[hu]at e
  cases x <;> exact e
 rw[hu]at e
 cases x with
 |map k=>
  by_cases hk:k=i
  ·subst hk
   cases u <;> first |exact e | (simp only[h]at e;cases e)
  ·cases u <;> first |exact e | (simp only[dq_ne hk];exact e)
 |_=>cases u <;> exact e
theorem dq_src (h:S[i]?=some .dead) {z:Nat} {x:D} {r:List (List D)} (e:srcOf S z x=some r):srcOf (S.set i ob) z x=some r:=by
 cases x with
 |os k j len b=>
  by_cases hk:k=i
  ·subst hk
   simp only[srcOf,h]at e
   cases e
  ·simp only[srcOf,dq_ne hk]at e ⊢
   exact e
 |_=>exact e
theorem dq_head (h:S[i]?=some .dead) {z n:Nat} {x:D} {r:List (List D)} (e:headOf S z n x=some r):headOf (S.set i ob) z n x=some r:=by
 cases x with
 |osc k j len b=>
  by_cases hk:k=i
  ·subst hk
   simp only[headOf,h]at e
   cases e
  ·simp only[headOf,dq_ne hk]at e ⊢
   exact e
 |_=>
  simp only[headOf]at e ⊢
  split at e
  ·rename_i hs
   rw[dq_src h hs]
   exact e
  ·cases e
theorem dq_lt (h:S[i]?=some .dead):i<S.length:=lt_of_some h
theorem dq_push (h:S[i]?=some .dead) (J:List Ob):(S++J)[i]?=some .dead/\S.set i ob++J=(S++J).set i ob:=
 ⟨get_old h,by rw[List.set_append_left _ _ (dq_lt h)]⟩
theorem dq_set (h:S[i]?=some .dead) {k:Nat} (hk:k≠i) (o:Ob):(S.set k o)[i]?=some .dead/\(S.set i ob).set k o=(S.set k o).set i ob:=
 ⟨by rw[Yc hk];exact h,by rw[List.set_comm _ _ hk]⟩
theorem dq_append (h:S[i]?=some .dead) {t u:TypeId} {s x d:D} (e:dAppend P S t u s x=some (d,T)):T[i]?=some .dead/\dAppend P (S.set i ob) t u s x=some (d,T.set i ob):=by
 unfold dAppend at e ⊢
 split at e
 case isFalse=>cases e
 rename_i htu
 rw[if_pos htu]
 split at e
 case h_2=>cases e
 split at e
 case h_2=>cases e
 split at e
 case isFalse=>cases e
 rename_i hz
 rw[if_pos hz]
 split at e
 case h_2=>cases e
 rename_i old new ho hn
 rw[dq_src h ho,dq_src h hn]
 dsimp only
 split at e
 ·rename_i h0
  rw[if_pos h0]
  cases e
  exact⟨h,rfl⟩
 rename_i h0
 rw[if_neg h0]
 split at e
 case isFalse=>cases e
 rename_i h1
 rw[if_pos h1]
 rw[Zg]
 split at e
 ·cases e
  exact⟨(dq_push (ob:=ob) h _).1,by rw[(dq_push (ob:=ob) h _).2]⟩
 ·cases e
  exact⟨(dq_push (ob:=ob) h _).1,by rw[(dq_push (ob:=ob) h _).2]⟩
 ·cases e
  exact⟨(dq_push (ob:=ob) h _).1,by rw[(dq_push (ob:=ob) h _).2]⟩
 ·rename_i k len
  by_cases hk:k=i
  ·subst hk
   rw[h]at e
   cases e
  ·rw[dq_ne hk]
   split at e
   ·rename_i es _
    split at e
    ·rename_i h2
     rw[if_pos h2]
     cases e
     obtain⟨a,b⟩:=dq_set (ob:=ob) h hk .dead
     exact⟨(dq_push (ob:=ob) a _).1,by rw[b,(dq_push (ob:=ob) a _).2]⟩
    ·rename_i h2
     rw[if_neg h2]
     split at e
     ·rename_i h3
      rw[if_pos h3]
      cases e
      exact⟨(dq_set (ob:=ob) h hk _).1,by rw[(dq_set (ob:=ob) h hk _).2]⟩
     ·cases e
   ·cases e
 ·cases e
theorem dq_amake (h:S[i]?=some .dead) {t u:TypeId} {s x d:D} (e:dAppendMake P S t u s x=some (d,T)):T[i]?=some .dead/\dAppendMake P (S.set i ob) t u s x=some (d,T.set i ob):=by
 unfold dAppendMake at e ⊢
 split at e
 case h_2=>cases e
 split at e
 case h_2=>cases e
 split at e
 case isFalse=>cases e
 rename_i hz
 rw[if_pos hz]
 rw[Zg]
 split at e
 case h_2=>cases e
 rename_i k len cap _ m
 by_cases hk:k=i
 ·subst hk
  rw[h]at e
  cases e
 rw[dq_ne hk]
 split at e
 case h_2=>cases e
 split at e
 case isFalse=>cases e
 rename_i h1
 rw[if_pos h1]
 cases e
 exact⟨(dq_push (ob:=ob) h _).1,by rw[(dq_push (ob:=ob) h _).2]⟩
theorem dq_copy (h:S[i]?=some .dead) {t:TypeId} {s x d:D} (e:dCopy P S t s x=some (d,T)):T[i]?=some .dead/\dCopy P (S.set i ob) t s x=some (d,T.set i ob):=by
 unfold dCopy at e ⊢
 split at e
 case h_2=>cases e
 split at e
 case h_2=>cases e
 split at e
 case h_2=>cases e
 rename_i hs
 rw[dq_src h hs]
 dsimp only
 split at e
 ·cases e
  exact⟨h,rfl⟩
 ·rename_i k j len b
  by_cases hk:k=i
  ·subst hk
   rw[h]at e
   cases e
  rw[dq_ne hk]
  split at e
  case h_2=>cases e
  dsimp only at e ⊢
  split at e
  case isFalse=>cases e
  rename_i h1
  rw[if_pos h1]
  cases e
  exact⟨(dq_set (ob:=ob) h hk _).1,by rw[(dq_set (ob:=ob) h hk _).2]⟩
 ·cases e
theorem dq_copyC (h:S[i]?=some .dead) {t:TypeId} {k j len:Nat} {x d:D} (e:dCopyC P S t k j len x=some (d,T)):T[i]?=some .dead/\dCopyC P (S.set i ob) t k j len x=some (d,T.set i ob):=by
 unfold dCopyC at e ⊢
 split at e
 case h_2=>cases e
 split at e
 case h_2=>cases e
 split at e
 case h_2=>cases e
 split at e
 case h_2=>cases e
 rename_i hs
 rw[dq_head h hs]
 dsimp only
 by_cases hk:k=i
 ·subst hk
  rw[h]at e
  cases e
 rw[dq_ne hk]
 split at e
 case h_2=>cases e
 split at e
 case isFalse=>cases e
 rename_i h1
 rw[if_pos h1]
 cases e
 exact⟨(dq_set (ob:=ob) h hk _).1,by rw[(dq_set (ob:=ob) h hk _).2]⟩
theorem dq_copyA (h:S[i]?=some .dead) {t:TypeId} {s x d:D} (e:dCopyA P S t s x=some (d,T)):T[i]?=some .dead/\dCopyA P (S.set i ob) t s x=some (d,T.set i ob):=by
 unfold dCopyA at e ⊢
 split at e
 ·exact dq_copyC h e
 ·exact dq_copy h e
 ·exact dq_copy h e
theorem dq_clear (h:S[i]?=some .dead) {t:TypeId} {x:D} (e:dClear P S t x=some T):T[i]?=some .dead/\dClear P (S.set i ob) t x=some (T.set i ob):=by
 unfold dClear at e ⊢
 split at e
 case h_2=>cases e
 split at e
 case h_2=>cases e
 split at e
 case isFalse=>cases e
 rename_i hz
 rw[if_pos hz]
 split at e
 case h_2=>cases e
 rename_i k j len b
 by_cases hk:k=i
 ·subst hk
  rw[h]at e
  cases e
 rw[dq_ne hk]
 split at e
 case h_2=>cases e
 split at e
 case isFalse=>cases e
 rename_i h1
 rw[if_pos h1]
 cases e
 exact⟨(dq_set (ob:=ob) h hk _).1,by rw[(dq_set (ob:=ob) h hk _).2]⟩
theorem dq_rd (h:S[i]?=some .dead) {X Y:Option D} {d:D} (hxy:∀d,X=some d->Y=some d) (e:X.map (·,S)=some (d,T)):T[i]?=some .dead/\Y.map (·,S.set i ob)=some (d,T.set i ob):=by
 cases X with
 |none=>cases e
 |some x=>
  cases e
  rw[hxy _ rfl]
  exact⟨h,rfl⟩
theorem dq_r0 (h:S[i]?=some .dead) {X:Option D} {d:D} (e:X.map (·,S)=some (d,T)):T[i]?=some .dead/\X.map (·,S.set i ob)=some (d,T.set i ob):=dq_rd h (λ_ h=>h) e
theorem dq_wr (h:S[i]?=some .dead) {X Y:Option (List Ob)} {v d:D} (hxy:∀T,X=some T->T[i]?=some .dead/\Y=some (T.set i ob)) (e:X.map (v,·)=some (d,T)):T[i]?=some .dead/\Y.map (v,·)=some (d,T.set i ob):=by
 cases X with
 |none=>cases e
 |some x=>
  cases e
  obtain⟨a,b⟩:=hxy _ rfl
  rw[b]
  exact⟨a,rfl⟩
theorem dq_builtin (h:S[i]?=some .dead) {keys:TypeId->Bool} {b:Builtin} {ts:List TypeId} {args:List D} {d:D} (e:dBuiltin P keys S b ts args=some (d,T)):T[i]?=some .dead/\dBuiltin P keys (S.set i ob) b ts args=some (d,T.set i ob):=by
 unfold dBuiltin at e
 split at e
 ·exact dq_rd h (λ_=>dq_len h) e
 ·rename_i t u s x
  unfold dBuiltin
  dsimp only
  by_cases htu:t=u
  ·rw[if_pos htu]at e ⊢
   exact dq_append h e
  ·rw[if_neg htu]at e ⊢
   exact dq_amake h e
 ·exact dq_copyA h e
 ·exact dq_r0 h e
 ·exact dq_r0 h e
 ·rename_i t _ m k
  unfold dBuiltin
  dsimp only
  split at e
  case h_2=>cases e
  rename_i r hu
  by_cases hk:r=i
  ·subst hk
   rw[h]at e
   cases e
  rw[dq_ne hk]
  split at e
  case h_2=>cases e
  split at e
  case isFalse=>cases e
  rename_i h1
  rw[if_pos h1]
  cases e
  exact⟨(dq_set (ob:=ob) h hk _).1,by rw[(dq_set (ob:=ob) h hk _).2]⟩
 ·exact dq_r0 h e
 ·exact dq_wr h (λ_=>dq_clear h) e
 ·cases e
def DqC (i:Nat) (ob:Ob) (call:Call):Prop:=∀f args S d T,S[i]?=some Ob.dead->call f args S=some (d,T)->T[i]?=some Ob.dead/\call f args (S.set i ob)=some (d,T.set i ob)
def DqX (i:Nat) (ob:Ob) (E:Env):Prop:=∀g p,E.ext g=some p->∀S l d T,S[i]?=some Ob.dead->p S l=some (d,T)->T[i]?=some Ob.dead/\p (S.set i ob) l=some (d,T.set i ob)
def DqP (i:Nat) (ob:Ob) (E:Env):Prop:=∀g p,E.prim g=some p->∀S l d T,S[i]?=some Ob.dead->p l S=some (d,T)->T[i]?=some Ob.dead/\p l (S.set i ob)=some (d,T.set i ob)
theorem dq_kept:∀ {S T:List Ob} {i:Nat},keptS S T=true->keptS (S.set i ob) (T.set i ob)=true
 | [],T,i,_=>rfl
 |a::S,[],i,h=>by cases h
 |a::S,b::T,0,h=>by
  rw[keptS,Ye]at h
  rw[List.set_cons_zero,List.set_cons_zero,keptS,beqOb_refl,h.2]
  rfl
 |a::S,b::T,i+1,h=>by
  rw[keptS,Ye]at h
  rw[List.set_cons_succ,List.set_cons_succ,keptS,h.1,dq_kept h.2]
  rfl
variable {E : Env} {call : Call}
theorem dq_nd (h:S[i]?=some .dead) {k:Nat} {o:Ob} (hk:S[k]?=some o) (ho:o≠.dead):k≠i:=λe=>by
 subst e
 rw[h]at hk
 exact ho (Yi hk).symm
theorem dq_callD (hC:DqC i ob call) (h:S[i]?=some .dead) {dr:Bool} {f:FuncId} {args:List D} {d:D} (e:callD E call dr S f args=some (d,T)):T[i]?=some .dead/\callD E call dr (S.set i ob) f args=some (d,T.set i ob):=by
 unfold callD at e ⊢
 split at e
 ·cases e
 ·exact hC _ _ _ _ _ h e
 ·by_cases hp:pureL args=true
  ·rw[if_pos hp]at e ⊢
   split at e
   ·exact dq_r0 h e
   ·cases e
  ·rw[if_neg hp]at e ⊢
   by_cases hd:dr=true
   ·rw[if_pos hd]at e
    cases e
   ·rw[if_neg hd]at e ⊢
    exact hC _ _ _ _ _ h e
 ·by_cases hp:pureL args=true
  ·rw[if_pos hp]at e ⊢
   split at e
   ·exact dq_r0 h e
   ·cases e
  ·rw[if_neg hp]at e ⊢
   split at e
   ·rename_i hc
    obtain⟨a,b⟩:=hC _ _ _ _ _ h hc
    rw[b]
    dsimp only
    split at e
    ·rename_i hk
     rw[Ye]at hk
     cases e
     rw[if_pos (by rw[hk.1,dq_kept hk.2];rfl)]
     exact⟨h,rfl⟩
    ·cases e
   ·cases e
 ·split at e
  ·rename_i hc
   obtain⟨a,b⟩:=hC _ _ _ _ _ h hc
   rw[b]
   dsimp only
   split at e
   ·rename_i hk
    cases e
    rw[if_pos (dq_kept hk)]
    exact⟨a,rfl⟩
   ·cases e
  ·cases e
theorem dq_box (h:S[i]?=some .dead) {c:Prop} [Decidable c] {o:Ob} {d:D} (e:(if c then some (D.loc S.length 0 0,S++[o]) else none)=some (d,T)):T[i]?=some .dead/\(if c then some (D.loc (S.set i ob).length 0 0,S.set i ob++[o]) else none)=some (d,T.set i ob):=by
 split at e
 ·rename_i hc
  rw[if_pos hc,Zg]
  cases e
  exact⟨(dq_push (ob:=ob) h _).1,by rw[(dq_push (ob:=ob) h _).2]⟩
 ·cases e
theorem dq_made (h:S[i]?=some .dead) {t:TypeId} {x y:Int} {d:D} (e:dMakeSlice P S t x y=some (d,T)):T[i]?=some .dead/\dMakeSlice P (S.set i ob) t x y=some (d,T.set i ob):=by
 unfold dMakeSlice at e ⊢
 split at e
 case h_2=>cases e
 split at e
 case h_2=>cases e
 split at e
 case isFalse=>cases e
 rename_i h1
 rw[if_pos h1,Zg]
 cases e
 exact⟨(dq_push (ob:=ob) h _).1,by rw[(dq_push (ob:=ob) h _).2]⟩
theorem dq_op (hC:DqC i ob call) (hX:DqX i ob E) (h:S[i]?=some .dead) {dr:Bool} {ev:Operand->D} {op:Op} {d:D} (e:dOp E call dr ev S op=some (d,T)):T[i]?=some .dead/\dOp E call dr ev (S.set i ob) op=some (d,T.set i ob):=by
 unfold dOp at e ⊢
 split at e
 ·cases e;exact⟨h,rfl⟩
 ·cases e;exact⟨h,rfl⟩
 ·split at e
  ·cases e;exact⟨h,rfl⟩
  ·cases e
 ·split at e
  ·exact dq_box h e
  ·cases e
 ·exact dq_box h e
 ·exact dq_r0 h e
 ·exact dq_r0 h e
 ·exact dq_rd h (λ_=>dq_load h) e
 ·exact dq_wr h (λ_=>dq_store h) e
 ·split at e
  ·cases e;exact⟨h,rfl⟩
  ·cases e;exact⟨h,rfl⟩
  ·cases e;exact⟨h,rfl⟩
  ·cases e
 ·exact dq_r0 h e
 ·exact dq_r0 h e
 ·exact dq_r0 h e
 ·cases e;exact⟨h,rfl⟩
 ·split at e
  ·cases e
   rw[Zg]
   exact⟨(dq_push (ob:=ob) h _).1,by rw[(dq_push (ob:=ob) h _).2]⟩
  ·cases e
 ·split at e
  ·exact dq_made h e
  ·cases e
 ·exact dq_rd h (λ_=>dq_slice h) e
 ·exact dq_r0 h e
 ·exact dq_r0 h e
 ·split at e
  ·exact dq_rd h (λ_=>dq_indexAddr h) e
  ·cases e
 ·split at e
  ·exact dq_r0 h e
  ·cases e
 ·split at e
  ·split at e
   ·split at e
    ·rename_i hc
     rw[if_pos hc]
     cases e
     exact⟨h,rfl⟩
    ·cases e
   ·cases e
  ·split at e
   ·rename_i h1 h2
    rw[dq_ne (dq_nd h h1 (by simp)),h1,h2]
    dsimp only
    split at e
    ·rename_i hc
     rw[if_pos hc]
     cases e
     exact⟨h,rfl⟩
    ·cases e
   ·cases e
  ·cases e
 ·split at e
  ·split at e
   ·rename_i h1
    have hk:=dq_nd h h1 (by simp)
    rw[dq_ne hk,h1]
    dsimp only
    split at e
    ·rename_i hc
     rw[if_pos hc]
     cases e
     exact⟨(dq_set (ob:=ob) h hk _).1,by rw[(dq_set (ob:=ob) h hk _).2]⟩
    ·cases e
   ·cases e
  ·cases e
 ·split at e
  ·split at e
   ·rename_i h1
    have hk:=dq_nd h h1 (by simp)
    rw[dq_ne hk,h1]
    dsimp only
    split at e
    ·rename_i hc
     rw[if_pos hc]
     cases e
     exact⟨(dq_set (ob:=ob) h hk _).1,by rw[(dq_set (ob:=ob) h hk _).2]⟩
    ·cases e
   ·cases e
  ·cases e
 ·split at e
  ·exact dq_r0 h e
  ·cases e
 ·split at e
  ·cases e
  ·cases e;exact⟨h,rfl⟩
  ·cases e
 ·exact dq_builtin h e
 ·split at e
  ·rename_i hp
   exact hX _ _ hp _ _ _ _ h e
  ·exact dq_callD hC h e
 ·split at e
  ·split at e
   ·cases e
   ·rename_i hc
    rw[if_neg hc]
    exact dq_callD hC h e
  ·cases e
 ·split at e
  ·cases e;exact⟨h,rfl⟩
  ·split at e
   ·rename_i h1
    have hk:=dq_nd h h1 (by simp)
    rw[dq_ne hk,h1]
    cases e
    exact⟨h,rfl⟩
   ·cases e
  ·cases e
 ·split at e
  ·cases e;exact⟨h,rfl⟩
  ·split at e
   ·rename_i h1
    have hk:=dq_nd h h1 (by simp)
    rw[dq_ne hk,h1]
    cases e
    exact⟨h,rfl⟩
   ·cases e
  ·cases e
 ·split at e
  ·split at e
   ·rename_i hc
    rw[if_pos hc]
    cases e
    exact⟨h,rfl⟩
   ·cases e
  ·cases e
 ·cases e
theorem dq_step (hC:DqC i ob call) (hX:DqX i ob E) (h:S[i]?=some .dead) {dr:Bool} {ops:Array Oper} {o:Oper} {a a':List D} (e:stepD E call dr ops o a S=some (a',T)):T[i]?=some .dead/\stepD E call dr ops o a (S.set i ob)=some (a',T.set i ob):=by
 unfold stepD at e ⊢
 split at e
 ·cases e
 ·cases e;exact⟨h,rfl⟩
 ·split at e
  ·rename_i ho
   obtain⟨x,y⟩:=dq_op hC hX h ho
   rw[y]
   cases e
   exact⟨x,rfl⟩
  ·cases e
theorem dq_run (hC:DqC i ob call) (hX:DqX i ob E) {dr:Bool} {ops:Array Oper}:∀(l:List Oper) {S T:List Ob} {a a':List D},S[i]?=some .dead->runD E call dr ops l a S=some (a',T)->T[i]?=some .dead/\runD E call dr ops l a (S.set i ob)=some (a',T.set i ob)
 | [],S,T,a,a',h,e=>by cases e;exact⟨h,rfl⟩
 |o::l,S,T,a,a',h,e=>by
  unfold runD at e ⊢
  split at e
  ·rename_i hs
   obtain⟨x,y⟩:=dq_step hC hX h hs
   rw[y]
   exact dq_run hC hX l x e
  ·cases e
theorem dq_stepM (h:S[i]?=some .dead) {ops:Array Oper} {o:Oper} {s:Nat} {a a':List D} (hs:s≠i) (e:stepM E ops o s a S=some (a',T)):T[i]?=some .dead/\stepM E ops o s a (S.set i ob)=some (a',T.set i ob):=by
 unfold stepM at e ⊢
 rw[dq_ne hs]
 split at e
 ·split at e
  ·cases e
   exact⟨(dq_set (ob:=ob) h hs _).1,by rw[(dq_set (ob:=ob) h hs _).2]⟩
  ·cases e
 ·cases e
theorem dq_stepW (hC:DqC i ob call) (hX:DqX i ob E) {ops:Array Oper} {L:List Nat} {b j:Nat} (hb:i<b) (h:S[i]?=some .dead) {o:Oper} {a a':List D} (e:stepW E call ops L b j o a S=some (a',T)):T[i]?=some .dead/\stepW E call ops L b j o a (S.set i ob)=some (a',T.set i ob):=by
 unfold stepW at e ⊢
 split at e
 ·exact dq_step hC hX h e
 ·exact dq_stepM h (by omega) e
theorem dq_plan (hC:DqC i ob call) (hX:DqX i ob E) {ops:Array Oper} {L:List Nat} {b:Nat} (hb:i<b):∀(p:Plan) {S T:List Ob} {a a':List D},S[i]?=some .dead->planD E call ops L b p a S=some (a',T)->T[i]?=some .dead/\planD E call ops L b p a (S.set i ob)=some (a',T.set i ob)
 | .done,S,T,a,a',h,e=>by cases e;exact⟨h,rfl⟩
 | .step j p,S,T,a,a',h,e=>by
  unfold planD at e ⊢
  split at e
  ·split at e
   ·rename_i hs
    obtain⟨x,y⟩:=dq_stepW hC hX hb h hs
    rw[y]
    exact dq_plan hC hX hb p x e
   ·cases e
  ·cases e
 | .both p q,S,T,a,a',h,e=>by
  unfold planD at e ⊢
  split at e
  ·rename_i h1 h2
   obtain⟨x1,y1⟩:=dq_plan hC hX hb p h h1
   obtain⟨x2,y2⟩:=dq_plan hC hX hb q h h2
   rw[y1,y2]
   dsimp only
   split at e
   ·rename_i hc
    rw[Ye]at hc
    obtain rfl:=beqL_eq _ _ hc.1
    obtain rfl:=beqS_eq hc.2
    cases e
    rw[if_pos (by rw[beqL_refl,beqS_refl];rfl)]
    exact⟨x1,rfl⟩
   ·cases e
  ·cases e
theorem dq_loop {body:List D->List Ob->Out} (hb:∀(S T:List Ob) (a a':List D) (r:DX),S[i]?=some .dead->body a S=some (r,a',T)->T[i]?=some .dead/\body a (S.set i ob)=some (r,a',T.set i ob)):∀(n:Nat) {S T:List Ob} {a a':List D} {r:DX},S[i]?=some .dead->loopD body n a S=some (r,a',T)->T[i]?=some .dead/\loopD body n a (S.set i ob)=some (r,a',T.set i ob)
 |0,S,T,a,a',r,h,e=>by cases e
 |n+1,S,T,a,a',r,h,e=>by
  unfold loopD at e ⊢
  split at e
  ·rename_i hs
   obtain⟨x,y⟩:=hb _ _ _ _ _ h hs
   rw[y]
   exact dq_loop hb n x e
  ·rename_i hne
   obtain⟨x,y⟩:=hb _ _ _ _ _ h e
   rw[y]
   refine⟨x,?_⟩
   cases r with
   |normal=>exact (hne _ _ e).elim
   |exit j=>rfl
   |ret=>rfl
theorem dq_code (hC:DqC i ob call) (hX:DqX i ob E) {n:Nat}:∀(c:Code) {S T:List Ob} {a a':List D} {r:DX},S[i]?=some .dead->codeD E call n c a S=some (r,a',T)->T[i]?=some .dead/\codeD E call n c a (S.set i ob)=some (r,a',T.set i ob):=by
 intro c
 induction c with
 |skip=>intro S T a a' r h e;cases e;exact⟨h,rfl⟩
 |region id ops dr=>
  intro S T a a' r h e
  unfold codeD at e ⊢
  split at e
  ·split at e
   ·rename_i hr
    obtain⟨x,y⟩:=dq_run hC hX _ h hr
    rw[y]
    cases e
    exact⟨x,rfl⟩
   ·cases e
  ·rename_i L p _
   split at e
   ·rename_i hr
    obtain⟨h1,h2⟩:=dq_push (ob:=ob) h (List.replicate L.length .dead)
    obtain⟨x,y⟩:=dq_plan hC hX (dq_lt h) _ h1 hr
    rw[Zg,h2,y]
    cases e
    exact⟨x,rfl⟩
   ·cases e
 |seq x y ihx ihy=>
  intro S T a a' r h e
  unfold codeD at e ⊢
  split at e
  ·rename_i hs
   obtain⟨u,v⟩:=ihx h hs
   rw[v]
   exact ihy u e
  ·rename_i hne
   obtain⟨u,v⟩:=ihx h e
   rw[v]
   refine⟨u,?_⟩
   cases r with
   |normal=>exact (hne _ _ e).elim
   |exit j=>rfl
   |ret=>rfl
 |cond q x y ihx ihy=>
  intro S T a a' r h e
  unfold codeD at e ⊢
  split at e
  ·exact ihx h e
  ·exact ihy h e
  ·cases e
 |block id c ih=>
  intro S T a a' r h e
  unfold codeD at e ⊢
  split at e
  ·rename_i j _ _ hs
   obtain⟨u,v⟩:=ih h hs
   rw[v]
   dsimp only
   split at e
   ·rename_i hj
    rw[if_pos hj]
    cases e
    exact⟨u,rfl⟩
   ·rename_i hj
    rw[if_neg hj]
    cases e
    exact⟨u,rfl⟩
  ·rename_i hne
   obtain⟨u,v⟩:=ih h e
   rw[v]
   refine⟨u,?_⟩
   cases r with
   |normal=>rfl
   |exit j=>exact (hne _ _ _ e).elim
   |ret=>rfl
 |loop c ih=>
  intro S T a a' r h e
  exact dq_loop (λ_ _ _ _ _ h e=>ih h e) n h e
 |exit id=>intro S T a a' r h e;cases e;exact⟨h,rfl⟩
 |scope c ih=>intro S T a a' r h e;exact ih h e
 |label l=>intro S T a a' r h e;cases e;exact⟨h,rfl⟩
 |ret=>intro S T a a' r h e;cases e;exact⟨h,rfl⟩
 |_=>intro S T a a' r h e;cases e
theorem dq_res (h:S[i]?=some .dead) {a:List D}:∀(l:List ResultVar) {ds:List D},resD P a S l=some ds->resD P a (S.set i ob) l=some ds
 | [],ds,e=>e
 | .tmp t::l,ds,e=>by
  unfold resD at e ⊢
  split at e
  ·rename_i h1 h2
   rw[h1,dq_res h l h2]
   exact e
  ·cases e
 | .cell t u::l,ds,e=>by
  unfold resD at e ⊢
  split at e
  ·rename_i h0
   split at e
   ·rename_i h1 h2
    rw[dq_load h h1,dq_res h l h2]
    exact e
   ·cases e
  ·cases e
theorem dq_call (hX:DqX i ob E) (hP:DqP i ob E):∀n,DqC i ob (dcall E n)
 |0=>λf args S d T h e=>by cases e
 |n+1=>λf args S d T h e=>by
  have ih:=dq_call hX hP n
  unfold dcall at e ⊢
  split at e
  ·cases e
  rename_i hm
  rw[if_neg hm]
  split at e
  ·rename_i hp
   exact hP _ _ hp _ _ _ _ h e
  ·split at e
   ·split at e
    ·split at e
     ·cases e
     ·rename_i r a' S' hne hc
      obtain⟨x,y⟩:=dq_code ih hX _ h hc
      rw[y]
      cases hres:resD E.P a' S' _ with
      |none=>rw[hres]at e;cases e
      |some ds=>
       rw[hres]at e
       cases e
       refine⟨x,?_⟩
       have hr:=dq_res (ob:=ob) x _ hres
       cases r with
       |normal=>dsimp only;rw[hr];rfl
       |exit j=>exact (hne _ rfl).elim
       |ret=>dsimp only;rw[hr];rfl
     ·cases e
    ·cases e
   ·cases e
end
section
variable {i : Nat} {ob : Ob}
theorem dqX:DqX i ob Dm.E:=by
 intro g p hp S l d T h e
 have hp:extOf g=some p:=hp
 unfold extOf at hp
 split at hp
 ·obtain rfl:=Yi hp
  exact dq_r0 h e
 split at hp
 ·obtain rfl:=Yi hp
  exact dq_r0 h e
 split at hp
 ·obtain rfl:=Yi hp
  dsimp only at e ⊢
  unfold dClone at e ⊢
  split at e
  ·split at e
   ·rename_i h1
    rw[dq_ne (dq_nd h h1 (by simp)),h1,Zg]
    dsimp only
    cases e
    exact⟨(dq_push (ob:=ob) h _).1,by rw[(dq_push (ob:=ob) h _).2]⟩
   ·cases e
  ·cases e
 split at hp
 ·obtain rfl:=Yi hp
  refine dq_rd h (λd hd=>?_) e
  unfold dOverlaps at hd ⊢
  split at hd
  ·split at hd
   ·rename_i h1 h2
    rw[dq_ne (dq_nd h h1 (by simp)),h1,h2]
    exact hd
   ·cases hd
  ·cases hd
 ·cases hp
theorem dqP:DqP i ob Dm.E:=by
 intro g p hp S l d T h e
 have hp:primOf g=some p:=hp
 unfold primOf at hp
 split at hp
 ·obtain rfl:=Yi hp
  cases l with
  |nil=>cases e;exact⟨h,rfl⟩
  |cons a l=>cases e
 ·cases hp
theorem dcall_dq {n:Nat} {f:FuncId} {args:List D} {S:List Ob} {r:D} {T:List Ob} (h:dcall Dm.E n f args (S++[.dead])=some (r,T)) (ob:Ob):T[S.length]?=some .dead/\dcall Dm.E n f args (S++[ob])=some (r,T.set S.length ob):=by
 obtain⟨a,b⟩:=dq_call (i:=S.length) (ob:=ob) dqX dqP n f args _ r T get_end h
 refine⟨a,?_⟩
 rw[<-b]
 congr 1
 exact set_end.symm
end
section
variable {p : Plc} {t : Trf} {w : List Wnt} {wx : Bool} {s : ByteArray} {sale : Int} {ko kl : Nat} {T0 : List Ob} {kS : Nat} {T U : List Ob} {dp : D} {l : List Prt} {sum : Int} {c0 c1 c2 : D} {c3 c4 : Int} {fd : Bool} {b : Option Quo} {N : Nat}
theorem PtsO.ext (h:PtsO N T dp l) (g:ExtS T U):PtsO N U dp l:=h.imp id λ⟨k,es,a,b,c⟩=>⟨k,es,a,b,g _ _ c⟩
theorem BstO.ext (h:BstO N T dp c0 c1 c2 c3 c4 fd b) (g:ExtS T U):BstO N U dp c0 c1 c2 c3 c4 fd b:=by
 cases b with
 |none=>exact h
 |some q=>
  obtain⟨h1,h2,h3,k,h4,h5,h6,h7,h8,h9⟩:=h
  exact⟨h1,h2,h3,k,h4,h5,h6,g _ _ h7,h8.ext g,h9⟩
theorem Sea.ext (h:Sea p t w wx s sale ko kl T0 kS T dp l sum c0 c1 c2 c3 c4 fd b) (g:ExtS T U) (hl:T.length<=U.length):Sea p t w wx s sale ko kl T0 kS U dp l sum c0 c1 c2 c3 c4 fd b:=
 ⟨h.ks,λk o hk ho=>g _ _ (h.kp k o hk ho),Zu h.ln hl,g _ _ h.row,h.pts.ext g,h.bst.ext g⟩
theorem Sea.mk' (ks:∃r,T0[kS]?=some (.row 19 r)) (kp:∀k o,k≠kS->T0[k]?=some o->U[k]?=some o) (ln:T0.length<=U.length) {r:List (List D)} (row:U[kS]?=some (.row 19 r)) {dp':D} {l':List Prt} {sum':Int} {c0' c1' c2':D} {c3' c4':Int} {fd':Bool} {b':Option Quo} (hp:PtsO T0.length U dp' l') (hb:BstO T0.length U dp' c0' c1' c2' c3' c4' fd' b'):
  Sea p t w wx s sale ko kl T0 kS (U.set kS (.row 19 [seaR p t w wx s sale ko kl dp' sum' c0' c1' c2' c3' c4' fd'])) dp' l' sum' c0' c1' c2' c3' c4' fd' b':=by
 refine⟨ks,λk o hk ho=>by rw[Yc (λe=>hk e.symm)];exact kp k o hk ho,by rw[Zg];exact ln,Yo (lt_of_some row),?_,?_⟩
 ·exact hp.imp id λ⟨k,es,a,b,c⟩=>⟨k,es,a,b,set_keepz row (by decide) _ _ c⟩
 ·cases b' with
  |none=>exact hb
  |some q=>
   obtain⟨h1,h2,h3,k,h4,h5,h6,h7,h8,h9⟩:=hb
   exact⟨h1,h2,h3,k,h4,h5,h6,set_keepz row (by decide) _ _ h7,h8.keepz (set_keepz row (by decide)),h9⟩
theorem Sea.upd (h:Sea p t w wx s sale ko kl T0 kS U dp l sum c0 c1 c2 c3 c4 fd b) {dp':D} {l':List Prt} {sum':Int} {c0' c1' c2':D} {c3' c4':Int} {fd':Bool} {b':Option Quo} (hp:PtsO T0.length U dp' l') (hb:BstO T0.length U dp' c0' c1' c2' c3' c4' fd' b'):
  Sea p t w wx s sale ko kl T0 kS (U.set kS (.row 19 [seaR p t w wx s sale ko kl dp' sum' c0' c1' c2' c3' c4' fd'])) dp' l' sum' c0' c1' c2' c3' c4' fd' b':=Sea.mk' h.ks h.kp h.ln h.row hp hb
end
def KeepX (kS:Nat) (T U:List Ob):Prop:=∀k o,k≠kS->T[k]?=some o->U[k]?=some o
theorem zeQuo:zeroT Tryz.prog 41=some (.agg [.nils,.nils,.nils,.int .i64 0,.int .i64 0]):=by kernel_rfl
def planFin:Plan:=steps [0,1,2,3,4,5,6,7] (.both (steps [8,9,10,11] (.step 12 (steps [13,14] .done))) (.step 12 (steps [8,9,10,11,13,14] .done)))
section
variable {n : Nat}
theorem Pfinish_d {W:Nat->Nat->Int->Int} {A:Nat->Nat->Int->Int×Int} {p:Plc} (hp:PlG p) {t:Trf} (ht:TrG t) {w:List Wnt} {wx:Bool} {s:ByteArray} {sale:Int} (hw0:w≠[]) (hw:w.length<=900) (htm:∀u∈w,u.tm) {ko kl:Nat} {T0:List Ob} {kS:Nat} {T:List Ob} {dp:D} {l:List Prt} {sum:Int} {c0 c1 c2:D} {c3 c4:Int} {fd:Bool} {b:Option Quo}
  (h:Sea p t w wx s sale ko kl T0 kS T dp l sum c0 c1 c2 c3 c4 fd b) (hl0:l≠[]) (hl:l.length<=900) (h0:∀x∈l,0<=x.am) (hn:2000010<=n):
  WO (dcall E (n+1) 53 [.loc kS 0 0] T) λr U=>r=.tup []/\T.length<=U.length/\KeepX kS T U/\∃c0 c1 c2 c3 c4 fd,Sea p t w wx s sale ko kl T0 kS U dp l sum c0 c1 c2 c3 c4 fd ((srcF W A pctF p t w s).fin l b):=by
 have gS:=h.row
 unfold seaR at gS
 have cch:=CCheck_x (n:=n) p hp.apl hp.sh hp.so t ht.rl ht.cb w wx h.pts.lr hl (by omega)
 obtain⟨q',hq'⟩:∃q',q'=(srcF W A pctF p t w s).fin l b:=⟨_,rfl⟩
 rw[<-hq']
 unfold Srch.fin at hq'
 rw[show (srcF W A pctF p t w s).chk l=decide (checkF p t w l=0) from rfl,show (srcF W A pctF p t w s).prc l=if l.all (λx=>decide (0<=x.am))=true then prcF pctF p t w s l else none from rfl,if_pos (List.all_eq_true.2 λx hx=>Yn (h0 x hx))]at hq'
 simp only[Plc.enc,Trf.enc]at cch
 generalize checkF p t w l=ck at*
 obtain⟨m,rfl⟩:∃m,n=m+1:=⟨n-1,by omega⟩
 have hSd:ExtS T (T++[.dead]):=extS_app
 obtain⟨r,T1,hA,hx1,hr⟩:=Pprice_d (n:=m) hp ht w wx s sale hw0 hw htm (h.pts.lr.ext hSd) hl0 hl h0 (by omega)
 obtain⟨hdd,hB⟩:=dcall_dq hA (Ob.row 5 [[.nils,.nils,.nils,.int .i64 0,.int .i64 0]])
 have hpp:∀q,prcF pctF p t w s l=some q->q.parts=l:=λq h=>by
  unfold prcF at h
  split at h
  ·split at h
   ·cases h
   ·obtain rfl:=Yi h
    rfl
  ·cases h
 generalize prcF pctF p t w s l=pq at*
 have hrr:∃q0 q1 q2:D,∃q3 q4 e:Int,r=.tup [.agg [q0,q1,q2,.int .i64 q3,.int .i64 q4],.int .i64 e]/\q0.one=true/\q1.one=true/\q2.one=true:=by
  cases pq with
  |none=>
   obtain⟨e,-,rfl⟩:=hr
   exact⟨_,_,_,_,_,_,rfl,rfl,rfl,rfl⟩
  |some q=>
   obtain⟨k,dq,dt,rfl,-,-,h4,h5⟩:=hr
   exact⟨_,_,_,_,_,_,rfl,rfl,h4.one,fls_one h5⟩
 obtain⟨q0,q1,q2,q3,q4,e,hrq,o0,o1,o2⟩:=hrr
 rw[hrq]at hA hB
 have cA:∀st,callD E (dcall E (m+1)) st (T++[.dead]) 31 [.agg [.sl 5 (p.aps.map Apt.enc) p.apsx,.sl 3 (p.dts.map Dst.enc) p.dtsx,.sl 9 (t.fares.map Far.enc) t.fx,.sl 15 (t.rules.map Rul.enc) t.rx,.sl 3 (t.rous.map Rou.enc) t.ox,.sl 7 (t.taxes.map Tx.enc) t.tx,.sl 8 (w.map Wnt.enc) wx,.str s,.int .i64 sale],dp]=some (.tup [.agg [q0,q1,q2,.int .i64 q3,.int .i64 q4],.int .i64 e],T1):=λst=>hA
 have cB:∀st,callD E (dcall E (m+1)) st (T++[.row 5 [[.nils,.nils,.nils,.int .i64 0,.int .i64 0]]]) 31 [.agg [.sl 5 (p.aps.map Apt.enc) p.apsx,.sl 3 (p.dts.map Dst.enc) p.dtsx,.sl 9 (t.fares.map Far.enc) t.fx,.sl 15 (t.rules.map Rul.enc) t.rx,.sl 3 (t.rous.map Rou.enc) t.ox,.sl 7 (t.taxes.map Tx.enc) t.tx,.sl 8 (w.map Wnt.enc) wx,.str s,.int .i64 sale],dp]=some (.tup [.agg [q0,q1,q2,.int .i64 q3,.int .i64 q4],.int .i64 e],T1.set T.length (.row 5 [[.nils,.nils,.nils,.int .i64 0,.int .i64 0]])):=λst=>hB
 have hTl:T.length<T1.length:=lt_of_some hdd
 have hTU:∀o,ExtS T (T1.set T.length o):=λo k o' ho=>by
  have:=lt_of_some ho
  rw[Yc (by omega)]
  exact hx1 _ _ (get_old ho)
 simp only[D.one]at o0 o1 o2
 refine wo_dcall Tryz.func53 rfl (by decide) rfl 61 rfl (λa hal ha=>?_)
 have h0:a[0]?=some (.loc kS 0 0):=ha 0 (by simp)
 clear ha
 by_cases c:ck=0
 case neg=>
  rw[if_neg (by rw[Yy];exact c)]at hq'
  subst hq'
  simp(maxSteps:=1000000)(disch:=omega)only[push_cast,not_false_eq_true,hal,h0,gS,cch,c,Tryz.f53,↓WX,simprocAttr]
  exact⟨Yt _,λk o _ ho=>ho,_,_,_,_,_,_,h⟩
 rw[if_pos (by rw[Yy];exact c)]at hq'
 refine wc_scut (λa V=>V=T/\a.length=61/\a[0]?=some (.loc kS 0 0)) ?_ ?_
 ·simp(maxSteps:=1000000)(disch:=omega)only[push_cast,not_true_eq_false,hal,h0,gS,cch,c,↓WX,simprocAttr]
 clear hal h0 a
 rintro a V ⟨rfl,hal,h0⟩
 refine wc_scut (λa U=>U=T1.set V.length (.row 5 [[q0,q1,q2,.int .i64 q3,.int .i64 q4]])/\a.length=61/\a[0]?=some (.loc kS 0 0)/\a[2]?=some (.loc V.length 0 0)/\a[3]?=some (.int .i64 e)) ?_ ?_
 ·have gSd:=λob:Ob=>get_old (J:=[ob]) gS
  have gz:=Yo (a:=Ob.row 5 [[.nils,.nils,.nils,.int .i64 0,.int .i64 0]]) hTl
  rw[wc_planL (L:=[12]) (p:=planFin) rfl]
  unfold planFin
  show WR (planD _ _ _ _ _ _ _ (V++[.dead])) _
  rw[wp_pickL rfl]
  simp only[opsOf,Yw,Zb,Yk,Yl,Yh]
  simp(maxSteps:=1000000)(disch:=omega)only[push_cast,hal,h0,gSd,↓WX,simprocAttr]
  apply wp_bothL
  ·rw[wp_pickL rfl]
   simp only[opsOf,Yw,Zb,Yk,Yl,Yh]
   simp(maxSteps:=1000000)(disch:=omega)only[push_cast,hal,cA,↓set_sorti,id_eq,↓WX,simprocAttr]
   rw[wp_slot rfl rfl zeQuo rfl (by exact hdd),wp_pickL rfl]
   simp only[opsOf,Yw,Zb,Yk,Yl,Yh]
   simp(maxSteps:=1000000)(disch:=omega)only[push_cast,hal,gz,o0,o1,o2,wp_doneL,Xf,↓set_sorti,id_eq,↓WX,simprocAttr]
   exact⟨rfl,rfl⟩
  ·rw[wp_slot rfl rfl zeQuo rfl (get_end (l:=V)),wp_pickL rfl]
   simp only[opsOf,Yw,Zb,Yk,Yl,Yh]
   simp(maxSteps:=1000000)(disch:=omega)only[push_cast,hal,set_end,cB,gz,o0,o1,o2,wp_doneL,Xf,↓set_sorti,id_eq,↓WX,simprocAttr]
  ·simp(maxSteps:=1000000)(disch:=omega)only[push_cast,hal,h0,simprocAttr]
 clear hal h0 a
 rintro a U ⟨hU,hal,h0,h2,h3⟩
 have hVU:ExtS V U:=by rw[hU];exact hTU _
 have hUl:V.length<=U.length:=by rw[hU,Zg];omega
 have gq:U[V.length]?=some (.row 5 [[q0,q1,q2,.int .i64 q3,.int .i64 q4]]):=by rw[hU];exact Yo hTl
 have h':=h.ext hVU hUl
 have gS:=hVU _ _ gS
 have kpz:∀(sz k:Nat) (es:List (List D)),T1[k]?=some (.row sz es)->U[k]?=some (.row sz es):=λsz k es hk=>by
  rw[hU,Yc (λe=>by subst e;rw[hdd]at hk;cases hk)]
  exact hk
 clear cA cB hA hB hTU
 cases pq with
 |none=>
  obtain⟨e',he,hr⟩:=hr
  rw[hrq]at hr
  have he':(e=0)=False:=eq_false (by cases hr;exact he)
  have hq':q'=b:=hq'
  subst hq'
  simp(maxSteps:=1000000)(disch:=omega)only[push_cast,hal,h3,he',decide_false,Tryz.f53,↓WX,simprocAttr]
  exact⟨hUl,λk o _ ho=>hVU k o ho,_,_,_,_,_,_,h'⟩
 |some q=>
  obtain⟨kq,dq,dt,hr,k1,k2,k3,k4⟩:=hr
  rw[hrq]at hr
  cases hr
  have hgp:U[kq]?=some (.row 4 (q.parts.map Prt.enc)):=kpz _ _ _ k2
  have hgq:LQ 2 encPr U q1 q.pairs:=k3.keepz (kpz 2)
  have hkq:V.length<kq:=by rw[Yd,List.length_singleton]at k1;omega
  have hb2:BstO T0.length U dp (.os kq 0 q.parts.length false) q1 q2 q.fare q.total true (some q):=⟨rfl,rfl,rfl,kq,rfl,by have:=h.ln;omega,λk' n' hd=>by
   rcases h.pts with ⟨hd',-⟩ | ⟨k,es,hd',-,hk⟩
   ·rw[hd']at hd;cases hd
   ·rw[hd']at hd
    obtain⟨rfl,-⟩:=D.os.inj hd
    have:=lt_of_some hk
    omega,hgp,hgq,k4⟩
  have hqp:q.parts=l:=hpp q rfl
  have hup:=h'.upd (sum':=sum) h'.pts hb2
  unfold seaR at hup
  have hkk:∀Z:Ob,KeepX kS V (U.set kS Z):=λZ k o hk ho=>by rw[Yc (λe=>hk e.symm)];exact hVU k o ho
  have hlt:=lt_of_some gS
  have hg1:=Yo (a:=Ob.row 19 [[.sl 5 (p.aps.map Apt.enc) p.apsx,.sl 3 (p.dts.map Dst.enc) p.dtsx,.sl 9 (t.fares.map Far.enc) t.fx,.sl 15 (t.rules.map Rul.enc) t.rx,.sl 3 (t.rous.map Rou.enc) t.ox,.sl 7 (t.taxes.map Tx.enc) t.tx,.sl 8 (w.map Wnt.enc) wx,.str s,.int .i64 sale,.os ko 0 w.length false,.os kl 0 (w.length+1) false,dp,.int .i64 sum,.os kq 0 q.parts.length false,q1,q2,.int .i64 q.fare,.int .i64 q.total,.bool fd]]) hlt
  cases b with
  |none=>
   obtain⟨rfl,-⟩:=h.bst
   have hq':q'=some q:=hq'
   subst hq'
   simp(maxSteps:=1000000)(disch:=omega)only[push_cast,hal,h0,h2,h3,gS,gq,hg1,o1,o2,decide_true,Bool.not_false,Xf,Tryz.f53,↓WX,simprocAttr]
   exact⟨hUl,hkk _,_,_,_,_,_,_,hup⟩
  |some c=>
   obtain⟨rfl,rfl,rfl,kb,rfl,-,-,gb,gb1,gb2⟩:=h'.bst
   have cbt:=PBetterO (n:=m+1) (u:=q) (v:=c) hgp gb hgq.one (fls_one k4) gb1.one (fls_one gb2) (by rw[hqp];omega) (by omega)
   dsimp only at hq'
   cases hbt:betterF q c
   ·rw[hbt]at cbt hq'
    have hq':q'=some c:=hq'
    subst hq'
    simp(maxSteps:=1000000)(disch:=omega)only[push_cast,hal,h0,h2,h3,gS,gq,cbt,decide_true,Bool.not_true,Tryz.f53,↓WX,simprocAttr]
    exact⟨hUl,λk o _ ho=>hVU k o ho,_,_,_,_,_,_,h'⟩
   ·rw[hbt]at cbt hq'
    have hq':q'=some q:=hq'
    subst hq'
    simp(maxSteps:=1000000)(disch:=omega)only[push_cast,hal,h0,h2,h3,gS,gq,hg1,cbt,o1,o2,decide_true,Bool.not_true,Xf,Tryz.f53,↓WX,simprocAttr]
    exact⟨hUl,hkk _,_,_,_,_,_,_,hup⟩
end
end Go.Proofs.YtaklebjoenophaaGreat.Dm
