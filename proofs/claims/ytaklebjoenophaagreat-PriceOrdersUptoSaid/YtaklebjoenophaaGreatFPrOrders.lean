/-
  PriceOrders: Of two different valid prices of a journey just one is better.
  Conditions: the arguments are together of bulk at most 1048576.
-/
import Derived.Test.YtaklebjoenophaaGreatPqK
import Derived.Test.YtaklebjoenophaaGreatRows
import Derived.Test.YtaklebjoenophaaGreatEnvH
import Derived.OpenShut
import Derived.JoinedCond
set_option linter.unusedSimpArgs false
set_option linter.unusedVariables false
namespace Go.Proofs.YtaklebjoenophaaGreat
open Go.ChangeShapes Go.WideShapes Go.ChangeAt Go.RowKit
open Dm
namespace priceOrders
theorem plain_types:plainTs Tryz.prog ([34,41,41].flatMap Tryz.prog.book)=true:=by kernel_rfl
theorem in_types:[34,41,41].all (fun t=>([34,41,41].flatMap Tryz.prog.book).contains t)=true:=by kernel_rfl
theorem laid_out:laidOutB Tryz.prog=true:=by kernel_rfl
theorem read_types:[34,41,41].all (fun t=>Tryz.prog.readableRec t && decide (t<Tryz.prog.types.size))=true:=by kernel_rfl
set_option maxRecDepth 100000 in
theorem lifted (os:Os) (started:os.Started) (H:Type) (enc:TypeId×Value→H) (F:Stop.Interp):
  ReturnsInHanded {} Tryz.checked os 6 .any ((Rows.OpenSpec.upto Rows.priceOrdersSpec).pre6 enc Tryz.prog Tryz.f6 Rows.priceOrdersUptoRow.domain false) (((Rows.OpenSpec.upto Rows.priceOrdersSpec).at F).post enc Tryz.prog Tryz.f6 false true false false):=by
 refine returnsInHanded_of_cond (C:=Tryz.checked) (s:=Rows.OpenSpec.upto Rows.priceOrdersSpec) (k:=Rows.uptoSmall) rfl own started (by kernel_rfl) Tryz.func6
  (OpenSpec.witness (enc:=enc) (C:=Tryz.checked) (s:=Rows.OpenSpec.upto Rows.priceOrdersSpec) (k:=Rows.uptoSmall) rfl false ⟨#[],#[((Tryz.prog.info? 34).bind (·.zero)).getD default,((Tryz.prog.info? 41).bind (·.zero)).getD default,((Tryz.prog.info? 41).bind (·.zero)).getD default],[]⟩ 8 (by kernel_rfl) (by kernel_rfl) (by kernel_rfl)
   (x:=([.agg [.agg [.nil,.nil],.agg [.nil,.nil,.nil,.nil],.nil,.lit (.string []),.lit (.int .i64 0)],.agg [.nil,.nil,.nil,.lit (.int .i64 0),.lit (.int .i64 0)],.agg [.nil,.nil,.nil,.lit (.int .i64 0),.lit (.int .i64 0)]],[],[])) (by kernel_rfl) rfl (by kernel_rfl)) ?_
 intro W base args ds gs before hval0 hW _ hk _
 have hval:∀(j:Nat) t v,Tryz.f6.params[j]? =some t→args[j]? =some v→Value.okWide Tryz.prog W .any base t v:=hval0
 have hW':=hW
 obtain⟨p,q,hA0,hV,rfl,hfz,hnd⟩:=hW
 have hA:DataW.TrodAll enc Tryz.prog W 0 (fun _=>true) true Tryz.f6.params.toList args.toList ds p:=hA0
 rw[Tryz.params6]at hA hval
 have hB:=hA
 have hlt:=hA.lt
 obtain⟨v0,vs0,d0,ds0,p0,q0,hargs,rfl,rfl,h0,r0⟩:=trodAll_cons hA
 obtain⟨v1,vs1,d1,ds1,p1,q1,rfl,rfl,rfl,h1,r1⟩:=trodAll_cons r0
 obtain⟨v2,vs2,d2,ds2,p2,q2,rfl,rfl,rfl,h2,r2⟩:=trodAll_cons r1
 obtain⟨rfl,rfl,rfl⟩:=trodAll_nil r2
 obtain rfl:args=#[v0,v1,v2]:=by cases args;simp_all
 obtain⟨rfl,rfl⟩:=trodVars_none hV
 obtain⟨xs,hT,hR,-,hP0⟩:=args_of_trodB (I:=fun g=>g<W.heap.size) plain_types (fun _ h=>h) (us:=[34,41,41]) (vs:=[v0,v1,v2]) (fun t h=>by simpa using List.all_eq_true.1 in_types t h) (fun j t v h k=>hval j t v (by simpa using h) (by simpa using k)) hB
 have hP:=Nat.le_trans hP0 (bulk_small hk)
 have fin:∀(e:Ending) W',e=.returned (.bool true)∧Below W.heap.size W W'→∃v,e=.returned v∧Rows.priceOrdersSpec.post enc Tryz.prog Tryz.f6 false true false false W #[v0,v1,v2] v W':=by
  rintro e W' ⟨he,bel⟩
  subst he
  exact⟨_,rfl,_,_,_,[],_,[],hW',trodAll_mk1 (shut_bool Tryz.underlying4 _),stay_all laid_out bel read_types hB hlt,rfl,bel.frame _,fun h=>by cases h⟩
 exact (PriceOrders_walk hT hR hP).mono fun e W' h=>fin e W' h
set_option maxHeartbeats 8000000 in
theorem closed:joinedFacts Tryz.pinned.checked.prog 6 Tryz.f6 (Rows.OpenSpec.upto Rows.priceOrdersSpec).bare Rows.priceOrdersUptoRow=true:=by
 unfold joinedFacts
 simp only[Bool.and_eq_true]
 repeat' apply And.intro
 all_goals (as_aux_lemma=>kernel_rfl)
theorem proved:Rows.PriceOrdersUptoSaid:=
 OpenClaim.holds_of_cond 6 Tryz.f6 rfl rfl rfl rfl rfl rfl rfl ⟨rfl,rfl,rfl,rfl,rfl⟩ rfl rfl rfl rfl rfl (by kernel_rfl) Tryz.func6 closed
  (of_decide_eq_true (by kernel_rfl)) (by unfold Func.isWrapper;first | (rw[if_pos (by decide +kernel)];kernel_rfl) | (rw[if_neg (by decide +kernel)];exact⟨rfl,rfl⟩))
  (fun os started H enc _ F=>lifted os started H enc F)
#print axioms proved
end priceOrders
end Go.Proofs.YtaklebjoenophaaGreat
