/-
  PriceChecks: Any price is checked by the program as by the reference.
  Conditions: the arguments are together of bulk at most 1048576.
-/
import Derived.Test.YtaklebjoenophaaGreatRmI
import Derived.Test.YtaklebjoenophaaGreatRows
import Derived.Test.YtaklebjoenophaaGreatEnvH
import Derived.OpenShut
import Derived.JoinedCond
set_option maxHeartbeats 64000000
set_option maxRecDepth 100000
set_option linter.unusedSimpArgs false
set_option linter.unusedVariables false
namespace Go.Proofs.YtaklebjoenophaaGreat
open Go.ChangeShapes Go.WideShapes Go.ChangeAt Go.RowKit
open Dm
namespace priceChecks
theorem plain_types:plainTs Tryz.prog ([34,41].flatMap Tryz.prog.book)=true:=by kernel_rfl
theorem in_types:[34,41].all (λt=>([34,41].flatMap Tryz.prog.book).contains t)=true:=by kernel_rfl
theorem laid_out:laidOutB Tryz.prog=true:=by kernel_rfl
theorem read_types:[34,41].all (λt=>Tryz.prog.readableRec t && decide (t<Tryz.prog.types.size))=true:=by kernel_rfl
theorem lifted (os:Os) (started:os.Started) (H:Type) (enc:TypeId×Value->H) (F:Stop.Interp):
  ReturnsInHanded {} Tryz.checked os 4 .any ((Rows.OpenSpec.upto Rows.priceChecksSpec).pre6 enc Tryz.prog Tryz.f4 Rows.priceChecksUptoRow.domain false) (((Rows.OpenSpec.upto Rows.priceChecksSpec).at F).post enc Tryz.prog Tryz.f4 false true false false):=by
 refine returnsInHanded_of_cond (C:=Tryz.checked) (s:=Rows.OpenSpec.upto Rows.priceChecksSpec) (k:=Rows.uptoSmall) rfl own started (by kernel_rfl) Tryz.func4
  (OpenSpec.witness (enc:=enc) (C:=Tryz.checked) (s:=Rows.OpenSpec.upto Rows.priceChecksSpec) (k:=Rows.uptoSmall) rfl false ⟨#[],#[((Tryz.prog.info? 34).bind (·.zero)).getD default,((Tryz.prog.info? 41).bind (·.zero)).getD default],[]⟩ 8 (by kernel_rfl) (by kernel_rfl) (by kernel_rfl)
   (x:=([.agg [.agg [.nil,.nil],.agg [.nil,.nil,.nil,.nil],.nil,.lit (.string []),.lit (.int .i64 0)],.agg [.nil,.nil,.nil,.lit (.int .i64 0),.lit (.int .i64 0)]],[],[])) (by kernel_rfl) rfl (by kernel_rfl)) ?_
 intro W base args ds gs before hval0 hW _ hk _
 have hval:∀(j:Nat) t v,Tryz.f4.params[j]?=some t->args[j]?=some v->Value.okWide Tryz.prog W .any base t v:=hval0
 have hW':=hW
 obtain⟨p,q,hA0,hV,rfl,hfz,hnd⟩:=hW
 have hA:DataW.TrodAll enc Tryz.prog W 0 (λ_=>true) true Tryz.f4.params.toList args.toList ds p:=hA0
 rw[Tryz.params4]at hA hval
 have hB:=hA
 have hlt:=hA.lt
 obtain⟨v0,vs0,d0,ds0,p0,q0,hargs,rfl,rfl,h0,r0⟩:=trodAll_cons hA
 obtain⟨v1,vs1,d1,ds1,p1,q1,rfl,rfl,rfl,h1,r1⟩:=trodAll_cons r0
 obtain⟨rfl,rfl,rfl⟩:=trodAll_nil r1
 obtain rfl:args=#[v0,v1]:=by cases args;simp_all
 obtain⟨rfl,rfl⟩:=trodVars_none hV
 obtain⟨xs,hT,hR,-,hP0⟩:=args_of_trodB (I:=λg=>g<W.heap.size) plain_types (λ_ h=>h) (us:=[34,41]) (vs:=[v0,v1]) (λt h=>by simpa using List.all_eq_true.1 in_types t h) (λj t v h k=>hval j t v (by simpa using h) (by simpa using k)) hB
 have hP:=Vk hP0 (bulk_small hk)
 have fin:∀(e:Ending) W',e=.returned (.bool true)/\Below W.heap.size W W'->∃v,e=.returned v/\Rows.priceChecksSpec.post enc Tryz.prog Tryz.f4 false true false false W #[v0,v1] v W':=by
  rintro e W' ⟨he,bel⟩
  subst he
  exact⟨_,rfl,_,_,_,[],_,[],hW',trodAll_mk1 (shut_bool Tryz.underlying4 _),stay_all laid_out bel read_types hB hlt,rfl,bel.frame _,λh=>by cases h⟩
 exact (PriceChecks_walk hT hR hP).mono λe W' h=>fin e W' h
theorem closed:joinedFacts Tryz.pinned.checked.prog 4 Tryz.f4 (Rows.OpenSpec.upto Rows.priceChecksSpec).bare Rows.priceChecksUptoRow=true:=by
 unfold joinedFacts
 simp only[Kv]
 repeat' apply And.intro
 all_goals (as_aux_lemma=>kernel_rfl)
theorem proved:Rows.PriceChecksUptoSaid:=
 OpenClaim.holds_of_cond 4 Tryz.f4 rfl rfl rfl rfl rfl rfl rfl ⟨rfl,rfl,rfl,rfl,rfl⟩ rfl rfl rfl rfl rfl (by kernel_rfl) Tryz.func4 closed
  (Vb (by kernel_rfl)) (by unfold Func.isWrapper;first | (rw[if_pos (by decide +kernel)];kernel_rfl) | (rw[if_neg (by decide +kernel)];exact⟨rfl,rfl⟩))
  (λos started H enc _ F=>lifted os started H enc F)
#print axioms proved
end priceChecks
end Go.Proofs.YtaklebjoenophaaGreat
