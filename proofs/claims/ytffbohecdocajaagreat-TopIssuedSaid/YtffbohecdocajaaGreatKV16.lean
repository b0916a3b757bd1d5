/-
  TopIssued: every run of it returns true.
-/
import Derived.Test.YtffbohecdocajaaGreatKV15
import Derived.Test.YtffbohecdocajaaGreatRows
open Go.Proofs.Tryz renaming prog→ae,f5→xP,params5→BA,checked→BB
open Go.Proofs.YtffbohecdocajaaGreat.Rows renaming topIssuedSpec→kY

set_option linter.unusedSimpArgs false
set_option maxRecDepth 20000
set_option maxHeartbeats 8000000
namespace Go.Proofs.YtffbohecdocajaaGreat.topIssued
open Go.SL Go.Proofs Go.qO Go.Cell Go.ChangeShapes Go.WideShapes Go.ChangeAt Go.RowKit
set_option linter.unusedVariables false
theorem aeD:ownKnob ae.godebug=none:=by kernel_rfl
theorem laid:laidOutB ae=true:=by kernel_rfl
theorem readable:∀t,t∈xP.params.toList→ae.readableRec t=true∧t<ae.types.size:=by
 rw[BA]
 intro t ht
 have:t=86:=by simpa using ht
 rcases this with rfl
 all_goals exact⟨by kernel_rfl,of_decide_eq_true (by kernel_rfl)⟩
set_option maxRecDepth 100000 in
theorem Tg (H:Type) (enc:TypeId×Value→H) (W:World) (base:Nat) (args:Array Value) (ds gs:List (DataW H)) (before:List MemPlace)
  (hval:∀(j:Nat) t v,xP.params[j]? =some t→args[j]? =some v→Value.okWide ae W .any base t v)
  (hW:DataW.Whole enc ae xP.params.toList kY.vars false W args.toList ds gs before):
  Calls ae 5 args W fun e W'=>∃v,e= .returned v∧kY.post enc ae xP false true false false W args v W':=by
 have hW1:=hW
 obtain⟨p,q,hA,_⟩:=hW
 rw[BA]at hA hval
 obtain⟨v0,vs0,d0,ds0,p0,q0,hargs,rfl,rfl,h0,r0⟩:=trodAll_cons hA
 obtain⟨rfl,rfl,rfl⟩:=trodAll_nil r0
 obtain rfl:args=#[v0]:=by cases args;simp_all
 obtain⟨_,rfl,x,rfl,hx,hk⟩:=Yg (base:=base) Tryz.underlying86 (hval 0 86 v0 rfl rfl) h0 ami
 exact(JE x W hx hk R6).mono fun e W' ⟨he,hs⟩=>⟨_,he,TM laid readable rfl rfl Tryz.underlying4 (fun ds hd=>by
  rw[BA]at hd
  match ds,hd with
  |[e0],_=>rfl) hW1 hs⟩
set_option maxRecDepth 100000 in
theorem lifted (os:Os) (started:os.Started) (H:Type) (enc:TypeId×Value→H):
  ReturnsInHanded {} BB os 5 .any (kY.pre6 enc ae xP Rows.topIssuedRow.domain false) (kY.post enc ae xP false true false false):=by
 refine returnsInHanded_of_change (C:=BB) aeD started (by kernel_rfl) Tryz.func5
  (ChangeSpec.witness6 (enc:=enc) (C:=BB) false ⟨#[],#[.agg #[.int .u8 0,.int .u8 0,.slice none 0 0,.int .u8 0,.int .u8 0,.slice none 0 0,.int .u16 0,.slice none 0 0]],[]⟩ 12 (by kernel_rfl) (by kernel_rfl) (by kernel_rfl) (by kernel_rfl)) ?_
 intro W base args ds gs before hval hW _ _
 exact Tg H enc W base args ds gs before hval hW
end Go.Proofs.YtffbohecdocajaaGreat.topIssued
