/-
  CellBooks holds: what a book says, map by map, is the document's; so is a copy. No condition.
-/
import Derived.Test.YtgemekpofpoopaaGreatKBOO10
import Derived.Test.YtgemekpofpoopaaGreatRows
open Go.Proofs.Tryz renaming prog→af,f3→wS,params3→xI,underlying3→dJ,underlying24→od,checked→xJ
open Go.Proofs.YtgemekpofpoopaaGreat.Rows renaming cellBooksSpec→lQ,cellBooksRow→wT

set_option linter.unusedSimpArgs false
namespace Go.Proofs.YtgemekpofpoopaaGreat.cellBooks
open Go.SL Go.Proofs Go.sM Go.Cell Go.ChangeShapes Go.WideShapes Go.ChangeAt Go.RowKit
set_option linter.unusedVariables false
theorem noKnob:ownKnob af.godebug=none:=by kernel_rfl
theorem laid:laidOutB af=true:=by kernel_rfl
theorem readable:∀t,t∈wS.params.toList→af.readableRec t=true∧t<af.types.size:=by
 rw[xI]
 intro t ht
 have:t=23∨t=3∨t=3∨t=24∨t=3∨t=3:=by simpa using ht
 rcases this with rfl|rfl|rfl|rfl|rfl|rfl
 all_goals exact⟨by kernel_rfl,of_decide_eq_true (by kernel_rfl)⟩
set_option maxRecDepth 100000 in
theorem contract (H:Type) (enc:TypeId×Value→H) (W:World) (base:Nat) (args:Array Value) (ds gs:List (DataW H)) (before:List MemPlace)
  (hval:∀(j:Nat) t v,wS.params[j]? =some t→args[j]? =some v→Value.okWide af W .any base t v)
  (hW:DataW.Whole enc af wS.params.toList lQ.vars false W args.toList ds gs before):
  Calls af 3 args W fun e W'=>∃v,e= .returned v∧lQ.post enc af wS false true false false W args v W':=by
 have hW1:=hW
 obtain⟨p,q,hA,_⟩:=hW
 rw[xI]at hA hval
 obtain⟨v0,vs0,d0,ds0,p0,q0,hargs,rfl,rfl,h0,r0⟩:=trodAll_cons hA
 obtain⟨v1,vs1,d1,ds1,p1,q1,rfl,rfl,rfl,h1,r1⟩:=trodAll_cons r0
 obtain⟨v2,vs2,d2,ds2,p2,q2,rfl,rfl,rfl,h2,r2⟩:=trodAll_cons r1
 obtain⟨v3,vs3,d3,ds3,p3,q3,rfl,rfl,rfl,h3,r3⟩:=trodAll_cons r2
 obtain⟨v4,vs4,d4,ds4,p4,q4,rfl,rfl,rfl,h4,r4⟩:=trodAll_cons r3
 obtain⟨v5,vs5,d5,ds5,p5,q5,rfl,rfl,rfl,h5,r5⟩:=trodAll_cons r4
 obtain⟨rfl,rfl,rfl⟩:=trodAll_nil r5
 obtain rfl:args=#[v0,v1,v2,v3,v4,v5]:=by cases args;simp_all
 obtain⟨_,rfl,g,rfl⟩:=SP (base:=base) Tryz.underlying23 (hval 0 23 v0 rfl rfl) h0 Y8
 obtain⟨lv,hv1,_⟩:=uF (base:=base) (fun fs h=>by rw[dJ]at h;cases h) (fun n e h=>by rw[dJ]at h;cases h) (hval 1 3 v1 rfl rfl) h1 LV
 cases hv1
 obtain⟨rc,hv2,_⟩:=uF (base:=base) (fun fs h=>by rw[dJ]at h;cases h) (fun n e h=>by rw[dJ]at h;cases h) (hval 2 3 v2 rfl rfl) h2 LV
 cases hv2
 obtain⟨pl,cl,l,hv3,hl,hls⟩:=uF (base:=base) (fun fs h=>by rw[od]at h;cases h) (fun n e h=>by rw[od]at h;cases h) (hval 3 24 v3 rfl rfl) h3 acs
 cases hv3
 obtain⟨nn,hv4,hnn⟩:=uF (base:=base) (fun fs h=>by rw[dJ]at h;cases h) (fun n e h=>by rw[dJ]at h;cases h) (hval 4 3 v4 rfl rfl) h4 LV
 cases hv4
 obtain⟨mm,hv5,_⟩:=uF (base:=base) (fun fs h=>by rw[dJ]at h;cases h) (fun n e h=>by rw[dJ]at h;cases h) (hval 5 3 v5 rfl rfl) h5 LV
 cases hv5
 exact(DH g lv rc l pl cl nn mm W hl hls hnn).mono fun e W' ⟨he,hs⟩=>⟨_,he,Mq laid readable rfl rfl Tryz.underlying4 (fun ds hd=>by
  rw[xI]at hd
  match ds,hd with
  |[e0,e1,e2,e3,e4,e5],_=>rfl) hW1 hs⟩
set_option maxRecDepth 100000 in
theorem lifted (os:Os) (started:os.Started) (H:Type) (enc:TypeId×Value→H):
  ReturnsInHanded {} xJ os 3 .any (lQ.pre6 enc af wS wT.domain false) (lQ.post enc af wS false true false false):=by
 refine returnsInHanded_of_change (C:=xJ) noKnob started (by kernel_rfl) Tryz.func3
  (ChangeSpec.witness6 (enc:=enc) (C:=xJ) false ⟨#[],#[.agg #[.int .i64 0,.int .i64 0,.int .i64 0,.int .i64 0,.int .i64 0],.int .i64 0,.int .i64 0,.slice none 0 0,.int .i64 0,.int .i64 0],[]⟩ 12 (by kernel_rfl) (by kernel_rfl) (by kernel_rfl) (by kernel_rfl)) ?_
 intro W base args ds gs before hval hW _ _
 exact contract H enc W base args ds gs before hval hW
theorem over:wT.holds Tryz.pinned (OpenSpec.ofChange lQ):=
 OpenClaim.holds_of_wide 3 wS rfl rfl rfl rfl rfl rfl rfl ⟨rfl,rfl,rfl,rfl,rfl⟩ rfl rfl rfl rfl rfl (by kernel_rfl) Tryz.func3 (by kernel_rfl)
  (of_decide_eq_true (by kernel_rfl)) (by unfold Func.isWrapper;first |(rw[if_pos (by decide+kernel)];kernel_rfl)|(rw[if_neg (by decide+kernel)];exact⟨rfl,rfl⟩))
  (fun os started H enc _=>lifted os started H enc)
theorem proved:Rows.CellBooksSaid:=
 over
#print axioms proved
end Go.Proofs.YtgemekpofpoopaaGreat.cellBooks
