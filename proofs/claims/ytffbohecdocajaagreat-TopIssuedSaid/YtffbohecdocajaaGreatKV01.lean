/-
  Sets of ints: maps from int to bool whose values are all true.
  (and more)
-/
import Derived.Test.YtffbohecdocajaaGreatKV00
import Derived.Test.YtffbohecdocajaaGreatChecked
import Derived.ChangeKeysEq
open Go.Instr renaming findNow→kt,checkKey→mX,mapUpdate→lq,fill→jK
open List renaming mem_cons→cA,mem_of_getElem?→al,getElem?_eq_none→aH,map_append→bj,nodup_append→lM,mem_map→bQ,mem_append→bZ,mem_singleton→bT,getElem?_eq_getElem→af,range→br,getElem?_map→aw,getElem?_range→eu,drop_eq_getElem_cons→cY,drop_of_length_le→mw,foldlM_cons→BP,take_append_drop→gQ,map_cons→fD,map_nil→mP,getD→jw,getElem?_eq_some_iff→aj,getElem_of_mem→da,pairwise_iff_getElem→be,getElem_map→gi,all_eq_true→bF,any_eq_true→eG,map_map→dG,nodup_cons→mQ,perm_middle→jm,mem_filter→bK,mem_range→bf,mem_append_left→dg,mem_filterMap→iy,mem_append_right→eX,append_nil→c9,filter_eq_nil_iff→ff,length_filter_le→cH,eq_nil_iff_forall_not_mem→qc,getElem?_take→r5
open Go.Sem renaming run_bind→bz,run_pure→cG
open Go.Result renaming andThen_ok→bw
open Go.Op renaming operands→az,equalIn→gP,eqFields→tT,eqItems→Bq
open Nat renaming lt_or_ge→aK,blt→df,le_of_ble_eq_true→bh,add_mul→fF,beq→eV,le_of_eq→tU,eq_of_beq_eq_true→bO,lt_trichotomy→e9,beq_refl→fC,ble_eq_true_of_le→di,strongRecOn→jU,lt_of_lt_of_le→et,eq_zero_or_pos→eO,zero_le→bG,lt_of_le_of_lt→kG,le_trans→eL,ble→rV,blt_eq→o8
open Array renaming getElem?_eq_some_iff→eo,toList_push→jl,ext'→sV,all_eq_true_iff_forall_mem→dW,getElem?_setIfInBounds_ne→aS,replicate→jF,getElem?_replicate→dN,getD_eq_getD_getElem?→kP,getElem?_setIfInBounds_self_of_lt→hU
open Bool renaming or_eq_true→fj,false_eq_true→bP,not_true→fb,and_eq_true→aQ,false_or→fo,not_eq_true'→bR
open Option renaming bind_some→ll,getD_some→dk,map_some→dH,map_eq_some_iff→j8
open Go.Region renaming wanted→gk,binds→dq,ready→dr
open Classical renaming not_not→cL,not_forall→rE,byContradiction→eR
open Int renaming mul_ediv_add_emod→uD,emod_lt_of_pos→rC,tdiv_eq_ediv_of_nonneg→mM,ediv_le_self→sX,mul_neg→rX,ediv_emod_unique→mN,mul_le_mul_of_nonneg_right→dX,mul_le_mul→vw
open Go.Proofs.Tryz renaming prog→ae,underlying88→kz,underlying25→sY,underlying108→rZ,underlying45→sZ
open Go.SL.VO renaming l→ah
open Go.SL.VC renaming ret→aP,seq→ak,cond→ay,skip→aC
open Go.SL.LO renaming call→bD
open Go.SL.VE renaming aN→ag,mB→cI,cJ→a8,gL→bB
open Go.Act renaming put→eK,eval→ep
open Ne renaming symm→eD
open Option.some renaming injEq→oh

set_option linter.unusedSimpArgs false
set_option maxRecDepth 20000
set_option maxHeartbeats 8000000
namespace Go.SL
set_option linter.unusedVariables false
open Go.RowKit
structure agY (es:List MapEntry) (S:Int→Bool):Prop where
 zN:∀e,e∈es→∃n,e.key=fB n∧e.val= .bool true∧S n=true
 mem:∀n,S n=true→∃e,e∈es∧e.key=fB n
 A5:es.Pairwise fun a b=>a.key≠b.key
def mH (es:List MapEntry) (clock:Nat):Prop:=(es.map (·.born)).Nodup∧∀e,e∈es→e.born<clock
def oN (b:Nat) (S:Int→Bool):cq:=⟨fun k=>k=b,fun w=>∃es clock,w.heap[b]? =some (.map es clock)∧agY es.toList S∧mH es.toList clock,fun h ⟨es,c,h1,h2⟩=>⟨es,c,(h b rfl).trans h1,h2⟩⟩
theorem mF {a b:Int} (h:fB a=fB b):a=b:=by simpa [fB]using h
theorem vc {k:IntKind} {n:Int}:∀{es:List MapEntry} (i:Nat),(∀e,e∈es→∃m,e.key=fB m∧e.val= .bool true)→
  (∃j,kt (.int k) (fB n) es i=some (some (j,.bool true))∧i≤j∧∃e,es[j-i]? =some e∧e.key=fB n)∨(kt (.int k) (fB n) es i=some none∧∀e,e∈es→e.key≠fB n)
 |[],i,_=>.inr ⟨rfl,by simp⟩
 |e::es,i,h=>by
  obtain⟨m,hm,hv⟩:=h e (by simp)
  simp only[kt,hm,fB,Instr.sameNow,if_true]
  by_cases q:n=m
  ·subst q
   left
   simp only[beq_self_eq_true]
   exact⟨i,by rw[hv],Nat.le_refl _,e,by simp,hm⟩
  ·have:(n==m)=false:=by simp [q]
   rw[this]
   rcases vc (k:=k) (n:=n) (es:=es) (i+1) (fun e' he=>h e' (by simp [he])) with⟨j,h1,h2,e',h3,h4⟩|⟨h1,h2⟩
   ·left
    refine⟨j,h1,by omega,e',?_,h4⟩
    rw[show j-i=(j-(i+1))+1 by omega]
    simpa using h3
   ·right
    refine⟨h1,?_⟩
    intro e' he
    rcases cA.1 he with rfl|he
    ·rw[hm];exact fun e=>q (mF e).symm
    ·exact h2 e' he
section
variable {P:Program} {ro:Option Nat} {β:Bs} {N:Nat} {ds:List Deferred} {env:Env} {L:List cq} {Q:Exit→Act→World→Prop}
variable {d:Option Nat} {ty:TypeId} {pos:String} {aft:Array Edge} {g:Option (Nat×Bool)}
def Ju (P:Program) (T:Nat):Prop:=∃K E k,P.underlying T=some (.map K E)∧P.underlying K=some (.int k)∧cj P E (.bool false)
theorem lV {K:TypeId} {k:IntKind} (hK:P.underlying K=some (.int k)) (e:Bool) (n:Nat) (v:Value) (w:World):(mX e (n+1) K v).run P w= .ok () w:=by
 simp [mX,run_underlying hK]
theorem Dj {T b:Nat} {S:Int→Bool} {n:Int} {w:World} (hT:Ju P T) (hi:(oN b S).inv w):(Instr.lookup T (.map (some b)) (fB n) false).run P w= .ok (.bool (S n)) w:=by
 obtain⟨K,E,k,hu,hK,hz⟩:=hT
 obtain⟨es,clock,hb,hs,_⟩:=hi
 have hobj:(getObj b).run P w= .ok (.map es clock) w:=by simp [getObj,Sem.run,hb]
 simp only[Instr.lookup,bz,run_underlying hu,bw,hobj,cG,lV hK,Instr.findKey,run_underlying hK]
 rcases vc (k:=k) (n:=n) (es:=es.toList) 0 (fun e he=>by obtain⟨m,h1,h2,_⟩:=hs.zN e he;exact⟨m,h1,h2⟩) with⟨j,h1,h2,e,h3,h4⟩|⟨h1,h2⟩
 ·rw[h1]
  have hm:e∈es.toList:=al h3
  obtain⟨m,g1,g2,g3⟩:=hs.zN e hm
  have:m=n:=mF (g1.symm.trans h4)
  subst this
  simp [g3]
 ·rw[h1]
  have:S n=false:=by
   cases q:S n
   ·rfl
   ·obtain⟨e,he,hk⟩:=hs.mem n q
    exact absurd hk (h2 e he)
  simp [mc hz,this]
theorem LO.lk {x y:Operand} {T b:Nat} {S:Int→Bool} {n:Int} (hT:Ju P T) (hx:OV env x (.map (some b))) (hy:OV env y (.int .i64 n)) (hi:∀w,St β L w→(oN b S).inv w):LO P β env L ⟨d,.lookup T x y false,ty,pos,aft,g⟩ (.bool (S n)):=
 .ee fun a w h hw=>⟨w,by
  have:=Dj (n:=n) hT (hi w hw)
  simp only[fB]at this
  simp [execOp,h x (by simp [az]) _ hx,h y (by simp [az]) _ hy,this],hw⟩
def EL (S:Int→Bool) (n:Int):Int→Bool:=fun m=>decide (m=n)||S m
theorem yC {T b:Nat} {S:Int→Bool} {n:Int} {w:World} (hT:Ju P T) (i:Nat) (hw:St β L w) (hi:L[i]? =some (oN b S)):
  ∃w',(lq T (.map (some b)) (fB n) (.bool true)).run P w= .ok () w'∧St β (L.set i (oN b (EL S n))) w':=by
 obtain⟨K,E,k,hu,hK,hz⟩:=hT
 obtain⟨es,clock,hb,hs,hst⟩:=hw.inv i _ hi
 have hobj:(getObj b).run P w= .ok (.map es clock) w:=by simp [getObj,Sem.run,hb]
 have hlt:i<L.length:=by
  rcases aK i L.length with q|q
  ·exact q
  ·simp [aH q]at hi
 have hset:∀o,(setObj b o).run P w= .ok () (w.putObj b o):=fun o=>by simp [setObj,Sem.run,hb,World.putObj]
 
 have h1:St β (L.set i (de b (.map es clock))) w:=hw.conv i hi (fun k hk=>hk) hb
 have SR:∀es' clock',agY es'.toList (EL S n)→mH es'.toList clock'→St β (L.set i (oN b (EL S n))) (w.putObj b (.map es' clock')):=by
  intro es' clock' hse hst'
  have hg:(L.set i (de b (.map es clock)))[i]? =some (de b (.map es clock)):=by simp [hlt]
  have h2:=h1.obj (o':=.map es' clock') i hg
  rw[List.set_set]at h2
  have hg2:(L.set i (de b (.map es' clock')))[i]? =some (de b (.map es' clock')):=by simp [hlt]
  have h3:=h2.conv i (r':=oN b (EL S n)) hg2 (fun k hk=>hk) ⟨es',clock',h2.inv i _ hg2,hse,hst'⟩
  rwa [List.set_set]at h3
 simp only[lq,bz,run_underlying hu,bw,hobj,lV hK,Instr.findKey,run_underlying hK]
 rcases vc (k:=k) (n:=n) (es:=es.toList) 0 (fun e he=>by obtain⟨m,h1,h2,_⟩:=hs.zN e he;exact⟨m,h1,h2⟩) with⟨j,h1',h2,e,h3,h4⟩|⟨h1',h2⟩
 ·rw[h1']
  simp only[Nat.sub_zero]at h3
  have hj:es[j]? =some e:=by simpa using h3
  have hjl:j<es.size:=(eo.1 hj).1
  have hme:es[j]=e:=(eo.1 hj).2
  obtain⟨m,g1,g2,g3⟩:=hs.zN e (al h3)
  have hmn:m=n:=mF (g1.symm.trans h4)
  subst hmn
  have hmod:(es.modify j fun e=>{ e with key:=fB m,val:=.bool true })=es:=by
   apply Array.ext
   ·simp
   ·intro k hk1 hk2
    rw[Array.getElem_modify]
    split
    ·rename_i q
     subst q
     rw[hme, ←g1, ←g2]
    ·rfl
  refine⟨w.putObj b (.map es clock),?_,SR es clock ?_ hst⟩
  ·simp [hj,g1,Instr.keyThatStays,fB,Instr.sameBits]
   rw[show(es.modify j fun e=>{ key:=Value.int .i64 m,val:=Value.bool true,born:=e.born })=es from hmod,hset]
  ·refine⟨fun e' he'=>?_,fun k hk=>?_,hs.A5⟩
   ·obtain⟨a,b1,b2,b3⟩:=hs.zN e' he'
    exact⟨a,b1,b2,by simp [EL,b3]⟩
   ·simp only[EL,fj,decide_eq_true_eq]at hk
    rcases hk with rfl|hk
    ·exact hs.mem _ g3
    ·exact hs.mem k hk
 ·rw[h1']
  refine⟨_,hset _,SR (es.push { key:=fB n,val:=.bool true,born:=clock }) (clock+1) ?_ ?_⟩
  case refine_2=>
   simp only[jl]
   refine⟨?_,fun e' he'=>?_⟩
   ·rw[bj,lM]
    refine⟨hst.1,by simp,?_⟩
    intro a ha b hb
    obtain⟨x,hx,rfl⟩:=bQ.1 ha
    have:=hst.2 x hx
    simp at hb
    omega
   ·rcases bZ.1 he' with q|q
    ·have:=hst.2 e' q;omega
    ·simp at q;subst q;exact Nat.lt_succ_self _
  refine⟨fun e' he'=>?_,fun k hk=>?_,?_⟩
  ·simp only[jl,bZ,bT]at he'
   rcases he' with he'|rfl
   ·obtain⟨a,b1,b2,b3⟩:=hs.zN e' he'
    exact⟨a,b1,b2,by simp [EL,b3]⟩
   ·exact⟨n,rfl,rfl,by simp [EL]⟩
  ·simp only[EL,fj,decide_eq_true_eq]at hk
   by_cases q:k=n
   ·exact⟨{ key:=fB n,val:=.bool true,born:=clock },by simp,by rw[q]⟩
   ·obtain⟨e,he,hke⟩:=hs.mem k (by simpa [q]using hk)
    exact⟨e,by simp [he],hke⟩
  ·simp only[jl]
   rw[List.pairwise_append]
   refine⟨hs.A5,by simp,?_⟩
   intro a ha b hb
   simp at hb;subst hb
   exact h2 a ha
section
variable {K:Value→List cq→Prop} {dd:Option Nat}
theorem HO.ahE {T:Nat} (k:∀b,K (.map (some b)) (oN b (fun _=>false)::L)):HO P β env L ⟨dd,.makeMap T none,ty,pos,aft,none⟩ K:=by
 intro a w h hw
 refine .inl ⟨_,w.alloc (.map #[] 0),_,_,?_,.inl rfl,k w.heap.size,?_⟩
 ·simp [execOp,run_makeMap]
 ·have h1:=hw.alloc (.map #[] 0)
  have:=h1.conv 0 (r':=oN w.heap.size (fun _=>false)) rfl (fun k hk=>hk) ⟨#[],0,h1.inv 0 _ rfl,⟨by simp,by simp,by simp⟩,by simp,by simp⟩
  simpa using this
theorem HO.mu (i:Nat) (LF:cq→List cq) {x y z:Operand} {T b:Nat} {S:Int→Bool} {n:Int} (hT:Ju P T) (hx:OV env x (.map (some b))) (hy:OV env y (.int .i64 n)) (hz:OV env z (.bool true)) (hi:L[i]? =some (oN b S)) (hL:∀R:cq,L.set i R=LF R)
  (k:K undef (LF (oN b (EL S n)))):HO P β env L ⟨dd,.mapUpdate T x y z,ty,pos,aft,none⟩ K:=by
 intro a w h hw
 obtain⟨w',h1,h2⟩:=yC (n:=n) hT i hw hi
 simp only[fB]at h1
 refine .inl ⟨.skip,w',undef,_,?_,.inr ⟨rfl,rfl⟩,k,by rw[←hL];exact h2⟩
 have ex:a.eval x= .map (some b):=by obtain⟨u,hu,e⟩:=hx;subst e;exact h x (by simp [az]) _ hu
 have ey:a.eval y= .int .i64 n:=by obtain⟨u,hu,e⟩:=hy;subst e;exact h y (by simp [az]) _ hu
 have ez:a.eval z= .bool true:=by obtain⟨u,hu,e⟩:=hz;subst e;exact h z (by simp [az]) _ hu
 simp [execOp,ex,ey,ez,h1]
end
theorem HO.fP {α:Type} {K:Value→List cq→Prop} {dd:Option Nat} {f:FuncId} {xs:List Operand} {vs:List Value} {aT:Array TypeId} {v:α→Value} {R:α→List cq} {I:α→Prop} (hf:ef P f) (hx:B9 env xs vs)
  (hc:∀w,St β L w→Calls P f vs.toArray w fun e w'=>∃x,I x∧e= .returned (v x)∧St (Go.SL.bs w) (R x) w') (k:∀x,I x→K (v x) (R x++L)):HO P β env L ⟨dd,.call ⟨.value (.func f),xs.toArray,aT⟩,ty,pos,aft,none⟩ K:=
 HO.call (post:=fun v' R'=>∃x,I x∧v'=v x∧R'=R x) hf hx (fun w hw=>(hc w hw).mono fun e w' ⟨x,h1,h2,h3⟩=>⟨v x,R x,h2,⟨x,h1,rfl,rfl⟩,h3⟩) (fun v' R' ⟨x,h1,h2,h3⟩=>by subst h2;subst h3;exact k x h1)
end
section
variable {P:Program} {ro:Option Nat} {β:Bs} {N:Nat} {ds:List Deferred} {env:Env} {L:List cq} {Q:Exit→Act→World→Prop}
theorem VC.eP {α:Type} (n:Nat) (E:α→Env) (Ek:Env) (F:α→List cq) (I:α→Prop) (μ:α→Nat) (x0:α) {c:Code} (h0:I x0) (hE:Sub (E x0++Ek) env)
  (hF:∀w,St β L w→St β (F x0++L.drop n) w)
  (hr:∀x,I x→VC P ro β N ds (E x++Ek) (F x++L.drop n) c (Exit.then (fun a w=>∃y,I y∧μ y<μ x∧Ag N ds (E y++Ek) a∧St β (F y++L.drop n) w) Q)):VC P ro β N ds env L (.loop c) Q:=
 VC.loop (fun x=>E x++Ek) (fun x=>F x++L.drop n) I μ x0 h0 hE hF hr
theorem VO.hg {ops:Array Oper} {d j t:Nat} {want c:Bool} {op:Op} {ty:TypeId} {pos:String} {aft:Array Edge} {rest:List Oper} {u:Value} {Kx:Value→List cq→Prop} (hj:(ops[j]?).bind (·.dst)=some t) (ht:jx env t=some u) (hg:GD u want c)
  (h:c=true→HO P β env L ⟨some d,op,ty,pos,aft,some (j,want)⟩ Kx) (hd:df d N=true)
  (k:∀v L',(c=true→Kx v L')→(c=false→L'=L)→VO P ro β N ds ops ((d,gv c v)::env) L' rest Q):VO P ro β N ds ops env L (⟨some d,op,ty,pos,aft,some (j,want)⟩::rest) Q:=by
 intro a w ha hw
 have ht':=ha.get t u ht
 have hy:yielded ops a.tmps j=vb u:=by
  unfold yielded;rw[hj];simp only[ll,ht'];cases u<;>rfl
 refine wpListIn_step fun K hK=>?_
 simp only[gk,hy]
 cases c with
 |true=>
  have hu:=hg.1 rfl
  subst hu
  simp only[vb,beq_self_eq_true,if_true]
  exact(h rfl).wp (fun x _ u hu=>ha.eval hu) hw fun v L' w' hk hs=>hK _ _ (by have:=k v L' (fun _=>hk) (fun q=>by cases q) _ w' (ha.put (bh hd) (gv true v)) hs;simpa [gv]using this)
 |false=>
  have hu:=hg.2 rfl
  have hne:(vb u==some want)=false:=by
   cases u<;>simp_all [vb]
  simp only[hne,bP,if_false]
  refine⟨fun _ _=>True.intro,hK _ _ ?_⟩
  have:=k undef L (fun q=>by cases q) (fun _=>rfl) _ w (ha.put (bh hd) (gv false undef)) hw
  simpa [gv]using this
theorem VO.yg (i:Nat) {ops:Array Oper} {d j t:Nat} {want c:Bool} {ty:TypeId} {pos:String} {aft:Array Edge} {rest:List Oper} {u:Value} {fx:Operand} {xs:List Operand} {vs:List Value} {aT:Array TypeId} {l:Nat} {r:cq} {post:Bool→cq→Prop} (hj:(ops[j]?).bind (·.dst)=some t) (ht:jx env t=some u) (hg:GD u want c) (hd:df d N=true)
  (hfx:c=true→OV env fx (yv l)) (hx:B9 env xs vs) (hi:L[i]? =some r)
  (hy:c=true→∀w,r.inv w→(∀k,r.fp k→k<w.heap.size)→(w.os=β.w.os∧w.tape=β.w.tape∧w.output=β.w.output∧β.w.heap.size≤w.heap.size)→yW P l vs w fun e w'=>∃b r',e= .returned (.bool b)∧post b r'∧St ⟨w,r.fp⟩ [r'] w')
  (k:∀b r',(c=true→post b r')→(c=false→r'=r)→VO P ro β N ds ops ((d,gv c (.bool b))::env) (L.set i r') rest Q):
  VO P ro β N ds ops env L (⟨some d,.call ⟨.value fx,xs.toArray,aT⟩,ty,pos,aft,some (j,want)⟩::rest) Q:=by
 cases c with
 |true=>
  exact VO.hg (Kx:=fun v L'=>∃b r',v= .bool b∧L'=L.set i r'∧post b r') hj ht hg (fun q=>HO.yield i (hfx q) hx hi (hy q) fun b r' hp=>⟨b,r',rfl,rfl,hp⟩) hd fun v L' h1 _=>by
   obtain⟨b,r',h2,h3,h4⟩:=h1 rfl
   subst h2;subst h3
   exact k b r' (fun _=>h4) (fun q=>by cases q)
 |false=>
  refine VO.hg (Kx:=fun _ _=>False) hj ht hg (fun q=>by cases q) hd fun v L' _ h2=>?_
  have h3:=h2 rfl
  subst h3
  have h4:=k true r (fun q=>by cases q) (fun _=>rfl)
  have h5:L'.set i r=L':=by
   apply List.ext_getElem?
   intro n
   rw[List.getElem?_set]
   split
   ·rename_i q;subst q
    split
    ·exact hi.symm
    ·rename_i q;simp [aH (Nat.not_lt.1 q)]at hi
   ·rfl
  rw[h5]at h4
  exact h4
theorem St.one {w:World} {r:cq} (hi:r.inv w) (hb:∀k,r.fp k→k<w.heap.size):St ⟨w,r.fp⟩ [r] w:=by
 refine⟨rfl,rfl,rfl,Nat.le_refl _,fun _ _ _=>rfl,?_,?_,?_⟩
 ·intro i s hs
  cases i with
  |zero=>simp at hs;subst hs;exact hi
  |succ n=>simp at hs
 ·intro i s hs k hk
  cases i with
  |zero=>simp at hs;subst hs;exact⟨.inl hk,hb k hk⟩
  |succ n=>simp at hs
 ·intro i j s t hij hs ht k _ _
  cases i with
  |zero=>cases j with
   |zero=>exact hij rfl
   |succ n=>simp at ht
  |succ n=>simp at hs
theorem ed.mk {T:Nat} {PL:List (Nat×Nat)} {Z:List Value} (h:∀ps,P.built T ps=jK (PL.toArray[·]?) Z.toArray ps):ed P T PL Z:=fun ps=>by
 rw[h]
 have:(fun x=>PL.toArray[x]?)=fun x:Nat=>PL[x]? :=funext fun i=>by simp
 rw[this]
end
end Go.SL
namespace Go.qO
structure cU where
 x:Int
 y:Int
 size:Int
 wide:Int
 high:Int
structure Au where
 a:Int
 b:Int
 c:Int
 d:Int
 deriving DecidableEq
structure cZ where
 sure:List Int
 may:List Int
 fh:Au
 grow:Int
def cF (g:cU):Prop:=(-1048576≤g.x∧g.x≤1048576)∧(-1048576≤g.y∧g.y≤1048576)∧(1≤g.size∧g.size≤10000)∧(1≤g.wide∧g.wide≤64)∧(1≤g.high∧g.high≤64)
instance (g:cU):Decidable (cF g):=by unfold cF;exact inferInstance
def im (f:Au):Prop:=(-100000≤f.a∧f.a≤f.b∧f.b≤100000)∧(-100000≤f.c∧f.c≤f.d∧f.d≤100000)
instance (f:Au):Decidable (im f):=by unfold im;exact inferInstance
def lQ (g:cU):Int:=if cF g then 0 else 3
def yr (f:Au):Int:=if im f then 0 else 3
def gy (f:Nat→Int):Nat→Int
 |0=>0
 |n+1=>if gy f n≠0 then gy f n else f n
theorem iw {f:Nat→Int}:∀{n:Nat},(∀k,k<n→f k=0)→gy f n=0
 |0,_=>rfl
 |n+1,h=>by
  have:=iw (f:=f) (n:=n) (fun k hk=>h k (by omega))
  simp [gy,this,h n (by omega)]
theorem mT {f:Nat→Int} {i:Nat} (h:∀k,k<i→f k=0) (hi:f i≠0):∀{n:Nat},i<n→gy f n=f i
 |0,hn=>by omega
 |n+1,hn=>by
  by_cases e:i=n
  ·subst e;simp [gy,iw h]
  ·have:=mT h hi (n:=n) (by omega)
   simp [gy,this,hi]
theorem oW {f:Nat→Int}:∀{n:Nat},gy f n=0→∀k,k<n→f k=0
 |0,_,k,hk=>by omega
 |n+1,h,k,hk=>by
  unfold gy at h
  split at h
  ·rename_i q;exact absurd h q
  ·rename_i q
   simp only[ne_eq,cL]at q
   by_cases e:k=n
   ·subst e;exact h
   ·exact oW q k (by omega)
def lO (g:cU) (l:List Int) (i:Nat):Int:=if ¬(0≤l.getD i 0∧l.getD i 0≤g.wide*g.high-1) then 4 else if 0<i∧l.getD i 0≤l.getD (i-1) 0 then 12 else 0
def rK (m l:List Int) (i:Nat):Int:=if 0<i∧l.getD i 0≤l.getD (i-1) 0 then 12 else if l.getD i 0∉m then 11 else 0
def fy (g:cU) (c:cZ):Int:=
 if ¬cF g then 3 else if ¬im c.fh then 3 else if ¬(0≤c.grow∧c.grow≤10000) then 3 else if c.may=[]then 18
 else if gy (lO g c.may) c.may.length≠0 then gy (lO g c.may) c.may.length else gy (rK c.may c.sure) c.sure.length
def fW (l:List Int) (n:Int):Bool:=decide (n∈l)
theorem PB (a b:Int) (hb:0<b) (h1: -9223372036854775807≤a) (h2:a≤9223372036854775807): -9223372036854775807≤a.tdiv b∧a.tdiv b≤9223372036854775807∧(a.tmod b<0→a / b=a.tdiv b-1)∧(0≤a.tmod b→a / b=a.tdiv b)∧ -9223372036854775807≤a / b:=by
 have e:=Int.mul_tdiv_add_tmod a b
 have f:=uD a b
 have hm:=Int.emod_nonneg a (by omega:b≠0)
 have hm2:=rC a hb
 rcases Int.le_total 0 a with h|h
 ·have r1:=Int.tmod_nonneg b h
  have e1:a.tdiv b=a / b:=mM h
  have d1:0≤a / b:=Int.ediv_nonneg h (by omega)
  have d2:a / b≤a:=sX b h
  refine⟨by omega,by omega,fun q=>by omega,fun _=>e1.symm,by omega⟩
 ·have r1:a.tdiv b= -((-a) / b):=by
   have:=Int.neg_tdiv (a:= -a) (b:=b)
   rw[Int.neg_neg]at this
   rw[this,mM (by omega)]
  have d1:0≤(-a) / b:=Int.ediv_nonneg (by omega) (by omega)
  have d2:(-a) / b≤ -a:=sX b (by omega)
  have d3:=uD (-a) b
  have d4:=Int.emod_nonneg (-a) (by omega:b≠0)
  have d5:=rC (-a) hb
  have t1:a.tmod b=a-b*a.tdiv b:=by omega
  have key:b*a.tdiv b= -(b*((-a) / b)):=by rw[r1,rX]
  refine⟨by omega,by omega,fun q=>?_,fun q=>?_,?_⟩
  ·have h7:0<(-a)%b:=by omega
   have:a / b= -((-a) / b)-1:=by
    have:a=b*(-((-a) / b)-1)+(b-(-a)%b):=by rw[Int.mul_sub,rX];omega
    have h8:=mN (a:=a) (b:=b) (r:=b-(-a)%b) (q:= -((-a) / b)-1) hb
    exact(h8.2 ⟨by omega,by omega,by omega⟩).1
   omega
  ·have h7:(-a)%b=0:=by omega
   have:a / b= -((-a) / b):=by
    have h8:=mN (a:=a) (b:=b) (r:=0) (q:= -((-a) / b)) hb
    exact(h8.2 ⟨by rw[rX];omega,by omega,by omega⟩).1
   omega
  ·by_cases h7:(-a)%b=0
   ·have h8:=mN (a:=a) (b:=b) (r:=0) (q:= -((-a) / b)) hb
    have:=(h8.2 ⟨by rw[rX];omega,by omega,by omega⟩).1
    omega
   ·have h8:=mN (a:=a) (b:=b) (r:=b-(-a)%b) (q:= -((-a) / b)-1) hb
    have:=(h8.2 ⟨by rw[Int.mul_sub,rX];omega,by omega,by omega⟩).1
    have:(-a) / b≤9223372036854775806:=by
     rcases aK 1 b.toNat with h9|h9
     ·have h10:b*((-a) / b)≥2*((-a) / b):=dX (by omega) d1
      omega
     ·have:b=1:=by omega
      subst this
      omega
    omega
theorem we {g:cU} (h:¬lQ g≠0):cF g:=by
 unfold lQ at h
 by_cases q:cF g
 ·exact q
 ·simp [q]at h
theorem Fj {f:Au} (h:¬yr f≠0):im f:=by
 unfold yr at h
 by_cases q:im f
 ·exact q
 ·simp [q]at h
theorem rP {g:cU} (h:cF g):1≤g.wide*g.high∧g.wide*g.high≤4096:=by
 obtain⟨_,_,_,⟨h1,h2⟩,h3,h4⟩:=h
 constructor
 ·have:=vw h1 h3 (by omega) (by omega);omega
 ·have:=vw h2 h4 (by omega) (by omega);omega
theorem q8 {f:Nat→Int} {j:Nat} (hz:∀k,k<j→f k=0) (h:f j=0):∀k,k<j+1→f k=0:=by
 intro k hk
 rcases aK k j with q|q
 ·exact hz k q
 ·have:k=j:=by omega
  subst this;exact h
theorem Fm {g:cU} {l:List Int} {j:Nat} (h6:¬¬(0≤l.getD j 0∧l.getD j 0≤g.wide*g.high-1)) (h7:¬((0:Int)<(j:Int)∧l.getD j 0≤l.getD (j-1) 0)):lO g l j=0:=by
 unfold lO
 rw[if_neg h6,if_neg (by omega)]
theorem MI {m l:List Int} {j:Nat} (h7:¬((0:Int)<(j:Int)∧l.getD j 0≤l.getD (j-1) 0)) (h8:¬¬(fW m (l.getD j 0)=true)):rK m l j=0:=by
 unfold rK
 rw[if_neg (by omega),if_neg (by simpa [fW]using h8)]
section
variable {g:cU} {c:cZ}
theorem Yq (h:¬lQ g=0):lQ g=fy g c:=by
 unfold fy
 by_cases q:cF g
 ·exact absurd (if_pos q) h
 ·rw[if_pos q];exact if_neg q
theorem XO (hg:cF g) (h:¬yr c.fh=0):yr c.fh=fy g c:=by
 unfold fy
 by_cases q:im c.fh
 ·exact absurd (if_pos q) h
 ·rw[if_neg (by simpa using hg),if_pos q];exact if_neg q
theorem XI (hg:cF g) (hf:im c.fh) (h:¬(0≤c.grow∧c.grow≤10000)):3=fy g c:=by
 unfold fy
 rw[if_neg (by simpa using hg),if_neg (by simpa using hf),if_pos h]
theorem XH (hg:cF g) (hf:im c.fh) (hr:¬¬(0≤c.grow∧c.grow≤10000)) (h:(c.may.length:Int)=0):18=fy g c:=by
 unfold fy
 rw[if_neg (by simpa using hg),if_neg (by simpa using hf),if_neg hr,if_pos (List.length_eq_zero_iff.1 (by omega))]
theorem cE0 (hg:cF g) (hf:im c.fh) (hr:¬¬(0≤c.grow∧c.grow≤10000)) (h:¬(c.may.length:Int)=0):fy g c=if gy (lO g c.may) c.may.length≠0 then gy (lO g c.may) c.may.length else gy (rK c.may c.sure) c.sure.length:=by
 unfold fy
 rw[if_neg (by simpa using hg),if_neg (by simpa using hf),if_neg hr,if_neg (fun q=>h (by rw[q];rfl))]
theorem Zp (hg:cF g) (hf:im c.fh) (hr:¬¬(0≤c.grow∧c.grow≤10000)) (h:¬(c.may.length:Int)=0) {j:Nat} (hz:∀k,k<j→lO g c.may k=0) (hj:(j:Int)<c.may.length) (h6:¬(0≤c.may.getD j 0∧c.may.getD j 0≤g.wide*g.high-1)):4=fy g c:=by
 have e:lO g c.may j=4:=by unfold lO;rw[if_pos h6]
 have:=mT hz (by omega) (n:=c.may.length) (by omega)
 rw[cE0 hg hf hr h,this,e,if_pos (by omega)]
theorem X0 (hg:cF g) (hf:im c.fh) (hr:¬¬(0≤c.grow∧c.grow≤10000)) (h:¬(c.may.length:Int)=0) {j:Nat} (hz:∀k,k<j→lO g c.may k=0) (hj:(j:Int)<c.may.length) (h6:¬¬(0≤c.may.getD j 0∧c.may.getD j 0≤g.wide*g.high-1)) (h7:(0:Int)<(j:Int)∧c.may.getD j 0≤c.may.getD (j-1) 0):12=fy g c:=by
 have e:lO g c.may j=12:=by unfold lO;rw[if_neg h6,if_pos (by omega)]
 have:=mT hz (by omega) (n:=c.may.length) (by omega)
 rw[cE0 hg hf hr h,this,e,if_pos (by omega)]
theorem ZK (hg:cF g) (hf:im c.fh) (hr:¬¬(0≤c.grow∧c.grow≤10000)) (h:¬(c.may.length:Int)=0) (hm:gy (lO g c.may) c.may.length=0) {j:Nat} (hz:∀k,k<j→rK c.may c.sure k=0) (hj:(j:Int)<c.sure.length) (h7:(0:Int)<(j:Int)∧c.sure.getD j 0≤c.sure.getD (j-1) 0):12=fy g c:=by
 have e:rK c.may c.sure j=12:=by unfold rK;rw[if_pos (by omega)]
 have:=mT hz (by omega) (n:=c.sure.length) (by omega)
 rw[cE0 hg hf hr h,this,e,if_neg (by omega)]
theorem ZH (hg:cF g) (hf:im c.fh) (hr:¬¬(0≤c.grow∧c.grow≤10000)) (h:¬(c.may.length:Int)=0) (hm:gy (lO g c.may) c.may.length=0) {j:Nat} (hz:∀k,k<j→rK c.may c.sure k=0) (hj:(j:Int)<c.sure.length) (h7:¬((0:Int)<(j:Int)∧c.sure.getD j 0≤c.sure.getD (j-1) 0)) (h8:¬(fW c.may (c.sure.getD j 0)=true)):11=fy g c:=by
 have e:rK c.may c.sure j=11:=by unfold rK;rw[if_neg (by omega),if_pos (by simpa [fW]using h8)]
 have:=mT hz (by omega) (n:=c.sure.length) (by omega)
 rw[cE0 hg hf hr h,this,e,if_neg (by omega)]
theorem X4 (hg:cF g) (hf:im c.fh) (hr:¬¬(0≤c.grow∧c.grow≤10000)) (h:¬(c.may.length:Int)=0) (hm:gy (lO g c.may) c.may.length=0) {j:Nat} (hz:∀k,k<j→rK c.may c.sure k=0) (hj:¬(j:Int)<c.sure.length):0=fy g c:=by
 rw[cE0 hg hf hr h,iw (n:=c.sure.length) (fun k hk=>hz k (by omega)),if_neg (by omega)]
end
theorem Zx (a b:Int) (hb:0<b) (h2:a≤9223372036854775807):a / b≤9223372036854775807:=by
 rcases Int.le_total 0 a with h|h
 ·exact Int.le_trans (sX b h) h2
 ·have:a / b≤0:=Int.ediv_nonpos_of_nonpos_of_neg (by omega) (by omega)
  omega
theorem Rl (l:List Int) {j:Nat} (h:j<l.length):fW (l.take (j+1))=fun n=>decide (n=l.getD j 0)||fW (l.take j) n:=by
 funext n
 have e:l.take (j+1)=l.take j++[l[j]]:=by simp
 simp only[fW,e,bZ,bT,List.getD_eq_getElem?_getD,af h,dk]
 by_cases q:n=l[j]<;>by_cases r:n∈l.take j<;>simp [q,r]
theorem Hp {a t:Int} (h1: -110000≤a) (h2:a≤110000) (h3:0≤t) (h4:t≤7200): -792000000≤a*t∧a*t≤792000000:=by
 constructor
 ·have: -110000*t≤a*t:=dX h1 h3
  omega
 ·have:a*t≤110000*t:=dX h2 h3
  omega
def kf (lo grow t:Int):Int:=((lo-grow)*t-1000000) / 1000000+1
def ke (hi grow t:Int):Int:= -(-((hi+grow)*t+1000000) / 1000000)-1
theorem B3 {f grow t:Int} (h1: -100000≤f) (h2:f≤100000) (h3:0≤grow) (h4:grow≤10000) (h5:0≤t) (h6:t≤7200):(-1000≤kf f grow t∧kf f grow t≤1000)∧(-1000≤ke f grow t∧ke f grow t≤1000):=by
 have m1:=Hp (a:=f-grow) (t:=t) (by omega) (by omega) h5 h6
 have m2:=Hp (a:=f+grow) (t:=t) (by omega) (by omega) h5 h6
 unfold kf ke
 omega
theorem afm {v w:Int} (h1:0≤v) (h2:v≤64) (h3:1≤w) (h4:w≤64):0≤v*w∧v*w≤4096:=by
 constructor
 ·exact Int.mul_nonneg h1 (by omega)
 ·have:=vw h2 h4 (by omega) (by omega);omega
def FJ (g:cU) (c:cZ) (p t:Int):Int:=max 0 (p.tmod g.wide-ke c.fh.b c.grow t)
def sx1 (g:cU) (c:cZ) (p t:Int):Int:=min (g.wide-1) (p.tmod g.wide-kf c.fh.a c.grow t)
def Eh (g:cU) (c:cZ) (p t:Int):Int:=max 0 (p.tdiv g.wide-ke c.fh.d c.grow t)
def sy1 (g:cU) (c:cZ) (p t:Int):Int:=min (g.high-1) (p.tdiv g.wide-kf c.fh.c c.grow t)
def qp (g:cU) (c:cZ) (p t:Int):Bool:=((decide (p.tmod g.wide-ke c.fh.b c.grow t<0)||decide (g.wide≤p.tmod g.wide-kf c.fh.a c.grow t))||decide (p.tdiv g.wide-ke c.fh.d c.grow t<0))||decide (g.high≤p.tdiv g.wide-kf c.fh.c c.grow t)
def rJ (g:cU) (c:cZ) (p t:Int):Nat:=(sx1 g c p t+1-FJ g c p t).toNat
def FA (g:cU) (c:cZ) (p t:Int):Nat:=(sy1 g c p t+1-Eh g c p t).toNat
def mU (g:cU) (c:cZ) (p t:Int):List Int:=
 (if qp g c p t then[-1] else[])++(br (FA g c p t*rJ g c p t)).map fun k=>(Eh g c p t+(k / rJ g c p t:Nat))*g.wide+(FJ g c p t+(k%rJ g c p t:Nat))
theorem u0 (g:cU) (c:cZ) (p t:Int):(mU g c p t).length=(qp g c p t).toNat+FA g c p t*rJ g c p t:=by
 unfold mU;cases qp g c p t<;>simp<;>omega
theorem Ur {g:cU} {c:cZ} {p t:Int} (h:qp g c p t=true):(mU g c p t)[0]? =some (-1):=by
 simp [mU,h]
theorem YT {g:cU} {c:cZ} {p t:Int} {i j:Nat} (hi:i<FA g c p t) (hj:j<rJ g c p t):(mU g c p t)[(qp g c p t).toNat+i*rJ g c p t+j]? =some ((Eh g c p t+(i:Int))*g.wide+(FJ g c p t+(j:Int))):=by
 have hk:i*rJ g c p t+j<FA g c p t*rJ g c p t:=by
  have:(i+1)*rJ g c p t≤FA g c p t*rJ g c p t:=Nat.mul_le_mul_right _ hi
  rw[fF]at this;omega
 have hd:(i*rJ g c p t+j) / rJ g c p t=i:=by
  rw[Nat.mul_comm,Nat.mul_add_div (by omega),Nat.div_eq_of_lt hj];omega
 have hm:(i*rJ g c p t+j)%rJ g c p t=j:=by
  rw[Nat.mul_comm,Nat.mul_add_mod,Nat.mod_eq_of_lt hj]
 unfold mU
 generalize hn:rJ g c p t=nx at*
 generalize hm2:FA g c p t=ny at*
 cases qp g c p t
 ·simp only[bP,if_false,List.nil_append,Bool.toNat_false,Nat.zero_add]
  rw[aw,eu hk]
  simp only[dH,hd,hm]
 ·simp only[if_true,Bool.toNat_true]
  rw[show 1+i*nx+j=(i*nx+j)+1 by omega,List.singleton_append,List.getElem?_cons_succ,aw,eu hk]
  simp only[dH,hd,hm]
end Go.qO
namespace Go.Proofs.YtffbohecdocajaaGreat
open Go.SL Go.Proofs Go.qO Go.Cell
set_option linter.unusedVariables false
theorem agT:bV ae 88 0 0:=⟨_,_,kz,rfl,rfl,0,by kernel_rfl⟩
theorem O3:ig ae 3:=⟨⟨_,Tryz.underlying3,rfl⟩,by kernel_rfl⟩
theorem TV:ef ae 119:=⟨_,Tryz.func119,by decide,rfl⟩
theorem aiW:bV ae 88 1 1:=⟨_,_,kz,rfl,rfl,0,by kernel_rfl⟩
theorem aiC:bV ae 88 2 2:=⟨_,_,kz,rfl,rfl,0,by kernel_rfl⟩
theorem jD:bV ae 88 3 3:=⟨_,_,kz,rfl,rfl,0,by kernel_rfl⟩
theorem qH:bV ae 88 4 4:=⟨_,_,kz,rfl,rfl,0,by kernel_rfl⟩
abbrev uk (g:cU):Value:=.agg #[.int .i64 g.x,.int .i64 g.y,.int .i64 g.size,.int .i64 g.wide,.int .i64 g.high]
abbrev uo (f:Au):Value:=.agg #[.int .i64 f.a,.int .i64 f.b,.int .i64 f.c,.int .i64 f.d]
theorem sG (n lo hi:Int) (w:World):
 Calls ae 119 #[.int .i64 n,.int .i64 lo,.int .i64 hi] w fun e w'=>e= .returned (.bool (decide (lo≤n)&&decide (n≤hi)))∧St (bs w) [] w':=by
 refine enter (vs:=[_,_,_]) (env:=[(0,_),(1,_),(2,_)]) Tryz.func119 rfl rfl rfl rfl ?_
 refine VC.q (VO.a rfl<|VO.n<|VC.q (VO.m rfl<|VO.m rfl<|ah (LO.le (.r rfl) (.r rfl)) rfl<|VO.m rfl<|VO.gt rfl (fun hg=>LO.mv (.r rfl))<|VO.gt rfl (fun hg=>LO.mv (.r rfl))<|VO.gt rfl (fun hg=>LO.le (.g hg rfl) (.g hg rfl))<|ah (LO.pE (.r rfl) rfl rfl (.r rfl)) rfl<|VO.a rfl<|VO.n<|aP (VE.s rfl rfl (fun w hw=>?_))))
 exact⟨rfl,hw.nil⟩
theorem pT (g:cU) (w:World):
 Calls ae 83 #[uk g] w fun e w'=>e= .returned (.int .i64 (lQ g))∧St (bs w) [] w':=by
 refine enter (vs:=[_]) (env:=[(0,_)]) Tryz.func83 rfl rfl rfl rfl ?_
 refine VC.q (VO.h rfl<|HO.box (C:=#[_,_,_,_,_]) rfl rfl fun b1=>VO.a rfl<|VO.n<|ak<|VC.block<|ak<|ak ?_)
 refine VC.dU (VO.f (r:=0) agT rfl<|VO.c 0 O3 rfl rfl ⟨_,rfl⟩ rfl<|ah (bD (xs:=[_,_,_]) (vs:=[_,_,_]) TV ⟨(.r rfl),(.r rfl),(.r rfl),trivial⟩ (fun w _=>sG _ _ _ w)) rfl<|ah (LO.not (.r rfl)) rfl<|VO.a rfl<|VO.n<|ay rfl (fun h1=>?_) (fun h1=>?_))
 ·
  refine aC (ag<|ay rfl (fun h2=>?_) (fun h2=>?_))
  ·
   refine VC.q (VO.a rfl<|VO.n<|aP (cI (a8 (VE.s rfl rfl (fun w hw=>?_)))))
   exact⟨by simp only[gF,lQ];first |rw[if_pos (by unfold cF;omega)]|rw[if_neg (by unfold cF;omega)],hw.nil⟩
  ·
   refine aC (bB (ag<|VC.q (VO.a rfl<|VO.n<|aP (VE.s rfl rfl (fun w hw=>?_)))))
   exact⟨by simp only[gF,lQ];first |rw[if_pos (by unfold cF;omega)]|rw[if_neg (by unfold cF;omega)],hw.nil⟩
 ·
  refine VC.q (VO.f (r:=1) aiW rfl<|VO.c 0 O3 rfl rfl ⟨_,rfl⟩ rfl<|ah (bD (xs:=[_,_,_]) (vs:=[_,_,_]) TV ⟨(.r rfl),(.r rfl),(.r rfl),trivial⟩ (fun w _=>sG _ _ _ w)) rfl<|ah (LO.not (.r rfl)) rfl<|VO.a rfl<|VO.n<|ay rfl (fun h3=>?_) (fun h3=>?_))
  ·
   refine aC (ag<|ay rfl (fun h4=>?_) (fun h4=>?_))
   ·
    refine VC.q (VO.a rfl<|VO.n<|aP (cI (a8 (VE.s rfl rfl (fun w hw=>?_)))))
    exact⟨by simp only[gF,lQ];first |rw[if_pos (by unfold cF;omega)]|rw[if_neg (by unfold cF;omega)],hw.nil⟩
   ·
    refine aC (bB (ag<|VC.q (VO.a rfl<|VO.n<|aP (VE.s rfl rfl (fun w hw=>?_)))))
    exact⟨by simp only[gF,lQ];first |rw[if_pos (by unfold cF;omega)]|rw[if_neg (by unfold cF;omega)],hw.nil⟩
  ·
   refine VC.q (VO.f (r:=2) aiC rfl<|VO.c 0 O3 rfl rfl ⟨_,rfl⟩ rfl<|ah (bD (xs:=[_,_,_]) (vs:=[_,_,_]) TV ⟨(.r rfl),(.r rfl),(.r rfl),trivial⟩ (fun w _=>sG _ _ _ w)) rfl<|ah (LO.not (.r rfl)) rfl<|VO.a rfl<|VO.n<|ay rfl (fun h5=>?_) (fun h5=>?_))
   ·
    refine aC (ag<|ay rfl (fun h6=>?_) (fun h6=>?_))
    ·
     refine VC.q (VO.a rfl<|VO.n<|aP (cI (a8 (VE.s rfl rfl (fun w hw=>?_)))))
     exact⟨by simp only[gF,lQ];first |rw[if_pos (by unfold cF;omega)]|rw[if_neg (by unfold cF;omega)],hw.nil⟩
    ·
     refine aC (bB (ag<|VC.q (VO.a rfl<|VO.n<|aP (VE.s rfl rfl (fun w hw=>?_)))))
     exact⟨by simp only[gF,lQ];first |rw[if_pos (by unfold cF;omega)]|rw[if_neg (by unfold cF;omega)],hw.nil⟩
   ·
    refine VC.q (VO.f (r:=3) jD rfl<|VO.c 0 O3 rfl rfl ⟨_,rfl⟩ rfl<|ah (bD (xs:=[_,_,_]) (vs:=[_,_,_]) TV ⟨(.r rfl),(.r rfl),(.r rfl),trivial⟩ (fun w _=>sG _ _ _ w)) rfl<|ah (LO.not (.r rfl)) rfl<|VO.a rfl<|VO.n<|ay rfl (fun h7=>?_) (fun h7=>?_))
    ·
     refine aC (ag<|ay rfl (fun h8=>?_) (fun h8=>?_))
     ·
      refine VC.q (VO.a rfl<|VO.n<|aP (cI (a8 (VE.s rfl rfl (fun w hw=>?_)))))
      exact⟨by simp only[gF,lQ];first |rw[if_pos (by unfold cF;omega)]|rw[if_neg (by unfold cF;omega)],hw.nil⟩
     ·
      refine aC (bB (ag<|VC.q (VO.a rfl<|VO.n<|aP (VE.s rfl rfl (fun w hw=>?_)))))
      exact⟨by simp only[gF,lQ];first |rw[if_pos (by unfold cF;omega)]|rw[if_neg (by unfold cF;omega)],hw.nil⟩
    ·
     refine VC.dU (VO.f (r:=4) qH rfl<|VO.c 0 O3 rfl rfl ⟨_,rfl⟩ rfl<|ah (bD (xs:=[_,_,_]) (vs:=[_,_,_]) TV ⟨(.r rfl),(.r rfl),(.r rfl),trivial⟩ (fun w _=>sG _ _ _ w)) rfl<|ah (LO.not (.r rfl)) rfl<|VO.a rfl<|VO.n<|ay rfl (fun h9=>?_) (fun h9=>?_))
     ·
      refine VC.q (VO.a rfl<|VO.n<|aP (cI (a8 (VE.s rfl rfl (fun w hw=>?_)))))
      exact⟨by simp only[gF,lQ];first |rw[if_pos (by unfold cF;omega)]|rw[if_neg (by unfold cF;omega)],hw.nil⟩
     ·
      refine aC (bB (ag<|VC.q (VO.a rfl<|VO.n<|aP (VE.s rfl rfl (fun w hw=>?_)))))
      exact⟨by simp only[gF,lQ];first |rw[if_pos (by unfold cF;omega)]|rw[if_neg (by unfold cF;omega)],hw.nil⟩
end Go.Proofs.YtffbohecdocajaaGreat
namespace Go.SL
set_option linter.unusedVariables false
section
variable {P:Program} {ro:Option Nat} {β:Bs} {N:Nat} {ds:List Deferred} {env:Env} {L:List cq} {Q:Exit→Act→World→Prop}
variable {ty:TypeId} {pos:String} {aft:Array Edge} {g:Option (Nat×Bool)}
theorem PI {c b:Bool} (h:c=true):(c&&b)=b:=by rw[h,Bool.true_and]
theorem HO.guard {dd:Option Nat} {op:Op} {K:Value→List cq→Prop} {g':Option (Nat×Bool)} (h:HO P β env L ⟨dd,op,ty,pos,aft,g⟩ K):HO P β env L ⟨dd,op,ty,pos,aft,g'⟩ K:=h
theorem VO.bc {ops:Array Oper} {rest:List Oper} {x:Nat} {b:Bool} (h:jx env x=some (.bool b)) (k1:b=true→VO P ro β N ds ops env L rest Q) (k2:b=false→VO P ro β N ds ops env L rest Q):VO P ro β N ds ops env L rest Q:=by
 cases b with
 |true=>exact k1 rfl
 |false=>exact k2 rfl
theorem VO.gT {ops:Array Oper} {d j t:Nat} {want:Bool} {op:Op} {rest:List Oper} {u:Value} (hj:(ops[j]?).bind (·.dst)=some t) (ht:jx env t=some u) (hu:u= .bool want) (hd:df d N=true)
  (h:HO P β env L ⟨some d,op,ty,pos,aft,none⟩ fun v L'=>VO P ro β N ds ops ((d,v)::env) L' rest Q):VO P ro β N ds ops env L (⟨some d,op,ty,pos,aft,some (j,want)⟩::rest) Q:=by
 intro a w ha hw
 have ht':=ha.get t u ht
 have hy:yielded ops a.tmps j=vb u:=by
  unfold yielded;rw[hj];simp only[ll,ht'];cases u<;>rfl
 refine wpListIn_step fun K hK=>?_
 simp only[gk,hy]
 subst hu
 simp only[vb,beq_self_eq_true,if_true]
 exact(h.guard (g':=some (j,want))).wp (fun x _ u hu=>ha.eval hu) hw fun v L' w' hk hs=>hK _ _ (hk _ w' (ha.put (bh hd) v) hs)
theorem LO.pkF {d:Option Nat} {c x y:Operand} {b:Bool} {v:Value} (hc:OV env c (.bool b)) (hb:b=false) (hy:OV env y v):LO P β env L ⟨d,.pick c x y,ty,pos,aft,g⟩ v:=
 .ee fun a w h hw=>⟨w,by subst hb;simp [execOp,h c (by simp [az]) _ hc,h y (by simp [az]) _ hy,asBool],hw⟩
theorem HO.kT {α:Type} {f:α→List Value} {l:List α} (x0:α) (i j:Nat) (LF:cq→List cq) {K:Value→List cq→Prop} {dd:Option Nat} {x y:Operand} {T T' E z by_:Nat} {aT:Array TypeId} {zero:Value} {p:Option Addr} {n cap b:Nat} {C:Array Value} (hT:dF P T E) (hT':dF P T' E) (hE:jW P E z by_ zero) (hx:OV env x (.slice p n cap)) (hy:OV env y (.slice (some ⟨b,0,none⟩) 1 1))
  (hi:L[i]? =some (own E z p cap (l.map f))) (hj:L[j]? =some (de b (.cells C E))) (hC:C=(f x0).toArray) (hr:eV (f x0).length z=true) (h1:o5 (f x0)=true) (ha0:aT[0]? =some T) (ha1:aT[1]? =some T') (hL:∀R:cq,L.set i R=LF R) (hn:n=l.length) (hs:(2*(l.length+1)+768)*by_≤281474976710656)
  (k:∀p' cap',K (.slice p' (l++[x0]).length cap') (LF (own E z p' cap' ((l++[x0]).map f)))):HO P β env L ⟨dd,.call ⟨.builtin .append,#[x,y],aT⟩,ty,pos,aft,none⟩ K:=by
 subst hn
 refine HO.aeR i j LF hT hT' hE hx hy hi hj hC hr h1 ha0 ha1 hL (by simp) hs fun p' cap'=>?_
 have:=k p' cap'
 rw[List.length_append,bj]at this
 exact this
theorem HO.VX {α:Type} (i:Nat) {r:cq} (LF:cq→List cq) {K:Value→List cq→Prop} {dd:Option Nat} {f:FuncId} {fx:Operand} {xs:List Operand} {vs first cap:List Value} {aT:Array TypeId} {v:α→Value} {r':α→cq} {I:α→Prop} (hi:L[i]? =some r) (hfx:OV env fx (.func (.func f) first.toArray cap.toArray)) (hf:ef P f) (hx:B9 env xs vs) (hL:∀R:cq,L.set i R=LF R)
  (hc:∀w,St β L w→Calls P f (first++vs++cap).toArray w fun e w'=>∃x,I x∧e= .returned (v x)∧St ⟨w,r.fp⟩ [r' x] w') (k:∀x,I x→K (v x) (LF (r' x))):HO P β env L ⟨dd,.call ⟨.value fx,xs.toArray,aT⟩,ty,pos,aft,none⟩ K:=by
 intro a w h hw
 refine .inr (.inl ⟨f,(first++vs++cap).toArray,?_,?_⟩)
 ·have hm:xs.map a.eval=vs:=hx.map fun x hm u hu=>by obtain⟨u',hu',e⟩:=hu;subst e;exact h x (by simp [az,Call.operands,hm]) u' hu'
  have hfe:a.eval fx= .func (.func f) first.toArray cap.toArray:=by obtain⟨u',hu',e⟩:=hfx;subst e;exact h fx (by simp [az,Call.operands]) _ hu'
  simp [execOp,resolve,hfe,Deferred.ofValue,invoke,re hf,hm]
 ·exact(hc w hw).mono fun e w' ⟨x,hI,he,hs⟩=>⟨v x,_,he,k x hI,by rw[←hL];exact hw.Um i hi hs⟩
theorem LO.nc {d:Option Nat} {x:Operand} {p:Addr} (hx:OV env x (.pointer (some p))):LO P β env L ⟨d,.nilCheck x,ty,pos,aft,g⟩ (.pointer (some p)):=
 .ee fun a w h hw=>⟨w,by simp [execOp,h x (by simp [az]) _ hx],hw⟩
theorem LO.wy {d:Option Nat} {x i:Operand} {T E z:Nat} {p:Option Addr} {n c j:Nat} {k:IntKind} {e:Int} (hT:dF P T E) (hz:(P.info? E).map (·.size)=some z) (hs:∀w,St β L w→nu p n) (hx:OV env x (.slice p n c)) (hi:OV env i (.int k e)) (he:e=(j:Int)) (hj:j<n):
  LO P β env L ⟨d,.indexAddr T x i,ty,pos,aft,g⟩ (.pointer (some ⟨pb p,po p+j*z,none⟩)):=
 fun a w h hw=>LO.lA (d:=d) (ty:=ty) (pos:=pos) (aft:=aft) (g:=g) hT hz (hs w hw) hx hi he hj a w h hw
theorem gN {α:Type} {f:α→List Value} {w:World} (hw:St β L w) (i:Nat) {E z:Nat} {p:Option Addr} {cap:Nat} {l:List α} (hi:L[i]? =some (own E z p cap (l.map f))) {j:Nat} {x:α} (hx:l[j]? =some x):fk w ⟨pb p,po p+j*z,none⟩ (f x):=
 (dE hw i hi).cells j _ (by rw[aw,hx];rfl)
theorem gM {L0 L1:List cq} {js:List Nat} (is:List Nat) (hn:lD is=true) (h1:fO L is=L1) (h2:fO L0 js=L1):∀w,St β L w→St β (fO L0 js) w:=fun w hw=>by
 rw[h2, ←h1];exact hw.fO is hn
theorem VC.perm (is:List Nat) {c:Code} (hn:lD is=true) (h:VC P ro β N ds env (fO L is) c Q):VC P ro β N ds env L c Q:=fun a w ha hw=>h a w ha (hw.fO is hn)
end
end Go.SL
namespace Go.SL
set_option linter.unusedVariables false
set_option linter.unusedSimpArgs false
open Go.RowKit
section
variable {P:Program}
def qG (P:Program):Nat→TypeId→Option Nat
 |0,_=>none
 |f+1,T=>
  match P.underlying T with
  |some (.int .i64)=>if(P.info? T).map (·.size)=some 1 then some 1 else none
  |some (.struct fs)=>
   if P.stoodInHeld T then none else
   match fs.toList.foldlM (fun(o:Nat) F=>if F.name= "_" ||F.offset≠o then none else(qG P f F.type).map (o+ ·)) 0 with
   |some n=>if(P.info? T).map (·.size)=some n then some n else none
   |none=>none
  |some (.array n E)=>
   match qG P f E with
   |some z=>if P.cellsOf E=z∧(P.info? E).map (·.size)=some z∧(P.info? T).map (·.size)=some (n*z) then some (n*z) else none
   |none=>none
  |_=>none
def CN (P:Program) (T:TypeId) («as» :List Int):Value:=match P.underlying T with
 |some (.struct _)=>.agg («as».map fB).toArray
 |some (.array _ _)=>.agg («as».map fB).toArray
 |_=>(«as».map fB).head?.getD undef
theorem GN {f:Nat} {T n:Nat} (h:qG P f T=some n) {«as» :List Int} {o:Nat} (ho:o+n≤ «as».length) (w:World):
  (part T («as».map fB).toArray o).run P w= .ok (CN P T ((«as».drop o).take n)) w:=by
 cases f with
 |zero=>simp [qG]at h
 |succ f=>
  unfold qG at h
  unfold CN
  split at h
  ·rename_i hu
   split at h
   ·rename_i hs
    cases h
    have h1:ig P T:=⟨⟨_,hu,rfl⟩,hs⟩
    have hlt:o< «as».length:=by omega
    have e:(«as».drop o).take 1=[«as»[o]]:=by
     rw[cY hlt];rfl
    simp [part,sM h1,hu,e,hlt]
   ·cases h
  ·rename_i fs hu
   split at h
   ·cases h
   ·split at h
    ·rename_i n' _
     split at h
     ·rename_i hs
      cases h
      have h1:jX P T n:=⟨⟨_,hu,rfl⟩,hs⟩
      simp only[part,bz,v8 h1,bw,jv hs,if_true,cG,hu]
      congr 2
      apply sV
      simp [List.map_drop,List.map_take,List.extract]
     ·cases h
    ·cases h
  ·rename_i k E hu
   split at h
   ·rename_i z hz
    split at h
    ·rename_i hs
     cases h
     have h1:jX P T (k*z):=⟨⟨_,hu,rfl⟩,hs.2.2⟩
     simp only[part,bz,v8 h1,bw,jv hs.2.2,if_true,cG,hu]
     congr 2
     apply sV
     simp [List.map_drop,List.map_take,List.extract]
    ·cases h
   ·cases h
  ·cases h
theorem CH {f dd:Nat} (ih:∀{T n:Nat},qG P f T=some n→∀{«as» bs:List Int}, «as».length=n→bs.length=n→∀w,(gP dd T (CN P T «as») (CN P T bs)).run P w= .ok (decide («as» =bs)) w):
  ∀(fs:List Field) (o n:Nat),fs.foldlM (fun(o:Nat) F=>if F.name= "_" ||F.offset≠o then none else(qG P f F.type).map (o+ ·)) o=some n→∀{«as» bs:List Int}, «as».length=n→bs.length=n→o≤n→∀w,
   (tT dd («as».map fB).toArray (bs.map fB).toArray fs).run P w= .ok (decide («as».drop o=bs.drop o)) w
 |[],o,n,h, «as»,bs,ha,hb,ho,w=>by
  simp at h
  subst h
  simp [tT,mw (tU ha),mw (tU hb)]
 |F::fs,o,n,h, «as»,bs,ha,hb,ho,w=>by
  simp only[BP]at h
  by_cases hc:(F.name= "_" ||F.offset≠o)=true
  ·rw[if_pos hc]at h;simp at h
  ·simp only[hc,bP,if_false]at h
   simp only[fj,decide_eq_true_eq,not_or,ne_eq,cL]at hc
   obtain⟨hn,hoff⟩:=hc
   cases hf:qG P f F.type with
   |none=>simp [hf]at h
   |some m=>
    simp only[hf,dH]at h
    replace h:List.foldlM (fun(o:Nat) F=>if F.name= "_" ||F.offset≠o then none else(qG P f F.type).map (o+ ·)) (o+m) fs=some n:=h
    have hle:o+m≤n:=Js fs (o+m) n h
    simp only[tT,hn,ne_eq,not_false_eq_true,if_true,bz,hoff]
    rw[GN hf (by omega) w]
    simp only[bw]
    rw[GN hf (by omega) w]
    simp only[bw]
    rw[ih hf (by simp;omega) (by simp;omega) w]
    simp only[bw]
    have sp:∀l:List Int,l.drop o=(l.drop o).take m++l.drop (o+m):=by
     intro l
     have:=gQ m (l.drop o)
     rw[List.drop_drop]at this
     exact this.symm
    by_cases e:(«as».drop o).take m=(bs.drop o).take m
    ·simp only[e,decide_true,fb,bP,if_false]
     rw[CH ih fs (o+m) n h ha hb hle w]
     congr 2
     apply propext
     rw[sp «as»,sp bs,e]
     simp
    ·simp only[e,decide_false,Bool.not_false,if_true,cG]
     congr 1
     symm
     rw[decide_eq_false_iff_not]
     intro q
     exact e (by rw[q])
where
 Js:∀(fs:List Field) (o n:Nat),fs.foldlM (fun(o:Nat) F=>if F.name= "_" ||F.offset≠o then none else(qG P f F.type).map (o+ ·)) o=some n→o≤n
  |[],o,n,h=>by simp at h;omega
  |F::fs,o,n,h=>by
   simp only[BP]at h
   by_cases hc:(F.name= "_" ||F.offset≠o)=true
   ·rw[if_pos hc]at h;simp at h
   ·simp only[hc,bP,if_false]at h
    cases hf:qG P f F.type with
    |none=>simp [hf]at h
    |some m=>
     simp only[hf,dH]at h
     have:=Js fs (o+m) n h
     omega
theorem FU {f dd:Nat} {E z:Nat} (ih:∀{«as» bs:List Int}, «as».length=z→bs.length=z→∀w,(gP dd E (CN P E «as») (CN P E bs)).run P w= .ok (decide («as» =bs)) w) (hE:qG P f E=some z) {«as» bs:List Int}:
  ∀(m i:Nat), «as».length=(i+m)*z→bs.length=(i+m)*z→∀w,(Bq dd E z («as».map fB).toArray (bs.map fB).toArray ((br m).map (i+ ·))).run P w= .ok (decide («as».drop (i*z)=bs.drop (i*z))) w
 |0,i,ha,hb,w=>by
  simp at ha hb
  simp [Bq,mw (tU ha),mw (tU hb)]
 |m+1,i,ha,hb,w=>by
  have e0:(br (m+1)).map (i+ ·)=i::(br m).map (i+1+ ·):=by
   rw[List.range_succ_eq_map]
   simp [Function.comp_def,Nat.add_assoc,Nat.add_comm 1]
  have hz1:i*z+z≤ «as».length:=by rw[ha,fF,fF];omega
  have hz2:i*z+z≤bs.length:=by rw[hb,fF,fF];omega
  rw[e0]
  simp only[Bq,bz]
  rw[GN hE hz1 w]
  simp only[bw]
  rw[GN hE hz2 w]
  simp only[bw]
  rw[ih (by simp;omega) (by simp;omega) w]
  simp only[bw]
  have sp:∀l:List Int,l.drop (i*z)=(l.drop (i*z)).take z++l.drop ((i+1)*z):=by
   intro l
   have:=gQ z (l.drop (i*z))
   rw[List.drop_drop]at this
   rw[fF,Nat.one_mul]
   exact this.symm
  by_cases e:(«as».drop (i*z)).take z=(bs.drop (i*z)).take z
  ·simp only[e,decide_true,fb,bP,if_false]
   rw[FU ih hE m (i+1) (by rw[ha];congr 1;omega) (by rw[hb];congr 1;omega) w]
   congr 2
   apply propext
   rw[sp «as»,sp bs,e]
   simp
  ·simp only[e,decide_false,Bool.not_false,if_true,cG]
   congr 1
   symm
   rw[decide_eq_false_iff_not]
   intro q
   exact e (by rw[q])
theorem vV:∀(f:Nat) {T n:Nat},qG P f T=some n→∀{«as» bs:List Int}, «as».length=n→bs.length=n→∀dd,f≤dd→∀w,(gP dd T (CN P T «as») (CN P T bs)).run P w= .ok (decide («as» =bs)) w
 |0,T,n,h,_,_,_,_,_,_,_=>by simp [qG]at h
 |f+1,T,n,h, «as»,bs,ha,hb,dd,hd,w=>by
  obtain⟨dd,rfl⟩:∃d',dd=d'+1:=⟨dd-1,by omega⟩
  unfold qG at h
  unfold CN
  split at h
  ·rename_i hu
   split at h
   ·cases h
    match «as»,bs,ha,hb with
    |[a],[b],_,_=>
     simp only[hu,fD,mP,List.head?_cons,dk,fB]
     rw[run_equalIn_int w dd T .i64 .i64 a b hu]
     congr 1
     simp [BEq.beq]
   ·cases h
  ·rename_i fs hu
   split at h
   ·cases h
   ·rename_i hs
    split at h
    ·rename_i n' hf
     split at h
     ·cases h
      have hfs:P.fieldsOf T=fs:=by simp [Program.fieldsOf,hu]
      simp only[hu]
      rw[run_equalIn_struct w dd T _ _ (by rw[hfs];exact hu) (by simpa using hs),hfs]
      have:=CH (P:=P) (f:=f) (dd:=dd) (fun {T n} h2 {«as» bs} h3 h4 w=>vV f h2 h3 h4 dd (by omega) w) fs.toList 0 n hf ha hb (by omega) w
      simpa using this
     ·cases h
    ·cases h
  ·rename_i k E hu
   split at h
   ·rename_i z hz
    split at h
    ·rename_i hs
     cases h
     obtain⟨hc,hsz,_⟩:=hs
     obtain⟨i,hi,_⟩:∃i,P.info? E=some i∧i.size=z:=by
      cases q:P.info? E with
      |none=>simp [q]at hsz
      |some i=>exact⟨i,rfl,by simpa [q]using hsz⟩
     simp only[hu]
     rw[run_equalIn_array w dd _ _ hu hi,hc]
     have:=FU (P:=P) (f:=f) (dd:=dd) (E:=E) (z:=z) (fun {«as» bs} h3 h4 w=>vV f hz h3 h4 dd (by omega) w) hz («as» := «as») (bs:=bs) k 0 (by rw[ha];simp) (by rw[hb];simp) w
     simpa using this
    ·cases h
   ·cases h
  ·cases h
def Iy (P:Program) (T n:Nat):Prop:=(∃d,P.underlying T=some d∧(match d with| .struct _| .array _ _=>true|_=>false)=true)∧qG P 20 T=some n∧P.eqGuardType P.depth T=false
variable {ro:Option Nat} {β:Bs} {N:Nat} {ds:List Deferred} {env:Env} {L:List cq} {Q:Exit→Act→World→Prop}
variable {d:Option Nat} {ty:TypeId} {pos:String} {aft:Array Edge} {g:Option (Nat×Bool)}
theorem yJ {T n:Nat} (hT:Iy P T n) («as» :List Int):CN P T «as» = .agg («as».map fB).toArray:=by
 obtain⟨⟨d,hu,hd⟩,_⟩:=hT
 unfold CN;rw[hu];cases d<;>simp_all
theorem LO.eqA {x y:Operand} {T yT n:Nat} {«as» bs:List Int} (hT:Iy P T n) (hx:OV env x (.agg («as».map fB).toArray)) (hy:OV env y (.agg (bs.map fB).toArray)) (ha:eV «as».length n=true) (hb:eV bs.length n=true):LO P β env L ⟨d,.binOp .eql T x y yT,ty,pos,aft,g⟩ (.bool (decide («as» =bs))):=
 .ee fun a w h hw=>⟨w,by
  have h1:=vV (P:=P) 20 hT.2.1 («as» := «as») (bs:=bs) (bO ha) (bO hb) 10000 (by decide) w
  rw[yJ hT,yJ hT]at h1
  simp only[execOp,h x (by simp [az]) _ hx,h y (by simp [az]) _ hy,bz,run_eqGuard_agg w .eql T x y _ _ hT.2.2,bw,run_eql_struct,h1,cG],hw⟩
theorem LO.neA {x y:Operand} {T yT n:Nat} {«as» bs:List Int} (hT:Iy P T n) (hx:OV env x (.agg («as».map fB).toArray)) (hy:OV env y (.agg (bs.map fB).toArray)) (ha:eV «as».length n=true) (hb:eV bs.length n=true):LO P β env L ⟨d,.binOp .neq T x y yT,ty,pos,aft,g⟩ (.bool (!decide («as» =bs))):=
 .ee fun a w h hw=>⟨w,by
  have h1:=vV (P:=P) 20 hT.2.1 («as» := «as») (bs:=bs) (bO ha) (bO hb) 10000 (by decide) w
  rw[yJ hT,yJ hT]at h1
  simp only[execOp,h x (by simp [az]) _ hx,h y (by simp [az]) _ hy,bz,run_eqGuard_agg w .neq T x y _ _ hT.2.2,bw,run_neq_struct,h1,cG],hw⟩
end
end Go.SL
namespace Go.Proofs.YtffbohecdocajaaGreat
open Go.SL Go.Proofs Go.qO Go.Cell
set_option linter.unusedVariables false
theorem rL:bV ae 25 0 0:=⟨_,_,sY,rfl,rfl,0,by kernel_rfl⟩
theorem rR:bV ae 25 1 1:=⟨_,_,sY,rfl,rfl,0,by kernel_rfl⟩
theorem tE:bV ae 108 0 0:=⟨_,_,rZ,rfl,rfl,4,by kernel_rfl⟩
theorem vS:jX ae 88 5:=⟨⟨_,kz,rfl⟩,by kernel_rfl⟩
theorem C83:ef ae 83:=⟨_,Tryz.func83,by decide,rfl⟩
theorem jI:bV ae 108 1 5:=⟨_,_,rZ,rfl,rfl,0,by kernel_rfl⟩
theorem JL:ig ae 45:=⟨⟨_,sZ,rfl⟩,by kernel_rfl⟩
theorem uH:dF ae 45 25:=sZ
theorem sC:(ae.info? 25).map (·.size)=some 2:=by kernel_rfl
theorem xb:jX ae 25 2:=⟨⟨_,sY,rfl⟩,by kernel_rfl⟩
theorem IT:cj ae 25 (.agg #[.int .i64 0,.int .i64 0]):=by unfold cj;kernel_rfl
theorem wA:jX ae 108 6:=⟨⟨_,rZ,rfl⟩,by kernel_rfl⟩
theorem anh:ef ae 157:=⟨_,Tryz.func157,by decide,rfl⟩
structure Span where
 lo:Int
 hi:Int
def Span.cells (s:Span):List Value:=[.int .i64 s.lo,.int .i64 s.hi]
structure Field where
 g:cU
 lC:List Span
def lP (w:World) (p:Option Addr) (l:List Span):Prop:=Go.SL.Rows w 2 p (l.map Span.cells)
theorem lP.some {w:World} {p:Option Addr} {l:List Span} (h:lP w p l):nu p l.length:=Go.SL.Rows.some h (by simp)
theorem lP.keep {w0:World} {p:Option Addr} {l:List Span} (h:lP w0 p l) {L:List cq}:∀w,St (bs w0) L w→lP w p l:=Go.SL.Rows.keep h
theorem lP.at {w0:World} {p:Option Addr} {l:List Span} (h:lP w0 p l) {L:List cq} {j:Nat} (hj:j<l.length):∀w,St (bs w0) L w→fk w ⟨pb p,po p+j*2,none⟩ [.int .i64 (l.getD j ⟨0,0⟩).lo,.int .i64 (l.getD j ⟨0,0⟩).hi]:=
 fun w hw=>(h.keep w hw).cells j _ (by simp [af hj,jw,Span.cells])
theorem bq {w:World} {b o off:Nat} {C vs:List Value} (h:fk w ⟨b,o,none⟩ C) (hv:∃r,C.drop off=vs++r):fk w ⟨b,o+off,none⟩ vs:=by
 intro j v hj
 obtain⟨r,hr⟩:=hv
 have h1:C[off+j]? =some v:=by
  rw[←List.getElem?_drop,hr,List.getElem?_append_left (aj.1 hj).1];exact hj
 have h2:=h (off+j) v h1
 have e1:(⟨b,o,none⟩:Addr).add (off+j)=⟨b,o+(off+j),none⟩:=by unfold Addr.add;split<;>simp_all
 have e2:(⟨b,o+off,none⟩:Addr).add j=⟨b,o+off+j,none⟩:=by unfold Addr.add;split<;>simp_all
 rw[e1]at h2;rw[e2,Nat.add_assoc];exact h2
def lH (m:Int) (s:Span):Prop:=0≤s.lo∧s.lo≤s.hi∧s.hi≤m
instance (m:Int) (s:Span):Decidable (lH m s):=by unfold lH;exact inferInstance
def NB (m:Int) (l:List Span) (i:Nat):Int:=if lH m (l.getD i ⟨0,0⟩) then 0 else 3
def fS (m:Int) (f:Field):Int:=if ¬cF f.g then 3 else if(f.lC.length:Int)≠f.g.wide*f.g.high then 11 else gy (NB m f.lC) f.lC.length
def stE (s:List Int) (i:Nat):Int:=if 0≤s.getD i 0∧s.getD i 0≤2 then 0 else 3
def O1 (s:List Int) (f:Field) (lv:Int):Int:=if fS 1073741824 f≠0 then fS 1073741824 f else if s.length≠f.lC.length then 11 else if ¬(1≤lv∧lv≤1073741824) then 3 else gy (stE s) s.length
def Ud (s:List Int) (f:Field) (lv:Int) (p:Nat):Prop:=(s.getD p 0=2∧(f.lC.getD p ⟨0,0⟩).hi<lv)∨(s.getD p 0=0∧lv≤(f.lC.getD p ⟨0,0⟩).lo)
instance (s:List Int) (f:Field) (lv:Int) (p:Nat):Decidable (Ud s f lv p):=by unfold Ud;exact inferInstance
section
variable {m:Int} {f:Field} {s l:List Int} {lv:Int} {j:Nat}
theorem Q4 (h:lH m (f.lC.getD j ⟨0,0⟩)):NB m f.lC j=0:=if_pos h
theorem fE1 (h:¬lQ f.g=0):lQ f.g=fS m f:=by
 unfold fS
 by_cases q:cF f.g
 ·exact absurd (if_pos q) h
 ·rw[if_pos q];exact if_neg q
theorem fE2 (hg:cF f.g) (h:¬(f.lC.length:Int)=f.g.wide*f.g.high):11=fS m f:=by
 unfold fS
 rw[if_neg (fun q=>q hg),if_pos h]
theorem fE3 (hg:cF f.g) (h:(f.lC.length:Int)=f.g.wide*f.g.high) (hz:∀k,k<j→NB m f.lC k=0) (hj:j<f.lC.length) (h4:¬lH m (f.lC.getD j ⟨0,0⟩)):3=fS m f:=by
 have e:NB m f.lC j=3:=if_neg h4
 unfold fS
 rw[if_neg (fun q=>q hg),if_neg (fun q=>q h),mT hz (by omega) hj,e]
theorem fE4 (hg:cF f.g) (h:(f.lC.length:Int)=f.g.wide*f.g.high) (hz:∀k,k<j→NB m f.lC k=0) (hj:f.lC.length≤j):0=fS m f:=by
 unfold fS
 rw[if_neg (fun q=>q hg),if_neg (fun q=>q h),iw (fun k hk=>hz k (by omega))]
theorem hE1 (h:¬fS 1073741824 f=0):fS 1073741824 f=O1 s f lv:=by unfold O1;rw[if_pos h]
theorem Gy (h:fS 1073741824 f=0) (h2:¬s.length=f.lC.length):11=O1 s f lv:=by unfold O1;rw[if_neg (fun q=>q h),if_pos h2]
end
theorem UH (f:Field) (pv:Option Addr) (cv:Nat) (m:Int) (w:World) (hv:lP w pv f.lC):
 Calls ae 157 #[.agg #[.int .i64 f.g.x,.int .i64 f.g.y,.int .i64 f.g.size,.int .i64 f.g.wide,.int .i64 f.g.high,.slice pv f.lC.length cv],.int .i64 m] w fun e w'=>e= .returned (.int .i64 (fS m f))∧St (bs w) [] w':=by
 refine enter (vs:=[_,_]) (env:=[(0,_),(1,_)]) Tryz.func157 rfl rfl rfl rfl ?_
 refine VC.q (VO.h rfl<|HO.box (C:=#[_,_,_,_,_,_]) rfl rfl fun b1=>VO.a rfl<|VO.n<|ak<|VC.q (VO.f (r:=0) tE rfl<|ah (LO.fg (vs:=[_,_,_,_,_]) vS (.r rfl) (ax 0 rfl ⟨_,rfl⟩) rfl) rfl<|ah (bD (xs:=[_]) (vs:=[_]) C83 ⟨(.r rfl),trivial⟩ (fun w _=>pT f.g w)) rfl<|VO.a rfl<|VO.n ?_))
 refine VC.q (VO.m rfl<|VO.u rfl<|VO.n<|ay rfl (fun h1=>?_) (fun h1=>?_))
 ·
  refine VC.q (VO.m rfl<|VO.a rfl<|VO.n<|aP (a8 (VE.s rfl rfl (fun w hw=>?_))))
  refine⟨?_,hw.nil⟩
  simp only[gF]
  congr 2
  first |exact fE1 (by simpa using h1)|exact fE2 hgo (by simpa using h2)|exact fE3 hgo (by simpa using h2) hz (by omega) (by unfold lH;omega)|exact fE4 hgo (by simpa using h2) hz (by omega)
 ·
  have hgo:cF f.g:=we (by simpa using h1)
  have har:=rP hgo
  refine aC (ag<|ak<|VC.q (VO.f (r:=5) jI rfl<|VO.c 0 JL rfl rfl ⟨_,rfl⟩ rfl<|ah (LO.len uH (.r rfl) rfl) rfl<|VO.f (r:=0) tE rfl<|VO.f (r:=3) jD rfl<|VO.c 0 O3 rfl rfl ⟨_,rfl⟩ rfl<|VO.f (r:=0) tE rfl<|VO.f (r:=4) qH rfl<|VO.c 0 O3 rfl rfl ⟨_,rfl⟩ rfl<|ah (LO.mul (.r rfl) (.r rfl) (wi (by omega) (by omega))) rfl<|VO.u rfl<|VO.n<|ay rfl (fun h2=>?_) (fun h2=>?_)))
  ·
   refine VC.q (VO.a rfl<|VO.n<|aP (a8 (VE.s rfl rfl (fun w hw=>?_))))
   refine⟨?_,hw.nil⟩
   simp only[gF]
   congr 2
   first |exact fE1 (by simpa using h1)|exact fE2 hgo (by simpa using h2)|exact fE3 hgo (by simpa using h2) hz (by omega) (by unfold lH;omega)|exact fE4 hgo (by simpa using h2) hz (by omega)
  ·
   refine aC (ag<|ak<|VC.q (VO.f (r:=5) jI rfl<|VO.c 0 JL rfl rfl ⟨_,rfl⟩ rfl<|ah (LO.len uH (.r rfl) rfl) rfl<|VO.m rfl<|VO.n<|VC.block<|VC.eP (α:=Nat) 0 (fun gx=>[(28,.int .i64 (gx:Nat))]) [(1,_),(26,_),(27,_)] (fun gx=>[]) (fun gx=>gx≤f.lC.length∧∀k,k<gx→NB m f.lC k=0) (fun gx=>f.lC.length-gx) 0 (by exact⟨by omega,fun k hk=>by omega⟩) (.c4 rfl rfl rfl rfl .nil) (fun _ h=>h) ?_))
   rintro j ⟨hj,hz⟩
   refine VC.q (VO.t rfl<|VO.n<|ak<|ay rfl (fun h3=>?_) (fun h3=>?_))
   ·
    refine aC (ag<|ak<|VC.block<|VC.q (ah (LO.lA uH sC hv.some (.r rfl) (.r rfl) rfl (by omega)) rfl<|ah (LO.fg (vs:=[_,_]) xb (.r rfl) (fun w hw=>bq (off:=0) ((hv.at (j:=j) (by omega)) w hw) ⟨_,rfl⟩) rfl) rfl<|VO.h rfl<|HO.alloc (C:=#[_,_]) IT rfl fun b2=>VO.h0<|HO.st 0 (vs:=[_,_]) (C':=[_,_]) (L':=[_,_]) sC rfl rfl rfl rfl rfl rfl rfl rfl<|VO.n<|ak ?_))
    refine VC.dU (VO.f (r:=0) rL rfl<|VO.c 0 O3 rfl rfl ⟨_,rfl⟩ rfl<|VO.t rfl<|VO.m rfl<|VO.gf rfl (fun hg=>LO.fa (r:=1) rR (.r rfl) rfl)<|VO.gf rfl (fun hg=>LO.ld O3 (.g hg rfl) (ax 0 rfl ⟨_,rfl⟩))<|VO.gf rfl (fun hg=>LO.fa (r:=0) rL (.r rfl) rfl)<|VO.gf rfl (fun hg=>LO.ld O3 (.g hg rfl) (ax 0 rfl ⟨_,rfl⟩))<|VO.gf rfl (fun hg=>LO.lt (.g hg rfl) (.g hg rfl))<|ah (LO.qh (.r rfl) (.r rfl) rfl rfl) rfl<|VO.m rfl<|VO.gf rfl (fun hg=>LO.fa (r:=1) rR (.r rfl) rfl)<|VO.gf rfl (fun hg=>LO.ld O3 (.g hg rfl) (ax 0 rfl ⟨_,rfl⟩))<|VO.gf rfl (fun hg=>LO.mv (.r rfl))<|VO.gf rfl (fun hg=>LO.gt (.g hg rfl) (.g hg rfl))<|ah (LO.qh (.r rfl) (.r rfl) rfl rfl) rfl<|VO.n<|ay rfl (fun h4=>?_) (fun h4=>?_))
    ·
     refine VC.q (VO.a rfl<|VO.n<|aP (cI (a8 (a8 (cI (a8 (VE.s rfl rfl (fun w hw=>?_))))))))
     refine⟨?_,hw.nil⟩
     simp only[gF]
     congr 2
     first |exact fE1 (by simpa using h1)|exact fE2 hgo (by simpa using h2)|exact fE3 hgo (by simpa using h2) hz (by omega) (by unfold lH;omega)|exact fE4 hgo (by simpa using h2) hz (by omega)
    ·
     refine aC (bB (ag<|VC.dU (VO.p rfl rfl (by omega) (by omega) rfl<|VO.m rfl<|VO.nil<|VE.cX fun a w ha hw=>⟨j+1,⟨by omega,q8 hz (Q4 (by unfold lH;omega))⟩,(by omega),ha.sub (.c4 rfl rfl rfl rfl .nil),hw.fO [1] rfl⟩)))
   ·
    refine VC.exit (VE.cb (VE.cb (VE.l8 (ag<|VC.q (VO.a rfl<|VO.n<|aP (VE.s rfl rfl (fun w hw=>?_)))))))
    refine⟨?_,hw.nil⟩
    simp only[gF]
    congr 2
    first |exact fE1 (by simpa using h1)|exact fE2 hgo (by simpa using h2)|exact fE3 hgo (by simpa using h2) hz (by omega) (by unfold lH;omega)|exact fE4 hgo (by simpa using h2) hz (by omega)
theorem mh (f:Field) (pv:Option Addr) (cv:Nat) (w:World) (hv:lP w pv f.lC):
 Calls ae 79 #[.agg #[.int .i64 f.g.x,.int .i64 f.g.y,.int .i64 f.g.size,.int .i64 f.g.wide,.int .i64 f.g.high,.slice pv f.lC.length cv]] w fun e w'=>e= .returned (.int .i64 (fS 1073741824 f))∧St (bs w) [] w':=by
 refine enter (vs:=[_]) (env:=[(0,_)]) Tryz.func79 rfl rfl rfl rfl ?_
 refine VC.q (VO.h rfl<|HO.box (C:=#[_,_,_,_,_,_]) rfl rfl fun b1=>VO.a rfl<|VO.n<|VC.q (ah (LO.fg (vs:=[_,_,_,_,_,_]) wA (.r rfl) (ax 0 rfl ⟨_,rfl⟩) rfl) rfl<|ah (bD (xs:=[_,_]) (vs:=[_,_]) anh ⟨(.r rfl),(.r rfl),trivial⟩ (fun w hw=>UH f pv cv _ w (hv.keep w hw))) rfl<|VO.a rfl<|VO.n<|aP (VE.s rfl rfl (fun w hw=>?_))))
 exact⟨rfl,hw.nil⟩
end Go.Proofs.YtffbohecdocajaaGreat
namespace Go.SL
set_option linter.unusedVariables false
open Go.RowKit
theorem St.Gx {β:Bs} {L L':List cq} {w:World} (h:St β L w) (hp:List.Perm L L'):St β L' w:=by
 have mem:∀{r:cq},r∈L'→∃i:Nat,L[i]? =some r:=fun hr=>by
  obtain⟨i,hi,e⟩:=da (hp.symm.subset hr)
  exact⟨i,by rw[af hi,e]⟩
 have hpw:L.Pairwise (fun r s:cq=>∀k,r.fp k→¬s.fp k):=be.2 fun i j hi hj hij k hk=>h.wG i j _ _ (by omega) (af hi) (af hj) k hk
 have hpw':=(hp.pairwise_iff (fun {r s} (q:∀k,r.fp k→¬s.fp k) k hs hr=>q k hr hs)).1 hpw
 refine⟨h.os,h.tape,h.output,h.size,h.fr,?_,?_,?_⟩
 ·intro i r hr
  obtain⟨j,hj⟩:=mem (al hr)
  exact h.inv j r hj
 ·intro i r hr
  obtain⟨j,hj⟩:=mem (al hr)
  exact h.pM j r hj
 ·intro i j r s hij hr hs k hk hk2
  obtain⟨hi,e1⟩:=aj.1 hr
  obtain⟨hj,e2⟩:=aj.1 hs
  rcases aK i j with q|q
  ·have:=be.1 hpw' i j hi hj q k
   rw[e1,e2]at this;exact this hk hk2
  ·have:=be.1 hpw' j i hj hi (by omega) k
   rw[e1,e2]at this;exact this hk2 hk
structure FS where
 i:Nat
 d:Nat
 val:Nat→Value
 T:TypeId
 C:Array Value
def FS.res (s:FS) (b:Nat):cq:=de b (.cells s.C s.T)
def FO (P:Program) (env:Env) (o:Oper) (s:FS):Prop:=
 o.dst=some s.d∧o.guard=none∧∀(a:Act) (w:World),(∀x,x∈o.op.operands→∀u,ev env x=some u→a.eval x=u)→(execOp a.eval o).run P w= .ok (.value (s.val w.heap.size)) (w.alloc (.cells s.C s.T))
def FM (FT:List FS) (i:Nat):Option FS:=FT.find? fun s=>eV s.i i
def HY (P:Program) (β:Bs) (N:Nat) (ds:List Deferred) (J:Nat→List cq) (Q:Exit→Act→World→Prop) (FT:List FS):Nat→Nat→List Oper→List (Option Nat)→Env→List cq→Prop
 |_,_,[],_,env,L=>VE β N ds env L .normal Q
 |m,i,o::r,some _::ms,env,L=>HY P β N ds J Q FT m (i+1) r ms env L
 |m,i,o::r,none::ms,env,L=>
  (∃s,FM FT i=some s∧∀b,(∀w,St β (s.res b::L) w→St β (J (m+1)) w)∧HY P β N ds J Q FT (m+1) (i+1) r ms ((s.d,s.val b)::env) (s.res b::L))∨
  (FM FT i=none∧o.guard=none∧(∀d,o.dst=some d→d<N)∧∀X,HO P β env (L++X) o fun v L''=>∃L',L''=L'++X∧(∀w,St β L' w→St β (J (m+1)) w)∧HY P β N ds J Q FT (m+1) (i+1) r ms (oo o v env) L')
 |_,_,_::_,[],_,_=>False
section
variable {P:Program} {ro:Option Nat} {β:Bs} {ds:List Deferred} {N:Nat} {J:Nat→List cq} {Q:Exit→Act→World→Prop} {FT:List FS} {env:Env} {L:List cq}
theorem HY.nil {m i:Nat} {ms:List (Option Nat)} (h:VE β N ds env L .normal Q):HY P β N ds J Q FT m i [] ms env L:=h
theorem HY.s {m i k:Nat} {o:Oper} {rest:List Oper} {ms:List (Option Nat)} (h:HY P β N ds J Q FT m (i+1) rest ms env L):HY P β N ds J Q FT m i (o::rest) (some k::ms) env L:=h
theorem HY.f {m i:Nat} {o:Oper} {rest:List Oper} {ms:List (Option Nat)} {s:FS} (hs:FM FT i=some s) (h:∀b,(∀w,St β (s.res b::L) w→St β (J (m+1)) w)∧HY P β N ds J Q FT (m+1) (i+1) rest ms ((s.d,s.val b)::env) (s.res b::L)):HY P β N ds J Q FT m i (o::rest) (none::ms) env L:=.inl ⟨s,hs,h⟩
theorem HY.h {m i d:Nat} {op:Op} {ty:TypeId} {pos:String} {aft:Array Edge} {rest:List Oper} {ms:List (Option Nat)} (hs:FM FT i=none) (hd:df d N=true)
  (h:∀X,HO P β env (L++X) ⟨some d,op,ty,pos,aft,none⟩ fun v L''=>∃L',L''=L'++X∧(∀w,St β L' w→St β (J (m+1)) w)∧HY P β N ds J Q FT (m+1) (i+1) rest ms ((d,v)::env) L'):HY P β N ds J Q FT m i (⟨some d,op,ty,pos,aft,none⟩::rest) (none::ms) env L:=
 .inr ⟨hs,rfl,(fun d' hd'=>by cases hd';exact bh hd),h⟩
theorem HY.h0 {m i:Nat} {op:Op} {ty:TypeId} {pos:String} {aft:Array Edge} {rest:List Oper} {ms:List (Option Nat)} (hs:FM FT i=none)
  (h:∀X,HO P β env (L++X) ⟨none,op,ty,pos,aft,none⟩ fun v L''=>∃L',L''=L'++X∧(∀w,St β L' w→St β (J (m+1)) w)∧HY P β N ds J Q FT (m+1) (i+1) rest ms env L'):HY P β N ds J Q FT m i (⟨none,op,ty,pos,aft,none⟩::rest) (none::ms) env L:=
 .inr ⟨hs,rfl,(fun d' hd'=>by cases hd'),h⟩
theorem HY.drop {l:List Oper} {ms:List (Option Nat)} {m p:Nat}:∀(k:Nat),HY P β N ds J Q FT m p (l.drop p) (ms.drop p) env L→p+k≤l.length→(∀i,p≤i→i<p+k→cN ms i=true)→HY P β N ds J Q FT m (p+k) (l.drop (p+k)) (ms.drop (p+k)) env L
 |0,h,_,_=>h
 |k+1,h,hk,hl=>by
  have ih:=HY.drop k h (by omega) (fun i a b=>hl i a (by omega))
  have hlt:p+k<l.length:=by omega
  have hli:=hl (p+k) (by omega) (by omega)
  rw[cY hlt]at ih
  cases q:ms[p+k]? with
  |none=>simp [cN,q]at hli
  |some x=>
   have hml:p+k<ms.length:=(aj.1 q).1
   rw[cY hml]at ih
   have e:ms[p+k]=x:=(aj.1 q).2
   rw[e]at ih
   cases x with
   |none=>simp [cN,q]at hli
   |some y=>exact ih
def ad0 (l:List Oper) (ms:List (Option Nat)) (js:List (List Nat)) (FT:List (Nat×Nat)):Bool:=
  let cl:=ji l
  let n:=l.length
  let isFi:=fun i=>FT.any fun s=>eV s.1 i
  let isD:=fun t=>FT.any fun s=>eV s.2 t
  lD (FT.map (·.1))&&lD (FT.map (·.2))&&
  FT.all (fun s=>df s.1 n&&fm ms s.1&&eA l s.1 s.2)&&
  eV ms.length n&&js.all lD&&((idxs js.length).all fun m=>(js.getD (m+1) []).all (js.getD m []).contains)&&
  (idxs n).all fun k=>
    match l[k]? with
    |none=>false
    |some o=>
      o.after.toList.all (fun e=> !dq .any e||df e.on k)&&
      (cl.getD k []).all (fun i=>o.after.toList.any fun e=>dq .any e&&(eV e.on i||(cl.getD e.on []).contains i))&&
      o.after.toList.all (fun e=> !dq .any e||(cl.getD k []).contains e.on)&&
      (cN ms k||isFi k||(idxs n).all fun i=> !fm ms i|| !df i k||(cl.getD k []).contains i)&&
      (match ms.getD k none with|some m=>(idxs n).all fun i=> !fm ms i||df (jZ ms i) m||(cl.getD i []).contains k|none=>true)&&
      (match o.dst with
       |none=> !cN ms k
       |some d=>((idxs n).all fun i=> !eA l i d|| !ahead ms i k||(cl.getD k []).contains i)&&(isFi k|| !isD d))&&
      ((iM l.toArray o).all fun t=>((idxs n).all fun i=> !eA l i t||((!ahead ms i k||(cl.getD k []).contains i)&&(!ahead ms k i||(cl.getD i []).contains k)))&&(!(cN ms k||isFi k)|| !isD t)&&(!isFi k|| !(idxs n).any fun i=>fm ms i&&eA l i t)&&(FT.all fun s=> !eV s.2 t||df s.1 k))
structure Ma (l:List Oper) (ms:List (Option Nat)) (js:List (List Nat)) (FT:List FS):Prop where
 len:ms.length=l.length
 jn:∀m,lD (js.getD m [])=true
 js:∀m,(js.getD (m+1) []).all (js.getD m []).contains=true
 fi:∀s,s∈FT→s.i<l.length∧fm ms s.i=true∧eA l s.i s.d=true
 ni:(FT.map (·.i)).Nodup
 nd:(FT.map (·.d)).Nodup
 ops:∀k o,l[k]? =some o→
   (∀e,e∈o.after.toList→dq .any e=true→e.on<k)∧
   (∀i,i∈(ji l).getD k []→∃e,e∈o.after.toList∧dq .any e=true∧(e.on=i∨i∈(ji l).getD e.on []))∧
   (fm ms k=true→FM FT k=none→∀i,i<k→fm ms i=true→i∈(ji l).getD k [])∧
   (∀m,ms[k]? =some (some m)→∀i,i<l.length→fm ms i=true→jZ ms i<m∨k∈(ji l).getD i [])∧
   (∀d,o.dst=some d→(∀i,i<l.length→eA l i d=true→ahead ms i k=true→i∈(ji l).getD k [])∧(FM FT k=none→∀s,s∈FT→s.d≠d))∧
   (∀t,t∈iM l.toArray o→(∀i,i<l.length→eA l i t=true→(ahead ms i k=true→i∈(ji l).getD k [])∧(ahead ms k i=true→k∈(ji l).getD i []))∧
    ((cN ms k=true∨FM FT k≠none)→∀s,s∈FT→s.d≠t)∧(FM FT k≠none→∀i,i<l.length→fm ms i=true→eA l i t=false)∧∀s,s∈FT→s.d=t→s.i<k)
theorem uS {i:Nat} {s:FS} (h:FM FT i=some s):s∈FT∧s.i=i:=⟨List.mem_of_find?_eq_some h,bO (List.find?_some (p:=fun s:FS=>eV s.i i) h)⟩
theorem IV {i:Nat} (h:FM FT i=none):∀s,s∈FT→s.i≠i:=fun s hs e=>by
 have:=List.find?_eq_none.1 h s hs
 rw[e]at this;simp at this
theorem XL (hn:(FT.map (·.i)).Nodup) {s:FS} (hs:s∈FT):FM FT s.i=some s:=by
 cases q:FM FT s.i with
 |none=>exact absurd rfl (IV q s hs)
 |some u=>
  obtain⟨h1,h2⟩:=uS q
  have hnd:=be.1 hn
  obtain⟨p1,hp1,e1⟩:=da h1
  obtain⟨p2,hp2,e2⟩:=da hs
  rcases e9 p1 p2 with r|r|r
  ·exact absurd (by rw[gi,gi,e1,e2,h2]) (hnd p1 p2 (by simpa using hp1) (by simpa using hp2) r)
  ·subst r;rw[←e1,e2]
  ·exact absurd (by rw[gi,gi,e1,e2,h2]) (hnd p2 p1 (by simpa using hp2) (by simpa using hp1) r)
theorem E6:∀{l:List Nat},lD l=true→l.Nodup:=fun {l} h=>by
 rw[List.Nodup,be]
 intro i j hi hj hij
 exact pX h i j hi hj (by omega)
theorem DI {d t:Nat} (e:t≠d):eV d t=false:=by
 cases q:eV d t
 ·rfl
 ·exact absurd (bO q).symm e
theorem Ma.of {l:List Oper} {ms:List (Option Nat)} {js:List (List Nat)} (h:ad0 l ms js (FT.map fun s=>(s.i,s.d))=true):Ma l ms js FT:=by
 unfold ad0 at h
 simp only[aQ]at h
 obtain⟨⟨⟨⟨⟨⟨n1,n2⟩,n5⟩,h1⟩,h2⟩,h3⟩,h4⟩:=h
 have hlen:=bO h1
 have key:∀k o,l[k]? =some o→_:=fun k o hk=>by
  have hlt:k<l.length:=(aj.1 hk).1
  have h5:=bF.1 h4 k (by simpa [idxs]using hlt)
  simp only[hk,aQ]at h5
  exact h5
 have anyF:∀k,FM FT k=none→((FT.map fun s=>(s.i,s.d)).any fun s=>eV s.1 k)=false:=fun k hk=>by
  cases q:(FT.map fun s=>(s.i,s.d)).any fun s=>eV s.1 k with
  |false=>rfl
  |true=>
   obtain⟨x,hx,e⟩:=eG.1 q
   obtain⟨s,hs,rfl⟩:=bQ.1 hx
   exact absurd (bO e) (IV hk s hs)
 have anyF':∀k,FM FT k≠none→((FT.map fun s=>(s.i,s.d)).any fun s=>eV s.1 k)=true:=fun k hk=>by
  cases q:FM FT k with
  |none=>exact absurd q hk
  |some s=>
   obtain⟨a,b⟩:=uS q
   exact eG.2 ⟨(s.i,s.d),bQ.2 ⟨s,a,rfl⟩,by rw[b];exact fC _⟩
 have anyD:∀t,((FT.map fun s=>(s.i,s.d)).any fun s=>eV s.2 t)=false→∀s,s∈FT→s.d≠t:=fun t ht s hs e=>by
  have:((FT.map fun s=>(s.i,s.d)).any fun s=>eV s.2 t)=true:=eG.2 ⟨(s.i,s.d),bQ.2 ⟨s,hs,rfl⟩,by rw[e];exact fC _⟩
  rw[ht]at this;cases this
 have nl:∀k,k<l.length→fm ms k=true→cN ms k=false:=fun k hk hh=>by
  rcases dj hlen hk with⟨_,b,_⟩|⟨a,_,_⟩
  ·rw[b]at hh;cases hh
  ·exact a
 refine⟨hlen,?_,?_,?_,?_,?_,?_⟩
 ·intro m
  cases q:js[m]? with
  |none=>simp [jw,q,lD]
  |some x=>simp only[jw,q,dk];exact bF.1 h2 x (al q)
 ·intro m
  rcases aK m js.length with q|q
  ·exact bF.1 h3 m (by simpa [idxs]using q)
  ·have:js[m+1]? =none:=by simp;omega
   simp [jw,this]
 ·intro s hs
  have:=bF.1 n5 (s.i,s.d) (bQ.2 ⟨s,hs,rfl⟩)
  simp only[aQ]at this
  exact⟨bh this.1.1,this.1.2,this.2⟩
 ·have:=E6 n1;rwa [dG]at this
 ·have:=E6 n2;rwa [dG]at this
 ·intro k o hk
  have hlt:k<l.length:=(aj.1 hk).1
  obtain⟨⟨⟨⟨⟨⟨a1,a2⟩,a3⟩,a4⟩,a5⟩,a6⟩,a7⟩:=key k o hk
  refine⟨?_,?_,?_,?_,?_,?_⟩
  ·intro e he hb
   have:=bF.1 a1 e he
   simp only[hb,fb,fo]at this
   exact bh this
  ·intro i hi
   have:=bF.1 a2 i hi
   obtain⟨e,he,hx⟩:=eG.1 this
   simp only[aQ,fj]at hx
   exact⟨e,he,hx.1,hx.2.imp bO (by simp)⟩
  ·intro hh hf i hi hh2
   rw[nl k hlt hh,anyF k hf,fo,fo]at a4
   have:=bF.1 a4 i (by simp [idxs];omega)
   have hb:df i k=true:=di hi
   simpa [hh2,hb]using this
  ·intro m hm i hi hh
   have e:ms.getD k none=some m:=by simp [jw,hm]
   rw[e]at a5
   have:=bF.1 a5 i (by simpa [idxs]using hi)
   simp only[hh,fb,fo,fj]at this
   exact this.imp (fun q=>bh q) (by simp)
  ·intro d hd
   simp only[hd,aQ]at a6
   refine⟨fun i hi hw ha=>?_,fun hf=>?_⟩
   ·have:=bF.1 a6.1 i (by simpa [idxs]using hi)
    simpa [hw,ha]using this
   ·have:=a6.2
    rw[anyF k hf,fo,bR]at this
    exact anyD d this
  ·intro t ht
   have:=bF.1 a7 t ht
   simp only[aQ]at this
   obtain⟨⟨⟨b1,b2⟩,b3⟩,b4⟩:=this
   refine⟨fun i hi hw=>?_,fun hor=>?_,fun hf i hi hh=>?_,fun s hs e=>?_⟩
   ·have:=bF.1 b1 i (by simpa [idxs]using hi)
    simp only[hw,fb,fo,aQ]at this
    exact⟨fun q=>by simpa [q]using this.1,fun q=>by simpa [q]using this.2⟩
   ·have hc:(cN ms k||(FT.map fun s=>(s.i,s.d)).any fun s=>eV s.1 k)=true:=by
     rcases hor with q|q
     ·rw[q,Bool.true_or]
     ·rw[anyF' k q,Bool.or_true]
    rw[hc,fb,fo,bR]at b2
    exact anyD t b2
   ·rw[anyF' k hf,fb,fo,bR]at b3
    cases q:eA l i t with
    |false=>rfl
    |true=>
     have:((idxs l.length).any fun i=>fm ms i&&eA l i t)=true:=eG.2 ⟨i,by simpa [idxs]using hi,by rw[hh,q];rfl⟩
     rw[b3]at this;cases this
   ·have:=bF.1 b4 (s.i,s.d) (bQ.2 ⟨s,hs,rfl⟩)
    rw[e]at this
    simp at this
    exact this
structure Hz (P:Program) (β:Bs) (N:Nat) (ds:List Deferred) (J:Nat→List cq) (Q:Exit→Act→World→Prop) (FT:List FS) (l:List Oper) (ms:List (Option Nat)) (V:Nat→Value) (env:Env) (listed:Array Bool) (p:Nat) (eh:Env) (L:List cq) (E:List (FS×Nat)) (a:Act) (w:World):Prop where
 vg:listed.size=l.length
 size:a.tmps.size=N
 xB:a.defers=ds
 st:St β (L++E.map fun x=>x.1.res x.2) w
 hJ:∀w,St β L w→St β (J (jZ ms p)) w
 hp:p≤l.length
 hy:HY P β N ds J Q FT (jZ ms p) p (l.drop p) (ms.drop p) (eh++kO l ms V env l.length) L
 eE:∀x,x∈E→x.1∈FT∧p≤x.1.i
 en:(E.map fun x=>x.1.i).Nodup
 hd:∀i,i<l.length→fm ms i=true→(listed[i]? =some true↔i<p∨∃x,x∈E∧x.1.i=i)
 closed:∀j,listed[j]? =some true→∀i,i∈(ji l).getD j []→listed[i]? =some true
 sl:∀x,x∈E→a.tmps[x.1.d]? =some (x.1.val x.2)
 G9:∀t v,jx eh t=some v→a.tmps[t]? =some v
 SS:∀t,jx eh t=none→∀i,i<p→fm ms i=true→eA l i t=false
 EP:∀t,jx eh t≠none→∃i,i<p∧fm ms i=true∧eA l i t=true
 top:∀t k,jx eh t=none→(∀s,s∈FT→s.d≠t)→k<l.length→cN ms k=true→eA l k t=true→listed[k]? =some true→(∀k',k'<l.length→cN ms k'=true→eA l k' t=true→listed[k']? =some true→k'≤k)→a.tmps[t]? =some (V k)
 base:∀t,jx eh t=none→(∀s,s∈FT→s.d≠t)→(∀k,k<l.length→cN ms k=true→eA l k t=true→listed[k]? ≠some true)→∀v,jx env t=some v→a.tmps[t]? =some v
theorem yn {α γ:Type} {f:α→γ} {l:List α} (h:(l.map f).Nodup) {x y:α} (hx:x∈l) (hy:y∈l) (e:f x=f y):x=y:=by
 have hnd:=be.1 h
 obtain⟨p1,hp1,e1⟩:=da hx
 obtain⟨p2,hp2,e2⟩:=da hy
 rcases e9 p1 p2 with q|q|q
 ·exact absurd (by rw[gi,gi,e1,e2,e]) (hnd p1 p2 (by simpa using hp1) (by simpa using hp2) q)
 ·subst q;rw[←e1,e2]
 ·exact absurd (by rw[gi,gi,e1,e2,e]) (hnd p2 p1 (by simpa using hp2) (by simpa using hp1) q)
theorem Bk {ms:List (Option Nat)} {p i:Nat} (hpi:p≤i) (hm:i≤ms.length) (h:∀k,p≤k→k<i→cN ms k=true):jZ ms i=jZ ms p:=by
 have:∀k,p+k≤i→jZ ms (p+k)=jZ ms p:=by
  intro k
  induction k with
  |zero=>intro _;rfl
  |succ k ih=>
   intro hk
   have hlk:=h (p+k) (by omega) (by omega)
   have hkl:p+k<ms.length:=by omega
   rw[show p+(k+1)=(p+k)+1 by omega,q7 hkl,ih (by omega)]
   cases r:ms[p+k] with
   |none=>simp [cN,hkl,r]at hlk
   |some x=>simp
 have:=this (i-p) (by omega)
 rwa [show p+(i-p)=i by omega]at this
theorem Hz.agA {l:List Oper} {ms:List (Option Nat)} {js:List (List Nat)} {V:Nat→Value} {listed:Array Bool} {p:Nat} {eh:Env} {E:List (FS×Nat)} {a:Act} {w:World} (hc:Ma l ms js FT)
  (h:Hz P β N ds J Q FT l ms V env listed p eh L E a w) {x:FS×Nat} (hx:x∈E) (hl:∀k,p≤k→k<x.1.i→cN ms k=true):
  ∃eh' L' E',Hz P β N ds J Q FT l ms V env listed (x.1.i+1) eh' L' E' a w∧E'.length<E.length:=by
 obtain⟨hxF,hpx⟩:=h.eE x hx
 obtain⟨hil,hhv,hdx⟩:=hc.fi x.1 hxF
 have hy:=HY.drop (x.1.i-p) h.hy (by omega) (fun k a b=>hl k a (by omega))
 rw[show p+(x.1.i-p)=x.1.i by omega]at hy
 have hml:x.1.i<ms.length:=by rw[hc.len];exact hil
 have e2:ms[x.1.i]=none:=by
  have:=hhv
  unfold fm at this
  rw[af hml]at this
  cases q:ms[x.1.i] with
  |none=>rfl
  |some y=>rw[q]at this;cases this
 rw[cY hil,cY hml,e2]at hy
 have hF:=XL hc.ni hxF
 rcases hy with⟨s,hs,hb⟩|⟨hn,_⟩
 ·rw[hF]at hs
  cases hs
  obtain⟨hb1,hb2⟩:=hb x.2
  obtain⟨E1,E2,rfl⟩:=List.append_of_mem hx
  have hrk:jZ ms x.1.i=jZ ms p:=Bk hpx (by omega) hl
  have hrk1:jZ ms (x.1.i+1)=jZ ms p+1:=by rw[q7 hml,e2,hrk];simp
  have hnd:=h.en
  simp only[bj,fD]at hnd
  have hne:∀y,y∈E1++E2→y.1.i≠x.1.i:=fun y hy e=>by
   have h2:=(lM.1 hnd)
   rcases bZ.1 hy with q|q
   ·exact h2.2.2 _ (bQ.2 ⟨y,q,rfl⟩) _ (by simp) e
   ·exact(mQ.1 h2.2.1).1 (bQ.2 ⟨y,q,e⟩)
  have gt:∀y,y∈E1++E2→x.1.i+1≤y.1.i:=fun y hy=>by
   have hyE:y∈E1++x::E2:=by rcases bZ.1 hy with q|q<;>simp [q]
   obtain⟨hyF,hpy⟩:=h.eE y hyE
   have h1:=hne y hy
   rcases aK y.1.i x.1.i with q|q
   ·have h2:=hl y.1.i hpy q
    rcases dj hc.len (hc.fi y.1 hyF).1 with⟨_,b,_⟩|⟨b,_,_⟩
    ·rw[(hc.fi y.1 hyF).2.1]at b;cases b
    ·rw[b]at h2;cases h2
   ·omega
  have hdi:∀t,eA l x.1.i t=eV x.1.d t:=fun t=>by
   unfold eA at hdx ⊢
   rw[af hil]at hdx ⊢
   cases q:(l[x.1.i]).dst with
   |none=>simp [q]at hdx
   |some d'=>simp only[q]at hdx ⊢;rw[bO hdx]
  refine⟨(x.1.d,x.1.val x.2)::eh,x.1.res x.2::L,E1++E2,⟨h.vg,h.size,h.xB,?_,?_,by omega,?_,?_,?_,?_,h.closed,?_,?_,?_,?_,?_,?_⟩,by simp⟩
  ·refine h.st.Gx ?_
   simp only[bj,fD,List.cons_append, ←List.append_assoc]
   exact jm
  ·rw[hrk1];exact hb1
  ·rw[hrk1];exact hb2
  ·intro y hy
   have hyE:y∈E1++x::E2:=by rcases bZ.1 hy with q|q<;>simp [q]
   exact⟨(h.eE y hyE).1,gt y hy⟩
  ·have h2:=(lM.1 hnd)
   rw[bj]
   refine lM.2 ⟨h2.1,(mQ.1 h2.2.1).2,fun a ha b hb=>h2.2.2 a ha b (by simp [hb])⟩
  ·intro i hi hh
   rw[h.hd i hi hh]
   constructor
   ·rintro (q|⟨y,hy,e⟩)
    ·exact .inl (by omega)
    ·by_cases r:y.1.i=x.1.i
     ·exact .inl (by omega)
     ·refine .inr ⟨y,?_,e⟩
      rcases bZ.1 hy with q|q
      ·simp [q]
      ·rcases cA.1 q with rfl|q
       ·exact absurd rfl r
       ·simp [q]
   ·rintro (q|⟨y,hy,e⟩)
    ·by_cases r:i=x.1.i
     ·exact .inr ⟨x,by simp,r.symm⟩
     ·left
      rcases aK i p with s|s
      ·exact s
      ·have:=hl i s (by omega)
       rcases dj hc.len hi with⟨_,b,_⟩|⟨b,_,_⟩
       ·rw[b]at hh;cases hh
       ·rw[b]at this;cases this
    ·exact .inr ⟨y,by rcases bZ.1 hy with q|q<;>simp [q],e⟩
  ·intro y hy
   exact h.sl y (by rcases bZ.1 hy with q|q<;>simp [q])
  ·intro t v hv
   by_cases e:t=x.1.d
   ·subst e
    rw[fE]at hv
    cases hv
    exact h.sl x hx
   ·rw[eN e]at hv;exact h.G9 t v hv
  ·intro t hn i hi hh
   have e:t≠x.1.d:=fun e=>by subst e;rw[fE]at hn;cases hn
   rw[eN e]at hn
   by_cases r:i=x.1.i
   ·rw[r,hdi];exact DI e
   ·refine h.SS t hn i ?_ hh
    rcases aK i p with s|s
    ·exact s
    ·have:=hl i s (by omega)
     rcases dj hc.len (show i<l.length by omega) with⟨_,b,_⟩|⟨b,_,_⟩
     ·rw[b]at hh;cases hh
     ·rw[b]at this;cases this
  ·intro t hn
   by_cases e:t=x.1.d
   ·subst e;exact⟨x.1.i,by omega,hhv,hdx⟩
   ·rw[eN e]at hn
    obtain⟨i,a,b,c⟩:=h.EP t hn
    exact⟨i,by omega,b,c⟩
  ·intro t k hn hs
   have e:t≠x.1.d:=fun e=>hs x.1 hxF e.symm
   rw[eN e]at hn
   exact h.top t k hn hs
  ·intro t hn hs
   have e:t≠x.1.d:=fun e=>hs x.1 hxF e.symm
   rw[eN e]at hn
   exact h.base t hn hs
 ·rw[hF]at hn;cases hn
def Nrm (l:List Oper) (ms:List (Option Nat)) (listed:Array Bool) (p:Nat):Prop:=∀i,p≤i→i<l.length→fm ms i=true→(∀k,p≤k→k<i→cN ms k=true)→listed[i]? ≠some true
theorem Hz.norm {l:List Oper} {ms:List (Option Nat)} {js:List (List Nat)} {V:Nat→Value} {listed:Array Bool} {a:Act} {w:World} (hc:Ma l ms js FT):∀(n:Nat) {p:Nat} {eh:Env} {L:List cq} {E:List (FS×Nat)},E.length=n→
  Hz P β N ds J Q FT l ms V env listed p eh L E a w→∃p' eh' L' E',Hz P β N ds J Q FT l ms V env listed p' eh' L' E' a w∧Nrm l ms listed p':=by
 intro n
 induction n using jU with
 |_ n ih=>
  intro p eh L E hn h
  by_cases q:Nrm l ms listed p
  ·exact⟨p,eh,L,E,h,q⟩
  ·unfold Nrm at q
   simp only[rE]at q
   obtain⟨i,h1,h2,h3,h4,h5⟩:=q
   have h5:=cL.1 h5
   rcases(h.hd i h2 h3).1 h5 with r|⟨x,hx,e⟩
   ·omega
   ·subst e
    obtain⟨eh',L',E',hz,hlt⟩:=h.agA hc hx h4
    exact ih E'.length (by omega) rfl hz
theorem Hz.step {l:List Oper} {ms:List (Option Nat)} {js:List (List Nat)} {L0:List cq} {V:Nat→Value} {listed:Array Bool} {p:Nat} {eh:Env} {E:List (FS×Nat)} {a:Act} {w:World} {Q':Exit→Act→World→Prop} (hc:Ma l ms js FT) (hJe:J=fun m=>fO L0 (js.getD m []))
  (hV:∀k o m,l[k]? =some o→ms[k]? =some (some m)→∃d,o.dst=some d∧d<N∧∀L,(∀w,St β L w→St β (J m) w)→I2 P β l.toArray L o (kO l ms V env k) (V k))
  (hF:∀s,s∈FT→s.d<N∧∃o,l[s.i]? =some o∧FO P (kO l ms V env l.length) o s)
  (h:Hz P β N ds J Q FT l ms V env listed p eh L E a w) (hn:Nrm l ms listed p) {i:Nat} (hi:i∈dr .any l.toArray listed) {K:Act→World→Prop}
  (hK:∀p' eh' L' E' a' w',Hz P β N ds J Q FT l ms V env (listed.setIfInBounds i true) p' eh' L' E' a' w'→K a' w'):wpOpIn (Wf ro) 0 P l.toArray Q' i K a w:=by
 have hlen:=hc.len
 simp only[dr,bK,bf,aQ,bR]at hi
 obtain⟨hin,hnl,hready⟩:=hi
 have hil:i<l.length:=by simpa using hin
 have hiz:i<listed.size:=by rw[h.vg];exact hil
 obtain⟨o,ho⟩:∃o,l[i]? =some o:=⟨l[i],by simp [hil]⟩
 have hnot:listed[i]? ≠some true:=by
  intro e
  have:listed.getD i true=true:=by simp [e]
  rw[this]at hnl;cases hnl
 have hdone:∀e,e∈o.after.toList→dq .any e=true→listed[e.on]? =some true:=by
  intro e he hb
  have h1:(o.after.all fun e=> !dq .any e||listed.getD e.on false)=true:=by simpa [ho]using hready
  have h2:=(dW.1 h1) e (by simpa using he)
  simp only[hb,fb,fo]at h2
  cases q:listed[e.on]? with
  |none=>simp [q]at h2
  |some b=>simp [q]at h2;rw[h2]
 obtain⟨c1,c2,c3,c4,c5,c6⟩:=hc.ops i o ho
 have hcl:∀j,j∈(ji l).getD i []→listed[j]? =some true:=by
  intro j hj
  obtain⟨e,he,hb,hx⟩:=c2 j hj
  rcases hx with rfl|hx
  ·exact hdone e he hb
  ·exact h.closed _ (hdone e he hb) j hx
 have closed':∀j,(listed.setIfInBounds i true)[j]? =some true→∀k,k∈(ji l).getD j []→(listed.setIfInBounds i true)[k]? =some true:=by
  intro j hj k hk
  rw[bL hiz]at hj ⊢
  rcases hj with rfl|hj
  ·exact .inr (hcl k hk)
  ·exact .inr (h.closed j hj k hk)
 have ho':l.toArray[i]? =some o:=by simpa using ho
 have dstI:∀d,o.dst=some d→∀t,eA l i t=eV d t:=by
  intro d hd t;simp [eA,ho,hd]
 have hEl:∀x,x∈E→listed[x.1.i]? =some true:=fun x hx=>(h.hd _ (hc.fi x.1 (h.eE x hx).1).1 (hc.fi x.1 (h.eE x hx).1).2.1).2 (.inr ⟨x,hx,rfl⟩)
 have before:∀t,t∈iM l.toArray o→∀k,k<l.length→eA l k t=true→ahead ms k i=true→listed[k]? =some true:=fun t ht k hk hw ha=>hcl k (((c6 t ht).1 k hk hw).1 ha)
 have behind:∀t,t∈iM l.toArray o→∀k,k<l.length→eA l k t=true→ahead ms i k=true→listed[k]? ≠some true:=fun t ht k hk hw ha hl=>hnot (h.closed k hl i (((c6 t ht).1 k hk hw).2 ha))
 unfold wpOpIn
 simp only[ho']
 rcases dj hlen hil with⟨hli,hhv,m,hm⟩|⟨hli,hhv,hm⟩
 ·
  obtain⟨d,hd,hdN,hok⟩:=hV i o m ho hm
  have hfn:FM FT i=none:=by
   cases q:FM FT i with
   |none=>rfl
   |some s=>
    obtain⟨h1,h2⟩:=uS q
    have:=(hc.fi s h1).2.1
    rw[h2,hhv]at this;cases this
  have hnd:∀s,s∈FT→s.d≠d:=(c5 d hd).2 hfn
  have hstage:jZ ms p≤m:=by
   rcases aK m (jZ ms p) with q|q
   ·exfalso
    obtain⟨j,hjp,hjh,hjr⟩:=z6 (ms:=ms) (m:=m) p (by rw[hlen];exact h.hp) q
    have hjl:j<l.length:=et hjp h.hp
    rcases c4 m hm j hjl hjh with r|r
    ·omega
    ·exact hnot (h.closed j ((h.hd j hjl hjh).2 (.inl hjp)) i r)
   ·exact q
  have hJm:∀w,St β (L++E.map fun x=>x.1.res x.2) w→St β (J m) w:=by
   intro w hw
   have h1:St β L w:=by
    have hw2:=hw.Gx (List.perm_append_comm (l₁:=L) (l₂:=E.map fun x=>x.1.res x.2))
    exact St.Fo (L1:=E.map fun x=>x.1.res x.2) (L2:=L) (R:=[]) (O:=fun _=>False) hw2 (fun _ f=>f.elim) (St.refl w)
   have:=h.hJ w h1
   rw[hJe]at this ⊢
   exact TX hc.jn hc.js hstage this
  have hno:jx eh d=none:=by
   cases q:jx eh d with
   |none=>rfl
   |some v=>
    exfalso
    obtain⟨k,hkp,hkh,hkd⟩:=h.EP d (by rw[q];simp)
    have hkl:k<l.length:=et hkp h.hp
    have hnl:cN ms k=false:=by
     rcases dj hlen hkl with⟨_,b,_⟩|⟨a,_,_⟩
     ·rw[b]at hkh;cases hkh
     ·exact a
    obtain⟨_,_,_,_,g5,_⟩:=hc.ops k l[k] (by simp [hkl])
    have hkd':l[k].dst=some d:=by
     simp only[eA,af hkl]at hkd
     cases r:l[k].dst with
     |none=>simp [r]at hkd
     |some d'=>simp only[r]at hkd;rw[bO hkd]
    exact hnot (h.closed k ((h.hd k hkl hkh).2 (.inl hkp)) i ((g5 d hkd').1 i hil (by rw[dstI d hd];exact fC _) (by simp [ahead,hli,hnl])))
  have fin:∀w',St β (L++E.map fun x=>x.1.res x.2) w'→Hz P β N ds J Q FT l ms V env (listed.setIfInBounds i true) p eh L E (a.put (some d) (V i)) w':=by
   intro w' hs
   refine⟨by simp [h.vg],by simp [eK,h.size],h.xB,hs,h.hJ,h.hp,h.hy,h.eE,h.en,?_,closed',?_,?_,h.SS,h.EP,?_,?_⟩
   ·intro k hk hkh
    rw[bL hiz, ←h.hd k hk hkh]
    have:k≠i:=fun e=>by subst e;rw[hhv]at hkh;cases hkh
    simp [this]
   ·intro x hx
    have e:x.1.d≠d:=hnd x.1 (h.eE x hx).1
    simp only[eK]
    rw[aS (eD e)]
    exact h.sl x hx
   ·intro t v hv
    have e:t≠d:=fun e=>by subst e;rw[hno]at hv;cases hv
    simp only[eK]
    rw[aS (eD e)]
    exact h.G9 t v hv
   ·intro t k hn hns hk hkl hkd hdn hmax
    by_cases e:t=d
    ·subst e
     have hki:k=i:=by
      have g:=hmax i hil hli (by rw[dstI t hd];exact fC _) ((bL hiz).2 (.inl rfl))
      rcases aK i k with q|q
      ·exfalso
       have hl':listed[k]? =some true:=by
        rcases(bL hiz).1 hdn with e|e
        ·omega
        ·exact e
       obtain⟨_,_,_,_,g5,_⟩:=hc.ops k l[k] (by simp [hk])
       have hkd':l[k].dst=some t:=by
        simp only[eA,af hk]at hkd
        cases r:l[k].dst with
        |none=>simp [r]at hkd
        |some d'=>simp only[r]at hkd;rw[bO hkd]
       exact hnot (h.closed k hl' i ((g5 t hkd').1 i hil (by rw[dstI t hd];exact fC _) (by simp only[ahead,hli,hkl,if_true];exact di q)))
      ·omega
     subst hki
     simp [eK,h.size,hdN]
    ·have hki:k≠i:=fun q=>by subst q;rw[dstI d hd,DI e]at hkd;cases hkd
     simp only[eK]
     rw[aS (eD e)]
     refine h.top t k hn hns hk hkl hkd ?_ fun k' a b c d=>hmax k' a b c ((bL hiz).2 (.inr d))
     rcases(bL hiz).1 hdn with q|q
     ·exact absurd q hki
     ·exact q
   ·intro t hn hns hnone v hv
    have e:t≠d:=fun q=>by subst q;exact hnone i hil hli (by rw[dstI t hd];exact fC _) ((bL hiz).2 (.inl rfl))
    simp only[eK]
    rw[aS (eD e)]
    exact h.base t hn hns (fun k a b c d=>hnone k a b c ((bL hiz).2 (.inr d))) v hv
  have rd:∀t,t∈iM l.toArray o→∀u,jx (kO l ms V env i) t=some u→a.tmps[t]? =some u:=by
   intro t ht u hu
   have hns:∀s,s∈FT→s.d≠t:=(c6 t ht).2.1 (.inl hli)
   have hno:jx eh t=none:=by
    cases q:jx eh t with
    |none=>rfl
    |some v=>
     exfalso
     obtain⟨k,hkp,hkh,hkd⟩:=h.EP t (by rw[q];simp)
     have hkl:k<l.length:=et hkp h.hp
     have hnl:cN ms k=false:=by
      rcases dj hlen hkl with⟨_,b,_⟩|⟨a,_,_⟩
      ·rw[b]at hkh;cases hkh
      ·exact a
     exact behind t ht k hkl hkd (by simp [ahead,hli,hnl]) ((h.hd k hkl hkh).2 (.inl hkp))
   have late:∀k',k'<l.length→cN ms k'=true→eA l k' t=true→listed[k']? =some true→k'<i:=by
    intro k' hk' hl' hd' hdn
    rcases e9 k' i with q|q|q
    ·exact q
    ·subst q;exact absurd hdn hnot
    ·exact absurd hdn (behind t ht k' hk' hd' (by simp only[ahead,hli,hl',if_true];exact di q))
   rcases l7 l ms V env t u i hu with⟨k,h1,h2,h3,h4,h5⟩|⟨h1,h2⟩
   ·rw[←h4]
    refine h.top t k hno hns (by omega) h2 h3 (before t ht k (by omega) h3 (by simp only[ahead,hli,h2,if_true];exact di h1)) fun k' a b c d=>?_
    rcases aK k k' with q|q
    ·have:=h5 k' q (late k' a b c d) b
     rw[c]at this;cases this
    ·exact q
   ·refine h.base t hno hns (fun k a b c d=>?_) u h2
    have:=h1 k (late k a b c d) b
    rw[c]at this;cases this
  have opr:∀x,x∈o.op.operands→∀u,ev (kO l ms V env i) x=some u→a.eval x=u:=by
   intro x hx u hu
   cases x with
   |tmp t=>
    have:=rd t (dg _ (iy.2 ⟨.tmp t,by simpa using hx,rfl⟩)) u hu
    simp [ep,this]
   |const c=>simpa [ev,ep]using hu
   |global g=>simpa [ev,ep]using hu
   |func f=>simpa [ev,ep]using hu
  have hok':=hok _ hJm
  generalize hVi:V i=vi at hok' fin
  rcases hok' with⟨hg,hlo⟩|⟨j,want,t,u,c,v',hg,hj,ht,hgd,hlo,rfl⟩
  ·rw[if_pos (by simp [gk,hg])]
   exact(hlo a w opr h.st).wp (ro:=ro) (Q:=Q') (K:=K) fun w' hs=>by rw[hd];exact hK _ _ _ _ _ _ (fin w' hs)
  ·have ht':a.tmps[t]? =some u:=rd t (eX _ (by rw[hg];show t∈((l.toArray[j]?).bind (·.dst)).toList;rw[hj];simp)) u ht
   have hy:yielded l.toArray a.tmps j=vb u:=by
    unfold yielded;rw[hj];simp only[ll,ht'];cases u<;>rfl
   simp only[gk,hg,hy]
   cases c with
   |true=>
    have hu:=hgd.1 rfl
    subst hu
    simp only[vb,beq_self_eq_true,if_true]
    exact(hlo rfl a w opr h.st).wp (ro:=ro) (Q:=Q') (K:=K) fun w' hs=>by
     rw[hd]
     have:=fin w' hs
     rw[show gv true v'=v' from rfl]at this
     exact hK _ _ _ _ _ _ this
   |false=>
    have hu:=hgd.2 rfl
    have hne:=O7 hu
    simp only[hne,bP,if_false]
    have:=fin w h.st
    rw[show gv false v'=undef from rfl]at this
    rw[hd]
    exact⟨fun _ _=>True.intro,hK _ _ _ _ _ _ this⟩
 ·have hpi:p≤i:=by
   rcases aK i p with q|q
   ·exact absurd ((h.hd i hil hhv).2 (.inl q)) hnot
   ·exact q
  
  have rd:∀t,t∈iM l.toArray o→∀u,jx (eh++kO l ms V env l.length) t=some u→(jx eh t=none→∀s,s∈FT→s.d≠t)→a.tmps[t]? =some u:=by
   intro t ht u hu hns
   rw[nW]at hu
   cases q:jx eh t with
   |some v=>rw[q]at hu;simp only[oh]at hu;subst hu;exact h.G9 t v q
   |none=>
    rw[q]at hu
    simp only at hu
    rcases l7 l ms V env t u l.length hu with⟨k,h1,h2,h3,h4,h5⟩|⟨h1,h2⟩
    ·rw[←h4]
     refine h.top t k q (hns q) h1 h2 h3 (before t ht k h1 h3 (by simp [ahead,hli,h2])) fun k' a b c d=>?_
     rcases aK k k' with r|r
     ·have:=h5 k' r a b
      rw[c]at this;cases this
     ·exact r
    ·refine h.base t q (hns q) (fun k a b c d=>?_) u h2
     have:=h1 k a b
     rw[c]at this;cases this
  cases hf:FM FT i with
  |some s=>
   
   obtain⟨hsF,hsi⟩:=uS hf
   obtain⟨hdN,o2,ho2,hfo⟩:=hF s hsF
   rw[hsi,ho]at ho2
   cases ho2
   obtain⟨hdst,hg,hrun⟩:=hfo
   rw[if_pos (by simp [gk,hg])]
   have opr:∀x,x∈o.op.operands→∀u,ev (kO l ms V env l.length) x=some u→a.eval x=u:=by
    intro x hx u hu
    cases x with
    |tmp t=>
     have ht:t∈iM l.toArray o:=dg _ (iy.2 ⟨.tmp t,by simpa using hx,rfl⟩)
     have hno:jx eh t=none:=by
      cases q:jx eh t with
      |none=>rfl
      |some v=>
       obtain⟨k,hkp,hkh,hkd⟩:=h.EP t (by rw[q];simp)
       have:=(c6 t ht).2.2.1 (by rw[hf];simp) k (et hkp h.hp) hkh
       rw[hkd]at this;cases this
     have:=rd t ht u (by rw[nW,hno];exact hu) (fun _=>(c6 t ht).2.1 (.inr (by rw[hf];simp)))
     simp [ep,this]
    |const c=>simpa [ev,ep]using hu
    |global g=>simpa [ev,ep]using hu
    |func f=>simpa [ev,ep]using hu
   have hrun':=hrun a w opr
   have hho:HO P β (kO l ms V env l.length) (L++E.map fun x=>x.1.res x.2) o fun v L'=>∃b,v=s.val b∧L'=s.res b::(L++E.map fun x=>x.1.res x.2):=by
    intro a w hx hw
    exact .inl ⟨_,_,_,_,hrun a w hx,.inl rfl,⟨w.heap.size,rfl,rfl⟩,hw.alloc _⟩
   refine hho.wp (ro:=ro) (Q:=Q') opr h.st fun v L' w' hk hst=>?_
   obtain⟨b,rfl,rfl⟩:=hk
   have hfresh:∀x,x∈E→x.1.i≠i:=fun x hx e=>hnot (by rw[←e];exact hEl x hx)
   have hold:∀t,jx eh t≠none→t≠s.d:=fun t hne e=>by
    obtain⟨k,hkp,hkh,hkd⟩:=h.EP t hne
    have hkl:k<l.length:=et hkp h.hp
    have hki:k≠i:=by omega
    have hkd':l[k].dst=some t:=by
     simp only[eA,af hkl]at hkd
     cases r:l[k].dst with
     |none=>simp [r]at hkd
     |some d'=>simp only[r]at hkd;rw[bO hkd]
    cases q:FM FT k with
    |none=>exact((hc.ops k l[k] (by simp [hkl])).2.2.2.2.1 t hkd').2 q s hsF e.symm
    |some s2=>
     obtain⟨g1,g2⟩:=uS q
     have hd2:=(hc.fi s2 g1).2.2
     rw[g2]at hd2
     simp only[eA,af hkl,hkd']at hd2
     have e2:t=s2.d:=bO hd2
     have:=yn hc.nd g1 hsF (by show s2.d=s.d;rw[←e2,e])
     rw[this]at g2;omega
   refine hK p eh L ((s,b)::E) _ w' ⟨by simp [h.vg],by rw[hdst];simp [eK,h.size],by rw[hdst];exact h.xB,?_,h.hJ,h.hp,h.hy,?_,?_,?_,closed',?_,?_,h.SS,h.EP,?_,?_⟩
   ·exact hst.Gx (by simpa using(jm (a:=s.res b) (l₁:=L) (l₂:=E.map fun x=>x.1.res x.2)).symm)
   ·intro x hx
    rcases cA.1 hx with rfl|hx
    ·exact⟨hsF,by show p≤s.i;omega⟩
    ·exact h.eE x hx
   ·rw[fD,mQ]
    refine⟨fun hm=>?_,h.en⟩
    obtain⟨x,hx,e⟩:=bQ.1 hm
    exact hfresh x hx (by rw[e];exact hsi)
   ·intro k hk hkh
    rw[bL hiz,h.hd k hk hkh]
    constructor
    ·rintro (rfl|q|⟨x,hx,e⟩)
     ·exact .inr ⟨(s,b),by simp,hsi⟩
     ·exact .inl q
     ·exact .inr ⟨x,by simp [hx],e⟩
    ·rintro (q|⟨x,hx,e⟩)
     ·exact .inr (.inl q)
     ·rcases cA.1 hx with rfl|hx
      ·left;rw[←e];exact hsi
      ·exact .inr (.inr ⟨x,hx,e⟩)
   ·intro x hx
    rw[hdst]
    rcases cA.1 hx with rfl|hx
    ·simp [eK,h.size,hdN]
    ·have hne:x.1.d≠s.d:=fun e=>by
      have:=yn hc.nd (h.eE x hx).1 hsF e
      exact hfresh x hx (by rw[this];exact hsi)
     simp only[eK]
     rw[aS (eD hne)]
     exact h.sl x hx
   ·intro t v hv
    rw[hdst]
    have e:t≠s.d:=hold t (by rw[hv];simp)
    simp only[eK]
    rw[aS (eD e)]
    exact h.G9 t v hv
   ·intro t k hn hns hk hkl hkd hdn hmax
    have hki:k≠i:=fun e=>by subst e;rw[hli]at hkl;cases hkl
    rw[hdst]
    simp only[eK]
    rw[aS (hns s hsF)]
    refine h.top t k hn hns hk hkl hkd ?_ fun k' a b c d=>hmax k' a b c ((bL hiz).2 (.inr d))
    rcases(bL hiz).1 hdn with q|q
    ·exact absurd q hki
    ·exact q
   ·intro t hn hns hnone v hv
    rw[hdst]
    simp only[eK]
    rw[aS (hns s hsF)]
    exact h.base t hn hns (fun k a b c d=>hnone k a b c ((bL hiz).2 (.inr d))) v hv
  |none=>
   
   have hall:∀k,k<i→fm ms k=true→listed[k]? =some true:=fun k hk hh=>hcl k (c3 hhv hf k hk hh)
   have hlights:∀k,p≤k→k<i→cN ms k=true:=by
    
    refine eR fun hcon=>?_
    simp only[rE]at hcon
    obtain⟨k,hk1,hk2,hk3⟩:=hcon
    have hmin:∃j,(p≤j∧j<i∧cN ms j=false)∧∀j',p≤j'→j'<j→cN ms j'=true:=by
     have:∀n j,j=n→p≤j→j<i→cN ms j=false→∃j,(p≤j∧j<i∧cN ms j=false)∧∀j',p≤j'→j'<j→cN ms j'=true:=by
      intro n
      induction n using jU with
      |_ n ih=>
       rintro j rfl h1 h2 h3
       by_cases q:∀j',p≤j'→j'<j→cN ms j'=true
       ·exact⟨j,⟨h1,h2,h3⟩,q⟩
       ·simp only[rE]at q
        obtain⟨j',q1,q2,q3⟩:=q
        exact ih j' q2 j' rfl q1 (by omega) (by simpa using q3)
     exact this k k rfl hk1 hk2 (by simpa using hk3)
    obtain⟨j,⟨j1,j2,j3⟩,j4⟩:=hmin
    have hjl:j<l.length:=by omega
    have hjh:fm ms j=true:=by
     rcases dj hlen hjl with⟨a,_,_⟩|⟨_,b,_⟩
     ·rw[a]at j3;cases j3
     ·exact b
    exact hn j j1 hjl hjh j4 (hall j j2 hjh)
   have hy:=HY.drop (i-p) h.hy (by omega) (fun k a b=>hlights k a (by omega))
   rw[show p+(i-p)=i by omega]at hy
   have hml:i<ms.length:=by omega
   have e1:l[i]=o:=by simpa [af hil]using ho
   have e2:ms[i]=none:=by simpa [af hml]using hm
   rw[cY hil,cY hml,e1,e2]at hy
   have hrk:jZ ms i=jZ ms p:=Bk hpi (by omega) hlights
   have hrk1:jZ ms (i+1)=jZ ms p+1:=by rw[q7 hml,e2,hrk];simp
   rcases hy with⟨s,hs,_⟩|⟨_,hg,hdN,hho⟩
   ·rw[hf]at hs;cases hs
   have hnsE:∀t,t∈iM l.toArray o→jx eh t=none→∀s,s∈FT→s.d≠t:=fun t ht hno s hs e=>by
    have h1:=(c6 t ht).2.2.2 s hs e
    obtain⟨g1,g2,g3⟩:=hc.fi s hs
    rw[e]at g3
    have h2:s.i<p:=by
     rcases aK s.i p with q|q
     ·exact q
     ·have:=hlights s.i q h1
      rcases dj hlen g1 with⟨_,b,_⟩|⟨b,_,_⟩
      ·rw[b]at g2;cases g2
      ·rw[b]at this;cases this
    have:=h.SS t hno s.i h2 g2
    rw[g3]at this;cases this
   have opr:∀x,x∈o.op.operands→∀u,ev (eh++kO l ms V env l.length) x=some u→a.eval x=u:=by
    intro x hx u hu
    cases x with
    |tmp t=>
     have ht:t∈iM l.toArray o:=dg _ (iy.2 ⟨.tmp t,by simpa using hx,rfl⟩)
     have:=rd t ht u hu (hnsE t ht)
     simp [ep,this]
    |const c=>simpa [ev,ep]using hu
    |global g=>simpa [ev,ep]using hu
    |func f=>simpa [ev,ep]using hu
   rw[if_pos (by simp [gk,hg])]
   refine((hho (E.map fun x=>x.1.res x.2)).wp (ro:=ro) (Q:=Q') opr h.st fun v L'' w' hk hs=>?_)
   obtain⟨L',rfl,hk1,hk2⟩:=hk
   have envE:oo o v (eh++kO l ms V env l.length)=oo o v eh++kO l ms V env l.length:=by
    unfold oo;cases o.dst<;>rfl
   have hnd:∀d,o.dst=some d→∀s,s∈FT→s.d≠d:=fun d hd=>(c5 d hd).2 hf
   have hgt:∀x,x∈E→i+1≤x.1.i:=fun x hx=>by
    have h1:=(h.eE x hx).2
    have hne:x.1.i≠i:=fun e=>hnot (by rw[←e];exact hEl x hx)
    rcases aK x.1.i i with q|q
    ·have:=hlights x.1.i h1 q
     obtain⟨g1,g2,_⟩:=hc.fi x.1 (h.eE x hx).1
     rcases dj hlen g1 with⟨_,b,_⟩|⟨b,_,_⟩
     ·rw[b]at g2;cases g2
     ·rw[b]at this;cases this
    ·omega
   refine hK (i+1) (oo o v eh) L' E _ w' ⟨by simp [h.vg],?_,(by cases o.dst<;>exact h.xB),hs,?_,by omega,?_,fun x hx=>⟨(h.eE x hx).1,hgt x hx⟩,h.en,?_,closed',?_,?_,?_,?_,?_,?_⟩
   ·cases q:o.dst with
    |none=>exact h.size
    |some d=>simp [eK,h.size]
   ·rw[hrk1, ←hrk];exact hrk ▸ hk1
   ·rw[hrk1, ←envE];exact hk2
   ·intro k hk hkh
    rw[bL hiz,h.hd k hk hkh]
    constructor
    ·rintro (rfl|q|q)
     ·exact .inl (by omega)
     ·exact .inl (by omega)
     ·exact .inr q
    ·rintro (q|q)
     ·by_cases r:k=i
      ·exact .inl r
      ·right;left
       rcases aK k p with s|s
       ·exact s
       ·have:=hlights k s (by omega)
        rcases dj hlen hk with⟨_,b,_⟩|⟨b,_,_⟩
        ·rw[b]at hkh;cases hkh
        ·rw[b]at this;cases this
     ·exact .inr (.inr q)
   ·intro x hx
    cases q:o.dst with
    |none=>exact h.sl x hx
    |some d=>
     have e:x.1.d≠d:=hnd d q x.1 (h.eE x hx).1
     simp only[eK]
     rw[aS (eD e)]
     exact h.sl x hx
   ·intro t u hu
    unfold oo at hu
    cases q:o.dst with
    |none=>simp only[q]at hu;exact h.G9 t u hu
    |some d=>
     simp only[q]at hu
     by_cases e:t=d
     ·subst e
      rw[fE]at hu
      cases hu
      simp [eK,h.size,hdN t q]
     ·rw[eN e]at hu
      simp only[eK]
      rw[aS (eD e)]
      exact h.G9 t u hu
   ·intro t hn k hk hkh
    unfold oo at hn
    have hn':jx eh t=none:=by
     cases q:o.dst with
     |none=>simpa only[q]using hn
     |some d=>
      simp only[q]at hn
      by_cases e:t=d
      ·subst e;rw[fE]at hn;cases hn
      ·rwa [eN e]at hn
    by_cases r:k=i
    ·subst r
     cases q:o.dst with
     |none=>simp [eA,ho,q]
     |some d=>
      rw[dstI d q]
      refine DI fun e=>?_
      subst e
      simp only[q]at hn
      rw[fE]at hn
      cases hn
    ·refine h.SS t hn' k ?_ hkh
     rcases aK k p with s|s
     ·exact s
     ·exfalso
      have:=hlights k s (by omega)
      rcases dj hlen (k:=k) (by omega) with⟨_,b,_⟩|⟨b,_,_⟩
      ·rw[b]at hkh;cases hkh
      ·rw[b]at this;cases this
   ·intro t hn
    unfold oo at hn
    cases q:o.dst with
    |none=>
     simp only[q]at hn
     obtain⟨k,a,b,c⟩:=h.EP t hn
     exact⟨k,by omega,b,c⟩
    |some d=>
     simp only[q]at hn
     by_cases e:t=d
     ·subst e
      exact⟨i,by omega,hhv,by rw[dstI t q];exact fC _⟩
     ·rw[eN e]at hn
      obtain⟨k,a,b,c⟩:=h.EP t hn
      exact⟨k,by omega,b,c⟩
   ·intro t k hn hns hk hkl hkd hdn hmax
    have hki:k≠i:=fun e=>by subst e;rw[hli]at hkl;cases hkl
    unfold oo at hn
    have hn':jx eh t=none∧∀d,o.dst=some d→t≠d:=by
     cases q:o.dst with
     |none=>exact⟨by simpa only[q]using hn,by simp⟩
     |some d=>
      simp only[q]at hn
      by_cases e:t=d
      ·subst e;rw[fE]at hn;cases hn
      ·exact⟨by rwa [eN e]at hn,fun d' hd'=>by cases hd';exact e⟩
    have hdn':listed[k]? =some true:=by
     rcases(bL hiz).1 hdn with q|q
     ·exact absurd q hki
     ·exact q
    have:=h.top t k hn'.1 hns hk hkl hkd hdn' fun k' a b c d=>hmax k' a b c ((bL hiz).2 (.inr d))
    cases q:o.dst with
    |none=>exact this
    |some d=>
     simp only[eK]
     rw[aS (eD (hn'.2 d q))]
     exact this
   ·intro t hn hns hnone u hu
    unfold oo at hn
    have hn':jx eh t=none∧∀d,o.dst=some d→t≠d:=by
     cases q:o.dst with
     |none=>exact⟨by simpa only[q]using hn,by simp⟩
     |some d=>
      simp only[q]at hn
      by_cases e:t=d
      ·subst e;rw[fE]at hn;cases hn
      ·exact⟨by rwa [eN e]at hn,fun d' hd'=>by cases hd';exact e⟩
    have:=h.base t hn'.1 hns (fun k a b c d=>hnone k a b c ((bL hiz).2 (.inr d))) u hu
    cases q:o.dst with
    |none=>exact this
    |some d=>
     simp only[eK]
     rw[aS (eD (hn'.2 d q))]
     exact this
theorem Hz.end_ {l:List Oper} {ms:List (Option Nat)} {js:List (List Nat)} {V:Nat→Value} {listed:Array Bool} {p:Nat} {eh:Env} {E:List (FS×Nat)} {a:Act} {w:World} (hc:Ma l ms js FT)
  (h:Hz P β N ds J Q FT l ms V env listed p eh L E a w) (hn:Nrm l ms listed p) (hall:∀k,k<l.length→listed[k]? =some true):Q .normal a w:=by
 have hlen:=hc.len
 have hl:∀k,p≤k→k<l.length→cN ms k=true:=by
  have:∀n k,k=n→p≤k→k<l.length→cN ms k=true:=by
   intro n
   induction n using jU with
   |_ n ih=>
    rintro k rfl h1 h2
    rcases dj hlen h2 with⟨a,_,_⟩|⟨_,b,_⟩
    ·exact a
    ·exact absurd (hall k h2) (hn k h1 h2 b fun j j1 j2=>ih j j2 j rfl j1 (by omega))
  exact fun k=>this k k rfl
 have hE:E=[]:=by
  cases E with
  |nil=>rfl
  |cons x E=>
   exfalso
   obtain⟨h1,h2⟩:=h.eE x (by simp)
   obtain⟨g1,g2,_⟩:=hc.fi x.1 h1
   have:=hl x.1.i h2 g1
   rcases dj hlen g1 with⟨_,b,_⟩|⟨b,_,_⟩
   ·rw[b]at g2;cases g2
   ·rw[b]at this;cases this
 subst hE
 have hx:=HY.drop (l.length-p) h.hy (by have:=h.hp;omega) (fun k a b=>hl k a (by have:=h.hp;omega))
 rw[show p+(l.length-p)=l.length by have:=h.hp;omega]at hx
 rw[List.drop_length]at hx
 have hst:=h.st
 rw[mP,c9]at hst
 refine hx a w ⟨h.size,h.xB,fun t u hu=>?_⟩ hst
 rw[nW]at hu
 cases q:jx eh t with
 |some v=>rw[q]at hu;simp only[oh]at hu;subst hu;exact h.G9 t v q
 |none=>
  rw[q]at hu
  simp only at hu
  have hns:∀s,s∈FT→s.d≠t:=fun s hs e=>by
   obtain⟨g1,g2,g3⟩:=hc.fi s hs
   rw[e]at g3
   have h2:s.i<p:=by
    rcases aK s.i p with r|r
    ·exact r
    ·have:=hl s.i r g1
     rcases dj hlen g1 with⟨_,b,_⟩|⟨b,_,_⟩
     ·rw[b]at g2;cases g2
     ·rw[b]at this;cases this
   have:=h.SS t q s.i h2 g2
   rw[g3]at this;cases this
  rcases l7 l ms V env t u l.length hu with⟨k,h1,h2,h3,h4,h5⟩|⟨h1,h2⟩
  ·rw[←h4]
   refine h.top t k q hns h1 h2 h3 (hall k h1) fun k' a b c d=>?_
   rcases aK k k' with r|r
   ·have:=h5 k' r a b
    rw[c]at this;cases this
   ·exact r
  ·refine h.base t q hns (fun k a b c d=>?_) u h2
   have:=h1 k a b
   rw[c]at this;cases this
def FOk (P:Program) (N:Nat) (l:List Oper) (env:Env):List FS→Prop
 |[]=>True
 |s::FT=>(df s.d N=true∧∃o,l[s.i]? =some o∧FO P env o s)∧FOk P N l env FT
theorem FOk.mem {l:List Oper}:∀{FT:List FS},FOk P N l env FT→∀s,s∈FT→s.d<N∧∃o,l[s.i]? =some o∧FO P env o s
 |[],_,s,hs=>by cases hs
 |x::FT,h,s,hs=>by
  rcases cA.1 hs with rfl|hs
  ·exact⟨bh h.1.1,h.1.2⟩
  ·exact h.2.mem s hs
theorem VC.VU (FT:List FS) (js:List (List Nat)) (ms:List (Option Nat)) {env':Env} {id:Nat} {l:List Oper} (hm:P.follows .mixedOrders=true) (hc:ad0 l ms js (FT.map fun s=>(s.i,s.d))=true) (h0:js.getD 0 []=br L.length)
  (h:LX P β N l.toArray (fun m=>fO L (js.getD m [])) l ms env env') (hF:FOk P N l env' FT) (k:HY P β N ds (fun m=>fO L (js.getD m [])) Q FT 0 0 l ms env' L):
  VC P ro β N ds env L (.region id l.toArray true) Q:=by
 intro a w ha hw
 obtain⟨V,hV1,hV2⟩:=h.lC
 have hC:=Ma.of hc
 subst hV1
 refine wpIn_region_any hm ?_
 have key:∀fuel listed p eh L' E a w,Hz P β N ds (fun m=>fO L (js.getD m [])) Q FT l ms V env listed p eh L' E a w→(∀k,k<l.length→listed[k]? ≠some true→0<fuel)→((br l.length).filter fun k=> !(listed[k]? ==some true)).length≤fuel→wpAnyIn (Wf ro) 0 P .any l.toArray Q fuel listed a w:=by
  intro fuel
  induction fuel with
  |zero=>
   intro listed p eh L' E a w hI0 hz _
   obtain⟨p',eh',L'',E',hI,hn⟩:=hI0.norm hC _ rfl
   have hall:∀k,k<l.length→listed[k]? =some true:=fun k hk=>eR fun hn=>by have:=hz k hk hn;omega
   refine⟨?_,hI.end_ hC hn hall⟩
   simp only[dr,ff,bf,aQ,bR,not_and]
   intro i hi hf
   have:=hall i (by simpa using hi)
   simp [this]at hf
  |succ fuel ih=>
   intro listed p eh L' E a w hI0 hz hcnt
   obtain⟨p',eh',L'',E',hI,hn⟩:=hI0.norm hC _ rfl
   refine⟨fun hr=>hI.end_ hC hn (qW hI.vg (fun k o ho=>(hC.ops k o ho).1) hr),fun i hi=>?_⟩
   refine hI.step hC rfl hV2 hF.mem hn hi fun p' eh' L'' E' a' w' hI'=>ih _ _ _ _ _ _ _ hI' ?_ ?_
   ·intro k hk hn
    rcases eO fuel with e|e
    ·exfalso
     subst e
     simp only[dr,bK,bf,aQ,bR]at hi
     have hil:i<l.length:=by simpa using hi.1
     have hiz:i<listed.size:=by rw[hI.vg];exact hil
     rw[Ne,bL hiz,not_or]at hn
     have hni:listed[i]? ≠some true:=fun e=>by have h2:=hi.2.1;simp [e]at h2
     have m1:i∈(br l.length).filter fun k=> !(listed[k]? ==some true):=by simp [hil,hni]
     have m2:k∈(br l.length).filter fun k=> !(listed[k]? ==some true):=by simp [hk,hn.2]
     match hf:(br l.length).filter fun k=> !(listed[k]? ==some true),hcnt with
     |[],_=>rw[hf]at m1;simp at m1
     |[x],_=>rw[hf]at m1 m2;simp at m1 m2;exact hn.1 (by omega)
     |_::_::_,hcnt=>simp at hcnt
    ·exact e
   ·simp only[dr,bK,bf,aQ,bR]at hi
    have hil:i<l.length:=by simpa using hi.1
    have hiz:i<listed.size:=by rw[hI.vg];exact hil
    have hni:listed[i]? ≠some true:=fun e=>by have h2:=hi.2.1;simp [e]at h2
    have hlt2:((br l.length).filter fun k=> !((listed.setIfInBounds i true)[k]? ==some true)).length<((br l.length).filter fun k=> !(listed[k]? ==some true)).length:=by
     refine filter_lt (i:=i) ?_ (by simp [hil]) ?_ ?_
     ·intro k hk
      simp only[bR,beq_eq_false_iff_ne,ne_eq]at hk ⊢
      exact fun e=>hk ((bL hiz).2 (.inr e))
     ·simpa using hni
     ·simp [hiz]
    omega
 have hnone:∀j:Nat,(jF l.toArray.size false)[j]? ≠some true:=by
  intro j hj
  simp [dN]at hj
 refine key _ _ 0 [] L [] _ _ ⟨by simp,ha.size,ha.xB,(by rw[mP,c9];exact hw.drew _),?_,bG _,?_,by simp,by simp,?_,?_,by simp,?_,?_,?_,?_,?_⟩ ?_ ?_
 ·intro w hw
  have:jZ ms 0=0:=by simp [jZ]
  rw[this]
  simp only[h0]
  refine hw.fO _ ?_
  have:=hC.jn 0
  rwa [h0]at this
 ·simpa [jZ]using k
 ·intro i _ _
  exact⟨fun e=>absurd e (hnone i),fun q=>by rcases q with q|⟨x,hx,_⟩;omega;cases hx⟩
 ·intro j hj;exact absurd hj (hnone j)
 ·intro t v hv;simp [jx]at hv
 ·intro t _ i hi;omega
 ·intro t ht;simp [jx]at ht
 ·intro t k _ _ _ _ _ hl;exact absurd hl (hnone k)
 ·intro t _ _ _ v hv;exact ha.get t v hv
 ·intro k hk _
  simpa using kG (bG _) hk
 ·refine eL (cH _ _) ?_
  simp
theorem FO.alloc {env:Env} {T d i:Nat} {z:Value} {C:Array Value} {ty:TypeId} {pos:String} {aft:Array Edge} (hz:cj P T z) (hC:z.cells=C):FO P env ⟨some d,.alloc T,ty,pos,aft,none⟩ ⟨i,d,fun b=>.pointer (some ⟨b,0,none⟩),T,C⟩:=
 ⟨rfl,rfl,fun a w _=>by simp [execOp,Instr.alloc,mc hz,newVar,newRow,hC]⟩
theorem FO.bs {env:Env} {d i:Nat} {ty:TypeId} {pos:String} {aft:Array Edge} {T E len z:Nat} {zero:Value} {Z:List Value} {ps:List (Nat×Operand)} {vs:List (Nat×Value)} {C:List Value} (hT:dF P T E) (hz:cj P E zero) (hs:(P.info? E).map (·.size)=some z) (hps:B9 env (ps.map (·.2)) (vs.map (·.2))) (hix:ps.map (·.1)=vs.map (·.1)) (hle:rV (len*z) 16777216=true) (hpos:df 0 (len*z)=true)
  (hZ:(br (len*z)).map (fun i=>zero.cells[i%zero.cells.size]!)=Z) (hb:FL (PLs len z) Z vs C):FO P env ⟨some d,.buildSlice T len ps.toArray,ty,pos,aft,none⟩ ⟨i,d,fun b=>.slice (some ⟨b,0,none⟩) len len,E,C.toArray⟩:=by
 refine⟨rfl,rfl,fun a w h=>?_⟩
 have h2:=B9.map (a:=a) hps (fun x hm u ⟨u',hu',e⟩=>e ▸ h x (by
  obtain⟨p,hp,e⟩:=bQ.1 hm
  simp only[az]
  subst e
  simpa using⟨p.1,hp⟩) u' hu')
 rw[dG]at h2
 have hm:(ps.map fun p=>(p.1,a.eval p.2))=vs:=uL hix h2
 have hfill:jK (fun i=>some (i*z,z)) Z.toArray vs=some C.toArray:=by
  have:=hb.fill
  have key:∀(vs:List (Nat×Value)) (A:Array Value) (R:Array Value),jK ((PLs len z)[·]?) A vs=some R→jK (fun i=>some (i*z,z)) A vs=some R:=by
   intro vs
   induction vs with
   |nil=>intro A R h;exact h
   |cons x xs ih=>
    intro A R h
    obtain⟨i,v⟩:=x
    simp only[jK]at h ⊢
    cases q:(PLs len z)[i]? with
    |none=>simp [q]at h
    |some y=>
     have hi:y=(i*z,z):=by
      simp only[PLs,aw,j8]at q
      obtain⟨j,hj,e⟩:=q
      have:j=i:=by
       cases r:(br len)[i]? with
       |none=>rw[r]at hj;cases hj
       |some m=>
        have hlt:i<len:=by
         rcases aK i len with s|s
         ·exact s
         ·rw[aH (by simpa using s)]at r;cases r
        simp [hlt]at hj
        exact hj.symm
      subst this;exact e.symm
     subst hi
     simp only[q]at h
     split at h
     ·cases h
     ·rename_i hc
      simp only[hc,bP,if_false]
      exact ih _ _ h
  exact key _ _ _ this
 have hgt:¬(len*z>2 ^ 24):=by have:=bh hle;omega
 have h0:¬(len*z=0):=by have:0<len*z:=bh hpos;omega
 simp only[execOp,bz]
 rw[show(ps.toArray.map fun(i,x)=>(i,a.eval x))=vs.toArray by rw[←hm];simp]
 have e:((Array.range (len*z)).map fun i=>zero.cells[i%zero.cells.size]!)=Z.toArray:=by
  rw[←hZ];apply sV;simp
 simp only[Instr.buildSlice,run_underlying hT,jv hs,bz,bw,hgt,h0,if_false,mc hz,cG,e,hfill,newRow,run_newObj]
 rfl
end
end Go.SL
namespace Go.SL
set_option linter.unusedVariables false
set_option linter.unusedSimpArgs false
open Go.RowKit
def uN (l:List Oper) (ms:List (Option Nat)) (S:List Nat):List Nat:=
 (idxs l.length).filter fun i=>fm ms i&& !S.contains i&&((ji l).getD i []).all fun j=> !fm ms j||S.contains j
def aiE (l:List Oper) (env:Env) (o:Oper):Prop:=o.guard=none∨∃j want t,o.guard=some (j,want)∧(l[j]?).bind (·.dst)=some t∧jx env t=some (.bool want)
def HE (P:Program) (β:Bs) (N:Nat) (ds:List Deferred) (L0:List cq) (Q:Exit→Act→World→Prop) (l:List Oper) (ms:List (Option Nat)):Nat→List Nat→Env→List cq→Prop
 |0,_,_,_=>False
 |n+1,S,env,L=>(uN l ms S=[]→VE β N ds env L .normal Q)∧∀i,i∈uN l ms S→∃o,l[i]? =some o∧aiE l env o∧(∀d,o.dst=some d→d<N)∧HO P β env L o fun v L'=>(∀w,St β L' w→St β L0 w)∧HE P β N ds L0 Q l ms n (i::S) (oo o v env) L'
def ZP (l:List Oper) (ms:List (Option Nat)):Bool:=
  let cl:=ji l
  let n:=l.length
  eV ms.length n&&
  (idxs n).all fun k=>
    match l[k]? with
    |none=>false
    |some o=>
      o.after.toList.all (fun e=> !dq .any e||df e.on k)&&
      (cl.getD k []).all (fun i=>o.after.toList.any fun e=>dq .any e&&(eV e.on i||(cl.getD e.on []).contains i))&&
      (match o.dst with
       |none=> !cN ms k
       |some d=>(idxs n).all fun i=> !eA l i d|| !ahead ms i k||(cl.getD k []).contains i)&&
      ((iM l.toArray o).all fun t=>(idxs n).all fun i=> !eA l i t||((!ahead ms i k||(cl.getD k []).contains i)&&(!ahead ms k i||(cl.getD i []).contains k)))
structure V0 (l:List Oper) (ms:List (Option Nat)):Prop where
 len:ms.length=l.length
 ops:∀k o,l[k]? =some o→
   (∀e,e∈o.after.toList→dq .any e=true→e.on<k)∧
   (∀i,i∈(ji l).getD k []→∃e,e∈o.after.toList∧dq .any e=true∧(e.on=i∨i∈(ji l).getD e.on []))∧
   (∀d,o.dst=some d→∀i,i<l.length→eA l i d=true→ahead ms i k=true→i∈(ji l).getD k [])∧
   (∀t,t∈iM l.toArray o→∀i,i<l.length→eA l i t=true→(ahead ms i k=true→i∈(ji l).getD k [])∧(ahead ms k i=true→k∈(ji l).getD i []))
theorem V0.of {l:List Oper} {ms:List (Option Nat)} (h:ZP l ms=true):V0 l ms:=by
 unfold ZP at h
 simp only[aQ]at h
 obtain⟨h1,h2⟩:=h
 refine⟨bO h1,fun k o ho=>?_⟩
 have hk:k<l.length:=(aj.1 ho).1
 have h3:=bF.1 h2 k (by simpa [idxs]using hk)
 rw[ho]at h3
 simp only[aQ]at h3
 obtain⟨⟨⟨a,b⟩,c⟩,d⟩:=h3
 refine⟨fun e he hb=>?_,fun i hi=>?_,fun dd hdd i hi hdi hah=>?_,fun t ht i hi hdi=>?_⟩
 ·have:=bF.1 a e he
  rw[hb]at this
  simpa [o8]using this
 ·have:=bF.1 b i hi
  obtain⟨e,he,hh⟩:=eG.1 this
  simp only[aQ,fj]at hh
  refine⟨e,he,hh.1,?_⟩
  rcases hh.2 with q|q
  ·exact .inl (bO q)
  ·exact .inr (by simpa using q)
 ·rw[hdd]at c
  have:=bF.1 c i (by simpa [idxs]using hi)
  simp only[hdi,hah,fb,fo]at this
  simpa using this
 ·have h4:=bF.1 d t ht
  have:=bF.1 h4 i (by simpa [idxs]using hi)
  simp only[hdi,fb,fo,aQ]at this
  refine⟨fun q=>?_,fun q=>?_⟩
  ·have h5:=this.1;rw[q]at h5;simpa using h5
  ·have h5:=this.2;rw[q]at h5;simpa using h5
structure Hx (P:Program) (β:Bs) (N:Nat) (ds:List Deferred) (L0:List cq) (Q:Exit→Act→World→Prop) (l:List Oper) (ms:List (Option Nat)) (V:Nat→Value) (env:Env) (listed:Array Bool) (n:Nat) (S:List Nat) (eh:Env) (L:List cq) (a:Act) (w:World):Prop where
 vg:listed.size=l.length
 size:a.tmps.size=N
 xB:a.defers=ds
 st:St β L w
 hJ:∀w,St β L w→St β L0 w
 hy:HE P β N ds L0 Q l ms n S (eh++kO l ms V env l.length) L
 hS:∀i,i∈S→i<l.length∧fm ms i=true
 hd:∀i,i<l.length→fm ms i=true→(listed[i]? =some true↔i∈S)
 closed:∀j,listed[j]? =some true→∀i,i∈(ji l).getD j []→listed[i]? =some true
 G9:∀t v,jx eh t=some v→a.tmps[t]? =some v
 SS:∀t,jx eh t=none→∀i,i∈S→eA l i t=false
 EP:∀t,jx eh t≠none→∃i,i∈S∧eA l i t=true
 top:∀t k,jx eh t=none→k<l.length→cN ms k=true→eA l k t=true→listed[k]? =some true→(∀k',k'<l.length→cN ms k'=true→eA l k' t=true→listed[k']? =some true→k'≤k)→a.tmps[t]? =some (V k)
 base:∀t,jx eh t=none→(∀k,k<l.length→cN ms k=true→eA l k t=true→listed[k]? ≠some true)→∀v,jx env t=some v→a.tmps[t]? =some v
section
variable {P:Program} {ro:Option Nat} {β:Bs} {ds:List Deferred} {N:Nat} {Q:Exit→Act→World→Prop} {env:Env} {L L0:List cq}
theorem Hx.step {l:List Oper} {ms:List (Option Nat)} {V:Nat→Value} {listed:Array Bool} {n:Nat} {S:List Nat} {eh:Env} {a:Act} {w:World} {Q':Exit→Act→World→Prop} (hc:V0 l ms)
  (hV:∀k o m,l[k]? =some o→ms[k]? =some (some m)→∃d,o.dst=some d∧d<N∧∀L,(∀w,St β L w→St β L0 w)→I2 P β l.toArray L o (kO l ms V env k) (V k))
  (h:Hx P β N ds L0 Q l ms V env listed n S eh L a w) {i:Nat} (hi:i∈dr .any l.toArray listed) {K:Act→World→Prop}
  (hK:∀n' S' eh' L' a' w',Hx P β N ds L0 Q l ms V env (listed.setIfInBounds i true) n' S' eh' L' a' w'→K a' w'):wpOpIn (Wf ro) 0 P l.toArray Q' i K a w:=by
 have hlen:=hc.len
 simp only[dr,bK,bf,aQ,bR]at hi
 obtain⟨hin,hnl,hready⟩:=hi
 have hil:i<l.length:=by simpa using hin
 have hiz:i<listed.size:=by rw[h.vg];exact hil
 obtain⟨o,ho⟩:∃o,l[i]? =some o:=⟨l[i],by simp [hil]⟩
 have hnot:listed[i]? ≠some true:=by
  intro e
  have:listed.getD i true=true:=by simp [e]
  rw[this]at hnl;cases hnl
 have hdone:∀e,e∈o.after.toList→dq .any e=true→listed[e.on]? =some true:=by
  intro e he hb
  have h1:(o.after.all fun e=> !dq .any e||listed.getD e.on false)=true:=by simpa [ho]using hready
  have h2:=(dW.1 h1) e (by simpa using he)
  simp only[hb,fb,fo]at h2
  cases q:listed[e.on]? with
  |none=>simp [q]at h2
  |some b=>simp [q]at h2;rw[h2]
 obtain⟨c1,c2,c5,c6⟩:=hc.ops i o ho
 have hcl:∀j,j∈(ji l).getD i []→listed[j]? =some true:=by
  intro j hj
  obtain⟨e,he,hb,hx⟩:=c2 j hj
  rcases hx with rfl|hx
  ·exact hdone e he hb
  ·exact h.closed _ (hdone e he hb) j hx
 have closed':∀j,(listed.setIfInBounds i true)[j]? =some true→∀k,k∈(ji l).getD j []→(listed.setIfInBounds i true)[k]? =some true:=by
  intro j hj k hk
  rw[bL hiz]at hj ⊢
  rcases hj with rfl|hj
  ·exact .inr (hcl k hk)
  ·exact .inr (h.closed j hj k hk)
 have ho':l.toArray[i]? =some o:=by simpa using ho
 have dstI:∀d,o.dst=some d→∀t,eA l i t=eV d t:=by
  intro d hd t;simp [eA,ho,hd]
 have before:∀t,t∈iM l.toArray o→∀k,k<l.length→eA l k t=true→ahead ms k i=true→listed[k]? =some true:=fun t ht k hk hw ha=>hcl k ((c6 t ht k hk hw).1 ha)
 have behind:∀t,t∈iM l.toArray o→∀k,k<l.length→eA l k t=true→ahead ms i k=true→listed[k]? ≠some true:=fun t ht k hk hw ha hl=>hnot (h.closed k hl i ((c6 t ht k hk hw).2 ha))
 have lightNo:∀k,k<l.length→fm ms k=true→cN ms k=false:=fun k hkl hkh=>by
  rcases dj hlen hkl with⟨_,b,_⟩|⟨a,_,_⟩
  ·rw[b]at hkh;cases hkh
  ·exact a
 have dstK:∀k d (hkl:k<l.length),eA l k d=true→l[k].dst=some d:=fun k d hkl hkd=>by
  simp only[eA,af hkl]at hkd
  cases r:l[k].dst with
  |none=>simp [r]at hkd
  |some d'=>simp only[r]at hkd;rw[bO hkd]
 unfold wpOpIn
 simp only[ho']
 rcases dj hlen hil with⟨hli,hhv,m,hm⟩|⟨hli,hhv,hm⟩
 ·
  obtain⟨d,hd,hdN,hok⟩:=hV i o m ho hm
  have hno:jx eh d=none:=by
   cases q:jx eh d with
   |none=>rfl
   |some v=>
    exfalso
    obtain⟨k,hkS,hkd⟩:=h.EP d (by rw[q];simp)
    obtain⟨hkl,hkh⟩:=h.hS k hkS
    obtain⟨_,_,g5,_⟩:=hc.ops k l[k] (by simp [hkl])
    exact hnot (h.closed k ((h.hd k hkl hkh).2 hkS) i (g5 d (dstK k d hkl hkd) i hil (by rw[dstI d hd];exact fC _) (by simp [ahead,hli,lightNo k hkl hkh])))
  have fin:∀w',St β L w'→Hx P β N ds L0 Q l ms V env (listed.setIfInBounds i true) n S eh L (a.put (some d) (V i)) w':=by
   intro w' hs
   refine⟨by simp [h.vg],by simp [eK,h.size],h.xB,hs,h.hJ,h.hy,h.hS,?_,closed',?_,h.SS,h.EP,?_,?_⟩
   ·intro k hk hkh
    rw[bL hiz, ←h.hd k hk hkh]
    have:k≠i:=fun e=>by subst e;rw[hhv]at hkh;cases hkh
    simp [this]
   ·intro t v hv
    have e:t≠d:=fun e=>by subst e;rw[hno]at hv;cases hv
    simp only[eK]
    rw[aS (eD e)]
    exact h.G9 t v hv
   ·intro t k hn hk hkl hkd hdn hmax
    by_cases e:t=d
    ·subst e
     have hki:k=i:=by
      have g:=hmax i hil hli (by rw[dstI t hd];exact fC _) ((bL hiz).2 (.inl rfl))
      rcases aK i k with q|q
      ·exfalso
       have hl':listed[k]? =some true:=by
        rcases(bL hiz).1 hdn with e|e
        ·omega
        ·exact e
       obtain⟨_,_,g5,_⟩:=hc.ops k l[k] (by simp [hk])
       exact hnot (h.closed k hl' i (g5 t (dstK k t hk hkd) i hil (by rw[dstI t hd];exact fC _) (by simp only[ahead,hli,hkl,if_true];exact di q)))
      ·omega
     subst hki
     simp [eK,h.size,hdN]
    ·have hki:k≠i:=fun q=>by subst q;rw[dstI d hd,DI e]at hkd;cases hkd
     simp only[eK]
     rw[aS (eD e)]
     refine h.top t k hn hk hkl hkd ?_ fun k' a b c d=>hmax k' a b c ((bL hiz).2 (.inr d))
     rcases(bL hiz).1 hdn with q|q
     ·exact absurd q hki
     ·exact q
   ·intro t hn hnone v hv
    have e:t≠d:=fun q=>by subst q;exact hnone i hil hli (by rw[dstI t hd];exact fC _) ((bL hiz).2 (.inl rfl))
    simp only[eK]
    rw[aS (eD e)]
    exact h.base t hn (fun k a b c d=>hnone k a b c ((bL hiz).2 (.inr d))) v hv
  have rd:∀t,t∈iM l.toArray o→∀u,jx (kO l ms V env i) t=some u→a.tmps[t]? =some u:=by
   intro t ht u hu
   have hno:jx eh t=none:=by
    cases q:jx eh t with
    |none=>rfl
    |some v=>
     exfalso
     obtain⟨k,hkS,hkd⟩:=h.EP t (by rw[q];simp)
     obtain⟨hkl,hkh⟩:=h.hS k hkS
     exact behind t ht k hkl hkd (by simp [ahead,hli,lightNo k hkl hkh]) ((h.hd k hkl hkh).2 hkS)
   have late:∀k',k'<l.length→cN ms k'=true→eA l k' t=true→listed[k']? =some true→k'<i:=by
    intro k' hk' hl' hd' hdn
    rcases e9 k' i with q|q|q
    ·exact q
    ·subst q;exact absurd hdn hnot
    ·exact absurd hdn (behind t ht k' hk' hd' (by simp only[ahead,hli,hl',if_true];exact di q))
   rcases l7 l ms V env t u i hu with⟨k,h1,h2,h3,h4,h5⟩|⟨h1,h2⟩
   ·rw[←h4]
    refine h.top t k hno (by omega) h2 h3 (before t ht k (by omega) h3 (by simp only[ahead,hli,h2,if_true];exact di h1)) fun k' a b c d=>?_
    rcases aK k k' with q|q
    ·have:=h5 k' q (late k' a b c d) b
     rw[c]at this;cases this
    ·exact q
   ·refine h.base t hno (fun k a b c d=>?_) u h2
    have:=h1 k (late k a b c d) b
    rw[c]at this;cases this
  have opr:∀x,x∈o.op.operands→∀u,ev (kO l ms V env i) x=some u→a.eval x=u:=by
   intro x hx u hu
   cases x with
   |tmp t=>
    have:=rd t (dg _ (iy.2 ⟨.tmp t,by simpa using hx,rfl⟩)) u hu
    simp [ep,this]
   |const c=>simpa [ev,ep]using hu
   |global g=>simpa [ev,ep]using hu
   |func f=>simpa [ev,ep]using hu
  have hok':=hok _ h.hJ
  generalize hVi:V i=vi at hok' fin
  rcases hok' with⟨hg,hlo⟩|⟨j,want,t,u,c,v',hg,hj,ht,hgd,hlo,rfl⟩
  ·rw[if_pos (by simp [gk,hg])]
   exact(hlo a w opr h.st).wp (ro:=ro) (Q:=Q') (K:=K) fun w' hs=>by rw[hd];exact hK _ _ _ _ _ _ (fin w' hs)
  ·have ht':a.tmps[t]? =some u:=rd t (eX _ (by rw[hg];show t∈((l.toArray[j]?).bind (·.dst)).toList;rw[hj];simp)) u ht
   have hy:yielded l.toArray a.tmps j=vb u:=by
    unfold yielded;rw[hj];simp only[ll,ht'];cases u<;>rfl
   simp only[gk,hg,hy]
   cases c with
   |true=>
    have hu:=hgd.1 rfl
    subst hu
    simp only[vb,beq_self_eq_true,if_true]
    exact(hlo rfl a w opr h.st).wp (ro:=ro) (Q:=Q') (K:=K) fun w' hs=>by
     rw[hd]
     have:=fin w' hs
     rw[show gv true v'=v' from rfl]at this
     exact hK _ _ _ _ _ _ this
   |false=>
    have hu:=hgd.2 rfl
    have hne:=O7 hu
    simp only[hne,bP,if_false]
    have:=fin w h.st
    rw[show gv false v'=undef from rfl]at this
    rw[hd]
    exact⟨fun _ _=>True.intro,hK _ _ _ _ _ _ this⟩
 ·
  have hiS:i∉S:=fun q=>hnot ((h.hd i hil hhv).2 q)
  have hri:i∈uN l ms S:=by
   unfold uN
   refine bK.2 ⟨by simpa [idxs]using hil,?_⟩
   simp only[aQ,bR,bF,fj]
   refine⟨⟨hhv,by simpa using hiS⟩,fun j hj=>?_⟩
   cases q:fm ms j with
   |false=>exact .inl rfl
   |true=>
    right
    have hl:=hcl j hj
    have hjl:j<l.length:=by
     have:j<listed.size:=by
      rcases aK j listed.size with r|r
      ·exact r
      ·rw[Array.getElem?_eq_none r]at hl;cases hl
     rwa [h.vg]at this
    simpa using(h.hd j hjl q).1 hl
  have hy:=h.hy
  cases n with
  |zero=>exact hy.elim
  |succ n=>
  obtain⟨o2,ho2,hg,hdN,hho⟩:=hy.2 i hri
  rw[ho]at ho2
  cases ho2
  have rd:∀t,t∈iM l.toArray o→∀u,jx (eh++kO l ms V env l.length) t=some u→a.tmps[t]? =some u:=by
   intro t ht u hu
   rw[nW]at hu
   cases q:jx eh t with
   |some v=>rw[q]at hu;simp only[oh]at hu;subst hu;exact h.G9 t v q
   |none=>
    rw[q]at hu
    simp only at hu
    rcases l7 l ms V env t u l.length hu with⟨k,h1,h2,h3,h4,h5⟩|⟨h1,h2⟩
    ·rw[←h4]
     refine h.top t k q h1 h2 h3 (before t ht k h1 h3 (by simp [ahead,hli,h2])) fun k' a b c d=>?_
     rcases aK k k' with r|r
     ·have:=h5 k' r a b
      rw[c]at this;cases this
     ·exact r
    ·refine h.base t q (fun k a b c d=>?_) u h2
     have:=h1 k a b
     rw[c]at this;cases this
  have opr:∀x,x∈o.op.operands→∀u,ev (eh++kO l ms V env l.length) x=some u→a.eval x=u:=by
   intro x hx u hu
   cases x with
   |tmp t=>
    have ht:t∈iM l.toArray o:=dg _ (iy.2 ⟨.tmp t,by simpa using hx,rfl⟩)
    have:=rd t ht u hu
    simp [ep,this]
   |const c=>simpa [ev,ep]using hu
   |global g=>simpa [ev,ep]using hu
   |func f=>simpa [ev,ep]using hu
  rw[if_pos (by
   rcases hg with hg|⟨j,want,t,hg,hj,ht⟩
   ·simp [gk,hg]
   ·have hj':(l.toArray[j]?).bind (·.dst)=some t:=by simpa using hj
    have ht':a.tmps[t]? =some (.bool want):=rd t (eX _ (by rw[hg];show t∈((l.toArray[j]?).bind (·.dst)).toList;rw[hj'];simp)) _ ht
    have hy:yielded l.toArray a.tmps j=some want:=by
     unfold yielded;rw[hj'];simp only[ll,ht']
    simp [gk,hg,hy,vb])]
  refine(hho.wp (ro:=ro) (Q:=Q') opr h.st fun v L' w' hk hs=>?_)
  obtain⟨hk1,hk2⟩:=hk
  have envE:oo o v (eh++kO l ms V env l.length)=oo o v eh++kO l ms V env l.length:=by
   unfold oo;cases o.dst<;>rfl
  have hev:∀t,jx (oo o v eh) t=none→jx eh t=none∧∀d,o.dst=some d→t≠d:=by
   intro t hn
   unfold oo at hn
   cases q:o.dst with
   |none=>exact⟨by simpa only[q]using hn,by simp⟩
   |some d=>
    simp only[q]at hn
    by_cases e:t=d
    ·subst e;rw[fE]at hn;cases hn
    ·exact⟨by rwa [eN e]at hn,fun d' hd'=>by cases hd';exact e⟩
  refine hK n (i::S) (oo o v eh) L' _ w' ⟨by simp [h.vg],?_,(by cases o.dst<;>exact h.xB),hs,hk1,by rw[←envE];exact hk2,?_,?_,closed',?_,?_,?_,?_,?_⟩
  ·cases q:o.dst with
   |none=>exact h.size
   |some d=>simp [eK,h.size]
  ·intro k hk
   rcases cA.1 hk with rfl|hk
   ·exact⟨hil,hhv⟩
   ·exact h.hS k hk
  ·intro k hk hkh
   rw[bL hiz,h.hd k hk hkh,cA]
  ·intro t u hu
   unfold oo at hu
   cases q:o.dst with
   |none=>simp only[q]at hu;exact h.G9 t u hu
   |some d=>
    simp only[q]at hu
    by_cases e:t=d
    ·subst e
     rw[fE]at hu
     cases hu
     simp [eK,h.size,hdN t q]
    ·rw[eN e]at hu
     simp only[eK]
     rw[aS (eD e)]
     exact h.G9 t u hu
  ·intro t hn k hk
   obtain⟨hn',hne⟩:=hev t hn
   rcases cA.1 hk with rfl|hk
   ·cases q:o.dst with
    |none=>simp [eA,ho,q]
    |some d=>rw[dstI d q];exact DI (hne d q)
   ·exact h.SS t hn' k hk
  ·intro t hn
   unfold oo at hn
   cases q:o.dst with
   |none=>
    simp only[q]at hn
    obtain⟨k,a,b⟩:=h.EP t hn
    exact⟨k,by simp [a],b⟩
   |some d=>
    simp only[q]at hn
    by_cases e:t=d
    ·subst e
     exact⟨i,by simp,by rw[dstI t q];exact fC _⟩
    ·rw[eN e]at hn
     obtain⟨k,a,b⟩:=h.EP t hn
     exact⟨k,by simp [a],b⟩
  ·intro t k hn hk hkl hkd hdn hmax
   have hki:k≠i:=fun e=>by subst e;rw[hli]at hkl;cases hkl
   have hn':=hev t hn
   have hdn':listed[k]? =some true:=by
    rcases(bL hiz).1 hdn with q|q
    ·exact absurd q hki
    ·exact q
   have:=h.top t k hn'.1 hk hkl hkd hdn' fun k' a b c d=>hmax k' a b c ((bL hiz).2 (.inr d))
   cases q:o.dst with
   |none=>exact this
   |some d=>
    simp only[eK]
    rw[aS (eD (hn'.2 d q))]
    exact this
  ·intro t hn hnone u hu
   have hn':=hev t hn
   have:=h.base t hn'.1 (fun k a b c d=>hnone k a b c ((bL hiz).2 (.inr d))) u hu
   cases q:o.dst with
   |none=>exact this
   |some d=>
    simp only[eK]
    rw[aS (eD (hn'.2 d q))]
    exact this
theorem Hx.end_ {l:List Oper} {ms:List (Option Nat)} {V:Nat→Value} {listed:Array Bool} {n:Nat} {S:List Nat} {eh:Env} {a:Act} {w:World} (hc:V0 l ms)
  (h:Hx P β N ds L0 Q l ms V env listed n S eh L a w) (hall:∀k,k<l.length→listed[k]? =some true):Q .normal a w:=by
 have hr:uN l ms S=[]:=by
  unfold uN
  refine ff.2 fun i hi q=>?_
  simp only[aQ,bR]at q
  have hil:i<l.length:=by simpa [idxs]using hi
  have:=(h.hd i hil q.1.1).1 (hall i hil)
  have h2:=q.1.2
  simp [this]at h2
 have hy:=h.hy
 cases n with
 |zero=>exact hy.elim
 |succ n=>
 refine hy.1 hr a w ⟨h.size,h.xB,fun t u hu=>?_⟩ h.st
 rw[nW]at hu
 cases q:jx eh t with
 |some v=>rw[q]at hu;simp only[oh]at hu;subst hu;exact h.G9 t v q
 |none=>
  rw[q]at hu
  simp only at hu
  rcases l7 l ms V env t u l.length hu with⟨k,h1,h2,h3,h4,h5⟩|⟨h1,h2⟩
  ·rw[←h4]
   refine h.top t k q h1 h2 h3 (hall k h1) fun k' a b c d=>?_
   rcases aK k k' with r|r
   ·have:=h5 k' r a b
    rw[c]at this;cases this
   ·exact r
  ·refine h.base t q (fun k a b c d=>?_) u h2
   have:=h1 k a b
   rw[c]at this;cases this
theorem VC.agr (n:Nat) (ms:List (Option Nat)) {env':Env} {id:Nat} {l:List Oper} (hm:P.follows .mixedOrders=true) (hc:ZP l ms=true)
  (h:LX P β N l.toArray (fun _=>L) l ms env env') (k:HE P β N ds L Q l ms n [] env' L):
  VC P ro β N ds env L (.region id l.toArray true) Q:=by
 intro a w ha hw
 obtain⟨V,hV1,hV2⟩:=h.lC
 have hC:=V0.of hc
 subst hV1
 refine wpIn_region_any hm ?_
 have key:∀fuel listed n S eh L' a w,Hx P β N ds L Q l ms V env listed n S eh L' a w→(∀k,k<l.length→listed[k]? ≠some true→0<fuel)→((br l.length).filter fun k=> !(listed[k]? ==some true)).length≤fuel→wpAnyIn (Wf ro) 0 P .any l.toArray Q fuel listed a w:=by
  intro fuel
  induction fuel with
  |zero=>
   intro listed n S eh L' a w hI hz _
   have hall:∀k,k<l.length→listed[k]? =some true:=fun k hk=>eR fun hn=>by have:=hz k hk hn;omega
   refine⟨?_,hI.end_ hC hall⟩
   simp only[dr,ff,bf,aQ,bR,not_and]
   intro i hi hf
   have:=hall i (by simpa using hi)
   simp [this]at hf
  |succ fuel ih=>
   intro listed n S eh L' a w hI hz hcnt
   refine⟨fun hr=>hI.end_ hC (qW hI.vg (fun k o ho=>(hC.ops k o ho).1) hr),fun i hi=>?_⟩
   refine hI.step hC hV2 hi fun n' S' eh' L'' a' w' hI'=>ih _ _ _ _ _ _ _ hI' ?_ ?_
   ·intro k hk hn
    rcases eO fuel with e|e
    ·exfalso
     subst e
     simp only[dr,bK,bf,aQ,bR]at hi
     have hil:i<l.length:=by simpa using hi.1
     have hiz:i<listed.size:=by rw[hI.vg];exact hil
     rw[Ne,bL hiz,not_or]at hn
     have hni:listed[i]? ≠some true:=fun e=>by have h2:=hi.2.1;simp [e]at h2
     have m1:i∈(br l.length).filter fun k=> !(listed[k]? ==some true):=by simp [hil,hni]
     have m2:k∈(br l.length).filter fun k=> !(listed[k]? ==some true):=by simp [hk,hn.2]
     match hf:(br l.length).filter fun k=> !(listed[k]? ==some true),hcnt with
     |[],_=>rw[hf]at m1;simp at m1
     |[x],_=>rw[hf]at m1 m2;simp at m1 m2;exact hn.1 (by omega)
     |_::_::_,hcnt=>simp at hcnt
    ·exact e
   ·simp only[dr,bK,bf,aQ,bR]at hi
    have hil:i<l.length:=by simpa using hi.1
    have hiz:i<listed.size:=by rw[hI.vg];exact hil
    have hni:listed[i]? ≠some true:=fun e=>by have h2:=hi.2.1;simp [e]at h2
    have hlt2:((br l.length).filter fun k=> !((listed.setIfInBounds i true)[k]? ==some true)).length<((br l.length).filter fun k=> !(listed[k]? ==some true)).length:=by
     refine filter_lt (i:=i) ?_ (by simp [hil]) ?_ ?_
     ·intro k hk
      simp only[bR,beq_eq_false_iff_ne,ne_eq]at hk ⊢
      exact fun e=>hk ((bL hiz).2 (.inr e))
     ·simpa using hni
     ·simp [hiz]
    omega
 have hnone:∀j:Nat,(jF l.toArray.size false)[j]? ≠some true:=by
  intro j hj
  simp [dN]at hj
 refine key _ _ n [] [] L _ _ ⟨by simp,ha.size,ha.xB,hw.drew _,fun _ h=>h,k,by simp,?_,?_,?_,?_,?_,?_,?_⟩ ?_ ?_
 ·intro i _ _
  exact⟨fun e=>absurd e (hnone i),fun q=>by cases q⟩
 ·intro j hj;exact absurd hj (hnone j)
 ·intro t v hv;simp [jx]at hv
 ·intro t _ i hi;cases hi
 ·intro t ht;simp [jx]at ht
 ·intro t k _ _ _ _ hl;exact absurd hl (hnone k)
 ·intro t _ _ v hv;exact ha.get t v hv
 ·intro k hk _
  simpa using kG (bG _) hk
 ·refine eL (cH _ _) ?_
  simp
def iK (P:Program) (β:Bs) (N:Nat) (ds:List Deferred) (L0:List cq) (Q:Exit→Act→World→Prop) (l:List Oper) (ms:List (Option Nat)) (n:Nat) (S:List Nat) (env:Env) (L:List cq) (i:Nat):Prop:=
 ∃o,l[i]? =some o∧aiE l env o∧(∀d,o.dst=some d→d<N)∧HO P β env L o fun v L'=>(∀w,St β L' w→St β L0 w)∧HE P β N ds L0 Q l ms n (i::S) (oo o v env) L'
def Y7 (p:Nat→Prop):List Nat→Prop
 |[]=>True
 |x::r=>p x∧Y7 p r
theorem Y7.mem {p:Nat→Prop}:∀{xs:List Nat},Y7 p xs→∀i,i∈xs→p i
 |x::r,h,i,hi=>by
  rcases cA.1 hi with rfl|hi
  ·exact h.1
  ·exact h.2.mem i hi
section
variable {l:List Oper} {ms:List (Option Nat)} {n:Nat} {S:List Nat}
theorem HE.mk (xs:List Nat) (hx:uN l ms S=xs) (hne:xs.isEmpty=false) (h:Y7 (iK P β N ds L0 Q l ms n S env L) xs):HE P β N ds L0 Q l ms (n+1) S env L:=by
 subst hx
 exact⟨fun e=>(by rw[e]at hne;cases hne),fun i hi=>h.mem i hi⟩
theorem HE.fin (hx:uN l ms S=[]) (h:VE β N ds env L .normal Q):HE P β N ds L0 Q l ms (n+1) S env L:=⟨fun _=>h,fun i hi=>by rw[hx]at hi;cases hi⟩
theorem iK.op {i d:Nat} {op:Op} {ty:TypeId} {pos:String} {aft:Array Edge} (ho:l[i]? =some ⟨some d,op,ty,pos,aft,none⟩) (hd:df d N=true) (h:HO P β env L ⟨some d,op,ty,pos,aft,none⟩ fun v L'=>(∀w,St β L' w→St β L0 w)∧HE P β N ds L0 Q l ms n (i::S) ((d,v)::env) L'):iK P β N ds L0 Q l ms n S env L i:=
 ⟨_,ho,.inl rfl,(fun d' e=>by cases e;exact bh hd),h⟩
theorem iK.zO {i:Nat} {op:Op} {ty:TypeId} {pos:String} {aft:Array Edge} (ho:l[i]? =some ⟨none,op,ty,pos,aft,none⟩) (h:HO P β env L ⟨none,op,ty,pos,aft,none⟩ fun v L'=>(∀w,St β L' w→St β L0 w)∧HE P β N ds L0 Q l ms n (i::S) env L'):iK P β N ds L0 Q l ms n S env L i:=
 ⟨_,ho,.inl rfl,(fun d' e=>by simp at e),h⟩
end
theorem bM {L1:List cq} (is:List Nat) (hn:lD is=true) (h:fO L is=L1):∀w,St β L w→St β L1 w:=fun w hw=>by rw[←h];exact hw.fO is hn
theorem VC.abZ {G:Type} (EF:G→Env) (EK:Env) (LF:G→List cq) (LK:List cq) (I:G→Prop) (n:Nat) (ms:List (Option Nat)) {env':Env} {id:Nat} {l:List Oper} (hm:P.follows .mixedOrders=true) (hc:ZP l ms=true)
  (h:LX P β N l.toArray (fun _=>L) l ms env env') (k:(∀y,I y→VE β N ds (EF y++EK) (LF y++LK) .normal Q)→HE P β N ds L Q l ms n [] env' L) (hf:∀y,I y→VE β N ds (EF y++EK) (LF y++LK) .normal Q):
  VC P ro β N ds env L (.region id l.toArray true) Q:=VC.agr n ms hm hc h (k hf)
end
def tA (T:Nat) (o:Oper):Oper:={ o with after:=((o.after.toList.filter fun e=>rV T e.on).map fun e=>{ e with on:=e.on-T }).toArray,guard:=o.guard.map fun g=>(g.1-T,g.2) }
def No (l:List Oper) (T:Nat):Bool:=
 let cl:=ji l
 rV T l.length&&(idxs l.length).all fun k=>
  match l[k]? with
  |none=>false
  |some o=>
   o.after.toList.all (fun e=> !dq .any e||df e.on k)&&
   (cl.getD k []).all (fun i=>o.after.toList.any fun e=>dq .any e&&(eV e.on i||(cl.getD e.on []).contains i))&&
   (match o.guard with|none=>true|some g=>if df k T then df g.1 T else rV T g.1)&&
   (df k T||(idxs T).all fun i=>(cl.getD k []).contains i)
theorem wg {l:List Oper} {T:Nat} (h:No l T=true):T≤l.length∧∀k o,l[k]? =some o→
  (∀e,e∈o.after.toList→dq .any e=true→e.on<k)∧
  (∀i,i∈(ji l).getD k []→∃e,e∈o.after.toList∧dq .any e=true∧(e.on=i∨i∈(ji l).getD e.on []))∧
  (∀g,o.guard=some g→(k<T→g.1<T)∧(T≤k→T≤g.1))∧(T≤k→∀i,i<T→i∈(ji l).getD k []):=by
 unfold No at h
 simp only[aQ]at h
 obtain⟨h1,h2⟩:=h
 refine⟨bh h1,fun k o ho=>?_⟩
 have hk:k<l.length:=(aj.1 ho).1
 have h3:=bF.1 h2 k (by simpa [idxs]using hk)
 rw[ho]at h3
 simp only[aQ]at h3
 obtain⟨⟨⟨a,b⟩,c⟩,d⟩:=h3
 refine⟨fun e he hb=>?_,fun i hi=>?_,fun g hg=>?_,fun hT i hi=>?_⟩
 ·have:=bF.1 a e he
  rw[hb]at this
  simpa [o8]using this
 ·have:=bF.1 b i hi
  obtain⟨e,he,hh⟩:=eG.1 this
  simp only[aQ,fj]at hh
  refine⟨e,he,hh.1,?_⟩
  rcases hh.2 with q|q
  ·exact .inl (bO q)
  ·exact .inr (by simpa using q)
 ·rw[hg]at c
  simp only at c
  refine⟨fun q=>?_,fun q=>?_⟩
  ·rw[if_pos (by simpa [o8]using q)]at c;simpa [o8]using c
  ·rw[if_neg (by simp [o8];omega)]at c;exact bh c
 ·simp only[fj]at d
  rcases d with q|q
  ·have:k<T:=by simpa [o8]using q
   omega
  ·simpa using bF.1 q i (by simpa [idxs]using hi)
theorem mem_ready {ops:Array Oper} {listed:Array Bool} {i:Nat}:i∈dr .any ops listed↔∃o,ops[i]? =some o∧listed.getD i true=false∧∀e,e∈o.after.toList→dq .any e=true→listed.getD e.on false=true:=by
 unfold Region.ready
 simp only[bK,bf,aQ,bR]
 constructor
 ·rintro ⟨h1,h2,h3⟩
  refine⟨ops[i],by simp [h1],h2,fun e he hb=>?_⟩
  have hok:ops[i]? =some ops[i]:=by simp [h1]
  rw[hok]at h3
  simp only[dH,dk]at h3
  have:=dW.1 h3 e (by simpa using he)
  rw[hb]at this
  simpa using this
 ·rintro ⟨o,h1,h2,h3⟩
  have hi:i<ops.size:=(eo.1 h1).1
  refine⟨hi,h2,?_⟩
  rw[h1]
  simp only[dH,dk]
  refine dW.2 fun e he=>?_
  cases hb:dq .any e with
  |false=>rfl
  |true=>simp [h3 e (by simpa using he) hb]
section
variable {P:Program} {F:Fence} {n:Nat} {Q X:Exit→Act→World→Prop}
theorem Q7 {o:Oper} {a:Act} {X:Act→World→Prop} {K:Act→World→Prop}:∀{r:Result Next},o.uponIn F n P a K (Exit.then X Q) r→o.uponIn F n P a K Q r:=by
 intro r h
 cases r with
 |ok x w'=>
  cases x<;>first
   |exact h
   |exact⟨h.1,CallsIn.mono h.2 (fun e w'' he=>by cases e<;>first |exact he|exact⟨_,_,he.choose_spec.choose_spec⟩)⟩
   |exact⟨h.1,RoundIn.mono h.2 (fun e w'' he=>by cases e<;>first |exact he|exact⟨_,_,he.choose_spec.choose_spec⟩)⟩
 |halt x w'=>cases x<;>exact h
theorem Rx {o:Oper} {a:Act} {w:World} {X:Act→World→Prop} {K:Act→World→Prop} (h:o.wpIn F n P a w K (Exit.then X Q)):o.wpIn F n P a w K Q:=⟨h.1,Q7 h.2⟩
theorem I7 {ops:Array Oper}:∀{fuel:Nat} {listed:Array Bool} {a:Act} {w:World},wpAnyIn F n P .any ops Q fuel listed a w→wpAnyIn F n P .any ops Q (fuel+1) listed a w
 |0,listed,a,w,h=>⟨fun _=>h.2,fun i hi=>by rw[h.1]at hi;cases hi⟩
 |fuel+1,listed,a,w,h=>⟨h.1,fun i hi=>wpOpIn_mono (fun a w=>I7) (h.2 i hi)⟩
theorem Pa {ops:Array Oper} {fuel:Nat} {listed:Array Bool} {a:Act} {w:World} (h:wpAnyIn F n P .any ops Q fuel listed a w):∀k,wpAnyIn F n P .any ops Q (fuel+k) listed a w
 |0=>h
 |k+1=>I7 (Pa h k)
theorem PF {l:List Oper} {T k:Nat}:((l.drop T).map (tA T)).toArray[k]? =(l[T+k]?).map (tA T):=by simp
theorem getD_some {b:Array Bool} {i:Nat} {d v:Bool} (h:b[i]? =some v):b.getD i d=v:=by simp [kP,h]
theorem getD_eq {b c:Array Bool} {i j:Nat} {d:Bool} (h:b[i]? =c[j]?):b.getD i d=c.getD j d:=by simp [kP,h]
theorem GX {l:List Oper} {T:Nat} (hc:No l T=true) {listedB listed:Array Bool} (h1:∀i,i<T→listed[i]? =some true) (h2:∀i,i<l.length-T→listed[T+i]? =listedB[i]?) {i:Nat}:i∈dr .any l.toArray listed↔∃k,i=T+k∧k∈dr .any ((l.drop T).map (tA T)).toArray listedB:=by
 obtain⟨hT,hops⟩:=wg hc
 constructor
 ·intro hi
  obtain⟨o,ho,hn,he⟩:=mem_ready.1 hi
  have ho':l[i]? =some o:=by simpa using ho
  have hil:i<l.length:=(aj.1 ho').1
  have hTi:T≤i:=by
   rcases aK i T with q|q
   ·rw[getD_some (h1 i q)]at hn;cases hn
   ·exact q
  refine⟨i-T,by omega,mem_ready.2 ⟨tA T o,?_,?_,?_⟩⟩
  ·rw[PF,show T+(i-T)=i by omega,ho'];rfl
  ·rw[←getD_eq (h2 (i-T) (by omega)),show T+(i-T)=i by omega];exact hn
  ·intro e hee hb
   simp only[tA,bQ,bK]at hee
   obtain⟨e0,⟨m0,m1⟩,rfl⟩:=hee
   have hlt:=(hops i o ho').1 e0 m0 hb
   have hTe:=bh m1
   have:=he e0 m0 hb
   rw[←getD_eq (h2 (e0.on-T) (by omega)),show T+(e0.on-T)=e0.on by omega];exact this
 ·rintro ⟨k,rfl,hk⟩
  obtain⟨o',ho,hn,he⟩:=mem_ready.1 hk
  rw[PF]at ho
  obtain⟨o,ho',rfl⟩:=j8.1 ho
  have hil:T+k<l.length:=(aj.1 ho').1
  refine mem_ready.2 ⟨o,by simpa using ho',by rw[getD_eq (h2 k (by omega))];exact hn,fun e m hb=>?_⟩
  rcases aK e.on T with q|q
  ·exact getD_some (h1 _ q)
  ·have hlt:=(hops _ o ho').1 e m hb
   have:=he { e with on:=e.on-T } (by
    simp only[tA,bQ,bK]
    exact⟨e,⟨m,di q⟩,rfl⟩) hb
   have h3:=h2 (e.on-T) (by omega)
   rw[show T+(e.on-T)=e.on by omega]at h3
   rw[getD_eq h3];exact this
theorem ac7 {l:List Oper} {T k:Nat} (hc:No l T=true) {K K':Act→World→Prop} {a:Act} {w:World} (hK:∀a w,K a w→K' a w) (h:wpOpIn F n P ((l.drop T).map (tA T)).toArray Q k K a w):wpOpIn F n P l.toArray Q (T+k) K' a w:=by
 obtain⟨hT,hops⟩:=wg hc
 refine wpOpIn_mono hK ?_
 unfold wpOpIn at*
 rw[PF]at h
 have e0:l.toArray[T+k]? =l[T+k]? :=by simp
 rw[e0]
 cases ho:l[T+k]? with
 |none=>rw[ho]at h;exact h
 |some o=>
  rw[ho]at h
  simp only[dH]at h ⊢
  have hw:gk (tA T o) (yielded ((l.drop T).map (tA T)).toArray a.tmps)=gk o (yielded l.toArray a.tmps):=by
   unfold Region.wanted
   cases hg:o.guard with
   |none=>simp [tA,hg]
   |some g=>
    have hTg:=((hops _ o ho).2.2.1 g hg).2 (by omega)
    simp only[tA,hg,dH]
    have:yielded ((l.drop T).map (tA T)).toArray a.tmps (g.1-T)=yielded l.toArray a.tmps g.1:=by
     unfold yielded
     rw[PF,show T+(g.1-T)=g.1 by omega]
     have e1:l.toArray[g.1]? =l[g.1]? :=by simp
     rw[e1]
     cases l[g.1]? <;>rfl
    rw[this]
  rw[hw]at h
  exact h
theorem ahJ {l:List Oper} {T:Nat} (hc:No l T=true):∀{fuel:Nat} {listedB listed:Array Bool} {a:Act} {w:World},listed.size=l.length→listedB.size=l.length-T→(∀i,i<T→listed[i]? =some true)→(∀i,i<l.length-T→listed[T+i]? =listedB[i]?)→wpAnyIn F n P .any ((l.drop T).map (tA T)).toArray Q fuel listedB a w→wpAnyIn F n P .any l.toArray Q fuel listed a w:=by
 intro fuel
 have emp:∀{listedB listed:Array Bool},(∀i,i<T→listed[i]? =some true)→(∀i,i<l.length-T→listed[T+i]? =listedB[i]?)→(dr .any l.toArray listed=[]↔dr .any ((l.drop T).map (tA T)).toArray listedB=[]):=fun h1 h2=>by
  simp only[qc]
  exact⟨fun h k hk=>h (T+k) ((GX hc h1 h2).2 ⟨k,rfl,hk⟩),fun h i hi=>by obtain⟨k,_,hk⟩:=(GX hc h1 h2).1 hi;exact h k hk⟩
 induction fuel with
 |zero=>intro listedB listed a w _ _ h1 h2 h;exact⟨(emp h1 h2).2 h.1,h.2⟩
 |succ fuel ih=>
  intro listedB listed a w s1 s2 h1 h2 h
  refine⟨fun hr=>h.1 ((emp h1 h2).1 hr),fun i hi=>?_⟩
  obtain⟨k,rfl,hk⟩:=(GX hc h1 h2).1 hi
  have hkl:k<l.length-T:=by
   obtain⟨o,ho,_⟩:=mem_ready.1 hk
   have:=(eo.1 ho).1
   simpa using this
  refine ac7 hc (fun a w hh=>ih (by simpa using s1) (by simpa using s2) ?_ ?_ hh) (h.2 k hk)
  ·intro j hj
   rw[aS (by omega)];exact h1 j hj
  ·intro j hj
   by_cases q:j=k
   ·subst q
    rw[hU (by omega),hU (by omega)]
   ·rw[aS (by omega),aS (by omega)];exact h2 j hj
theorem ahU {l:List Oper} {T:Nat} (hc:No l T=true) {Y:Act→World→Prop} (hY:∀a w,Y a w→wpAnyIn F n P .any ((l.drop T).map (tA T)).toArray Q (l.length-T) (jF (l.length-T) false) a w):∀{fuel:Nat} {listedA listed:Array Bool} {a:Act} {w:World},listed.size=l.length→listedA.size=T→(∀i,i<T→listed[i]? =listedA[i]?)→(∀i,T≤i→i<l.length→listed[i]? =some false)→(∀j,listedA[j]? =some true→∀i,i∈(ji l).getD j []→listedA[i]? =some true)→
  wpAnyIn F n P .any (l.take T).toArray (Exit.then Y Q) fuel listedA a w→wpAnyIn F n P .any l.toArray Q (fuel+(l.length-T)) listed a w:=by
 obtain⟨hT,hops⟩:=wg hc
 have getA:∀{i:Nat},i<T→(l.take T).toArray[i]? =l[i]? :=fun {i} hi=>by simp [r5,hi]
 
 have fin:∀{fuel:Nat} {listedA listed:Array Bool} {a:Act} {w:World},listed.size=l.length→(∀i,i<T→listed[i]? =listedA[i]?)→(∀i,T≤i→i<l.length→listed[i]? =some false)→(∀i,i<T→listedA[i]? =some true)→Y a w→wpAnyIn F n P .any l.toArray Q (fuel+(l.length-T)) listed a w:=fun s1 h1 h2 hall hy=>by
  rw[Nat.add_comm]
  refine Pa (ahJ hc s1 (by simp) (fun i hi=>by rw[h1 i hi];exact hall i hi) (fun i hi=>?_) (hY _ _ hy)) _
  rw[h2 (T+i) (by omega) (by omega),dN,if_pos hi]
 have rdyA:∀{listedA:Array Bool},listedA.size=T→dr .any (l.take T).toArray listedA=[]→∀i,i<T→listedA[i]? =some true:=fun hs hr=>by
  have:=qW (l:=l.take T) (by simp [hs];omega) (fun k o ho e he hb=>by
   have hk:k<T:=by
    have:=(aj.1 ho).1
    simp at this;omega
   rw[r5,if_pos hk]at ho
   exact(hops k o ho).1 e he hb) hr
  intro i hi;exact this i (by simp;omega)
 intro fuel
 induction fuel with
 |zero=>
  intro listedA listed a w s1 s2 h1 h2 hcl h
  exact fin s1 h1 h2 (rdyA s2 h.1) h.2
 |succ fuel ih=>
  intro listedA listed a w s1 s2 h1 h2 hcl h
  by_cases hall:∀i,i<T→listedA[i]? =some true
  ·refine fin s1 h1 h2 hall (h.1 ?_)
   rw[qc]
   intro i hi
   obtain⟨o,ho,hn,_⟩:=mem_ready.1 hi
   have hil:=(eo.1 ho).1
   rw[getD_some (hall i (by simp at hil;omega))]at hn;cases hn
  ·have small:∀i,i∈dr .any l.toArray listed→i<T:=fun i hi=>by
    rcases aK i T with q|q
    ·exact q
    ·exfalso
     apply hall
     obtain⟨o,ho,hn,he⟩:=mem_ready.1 hi
     have ho':l[i]? =some o:=by simpa using ho
     have hil:=(aj.1 ho').1
     intro j hj
     obtain⟨e,m,hb,hh⟩:=(hops i o ho').2.1 j ((hops i o ho').2.2.2 q j hj)
     have hd:=he e m hb
     have hlt:=(hops i o ho').1 e m hb
     have hle:e.on<T:=by
      rcases aK e.on T with r|r
      ·exact r
      ·rw[getD_some (h2 e.on r (by omega))]at hd;cases hd
     have hda:listedA[e.on]? =some true:=by
      rw[←h1 e.on hle]
      cases q2:listed[e.on]? with
      |none=>rw[kP,q2]at hd;cases hd
      |some b=>rw[getD_some q2]at hd;rw[hd]
     rcases hh with r|r
     ·rw[←r];exact hda
     ·exact hcl _ hda j r
   show wpAnyIn F n P .any l.toArray Q (fuel+1+(l.length-T)) listed a w
   rw[show fuel+1+(l.length-T)=(fuel+(l.length-T))+1 by omega]
   refine⟨fun hr=>?_,fun i hi=>?_⟩
   ·exfalso
    apply hall
    have:=qW (l:=l) s1 (fun k o ho e he hb=>(hops k o ho).1 e he hb) hr
    intro i hi
    rw[←h1 i hi];exact this i (by omega)
   ·have hiT:=small i hi
    obtain⟨o,ho,hn,he⟩:=mem_ready.1 hi
    have ho':l[i]? =some o:=by simpa using ho
    have hiA:i∈dr .any (l.take T).toArray listedA:=by
     refine mem_ready.2 ⟨o,by rw[getA hiT];exact ho',by rw[←getD_eq (h1 i hiT)];exact hn,fun e m hb=>?_⟩
     have hlt:=(hops i o ho').1 e m hb
     rw[←getD_eq (h1 e.on (by omega))];exact he e m hb
    have hA:=h.2 i hiA
    have hstep:wpOpIn F n P l.toArray Q i (wpAnyIn F n P .any (l.take T).toArray (Exit.then Y Q) fuel (listedA.setIfInBounds i true)) a w:=by
     unfold wpOpIn at*
     rw[getA hiT,ho']at hA
     rw[ho]
     simp only at hA ⊢
     have hw:gk o (yielded (l.take T).toArray a.tmps)=gk o (yielded l.toArray a.tmps):=by
      unfold Region.wanted
      cases hg:o.guard with
      |none=>rfl
      |some g=>
       have:=((hops _ o ho').2.2.1 g hg).1 hiT
       have hy:yielded (l.take T).toArray a.tmps g.1=yielded l.toArray a.tmps g.1:=by
        unfold yielded
        rw[getA this]
        have e1:l.toArray[g.1]? =l[g.1]? :=by simp
        rw[e1]
       simp only[hy]
     rw[hw]at hA
     by_cases hx:gk o (yielded l.toArray a.tmps)=true
     ·rw[if_pos hx]at hA ⊢;exact Rx hA
     ·rw[if_neg hx]at hA ⊢;exact hA
    refine wpOpIn_mono (fun a w hh=>ih (by simpa using s1) (by simpa using s2) ?_ ?_ ?_ hh) hstep
    ·intro j hj
     by_cases q:j=i
     ·subst q
      rw[hU (by omega),hU (by omega)]
     ·rw[aS (by omega),aS (by omega)];exact h1 j hj
    ·intro j hj hjl
     rw[aS (by omega)];exact h2 j hj hjl
    ·intro j hj k hk
     have hiz:i<listedA.size:=by omega
     rw[bL hiz]at hj ⊢
     rcases hj with r|r
     ·subst r
      obtain⟨e,m,hb,hh⟩:=(hops j o ho').2.1 k hk
      have hlt:=(hops j o ho').1 e m hb
      have hda:listedA[e.on]? =some true:=by
       have hd:=he e m hb
       rw[←h1 e.on (by omega)]
       cases q2:listed[e.on]? with
       |none=>rw[kP,q2]at hd;cases hd
       |some b=>rw[getD_some q2]at hd;rw[hd]
      rcases hh with r|r
      ·rw[←r];exact .inr hda
      ·exact .inr (hcl _ hda k r)
     ·exact .inr (hcl _ r k hk)
end
section
variable {P:Program} {ro:Option Nat} {β:Bs} {ds:List Deferred} {N:Nat} {J:Nat→List cq} {Q:Exit→Act→World→Prop} {env:Env} {L:List cq}
theorem VA.draw {env env':Env} {l:List Oper} {Q:Exit→Act→World→Prop} (h:LL P β N l.toArray L l env env') (hc:Mh l=true) (k:VE β N ds env' L .normal Q):
  ∀a w,Ag N ds env a→St β L w→wpAnyIn (Wf ro) 0 P .any l.toArray Q l.toArray.size (jF l.toArray.size false) a w:=by
 intro a w ha hw
 obtain⟨vs,h1,rfl,h3⟩:=h.Uf
 have key:∀fuel listed a w,A3 N ds β L (ji l) vs env listed a w→(∀k,k<vs.length→listed[k]? ≠some true→0<fuel)→((br vs.length).filter fun k=> !(listed[k]? ==some true)).length≤fuel→wpAnyIn (Wf ro) 0 P .any l.toArray Q fuel listed a w:=by
  intro fuel
  induction fuel with
  |zero=>
   intro listed a w hI h0 _
   have hall:∀k,k<vs.length→listed[k]? =some true:=fun k hk=>eR fun hn=>by have:=h0 k hk hn;omega
   refine⟨?_,k _ _ (hI.end_ hall) hI.st⟩
   simp only[dr,ff,bf,aQ,bR,not_and]
   intro i hi hf
   have:=hall i (by rw[h1];simpa using hi)
   simp [this]at hf
  |succ fuel ih=>
   intro listed a w hI h0 hcnt
   refine⟨fun hr=>?_,fun i hi=>?_⟩
   ·refine k _ _ (hI.end_ ?_) hI.st
    have:∀n k,k=n→k<vs.length→listed[k]? =some true:=by
     intro n
     induction n using jU with
     |_ n ihn=>
      rintro k rfl hk
      refine eR fun hn=>?_
      have hkl:k<l.length:=by omega
      have hnm:k∉dr .any l.toArray listed:=by rw[hr];simp
      apply hnm
      simp only[dr,bK,bf,aQ,bR]
      refine⟨by simpa using hkl,?_,?_⟩
      ·cases q:listed[k]? with
       |none=>
        have:k<listed.size:=by rw[hI.vg];exact hk
        simp [this]at q
       |some b=>cases b with
        |true=>exact absurd q hn
        |false=>simp [q]
      ·have hok:l.toArray[k]? =some l[k]:=by simp [hkl]
       simp only[hok,dH,dk]
       refine dW.2 fun e he=>?_
       cases hb:dq .any e with
       |false=>rfl
       |true=>
        have hlt:=(yM hc (k:=k) (o:=l[k]) (by simp [hkl])).1 e (by simpa using he) hb
        have:=ihn e.on hlt e.on rfl (by omega)
        simp [this]
    exact fun k hk=>this k k rfl hk
   ·refine hI.step hc h1 h3 hi fun a' w' hI'=>ih _ _ _ hI' ?_ ?_
    ·intro k hk hn
     rcases eO fuel with e|e
     ·exfalso
      subst e
      simp only[dr,bK,bf,aQ,bR]at hi
      have hiz:i<listed.size:=by rw[hI.vg,h1];simpa using hi.1
      rw[Ne,bL hiz,not_or]at hn
      have hni:listed[i]? ≠some true:=fun e=>by have h2:=hi.2.1;simp [e]at h2
      have hil:i<vs.length:=by rw[h1];simpa using hi.1
      have m1:i∈(br vs.length).filter fun k=> !(listed[k]? ==some true):=by simp [hil,hni]
      have m2:k∈(br vs.length).filter fun k=> !(listed[k]? ==some true):=by simp [hk,hn.2]
      match hf:(br vs.length).filter fun k=> !(listed[k]? ==some true),hcnt with
      |[],_=>rw[hf]at m1;simp at m1
      |[x],_=>rw[hf]at m1 m2;simp at m1 m2;exact hn.1 (by omega)
      |_::_::_,hcnt=>simp at hcnt
     ·exact e
    ·simp only[dr,bK,bf,aQ,bR]at hi
     have hiz:i<listed.size:=by rw[hI.vg,h1];simpa using hi.1
     have hni:listed[i]? ≠some true:=fun e=>by have h2:=hi.2.1;simp [e]at h2
     have hil:i<vs.length:=by rw[h1];simpa using hi.1
     have hlt:((br vs.length).filter fun k=> !((listed.setIfInBounds i true)[k]? ==some true)).length<((br vs.length).filter fun k=> !(listed[k]? ==some true)).length:=by
      refine filter_lt (i:=i) ?_ (by simp [hil]) ?_ ?_
      ·intro k hk
       simp only[bR,beq_eq_false_iff_ne,ne_eq]at hk ⊢
       exact fun e=>hk ((bL hiz).2 (.inr e))
      ·simpa using hni
      ·simp [hiz]
     omega
 refine key _ _ _ _ ⟨by simp [h1],ha.size,ha.xB,hw,?_,?_,?_⟩ ?_ ?_
 ·intro j hj
  simp [dN]at hj
 ·intro t k v hk hl
  simp [dN]at hl
 ·intro t _ v hv
  exact ha.get t v hv
 ·intro k hk _
  rw[h1]at hk
  simpa using kG (bG _) hk
 ·refine eL (cH _ _) ?_
  simp [h1]
theorem VA.gu (js:List (List Nat)) (ms:List (Option Nat)) {env env':Env} {L:List cq} {l:List Oper} (hc:Uz l ms js=true) (h0:js.getD 0 []=br L.length)
  (h:LX P β N l.toArray (fun m=>fO L (js.getD m [])) l ms env env') (k:HX P β N ds (fun m=>fO L (js.getD m [])) Q 0 l ms env' L):
  ∀a w,Ag N ds env a→St β L w→wpAnyIn (Wf ro) 0 P .any l.toArray Q l.toArray.size (jF l.toArray.size false) a w:=by
 intro a w ha hw
 obtain⟨V,hV1,hV2⟩:=h.lC
 obtain⟨hlen,hjn,hjs,hops⟩:=Ah hc
 subst hV1
 have key:∀fuel listed p eh L' a w,Hv P β N ds (fun m=>fO L (js.getD m [])) Q l ms V env listed p eh L' a w→(∀k,k<l.length→listed[k]? ≠some true→0<fuel)→((br l.length).filter fun k=> !(listed[k]? ==some true)).length≤fuel→wpAnyIn (Wf ro) 0 P .any l.toArray Q fuel listed a w:=by
  intro fuel
  induction fuel with
  |zero=>
   intro listed p eh L' a w hI h0 _
   have hall:∀k,k<l.length→listed[k]? =some true:=fun k hk=>eR fun hn=>by have:=h0 k hk hn;omega
   refine⟨?_,hI.end_ hlen hall⟩
   simp only[dr,ff,bf,aQ,bR,not_and]
   intro i hi hf
   have:=hall i (by simpa using hi)
   simp [this]at hf
  |succ fuel ih=>
   intro listed p eh L' a w hI h0 hcnt
   refine⟨fun hr=>hI.end_ hlen (qW hI.vg (fun k o ho=>(hops k o ho).1) hr),fun i hi=>?_⟩
   refine hI.step (R0.of hc) (bG _) rfl hV2 hi fun p' eh' L'' a' w' _ hI'=>ih _ _ _ _ _ _ hI' ?_ ?_
   ·intro k hk hn
    rcases eO fuel with e|e
    ·exfalso
     subst e
     simp only[dr,bK,bf,aQ,bR]at hi
     have hil:i<l.length:=by simpa using hi.1
     have hiz:i<listed.size:=by rw[hI.vg];exact hil
     rw[Ne,bL hiz,not_or]at hn
     have hni:listed[i]? ≠some true:=fun e=>by have h2:=hi.2.1;simp [e]at h2
     have m1:i∈(br l.length).filter fun k=> !(listed[k]? ==some true):=by simp [hil,hni]
     have m2:k∈(br l.length).filter fun k=> !(listed[k]? ==some true):=by simp [hk,hn.2]
     match hf:(br l.length).filter fun k=> !(listed[k]? ==some true),hcnt with
     |[],_=>rw[hf]at m1;simp at m1
     |[x],_=>rw[hf]at m1 m2;simp at m1 m2;exact hn.1 (by omega)
     |_::_::_,hcnt=>simp at hcnt
    ·exact e
   ·simp only[dr,bK,bf,aQ,bR]at hi
    have hil:i<l.length:=by simpa using hi.1
    have hiz:i<listed.size:=by rw[hI.vg];exact hil
    have hni:listed[i]? ≠some true:=fun e=>by have h2:=hi.2.1;simp [e]at h2
    have hlt:((br l.length).filter fun k=> !((listed.setIfInBounds i true)[k]? ==some true)).length<((br l.length).filter fun k=> !(listed[k]? ==some true)).length:=by
     refine filter_lt (i:=i) ?_ (by simp [hil]) ?_ ?_
     ·intro k hk
      simp only[bR,beq_eq_false_iff_ne,ne_eq]at hk ⊢
      exact fun e=>hk ((bL hiz).2 (.inr e))
     ·simpa using hni
     ·simp [hiz]
    omega
 have hnone:∀j:Nat,(jF l.toArray.size false)[j]? ≠some true:=by
  intro j hj
  simp [dN]at hj
 refine key _ _ 0 [] L _ _ ⟨by simp,ha.size,ha.xB,hw,?_,by omega,?_,?_,?_,?_,?_,?_,?_,?_⟩ ?_ ?_
 ·intro w hw
  have:jZ ms 0=0:=by simp [jZ]
  rw[this]
  simp only[h0]
  refine hw.fO _ ?_
  have:=hjn 0
  rwa [h0]at this
 ·simpa [jZ]using k
 ·intro i _ _
  exact⟨fun e=>absurd e (hnone i),fun e=>by omega⟩
 ·intro j hj;exact absurd hj (hnone j)
 ·intro t v hv;simp [jx]at hv
 ·intro t _ i hi;omega
 ·intro t ht;simp [jx]at ht
 ·intro t k _ _ _ _ hl;exact absurd hl (hnone k)
 ·intro t _ _ v hv;exact ha.get t v hv
 ·intro k hk _
  simpa using kG (bG _) hk
 ·refine eL (cH _ _) ?_
  simp
theorem VC.Z2 (T:Nat) {id:Nat} {l:List Oper} (hm:P.follows .mixedOrders=true) (hc:No l T=true)
  (h:∀a w,Ag N ds env a→St β L w→wpAnyIn (Wf ro) 0 P .any (l.take T).toArray (Exit.then (wpAnyIn (Wf ro) 0 P .any ((l.drop T).map (tA T)).toArray Q ((l.drop T).map (tA T)).toArray.size (jF ((l.drop T).map (tA T)).toArray.size false)) Q) (l.take T).toArray.size (jF (l.take T).toArray.size false) a w):
  VC P ro β N ds env L (.region id l.toArray true) Q:=by
 intro a w ha hw
 obtain⟨hT,_⟩:=wg hc
 refine wpIn_region_any hm ?_
 have h1:=h a { w with drawn:=w.drawn+1 } ha (hw.drew _)
 have s1:(l.take T).toArray.size=T:=by simp;omega
 have s2:((l.drop T).map (tA T)).toArray.size=l.length-T:=by simp
 rw[s1,s2]at h1
 have:=ahU hc (fun a w h=>h) (listed:=jF l.length false) (by simp) (by simp) (fun i hi=>by rw[dN,dN,if_pos (by omega),if_pos hi]) (fun i _ hi=>by rw[dN,if_pos hi]) (fun j hj=>by simp [dN]at hj) h1
 rw[show T+(l.length-T)=l.length by omega]at this
 simpa using this
theorem VE.any {l:List Oper} {m:Nat} {ls:Array Bool} (h:∀a w,Ag N ds env a→St β L w→wpAnyIn (Wf ro) 0 P .any l.toArray Q m ls a w):VE β N ds env L .normal (Exit.then (wpAnyIn (Wf ro) 0 P .any l.toArray Q m ls) Q):=fun a w ha hw=>h a w ha hw
end
end Go.SL
