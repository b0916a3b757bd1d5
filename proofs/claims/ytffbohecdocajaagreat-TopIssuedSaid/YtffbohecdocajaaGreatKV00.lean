/-
  A small program logic over the guide's weakest preconditions: what a frame's slots hold is a list of pairs, what the call owns is a list of resources. No program stands in this text.
  (and more)
-/
import Derived.WalkKit
import Derived.RangeFuncLeaves
import Derived.RangeFuncIn
import Derived.RangeFuncRecord
import Derived.OrdersIn
import Derived.TacticsIn
open Nat renaming beq→eV,eq_of_beq_eq_true→bO,beq_refl→fC,le_refl→bA,lt_or_ge→aK,le_trans→eL,lt_of_lt_of_le→et,lt_trichotomy→e9,strongRecOn→jU,blt→df,le_of_ble_eq_true→bh,ble→rV,add_zero→ki,ble_eq_true_of_le→di,eq_zero_or_pos→eO,lt_of_le_of_lt→kG,zero_le→bG,add_mul→fF,mul_le_mul_right→gO
open Go.Act renaming eval→ep,put→eK
open Array renaming getElem?_setIfInBounds_ne→aS,foldl_toList→sU,all_eq_true_iff_forall_mem→dW,getElem?_replicate→dN
open Ne renaming symm→eD
open List renaming getElem?_append_left→aJ,getElem?_eq_none→aH,getElem?_append_right→aY,getElem?_append→jg,getElem?_set_ne→eQ,getD→jw,getElem?_eq_getElem→af,getElem?_drop→kV,length_cons→gh,size_toArray→gU,range→br,take_of_length_le→dK,take_succ_eq_append_getElem→cT,reverse_singleton→uB,singleton_append→jL,all_eq_true→bF,any_eq_true→eG,filter_cons→iN,mem_filter→bK,mem_range→bf,mem_append_left→dg,mem_filterMap→iy,mem_append_right→eX,filter_eq_nil_iff→ff,length_filter_le→cH,getElem_mem→fv,getElem?_map→aw,getElem?_cons_succ→fK,drop_eq_getElem_cons→cY,mem_of_getElem?→al,length_append→aZ,flatten_cons→gC,set_set→jk,mem_singleton→bT,getElem?_eraseIdx→oQ
open Go.Fence renaming wide→kU
open Go.Exit renaming inBlock→qa
open Go.Code renaming wpIn_mono→mm
open Go.Sem renaming run_bind→bz,run_pure→cG
open Go.Result renaming andThen_ok→bw
open Option renaming bind_some→ll,isSome_none→jj,map_some→dH,getD_some→dk
open Go.Region renaming wanted→gk,binds→dq,ready→dr
open Bool renaming false_eq_true→bP,and_eq_true→aQ,not_true→fb,false_or→fo,or_eq_true→fj,not_eq_true→uq,not_eq_true'→bR
open Prod.mk renaming inj→eY
open Go.Op renaming operands→az,intArith→tM,intCmp→rz
open Go.Instr renaming sureAddr→oz,fill→jK
open Go.World renaming cell?→lK,alloc→F8
open Go.Call renaming operands→eM
open Go.Deferred renaming ofValue→mJ
open Go.RoundIn renaming mono→JX
open Option.some renaming inj→gV,injEq→oh
open Classical renaming byContradiction→eR
open Go.Builtin renaming zeroCells→dV,growBy→NL,nextslicecap→sW,firstCells→kH,append_→rW,lenOf→F7
open Go.Question renaming cut→Qb

set_option linter.unusedSimpArgs false
set_option maxRecDepth 20000
set_option maxHeartbeats 8000000
namespace Go.SL
set_option linter.unusedVariables false
open Go.RowKit
abbrev Env:=List (Nat×Value)
def jx:Env→Nat→Option Value
 |[],_=>none
 |(j,v)::r,i=>bif eV i j then some v else jx r i
def ev (env:Env):Operand→Option Value
 | .tmp t=>jx env t
 | .const v=>some v
 | .global g=>some (.pointer (some ⟨g,0,none⟩))
 | .func f=>some (.func (.func f) #[] #[])
structure Ag (N:Nat) (ds:List Deferred) (env:Env) (a:Act):Prop where
 size:a.tmps.size=N
 xB:a.defers=ds
 get:∀i v,jx env i=some v→a.tmps[i]? =some v
theorem Ag.eval {N:Nat} {ds:List Deferred} {env:Env} {a:Act} (h:Ag N ds env a) {x:Operand} {v:Value} (hx:ev env x=some v):a.eval x=v:=by
 cases x with
 |tmp t=>have:=h.get t v hx;simp [ep,this]
 |const c=>simpa [ev,ep]using hx
 |global g=>simpa [ev,ep]using hx
 |func f=>simpa [ev,ep]using hx
theorem eN {env:Env} {i j:Nat} {v:Value} (h:i≠j):jx ((j,v)::env) i=jx env i:=by
 have:eV i j=false:=by
  cases hb:eV i j
  ·rfl
  ·exact absurd (bO hb) h
 simp [jx,this]
theorem fE {env:Env} {j:Nat} {v:Value}:jx ((j,v)::env) j=some v:=by
 have:eV j j=true:=fC j
 simp [jx]
theorem Ag.put {N:Nat} {ds:List Deferred} {env:Env} {a:Act} (h:Ag N ds env a) {d:Nat} (hd:d<N) (v:Value):Ag N ds ((d,v)::env) (a.put (some d) v):=by
 refine⟨by simp [eK,h.size],h.xB,fun i u hi=>?_⟩
 by_cases e:i=d
 ·subst e
  rw[fE]at hi
  cases hi
  simp [eK,h.size,hd]
 ·rw[eN e]at hi
  have:=h.get i u hi
  simp only[eK]
  rw[aS (eD e)]
  exact this
def Sub (env' env:Env):Prop:=∀i v,jx env' i=some v→jx env i=some v
theorem Ag.sub {N:Nat} {ds:List Deferred} {env env':Env} {a:Act} (h:Ag N ds env a) (hs:Sub env' env):Ag N ds env' a:=
 ⟨h.size,h.xB,fun i v hi=>h.get i v (hs i v hi)⟩
theorem Sub.nil {env:Env}:Sub [] env:=fun i v h=>by simp [jx]at h
theorem Sub.cons {env env':Env} {j:Nat} {v:Value} (h:jx env j=some v) (hs:Sub env' env):Sub ((j,v)::env') env:=by
 intro i u hi
 by_cases e:i=j
 ·subst e;rw[fE]at hi;cases hi;exact h
 ·rw[eN e]at hi;exact hs i u hi
theorem Sub.c4 {env env':Env} {j k l m:Nat} {u v x y:Value} (h:jx env j=some u) (h2:jx env k=some v) (h3:jx env l=some x) (h4:jx env m=some y) (hs:Sub env' env):Sub ((j,u)::(k,v)::(l,x)::(m,y)::env') env:=.cons h (.cons h2 (.cons h3 (.cons h4 hs)))
structure cq where
 fp:Nat→Prop
 inv:World→Prop
 loc:∀{w w':World},(∀k,fp k→w'.heap[k]? =w.heap[k]?)→inv w→inv w'
def de (b:Nat) (o:Obj):cq:=⟨fun k=>k=b,fun w=>w.heap[b]? =some o,fun h hi=>(h b rfl).trans hi⟩
structure Bs where
 w:World
 O:Nat→Prop
def bs (w:World):Bs:=⟨w,fun _=>False⟩
structure St (β:Bs) (L:List cq) (w:World):Prop where
 os:w.os=β.w.os
 tape:w.tape=β.w.tape
 output:w.output=β.w.output
 size:β.w.heap.size≤w.heap.size
 fr:∀k,k<β.w.heap.size→¬β.O k→w.heap[k]? =β.w.heap[k]?
 inv:∀(i:Nat) (r:cq),L[i]? =some r→r.inv w
 pM:∀(i:Nat) (r:cq),L[i]? =some r→∀k,r.fp k→(β.O k∨β.w.heap.size≤k)∧k<w.heap.size
 wG:∀(i j:Nat) (r s:cq),i≠j→L[i]? =some r→L[j]? =some s→∀k,r.fp k→¬s.fp k
open Go.RowKit
theorem St.refl (w:World):St (bs w) [] w:=⟨rfl,rfl,rfl,bA _,fun _ _ _=>rfl,by simp,by simp,by simp⟩
theorem St.below {w0 w:World} {L:List cq} (h:St (bs w0) L w):Below w0.heap.size w0 w:=⟨h.os,h.tape,h.output,h.size,fun k hk=>h.fr k hk (fun f=>f)⟩
theorem St.same {β:Bs} {w w':World} {L:List cq} (h:St β L w) (hh:w'.heap=w.heap) (ho:w'.os=w.os) (ht:w'.tape=w.tape) (hp:w'.output=w.output):St β L w':=by
 refine⟨by rw[ho,h.os],by rw[ht,h.tape],by rw[hp,h.output],by rw[hh];exact h.size,fun k hk hO=>by rw[hh];exact h.fr k hk hO,?_,?_,h.wG⟩
 ·exact fun i r hr=>r.loc (fun k _=>by rw[hh]) (h.inv i r hr)
 ·exact fun i r hr k hk=>by rw[hh];exact h.pM i r hr k hk
theorem St.drew {β:Bs} {w:World} {L:List cq} (h:St β L w) (n:Nat):St β L { w with drawn:=n }:=h.same rfl rfl rfl rfl
def lu (L:List cq):Nat→Prop:=fun k=>∃(i:Nat) (r:cq),L[i]? =some r∧r.fp k
theorem St.Fo {β:Bs} {w w':World} {L1 L2 R:List cq} {O:Nat→Prop} (h:St β (L1++L2) w) (hO:∀k,O k→lu L1 k) (k:St ⟨w,O⟩ R w'):St β (R++L2) w':=by
 have get1:∀(i:Nat) (r:cq),L1[i]? =some r→(L1++L2)[i]? =some r:=fun i r hr=>by
  rw[aJ]
  ·exact hr
  ·rcases aK i L1.length with q|q
   ·exact q
   ·simp [aH q]at hr
 have get2:∀(i:Nat) (r:cq),L2[i]? =some r→(L1++L2)[L1.length+i]? =some r:=fun i r hr=>by
  rw[aY (by omega),show L1.length+i-L1.length=i by omega];exact hr
 have lt1:∀(i:Nat) (r:cq),L1[i]? =some r→i<L1.length:=fun i r hr=>by
  rcases aK i L1.length with q|q
  ·exact q
  ·simp [aH q]at hr
 have notO:∀(i:Nat) (r:cq),L2[i]? =some r→∀b,r.fp b→¬O b:=fun i r hr b hb hob=>by
  obtain⟨j,s,hs,hsb⟩:=hO b hob
  exact h.wG j (L1.length+i) s r (by have:=lt1 j s hs;omega) (get1 j s hs) (get2 i r hr) b hsb hb
 have keep:∀(i:Nat) (r:cq),L2[i]? =some r→∀b,r.fp b→w'.heap[b]? =w.heap[b]? :=fun i r hr b hb=>k.fr b (h.pM _ r (get2 i r hr) b hb).2 (notO i r hr b hb)
 have okO:∀b,O b→(β.O b∨β.w.heap.size≤b):=fun b hb=>by
  obtain⟨j,s,hs,hsb⟩:=hO b hb
  exact(h.pM j s (get1 j s hs) b hsb).1
 have rngR:∀(i:Nat) (r:cq),R[i]? =some r→∀b,r.fp b→(β.O b∨β.w.heap.size≤b):=fun i r hr b hb=>by
  rcases(k.pM i r hr b hb).1 with q|q
  ·exact okO b q
  ·exact .inr (eL h.size q)
 refine⟨k.os.trans h.os,k.tape.trans h.tape,k.output.trans h.output,eL h.size k.size,?_,?_,?_,?_⟩
 ·intro b hb hbo
  refine(k.fr b (et hb h.size) (fun q=>?_)).trans (h.fr b hb hbo)
  rcases okO b q with r|r
  ·exact hbo r
  ·exact absurd hb (Nat.not_lt.2 r)
 ·intro i r hr
  rw[jg]at hr
  split at hr
  ·exact k.inv i r hr
  ·exact r.loc (keep _ r hr) (h.inv _ r (get2 _ r hr))
 ·intro i r hr b hb
  rw[jg]at hr
  split at hr
  ·exact⟨rngR i r hr b hb,(k.pM i r hr b hb).2⟩
  ·have:=h.pM _ r (get2 _ r hr) b hb;exact⟨this.1,et this.2 k.size⟩
 ·have cross:∀(i j:Nat) (r s:cq),R[i]? =some r→L2[j]? =some s→∀b,r.fp b→¬s.fp b:=fun i j r s hr hs b hb hb'=>by
   rcases(k.pM i r hr b hb).1 with q|q
   ·exact notO j s hs b hb' q
   ·have:=(h.pM _ s (get2 j s hs) b hb').2;exact absurd this (Nat.not_lt.2 q)
  intro i j r s hij hr hs b hb hb'
  rw[jg]at hr hs
  split at hr
  ·split at hs
   ·exact k.wG i j r s hij hr hs b hb hb'
   ·exact cross _ _ r s hr hs b hb hb'
  ·split at hs
   ·exact cross _ _ s r hs hr b hb' hb
   ·exact h.wG (L1.length+(i-R.length)) (L1.length+(j-R.length)) r s (by omega) (get2 _ r hr) (get2 _ s hs) b hb hb'
theorem St.call {β:Bs} {w w':World} {L R:List cq} (h:St β L w) (k:St (bs w) R w'):St β (R++L) w':=St.Fo (L1:=[]) h (fun _ f=>f.elim) k
theorem St.alloc {β:Bs} {w:World} {L:List cq} (h:St β L w) (o:Obj):St β (de w.heap.size o::L) (w.alloc o):=by
 have hk:St (bs w) [de w.heap.size o] (w.alloc o):=by
  refine⟨rfl,rfl,rfl,by simp [bs],fun k hk _=>Below.heap_alloc _ _ _ hk,?_,?_,?_⟩
  ·intro i r hr
   cases i with
   |zero=>simp at hr;subst hr;exact heap_alloc_new w o
   |succ i=>simp at hr
  ·intro i r hr k hk
   cases i with
   |zero=>simp at hr;subst hr;simp only[de]at hk;subst hk;exact⟨.inr (bA _),by simp⟩
   |succ i=>simp at hr
  ·intro i j r s hij hr hs
   cases i with
   |zero=>
    cases j with
    |zero=>exact absurd rfl hij
    |succ j=>simp at hs
   |succ i=>simp at hr
 exact h.call hk
theorem St.SR {β:Bs} {w w':World} {L L':List cq} {i b:Nat} {o o':Obj} (h:St β L w) (hi:L[i]? =some (de b o)) (hL:L'=L.set i (de b o'))
  (hb:w'.heap[b]? =some o') (hk:∀k,k≠b→w'.heap[k]? =w.heap[k]?) (hsz:w'.heap.size=w.heap.size) (ho:w'.os=w.os) (ht:w'.tape=w.tape) (hp:w'.output=w.output):St β L' w':=by
 have hlt:i<L.length:=by
  rcases aK i L.length with h'|h'
  ·exact h'
  ·simp [aH h']at hi
 have hr0:=h.pM i _ hi b rfl
 have get:∀(j:Nat) (r:cq),L'[j]? =some r→(j=i∧r=de b o')∨(j≠i∧L[j]? =some r):=by
  intro j r hr
  subst hL
  by_cases e:j=i
  ·subst e;simp [hlt]at hr;exact .inl ⟨rfl,hr.symm⟩
  ·rw[eQ (eD e)]at hr;exact .inr ⟨e,hr⟩
 refine⟨by rw[ho,h.os],by rw[ht,h.tape],by rw[hp,h.output],by rw[hsz];exact h.size,fun k hk' hO=>?_,?_,?_,?_⟩
 ·rw[hk k (fun e=>by subst e;rcases hr0.1 with q|q;exact hO q;omega)];exact h.fr k hk' hO
 ·intro j r hr
  rcases get j r hr with⟨rfl,rfl⟩|⟨hj,hr'⟩
  ·exact hb
  ·exact r.loc (fun k hk'=>hk k (fun e=>by subst e;exact h.wG j i _ _ hj hr' hi k hk' rfl)) (h.inv j r hr')
 ·intro j r hr k hk'
  rw[hsz]
  rcases get j r hr with⟨rfl,rfl⟩|⟨hj,hr'⟩
  ·simp only[de]at hk';subst hk';exact hr0
  ·exact h.pM j r hr' k hk'
 ·intro j l r s hjl hr hs k hk1 hk2
  rcases get j r hr with⟨rfl,rfl⟩|⟨hj,hr'⟩<;>rcases get l s hs with⟨rfl,rfl⟩|⟨hl,hs'⟩
  ·exact hjl rfl
  ·exact h.wG j l _ _ hjl hi hs' k hk1 hk2
  ·exact h.wG j l _ _ hjl hr' hi k hk1 hk2
  ·exact h.wG j l _ _ hjl hr' hs' k hk1 hk2
theorem St.pick {β:Bs} {w:World} {L L':List cq} (is:List Nat) (h:St β L w) (hn:is.Nodup) (hl:L'.length=is.length) (hL:∀j,j<is.length→L'[j]? =L[is.getD j 0]?):St β L' w:=by
 have get:∀(j:Nat) (r:cq),L'[j]? =some r→j<is.length∧L[is.getD j 0]? =some r:=by
  intro j r hr
  have hj:j<L'.length:=by
   rcases aK j L'.length with h'|h'
   ·exact h'
   ·simp [aH h']at hr
  exact⟨by omega,by rw[←hL j (by omega)];exact hr⟩
 refine⟨h.os,h.tape,h.output,h.size,h.fr,fun j r hr=>h.inv _ r (get j r hr).2,fun j r hr=>h.pM _ r (get j r hr).2,fun j l r s hjl hr hs=>?_⟩
 obtain⟨hj,hr'⟩:=get j r hr
 obtain⟨hl',hs'⟩:=get l s hs
 refine h.wG _ _ r s (fun e=>hjl ?_) hr' hs'
 have hn':=List.pairwise_iff_getElem.1 hn
 have e':is[j]=is[l]:=by simpa [jw,af hj,af hl']using e
 rcases e9 j l with c|c|c
 ·exact absurd e' (hn' j l hj hl' c)
 ·exact c
 ·exact absurd e'.symm (hn' l j hl' hj c)
theorem St.nil {β:Bs} {w:World} {L:List cq} (h:St β L w):St β [] w:=h.pick [] (by simp) rfl (by simp)
def Wf (ro:Option Nat):Fence:={ kU with round:=ro }
theorem rv {ro:Option Nat} {n:Nat} {P:Program} {f:FuncId} {args:Array Value} {w:World} {R:Ending→World→Prop}:CallsIn (Wf ro) n P f args w R↔Calls P f args w R:=
 ⟨fun h=>(callsIn_wide (n:=n)).1 h,fun h=>(callsIn_wide (n:=n)).2 h⟩
section
variable (P:Program) (ro:Option Nat) (β:Bs) (N:Nat) (ds:List Deferred)
def VC (env:Env) (L:List cq) (c:Code) (Q:Exit→Act→World→Prop):Prop:=∀a w,Ag N ds env a→St β L w→c.wpIn (Wf ro) 0 P Q a w
def VE (env:Env) (L:List cq) (e:Exit) (Q:Exit→Act→World→Prop):Prop:=∀a w,Ag N ds env a→St β L w→Q e a w
def VO (ops:Array Oper) (env:Env) (L:List cq) (l:List Oper) (Q:Exit→Act→World→Prop):Prop:=∀a w,Ag N ds env a→St β L w→wpListIn (Wf ro) 0 P ops Q l a w
end
section
variable {P:Program} {ro:Option Nat} {β:Bs} {ds:List Deferred} {N:Nat} {env:Env} {L:List cq} {Q:Exit→Act→World→Prop}
theorem VC.seq {x y:Code} (h:VC P ro β N ds env L x (Exit.then (y.wpIn (Wf ro) 0 P Q) Q)):VC P ro β N ds env L (.seq x y) Q:=fun a w ha hw=>wpIn_seq (h a w ha hw)
theorem VC.skip (h:VE β N ds env L .normal Q):VC P ro β N ds env L .skip Q:=fun a w ha hw=>wpIn_skip (h a w ha hw)
theorem VC.ret (h:VE β N ds env L .ret Q):VC P ro β N ds env L .ret Q:=fun a w ha hw=>wpIn_ret (h a w ha hw)
theorem VC.exit {id:Nat} (h:VE β N ds env L (.exit id) Q):VC P ro β N ds env L (.exit id) Q:=fun a w ha hw=>wpIn_exit (h a w ha hw)
theorem VC.block {id:Nat} {c:Code} (h:VC P ro β N ds env L c (qa id Q)):VC P ro β N ds env L (.block id c) Q:=fun a w ha hw=>wpIn_block (h a w ha hw)
theorem VE.aN {y:Code} (h:VC P ro β N ds env L y Q):VE β N ds env L .normal (Exit.then (y.wpIn (Wf ro) 0 P Q) Q):=fun a w ha hw=>h a w ha hw
theorem VE.cX {K:Act→World→Prop} (h:∀a w,Ag N ds env a→St β L w→K a w):VE β N ds env L .normal (Exit.then K Q):=fun a w ha hw=>h a w ha hw
theorem VE.cJ {K:Act→World→Prop} (h:VE β N ds env L .ret Q):VE β N ds env L .ret (Exit.then K Q):=fun a w ha hw=>h a w ha hw
theorem VE.cb {K:Act→World→Prop} {id:Nat} (h:VE β N ds env L (.exit id) Q):VE β N ds env L (.exit id) (Exit.then K Q):=fun a w ha hw=>h a w ha hw
theorem VE.gL {id:Nat} (h:VE β N ds env L .normal Q):VE β N ds env L .normal (qa id Q):=fun a w ha hw=>h a w ha hw
theorem VE.mB {id:Nat} (h:VE β N ds env L .ret Q):VE β N ds env L .ret (qa id Q):=fun a w ha hw=>h a w ha hw
theorem VE.l8 {id:Nat} (h:VE β N ds env L .normal Q):VE β N ds env L (.exit id) (qa id Q):=fun a w ha hw=>by
 show qa id Q (.exit id) a w
 simp only[qa,if_true];exact h a w ha hw
class Ei (b:Bool) (p:outParam Prop):Prop where
 iff:b=true↔p
instance Ei.dec (p:Prop) [Decidable p]:Ei (decide p) p:=⟨by simp⟩
instance (priority:=low) Ei.id (b:Bool):Ei b (b=true):=⟨Iff.rfl⟩
instance Ei.not (b:Bool) (p:Prop) [h:Ei b p]:Ei (!b) (¬p):=⟨by have:=h.iff;cases b<;>simp_all⟩
instance Ei.and (b c:Bool) (p q:Prop) [h:Ei b p] [k:Ei c q]:Ei (b&&c) (p∧q):=⟨by have:=h.iff;have:=k.iff;cases b<;>cases c<;>simp_all⟩
instance Ei.or (b c:Bool) (p q:Prop) [h:Ei b p] [k:Ei c q]:Ei (b||c) (p∨q):=⟨by have:=h.iff;have:=k.iff;cases b<;>cases c<;>simp_all⟩
theorem Ei.yes {b:Bool} {p:Prop} (h:Ei b p) (hb:b=true):p:=h.iff.1 hb
theorem Ei.no {b:Bool} {p:Prop} (h:Ei b p) (hb:b=false):¬p:=fun hp=>by rw[h.iff.2 hp]at hb;cases hb
theorem VC.cond {c:Operand} {x y:Code} {b:Bool} {p:Prop} (hc:ev env c=some (.bool b)) [hp:Ei b p] (ht:p→VC P ro β N ds env L x Q) (hf:¬p→VC P ro β N ds env L y Q):VC P ro β N ds env L (.cond c x y) Q:=
 fun a w ha hw=>wpIn_cond_split (ha.eval hc) (fun hb=>ht (hp.yes hb) a w ha hw) (fun hb=>hf (hp.no hb) a w ha hw)
theorem VC.mW {env':Env} {L':List cq} {c:Code} (he:Sub env' env) (hL:∀w,St β L w→St β L' w) (h:VC P ro β N ds env' L' c Q):VC P ro β N ds env L c Q:=fun a w ha hw=>h a w (ha.sub he) (hL w hw)
theorem VE.mW {env':Env} {L':List cq} {e:Exit} (he:Sub env' env) (hL:∀w,St β L w→St β L' w) (h:VE β N ds env' L' e Q):VE β N ds env L e Q:=fun a w ha hw=>h a w (ha.sub he) (hL w hw)
theorem Fu {P:Program} {ro:Option Nat} {c:Code} {Q:Exit→Act→World→Prop} (I:Nat→Act→World→Prop) (n0:Nat) {a:Act} {w:World} (h0:I n0 a w)
  (hr:∀n a w,I n a w→c.wpIn (Wf ro) 0 P (Exit.then (fun a w=>∃m,m<n∧I m a w) Q) a w):(Code.loop c).wpIn (Wf ro) 0 P Q a w:=by
 intro b k cs hro hb hrm
 have key:∀n a w,I n a w→∃e a' w',Q e a' w'∧ArrivesIn (Machine.fenced P (Wf ro)) P (lone (b.atR a (.code c:: .inLoop c::k)) cs w) b k cs e a' w':=by
  intro n
  induction n using jU with
  |_ n ih=>
   intro a w hI
   obtain⟨e,a₁,w₁,hq,harr⟩:=hr n a w hI b (.inLoop c::k) cs hro hb hrm
   cases e with
   |normal=>
    obtain⟨m,hlt,hI₁⟩:=hq
    obtain⟨e₂,a₂,w₂,hq₂,harr₂⟩:=ih m hlt a₁ w₁ hI₁
    exact⟨e₂,a₂,w₂,hq₂,.of_steps (StepsIn.trans harr (.one (fenced_calm hb hrm rfl) stepR_inLoop)) harr₂⟩
   |exit id=>exact⟨_,a₁,w₁,hq,.pass (x:=.inLoop c) rfl (fun _ _=>.inl (by simp)) harr⟩
   |goto l=>exact⟨_,a₁,w₁,hq,.pass (x:=.inLoop c) rfl (fun _ _=>.inl (by simp)) harr⟩
   |ret=>exact⟨_,a₁,w₁,hq,.pass (x:=.inLoop c) rfl (fun _ _=>.inl (by simp)) harr⟩
   |panic ch=>exact⟨_,a₁,w₁,hq,.pass (x:=.inLoop c) rfl (fun _ _=>.inl (by simp)) harr⟩
   |outgrown=>exact⟨_,a₁,w₁,hq,.pass (x:=.inLoop c) rfl (fun _ _=>.inl (by simp)) harr⟩
 obtain⟨e,a',w',hq,harr⟩:=key n0 a w h0
 exact⟨e,a',w',hq,.of_steps (.one (fenced_calm hb hrm rfl) stepR_loop) harr⟩
theorem VC.loop {α:Type} (E:α→Env) (F:α→List cq) (I:α→Prop) (μ:α→Nat) (x0:α) {c:Code} (h0:I x0) (hE:Sub (E x0) env) (hF:∀w,St β L w→St β (F x0) w)
  (hr:∀x,I x→VC P ro β N ds (E x) (F x) c (Exit.then (fun a w=>∃y,I y∧μ y<μ x∧Ag N ds (E y) a∧St β (F y) w) Q)):VC P ro β N ds env L (.loop c) Q:=by
 intro a w ha hw
 refine Fu (fun n a w=>∃x,I x∧μ x=n∧Ag N ds (E x) a∧St β (F x) w) (μ x0) ⟨x0,h0,rfl,ha.sub hE,hF w hw⟩ ?_
 rintro n a w ⟨x,hI,rfl,hA,hS⟩
 refine mm ?_ (hr x hI a w hA hS)
 intro e a w q
 cases e with
 |normal=>obtain⟨y,h1,h2,h3,h4⟩:=q;exact⟨μ y,h2,y,h1,rfl,h3,h4⟩
 |_=>exact q
def Yl (P:Program) (β:Bs) (L:List cq) (o:Oper) (a:Act) (w:World) (v:Value):Prop:=
 (∃w',(execOp a.eval o).run P w= .ok (.value v) w'∧St β L w')∨
 (∃f args,(execOp a.eval o).run P w= .ok (.enter f args) w∧Calls P f args w fun e w'=>e= .returned v∧St β L w')
def LO (P:Program) (β:Bs) (env:Env) (L:List cq) (o:Oper) (v:Value):Prop:=
 ∀(a:Act) (w:World),(∀x,x∈o.op.operands→∀u,ev env x=some u→a.eval x=u)→St β L w→Yl P β L o a w v
theorem qU {ro:Option Nat} {ρ:Operand→Value} {o:Oper} {w w':World} {nx:Next} (h:(execOp ρ o).run P w= .ok nx w') (hn:∀d,nx≠ .defer d):(o.semAt ro ρ).run P w= .ok nx w':=by
 cases ro with
 |none=>exact h
 |some l=>
  by_cases hd:∃c,o.op= .defer c
  ·exfalso
   obtain⟨c,hc⟩:=hd
   simp only[execOp,hc,bz,cG]at h
   cases hr:(resolve ρ c o.type).run P w with
   |ok d w1=>rw[hr]at h;simp only[bw,Result.ok.injEq]at h;exact hn d h.1.symm
   |halt x w1=>rw[hr]at h;simp at h
  ·rw[Oper.semAt_some l ρ o (fun c hc=>hd ⟨c,hc⟩)];exact h
theorem Yl.wp {o:Oper} {a:Act} {w:World} {v:Value} {K:Act→World→Prop} (h:Yl P β L o a w v) (k:∀w',St β L w'→K (a.put o.dst v) w'):o.wpIn (Wf ro) 0 P a w K Q:=by
 refine⟨fun _ _=>True.intro,?_⟩
 rcases h with⟨w',hr,hs⟩|⟨f,args,hr,hc⟩
 ·have e:(o.semAt (Wf ro).round a.eval).run P w= .ok (.value v) w':=qU hr (by simp)
  rw[e];exact k w' hs
 ·have e:(o.semAt (Wf ro).round a.eval).run P w= .ok (.enter f args) w:=qU hr (by simp)
  rw[e]
  refine⟨fun h=>by simp [Wf,kU]at h,rv.2 (hc.mono ?_)⟩
  rintro e w' ⟨rfl,hs⟩
  exact k w' hs
theorem VO.nil {ops:Array Oper} (h:VE β N ds env L .normal Q):VO P ro β N ds ops env L [] Q:=fun a w ha hw=>h a w ha hw
theorem VC.dU {id:Nat} {l:List Oper} (h:VO P ro β N ds l.toArray env L l Q):VC P ro β N ds env L (.region id l.toArray false) Q:=
 fun a w ha hw=>wpIn_region_lit (h a w ha hw)
theorem VO.l {ops:Array Oper} {d:Nat} {op:Op} {ty:TypeId} {pos:String} {aft:Array Edge} {rest:List Oper} {v:Value} (h:LO P β env L ⟨some d,op,ty,pos,aft,none⟩ v) (hd:df d N=true)
  (k:VO P ro β N ds ops ((d,v)::env) L rest Q):VO P ro β N ds ops env L (⟨some d,op,ty,pos,aft,none⟩::rest) Q:=by
 intro a w ha hw
 refine wpListIn_plain rfl fun K hK=>?_
 exact(h a w (fun x _ u hu=>ha.eval hu) hw).wp fun w' hs=>hK _ _ (k _ w' (ha.put (bh hd) v) hs)
def gv (c:Bool) (v:Value):Value:=if c then v else undef
theorem gvt {c:Bool} {v:Value} (h:c=true):gv c v=v:=by simp [gv,h]
def GD (v:Value) (want c:Bool):Prop:=(c=true→v= .bool want)∧(c=false→v≠ .bool want)
theorem GD.t (b:Bool):GD (.bool b) true b:=⟨fun h=>by rw[h],fun h=>by rw[h];simp⟩
theorem GD.f (b:Bool):GD (.bool b) false (!b):=⟨fun h=>by cases b<;>simp_all,fun h=>by cases b<;>simp_all⟩
theorem GD.nt (c b:Bool):GD (gv c (.bool b)) true (c&&b):=⟨fun h=>by cases c<;>cases b<;>simp_all [gv],fun h=>by cases c<;>cases b<;>simp_all [gv,undef]⟩
def vb:Value→Option Bool
 | .bool b=>some b
 |_=>none
theorem O7 {u:Value} {want:Bool} (h:u≠ .bool want):(vb u==some want)=false:=by
 cases u<;>simp_all [vb]
theorem VO.lg {ops:Array Oper} {d j t:Nat} {want c:Bool} {op:Op} {ty:TypeId} {pos:String} {aft:Array Edge} {rest:List Oper} {v u:Value} (hj:(ops[j]?).bind (·.dst)=some t) (ht:jx env t=some u) (hg:GD u want c)
  (h:c=true→LO P β env L ⟨some d,op,ty,pos,aft,some (j,want)⟩ v) (hd:df d N=true)
  (k:VO P ro β N ds ops ((d,gv c v)::env) L rest Q):VO P ro β N ds ops env L (⟨some d,op,ty,pos,aft,some (j,want)⟩::rest) Q:=by
 intro a w ha hw
 have ht':=ha.get t u ht
 have hy:yielded ops a.tmps j=vb u:=by
  unfold yielded;rw[hj];simp only[ll,ht'];cases u<;>rfl
 refine wpListIn_step fun K hK=>?_
 simp only[gk,hy]
 cases c with
 |true=>
  have hu:=hg.1 rfl
  subst hu
  simp only[vb,beq_self_eq_true,if_true]
  exact(h rfl a w (fun x _ u hu=>ha.eval hu) hw).wp fun w' hs=>hK _ _ (by have:=k _ w' (ha.put (bh hd) (gv true v)) hs;simpa [gv]using this)
 |false=>
  have hu:=hg.2 rfl
  have hne:(vb u==some want)=false:=by
   cases u<;>simp_all [vb]
  simp only[hne,bP,if_false]
  refine⟨fun _ _=>True.intro,hK _ _ ?_⟩
  have:=k _ w (ha.put (bh hd) (gv false v)) hw
  simpa [gv]using this
theorem VO.gt {ops:Array Oper} {d j t:Nat} {c:Bool} {op:Op} {ty:TypeId} {pos:String} {aft:Array Edge} {rest:List Oper} {v:Value} (hj:((ops[j]?).bind (·.dst),jx env t,df d N)=(some t,some (.bool c),true))
  (h:c=true→LO P β env L ⟨some d,op,ty,pos,aft,some (j,true)⟩ v) (k:VO P ro β N ds ops ((d,gv c v)::env) L rest Q):VO P ro β N ds ops env L (⟨some d,op,ty,pos,aft,some (j,true)⟩::rest) Q:=VO.lg (eY hj).1 (eY (eY hj).2).1 (GD.t c) h (eY (eY hj).2).2 k
theorem VO.gf {ops:Array Oper} {d j t:Nat} {c:Bool} {op:Op} {ty:TypeId} {pos:String} {aft:Array Edge} {rest:List Oper} {v:Value} (hj:((ops[j]?).bind (·.dst),jx env t,df d N)=(some t,some (.bool c),true))
  (h:(!c)=true→LO P β env L ⟨some d,op,ty,pos,aft,some (j,false)⟩ v) (k:VO P ro β N ds ops ((d,gv (!c) v)::env) L rest Q):VO P ro β N ds ops env L (⟨some d,op,ty,pos,aft,some (j,false)⟩::rest) Q:=VO.lg (eY hj).1 (eY (eY hj).2).1 (GD.f c) h (eY (eY hj).2).2 k
def OV (env:Env) (x:Operand) (v:Value):Prop:=∃u,ev env x=some u∧u=v
theorem OV.r {x:Operand} {v:Value} (h:ev env x=some v):OV env x v:=⟨v,h,rfl⟩
theorem OV.g {x:Operand} {v:Value} {c:Bool} (hc:c=true) (h:ev env x=some (gv c v)):OV env x v:=⟨_,h,gvt hc⟩
variable {d:Option Nat} {ty:TypeId} {pos:String} {aft:Array Edge} {g:Option (Nat×Bool)}
theorem LO.ee {o:Oper} {v:Value} (h:∀(a:Act) (w:World),(∀x,x∈o.op.operands→∀u,OV env x u→a.eval x=u)→St β L w→∃w',(execOp a.eval o).run P w= .ok (.value v) w'∧St β L w'):LO P β env L o v:=
 fun a w hx hw=>.inl (h a w (fun x hm u ⟨u',hu,e⟩=>e ▸ hx x hm u' hu) hw)
theorem LO.mv {x:Operand} {v:Value} (hx:OV env x v):LO P β env L ⟨d,.move x,ty,pos,aft,g⟩ v:=
 .ee fun a w h hw=>⟨w,by simp [execOp,h x (by simp [az]) v hx],hw⟩
theorem LO.as {x:Operand} {v:Value} (hx:OV env x v):LO P β env L ⟨d,.assign x,ty,pos,aft,g⟩ v:=
 .ee fun a w h hw=>⟨w,by simp [execOp,h x (by simp [az]) v hx],hw⟩
theorem VO.m {ops:Array Oper} {d:Nat} {x:Operand} {ty:TypeId} {pos:String} {aft:Array Edge} {rest:List Oper} {v:Value} (h:(ev env x,df d N)=(some v,true))
  (k:VO P ro β N ds ops ((d,v)::env) L rest Q):VO P ro β N ds ops env L (⟨some d,.move x,ty,pos,aft,none⟩::rest) Q:=VO.l (LO.mv (.r (eY h).1)) (eY h).2 k
theorem VO.a {ops:Array Oper} {d:Nat} {x:Operand} {ty:TypeId} {pos:String} {aft:Array Edge} {rest:List Oper} {v:Value} (h:(ev env x,df d N)=(some v,true))
  (k:VO P ro β N ds ops ((d,v)::env) L rest Q):VO P ro β N ds ops env L (⟨some d,.assign x,ty,pos,aft,none⟩::rest) Q:=VO.l (LO.as (.r (eY h).1)) (eY h).2 k
section
variable {x y:Operand} {xT yT:TypeId} {k:IntKind} {m n r:Int}
theorem LO.add (hx:OV env x (.int k m)) (hy:OV env y (.int k n)) (hr:k.wrap (m+n)=r):LO P β env L ⟨d,.binOp .add xT x y yT,ty,pos,aft,g⟩ (.int k r):=
 .ee fun a w h hw=>⟨w,by simp [execOp,h x (by simp [az]) _ hx,h y (by simp [az]) _ hy,eqGuard,binOp,tM,hr],hw⟩
theorem LO.sub (hx:OV env x (.int k m)) (hy:OV env y (.int k n)) (hr:k.wrap (m-n)=r):LO P β env L ⟨d,.binOp .sub xT x y yT,ty,pos,aft,g⟩ (.int k r):=
 .ee fun a w h hw=>⟨w,by simp [execOp,h x (by simp [az]) _ hx,h y (by simp [az]) _ hy,eqGuard,binOp,tM,hr],hw⟩
theorem LO.mul (hx:OV env x (.int k m)) (hy:OV env y (.int k n)) (hr:k.wrap (m*n)=r):LO P β env L ⟨d,.binOp .mul xT x y yT,ty,pos,aft,g⟩ (.int k r):=
 .ee fun a w h hw=>⟨w,by simp [execOp,h x (by simp [az]) _ hx,h y (by simp [az]) _ hy,eqGuard,binOp,tM,hr],hw⟩
theorem LO.quo (hx:OV env x (.int k m)) (hy:OV env y (.int k n)) (h0:n≠0) (hr:k.wrap (m.tdiv n)=r):LO P β env L ⟨d,.binOp .quo xT x y yT,ty,pos,aft,g⟩ (.int k r):=
 .ee fun a w h hw=>⟨w,by simp [execOp,h x (by simp [az]) _ hx,h y (by simp [az]) _ hy,eqGuard,binOp,Op.intDiv,h0,hr],hw⟩
theorem LO.rem (hx:OV env x (.int k m)) (hy:OV env y (.int k n)) (h0:n≠0):LO P β env L ⟨d,.binOp .rem xT x y yT,ty,pos,aft,g⟩ (.int k (m.tmod n)):=
 .ee fun a w h hw=>⟨w,by simp [execOp,h x (by simp [az]) _ hx,h y (by simp [az]) _ hy,eqGuard,binOp,Op.intDiv,h0],hw⟩
theorem LO.lt (hx:OV env x (.int k m)) (hy:OV env y (.int k n)):LO P β env L ⟨d,.binOp .lss xT x y yT,ty,pos,aft,g⟩ (.bool (decide (m<n))):=
 .ee fun a w h hw=>⟨w,by simp [execOp,h x (by simp [az]) _ hx,h y (by simp [az]) _ hy,eqGuard,binOp,rz],hw⟩
theorem LO.le (hx:OV env x (.int k m)) (hy:OV env y (.int k n)):LO P β env L ⟨d,.binOp .leq xT x y yT,ty,pos,aft,g⟩ (.bool (decide (m≤n))):=
 .ee fun a w h hw=>⟨w,by simp [execOp,h x (by simp [az]) _ hx,h y (by simp [az]) _ hy,eqGuard,binOp,rz],hw⟩
theorem LO.gt (hx:OV env x (.int k m)) (hy:OV env y (.int k n)):LO P β env L ⟨d,.binOp .gtr xT x y yT,ty,pos,aft,g⟩ (.bool (decide (n<m))):=
 .ee fun a w h hw=>⟨w,by simp [execOp,h x (by simp [az]) _ hx,h y (by simp [az]) _ hy,eqGuard,binOp,rz],hw⟩
theorem LO.ge (hx:OV env x (.int k m)) (hy:OV env y (.int k n)):LO P β env L ⟨d,.binOp .geq xT x y yT,ty,pos,aft,g⟩ (.bool (decide (n≤m))):=
 .ee fun a w h hw=>⟨w,by simp [execOp,h x (by simp [az]) _ hx,h y (by simp [az]) _ hy,eqGuard,binOp,rz],hw⟩
theorem LO.eq (hx:OV env x (.int k m)) (hy:OV env y (.int k n)):LO P β env L ⟨d,.binOp .eql xT x y yT,ty,pos,aft,g⟩ (.bool (decide (m=n))):=
 .ee fun a w h hw=>⟨w,by simp [execOp,h x (by simp [az]) _ hx,h y (by simp [az]) _ hy,eqGuard,binOp,rz];rfl,hw⟩
theorem LO.ne (hx:OV env x (.int k m)) (hy:OV env y (.int k n)):LO P β env L ⟨d,.binOp .neq xT x y yT,ty,pos,aft,g⟩ (.bool (!decide (m=n))):=
 .ee fun a w h hw=>⟨w,by simp [execOp,h x (by simp [az]) _ hx,h y (by simp [az]) _ hy,eqGuard,binOp,rz,bne];rfl,hw⟩
theorem LO.not {b:Bool} (hx:OV env x (.bool b)):LO P β env L ⟨d,.unOp .not xT x,ty,pos,aft,g⟩ (.bool (!b)):=
 .ee fun a w h hw=>⟨w,by simp [execOp,h x (by simp [az]) _ hx,Op.unary],hw⟩
theorem LO.neg (hx:OV env x (.int k m)) (hr:k.wrap (-m)=r):LO P β env L ⟨d,.unOp .neg xT x,ty,pos,aft,g⟩ (.int k r):=
 .ee fun a w h hw=>⟨w,by simp [execOp,h x (by simp [az]) _ hx,Op.unary,tM,hr],hw⟩
end
theorem LO.pE {c x y:Operand} {b e:Bool} {q:Bool} (hc:OV env c (.bool b)) (hx:ev env x=some (gv e (.bool q))) (he:e=b) (hy:OV env y (.bool false)):LO P β env L ⟨d,.pick c x y,ty,pos,aft,g⟩ (.bool (b&&q)):=
 .ee fun a w h hw=>⟨w,by
  subst he
  simp [execOp,h c (by simp [az]) _ hc,h y (by simp [az]) _ hy,h x (by simp [az]) _ (.r hx),asBool]
  cases e<;>simp [gv],hw⟩
theorem LO.qh {c x y:Operand} {b e:Bool} {q:Bool} (hc:OV env c (.bool b)) (hx:OV env x (.bool true)) (hy:ev env y=some (gv e (.bool q))) (he:e= !b):LO P β env L ⟨d,.pick c x y,ty,pos,aft,g⟩ (.bool (b||q)):=
 .ee fun a w h hw=>⟨w,by
  subst he
  simp [execOp,h c (by simp [az]) _ hc,h x (by simp [az]) _ hx,h y (by simp [az]) _ (.r hy),asBool]
  cases b<;>simp [gv],hw⟩
def jX (P:Program) (T n:Nat):Prop:=(∃d,P.underlying T=some d∧(match d with| .struct _| .array _ _=>true|_=>false)=true)∧(P.info? T).map (·.size)=some n
def ig (P:Program) (T:Nat):Prop:=(∃d,P.underlying T=some d∧(match d with| .struct _| .array _ _=>true|_=>false)=false)∧(P.info? T).map (·.size)=some 1
def fk (w:World) (p:Addr) (vs:List Value):Prop:=∀j v,vs[j]? =some v→w.cell? (p.add j)=some v
theorem v8 {T n:Nat} (h:jX P T n) (w:World):(isAgg T).run P w= .ok true w:=by
 obtain⟨⟨d,hu,hd⟩,_⟩:=h
 unfold isAgg;rw[bz,run_underlying hu w];cases d<;>simp_all
theorem sM {T:Nat} (h:ig P T) (w:World):(isAgg T).run P w= .ok false w:=by
 obtain⟨⟨d,hu,hd⟩,_⟩:=h
 unfold isAgg;rw[bz,run_underlying hu w];cases d<;>simp_all
theorem jv {T n:Nat} (h:(P.info? T).map (·.size)=some n) (w:World):(sizeOf T).run P w= .ok n w:=by
 cases hq:P.info? T with
 |none=>simp [hq]at h
 |some i=>simp [hq]at h;simp [sizeOf,typeInfo,hq,h]
theorem A0 {T n:Nat} (hT:jX P T n) {w:World} {p:Addr} {vs:List Value} (hn:vs.length=n) (hc:fk w p vs):(loadVar T p).run P w= .ok (.agg vs.toArray) w:=by
 subst hn
 have hl:=run_loadCells_list (P:=P) w p vs (fun j v hj=>hc j v hj)
 simp [loadVar,bz,v8 hT,jv hT.2,hl]
theorem AW {T:Nat} (hT:ig P T) {w:World} {p:Addr} {v:Value} (hc:fk w p [v]):(loadVar T p).run P w= .ok v w:=by
 have:=hc 0 v rfl
 simp only[Addr.add,if_true]at this
 simp [loadVar,bz,sM hT,this]
theorem LO.fg {x:Operand} {T n:Nat} {p:Addr} {vs:List Value} (hT:jX P T n) (hx:OV env x (.pointer (some p))) (hc:∀w,St β L w→fk w p vs) (hn:eV vs.length n=true):LO P β env L ⟨d,.load T x,ty,pos,aft,g⟩ (.agg vs.toArray):=
 .ee fun a w h hw=>⟨w,by simp [execOp,h x (by simp [az]) _ hx,Instr.loadAt,oz,A0 hT (bO hn) (hc w hw)],hw⟩
theorem LO.ld {x:Operand} {T:Nat} {p:Addr} {v:Value} (hT:ig P T) (hx:OV env x (.pointer (some p))) (hc:∀w,St β L w→fk w p [v]):LO P β env L ⟨d,.load T x,ty,pos,aft,g⟩ v:=
 .ee fun a w h hw=>⟨w,by simp [execOp,h x (by simp [az]) _ hx,Instr.loadAt,oz,AW hT (hc w hw)],hw⟩
theorem ax (i:Nat) {b off:Nat} {C:Array Value} {E:TypeId} {fz:Nat×Nat} {vs:List Value} (hi:L[i]? =some (de b (.cells C E fz))) (hv:∃r,C.toList.drop off=vs++r):
  ∀w,St β L w→fk w ⟨b,off,none⟩ vs:=by
 intro w hw j v hj
 have hb:=hw.inv i _ hi
 simp only[de]at hb
 obtain⟨r,hr⟩:=hv
 have hadd:(⟨b,off,none⟩:Addr).add j=⟨b,off+j,none⟩:=by unfold Addr.add;split<;>simp_all
 rw[hadd]
 simp only[lK,hb,jj,bP,if_false]
 have:C.toList[off+j]? =some v:=by
  rw[←kV,hr,aJ (by
   rcases aK j vs.length with h|h
   ·exact h
   ·simp [aH h]at hj)]
  exact hj
 simpa using this
theorem aX {w:World} (hw:St β L w) (i:Nat) {b off:Nat} {C:Array Value} {E:TypeId} {fz:Nat×Nat} {vs:List Value} (hi:L[i]? =some (de b (.cells C E fz))) (hv:∃r,C.toList.drop off=vs++r):fk w ⟨b,off,none⟩ vs:=
 ax i hi hv w hw
theorem JC {p:Addr} {vs:List Value} (hO:¬β.O p.block) (h:fk β.w p vs):∀w,St β L w→fk w p vs:=by
 intro w hw j v hj
 have h0:=h j v hj
 have he:(p.add j).block=p.block:=by unfold Addr.add;split<;>rfl
 have hb:(p.add j).block<β.w.heap.size:=by
  rcases aK (p.add j).block β.w.heap.size with h|h
  ·exact h
  ·simp [lK,Array.getElem?_eq_none h]at h0
 rw[World.cell?_of_block (w:=β.w) (hw.fr _ hb (by rw[he];exact hO))];exact h0
def bV (P:Program) (S f off:Nat):Prop:=∃fs F,P.underlying S=some (.struct fs)∧fs[f]? =some F∧F.offset=off∧∃n,(P.info? F.type).map (·.size)=some (n+1)
theorem LO.fa {x:Operand} {S f off b o r:Nat} (hS:bV P S f off) (hx:OV env x (.pointer (some ⟨b,o,none⟩))) (hr:o+off=r):LO P β env L ⟨d,.fieldAddr S x f,ty,pos,aft,g⟩ (.pointer (some ⟨b,r,none⟩)):=
 .ee fun a w h hw=>⟨w,by
  obtain⟨fs,F,hu,hf,ho,n,hz⟩:=hS
  have hadd:(⟨b,o,none⟩:Addr).add off=⟨b,r,none⟩:=by subst hr;unfold Addr.add;split<;>simp_all
  simp [execOp,h x (by simp [az]) _ hx,Instr.fieldAt,run_underlying hu,hf,oz,fieldPlace,jv hz,ho,hadd],hw⟩
def dF (P:Program) (T E:Nat):Prop:=P.underlying T=some (.slice E)
theorem LO.len {T E:Nat} {x:Operand} {p:Option Addr} {n c:Nat} {aT:Array TypeId} (hT:dF P T E) (hx:OV env x (.slice p n c)) (ha:aT[0]? =some T):LO P β env L ⟨d,.call ⟨.builtin .len,#[x],aT⟩,ty,pos,aft,g⟩ (.int .i64 n):=
 .ee fun a w h hw=>⟨w,by simp [execOp,resolve,invoke,builtin,h x (by simp [az,eM]) _ hx,Builtin.len_,ha,run_underlying hT,goInt],hw⟩
theorem LO.max {x y:Operand} {k:IntKind} {m n:Int} {aT:Array TypeId} (hx:OV env x (.int k m)) (hy:OV env y (.int k n)):LO P β env L ⟨d,.call ⟨.builtin .max,#[x,y],aT⟩,ty,pos,aft,g⟩ (.int k (max m n)):=
 .ee fun a w h hw=>⟨w,by
  simp [execOp,resolve,invoke,builtin,h x (by simp [az,eM]) _ hx,h y (by simp [az,eM]) _ hy,Builtin.max_,Builtin.max2]
  omega,hw⟩
theorem LO.min {x y:Operand} {k:IntKind} {m n:Int} {aT:Array TypeId} (hx:OV env x (.int k m)) (hy:OV env y (.int k n)):LO P β env L ⟨d,.call ⟨.builtin .min,#[x,y],aT⟩,ty,pos,aft,g⟩ (.int k (min m n)):=
 .ee fun a w h hw=>⟨w,by
  simp [execOp,resolve,invoke,builtin,h x (by simp [az,eM]) _ hx,h y (by simp [az,eM]) _ hy,Builtin.min_,Builtin.min2]
  omega,hw⟩
theorem LO.ix {x i:Operand} {T E z:Nat} {b o n c:Nat} {k:IntKind} {j:Nat} (hT:dF P T E) (hz:(P.info? E).map (·.size)=some z) (hx:OV env x (.slice (some ⟨b,o,none⟩) n c)) (hi:OV env i (.int k j)) (hj:j<n):
  LO P β env L ⟨d,.indexAddr T x i,ty,pos,aft,g⟩ (.pointer (some ⟨b,o+j*z,none⟩)):=
 .ee fun a w h hw=>⟨w,by
  have hadd:(⟨b,o,none⟩:Addr).add (j*z)=⟨b,o+j*z,none⟩:=by unfold Addr.add;split<;>simp_all
  simp [execOp,h x (by simp [az]) _ hx,h i (by simp [az]) _ hi,Instr.indexAt,asIntOf,run_underlying hT,jv hz,hj,hadd],hw⟩
theorem LO.cv {x:Operand} {sT dT:Nat} {k k':IntKind} {m r:Int} (hs:∃d,P.underlying sT=some d) (hd:P.underlying dT=some (.int k)) (hx:OV env x (.int k' m)) (hr:k.wrap m=r):LO P β env L ⟨d,.convert sT dT x,ty,pos,aft,g⟩ (.int k r):=
 .ee fun a w h hw=>⟨w,by
  obtain⟨e,he⟩:=hs
  simp [execOp,h x (by simp [az]) _ hx,convert,run_underlying he,run_underlying hd,Conv.intToInt,hr],hw⟩
theorem LO.ex {x:Operand} {i:Nat} {vs:Array Value} {v:Value} (hx:OV env x (.tuple vs)) (hv:vs[i]? =some v):LO P β env L ⟨d,.extract x i,ty,pos,aft,g⟩ v:=
 .ee fun a w h hw=>⟨w,by simp [execOp,h x (by simp [az]) _ hx,Instr.extract,hv],hw⟩
def pb (p:Option Addr):Nat:=match p with|some a=>a.block|none=>0
def po (p:Option Addr):Nat:=match p with|some a=>a.off|none=>0
structure Rows (w:World) (z:Nat) (p:Option Addr) (rows:List (List Value)):Prop where
 cells:∀(j:Nat) (r:List Value),rows[j]? =some r→fk w ⟨pb p,po p+j*z,none⟩ r
 nil:p=none→rows=[]
 spot:rows≠[]→∀a,p=some a→a.spot=none
def nu (p:Option Addr) (n:Nat):Prop:=0<n→p=some ⟨pb p,po p,none⟩
theorem Rows.some {w:World} {z:Nat} {p:Option Addr} {rows:List (List Value)} (h:Rows w z p rows) {n:Nat} (hn:n=rows.length):nu p n:=by
 intro h0
 cases p with
 |none=>have:=h.nil rfl;simp [this]at hn;omega
 |some a=>have:=h.spot (fun q=>by rw[q]at hn;simp at hn;omega) a rfl;cases a;simp_all [pb,po]
theorem aW {w0:World} {p:Addr} {vs:List Value} (h:fk w0 p vs):∀w,St (bs w0) L w→fk w p vs:=JC (β:=bs w0) (fun f=>f) h
theorem Rows.keep {w0:World} {z:Nat} {p:Option Addr} {rows:List (List Value)} (h:Rows w0 z p rows):∀w,St (bs w0) L w→Rows w z p rows:=
 fun w hw=>⟨fun j r hr=>aW (h.cells j r hr) w hw,h.nil,h.spot⟩
theorem LO.lA {x i:Operand} {T E z:Nat} {p:Option Addr} {n c j:Nat} {k:IntKind} {e:Int} (hT:dF P T E) (hz:(P.info? E).map (·.size)=some z) (hs:nu p n) (hx:OV env x (.slice p n c)) (hi:OV env i (.int k e)) (he:e=(j:Int)) (hj:j<n):
  LO P β env L ⟨d,.indexAddr T x i,ty,pos,aft,g⟩ (.pointer (some ⟨pb p,po p+j*z,none⟩)):=by
 subst he
 rw[hs (by omega)]at hx
 exact LO.ix hT hz hx hi hj
def Ints (w:World) (p:Option Addr) (l:List Int):Prop:=Rows w 1 p (l.map fun n=>[.int .i64 n])
theorem Ints.some {w:World} {p:Option Addr} {l:List Int} (h:Ints w p l):nu p l.length:=Rows.some h (by simp)
theorem Ints.keep {w0:World} {p:Option Addr} {l:List Int} (h:Ints w0 p l):∀w,St (bs w0) L w→Ints w p l:=Rows.keep h
theorem Ints.at {w0:World} {p:Option Addr} {l:List Int} (h:Ints w0 p l) {j:Nat} (hj:j<l.length):∀w,St (bs w0) L w→fk w ⟨pb p,po p+j*1,none⟩ [.int .i64 (l.getD j 0)]:=
 fun w hw=>(h.keep w hw).cells j _ (by simp [af hj,jw])
theorem wi {e:Int} (h1: -9223372036854775808≤e) (h2:e≤9223372036854775807):IntKind.wrap .i64 e=e:=IntWalk.i64_in _ ⟨h1,h2⟩
def ef (P:Program) (f:FuncId):Prop:=∃fn,P.funcs[f]? =some fn∧(fn.name== "runtime.NumGoroutine")=false∧fn.body.isNone=false
theorem re {f:FuncId} (h:ef P f) (args:Array Value) (w:World):(callFunc f args).run P w= .ok (.enter f args) w:=by
 obtain⟨fn,hf,hn,hb⟩:=h
 simp only[callFunc,bz,run_program,bw,hf,hn,hb,bP,if_false,cG]
def B9 (env:Env):List Operand→List Value→Prop
 |[],[]=>True
 |x::xs,v::vs=>OV env x v∧B9 env xs vs
 |_,_=>False
theorem B9.map {a:Act}:∀{xs:List Operand} {vs:List Value},B9 env xs vs→(∀x,x∈xs→∀u,OV env x u→a.eval x=u)→xs.map a.eval=vs
 |[],[],_,_=>rfl
 |x::xs,v::vs,h,k=>by simp [k x (by simp) v h.1,B9.map h.2 (fun y hy=>k y (by simp [hy]))]
 |[],_::_,h,_=>h.elim
 |_::_,[],h,_=>h.elim
theorem LO.call {f:FuncId} {xs:List Operand} {vs:List Value} {aT:Array TypeId} {v:Value} (hf:ef P f) (hx:B9 env xs vs)
  (hc:∀w,St β L w→Calls P f vs.toArray w fun e w'=>e= .returned v∧St (bs w) [] w'):LO P β env L ⟨d,.call ⟨.value (.func f),xs.toArray,aT⟩,ty,pos,aft,g⟩ v:=by
 intro a w h hw
 refine .inr ⟨f,vs.toArray,?_,?_⟩
 ·have hm:xs.map a.eval=vs:=hx.map fun x hm u hu=>by obtain⟨u',hu',e⟩:=hu;subst e;exact h x (by simp [az,eM,hm]) u' hu'
  simp [execOp,resolve,ep,mJ,invoke,re hf,hm]
 ·exact(hc w hw).mono fun e w' ⟨he,hs⟩=>⟨he,by simpa using hw.call hs⟩
theorem LO.wN {f:FuncId} {fx:Operand} {xs:List Operand} {vs first cap:List Value} {aT:Array TypeId} {v:Value} (hfx:OV env fx (.func (.func f) first.toArray cap.toArray)) (hf:ef P f) (hx:B9 env xs vs)
  (hc:∀w,St β L w→Calls P f (first++vs++cap).toArray w fun e w'=>e= .returned v∧St (bs w) [] w'):LO P β env L ⟨d,.call ⟨.value fx,xs.toArray,aT⟩,ty,pos,aft,g⟩ v:=by
 intro a w h hw
 refine .inr ⟨f,(first++vs++cap).toArray,?_,?_⟩
 ·have hm:xs.map a.eval=vs:=hx.map fun x hm u hu=>by obtain⟨u',hu',e⟩:=hu;subst e;exact h x (by simp [az,eM,hm]) u' hu'
  have hfe:a.eval fx= .func (.func f) first.toArray cap.toArray:=by obtain⟨u',hu',e⟩:=hfx;subst e;exact h fx (by simp [az,eM]) _ hu'
  simp [execOp,resolve,hfe,mJ,invoke,re hf,hm]
 ·exact(hc w hw).mono fun e w' ⟨he,hs⟩=>⟨he,by simpa using hw.call hs⟩
theorem uL {α:Type} {f:α→Value}:∀{ps:List (Nat×α)} {vs:List (Nat×Value)},ps.map (·.1)=vs.map (·.1)→ps.map (fun p=>f p.2)=vs.map (·.2)→ps.map (fun p=>(p.1,f p.2))=vs
 |[],[],_,_=>rfl
 |[],_::_,h,_=>by simp at h
 |_::_,[],h,_=>by simp at h
 |p::ps,v::vs,h,k=>by
  simp only[List.map_cons,List.cons.injEq]at h k ⊢
  exact⟨by rw[h.1,k.1],uL h.2 k.2⟩
def FL (PL:List (Nat×Nat)):List Value→List (Nat×Value)→List Value→Prop
 |C,[],C'=>C=C'
 |C,(i,v)::r,C'=>∃(off:Nat) (vs C1:List Value),PL[i]? =some (off,vs.length)∧v.cells=vs.toArray∧rV (off+vs.length) C.length=true∧C.take off++vs++C.drop (off+vs.length)=C1∧FL PL C1 r C'
theorem Jd:∀(vs:List Value) (off k:Nat) (C:Array Value),off+k+vs.length≤C.size→
  (vs.zipIdx k).foldl (fun cs (x:Value×Nat)=>cs.setIfInBounds (off+x.2) x.1) C=(C.toList.take (off+k)++vs++C.toList.drop (off+k+vs.length)).toArray
 |[],off,k,C,_=>by simp
 |v::vs,off,k,C,h=>by
  simp only[gh]at h
  simp only[List.zipIdx_cons,List.foldl_cons]
  rw[Jd vs off (k+1) _ (by simp;omega)]
  congr 1
  have e:=list_seg_step C.toList (off+k) v vs (by simp;omega)
  simpa [Array.toList_setIfInBounds,Nat.add_assoc,Nat.add_comm 1]using e
theorem FL.fill {PL:List (Nat×Nat)}:∀{ps:List (Nat×Value)} {C C':List Value},FL PL C ps C'→jK (PL[·]?) C.toArray ps=some C'.toArray
 |[],C,C',h=>by simp only[FL]at h;subst h;rfl
 |(i,v)::r,C,C',⟨off,vs,C1,h1,h2,h3,h4,h5⟩=>by
  have h3':=bh h3
  have ih:=FL.fill h5
  simp only[jK,h1,h2]
  have hc:(vs.toArray.size≠vs.length||off+vs.toArray.size>C.toArray.size)=false:=by simp;omega
  simp only[gU]at hc ⊢
  simp only[hc,bP,if_false]
  rw[←ih, ←h4]
  congr 1
  have:=Jd vs off 0 C.toArray (by simpa using h3')
  simp only[ki]at this
  rw[←this]
  rw[←sU,Array.toList_zipIdx]
def ed (P:Program) (T:Nat) (PL:List (Nat×Nat)) (Z:List Value):Prop:=∀ps,P.built T ps=jK (PL[·]?) Z.toArray ps
theorem LO.bd {T:Nat} {PL:List (Nat×Nat)} {Z:List Value} {ps:List (Nat×Operand)} {vs:List (Nat×Value)} {C:List Value} (hB:ed P T PL Z) (hps:B9 env (ps.map (·.2)) (vs.map (·.2))) (hix:ps.map (·.1)=vs.map (·.1)) (hb:FL PL Z vs C):LO P β env L ⟨d,.build T ps.toArray,ty,pos,aft,g⟩ (.agg C.toArray):=
 .ee fun a w h hw=>⟨w,by
  have h2:=B9.map (a:=a) hps (fun x hm u hu=>h x (by
   obtain⟨p,hp,e⟩:=List.mem_map.1 hm
   simp only[az]
   subst e
   simpa using⟨p.1,hp⟩) u hu)
  rw[List.map_map]at h2
  have hm:(ps.map fun p=>(p.1,a.eval p.2))=vs:=uL hix h2
  have hb':=run_build (P:=P) w T vs.toArray C.toArray (by rw[hB];exact hb.fill)
  rw[←hm]at hb'
  simp only[execOp,bz]
  rw[show(ps.toArray.map fun(i,x)=>(i,a.eval x))=(ps.map fun p=>(p.1,a.eval p.2)).toArray by simp]
  simp [hb'],hw⟩
def Dz:Nat→List Value→Env
 |_,[]=>[]
 |k,v::vs=>(k,v)::Dz (k+1) vs
theorem Ft:∀(vs:List Value) (k i:Nat) (v:Value),jx (Dz k vs) i=some v→k≤i∧vs[i-k]? =some v
 |[],k,i,v,h=>by simp [Dz,jx]at h
 |u::us,k,i,v,h=>by
  by_cases e:i=k
  ·subst e
   rw[Dz,fE]at h
   cases h
   exact⟨bA _,by simp⟩
  ·rw[Dz,eN e]at h
   obtain⟨h1,h2⟩:=Ft us (k+1) i v h
   refine⟨by omega,?_⟩
   rw[show i-k=(i-(k+1))+1 by omega]
   simpa using h2
def FP (P:Program) (fn:Func) (R:Ending→World→Prop):Exit→Act→World→Prop:=bodyPostM (Wf none) 0 P fn R
theorem mG {P:Program} {β:Bs} {L:List cq} {f:FuncId} {fn:Func} {c:Code} {vs:List Value} {env:Env} {w:World} {N:Nat} {R:Ending→World→Prop} (hw:St β L w) (hf:P.funcs[f]? =some fn) (hb:fn.body=some c) (hN:fn.ntmps=N)
  (hle:rV vs.length N=true) (hE:Dz 0 vs=env) (h:VC P none β N [] env L c (FP P fn R)):Calls P f vs.toArray w R:=by
 refine(rv (ro:=none) (n:=0)).1 (callsIn_of_wp_marks (F:=Wf none) (n:=0) hf hb True.intro (h _ w ⟨?_,rfl,?_⟩ hw))
 ·have:=bh hle
  simp [hN];omega
 ·intro i v hi
  subst hE
  obtain⟨_,h2⟩:=Ft vs 0 i v hi
  simp only[Nat.sub_zero]at h2
  rw[Array.getElem?_append_left (by
   rcases aK i vs.length with h|h
   ·simpa using h
   ·simp [aH h]at h2)]
  simpa using h2
theorem enter {P:Program} {f:FuncId} {fn:Func} {c:Code} {vs:List Value} {env:Env} {w:World} {N:Nat} {R:Ending→World→Prop} (hf:P.funcs[f]? =some fn) (hb:fn.body=some c) (hN:fn.ntmps=N)
  (hle:rV vs.length N=true) (hE:Dz 0 vs=env) (h:VC P none (bs w) N [] env [] c (FP P fn R)):Calls P f vs.toArray w R:=mG (St.refl w) hf hb hN hle hE h
def RV (P:Program) (β:Bs) (L:List cq) (env:Env):ResultVar→Value→Prop
 | .tmp t,v=>jx env t=some v
 | .cell a T,v=>∃p,jx env a=some (.pointer (some p))∧∀w,St β L w→(loadVar T p).run P w= .ok v w
theorem RV.agg {a T n b:Nat} {vs:List Value} (hT:jX P T n) (ha:jx env a=some (.pointer (some ⟨b,0,none⟩))) (hc:∀w,St β L w→fk w ⟨b,0,none⟩ vs) (hn:eV vs.length n=true):RV P β L env (.cell a T) (.agg vs.toArray):=
 ⟨_,ha,fun w hw=>A0 hT (bO hn) (hc w hw)⟩
theorem RV.one {a T b:Nat} {v:Value} (hT:ig P T) (ha:jx env a=some (.pointer (some ⟨b,0,none⟩))) (hc:∀w,St β L w→fk w ⟨b,0,none⟩ [v]):RV P β L env (.cell a T) v:=
 ⟨_,ha,fun w hw=>AW hT (hc w hw)⟩
def Xf (P:Program) (β:Bs) (L:List cq) (env:Env):List ResultVar→List Value→Prop
 |[],[]=>True
 |x::xs,v::vs=>RV P β L env x v∧Xf P β L env xs vs
 |_,_=>False
def rvg (tmps:Array Value):ResultVar→Sem Value
 | .tmp t=>pure (tmps.getD t undef)
 | .cell b T=>do loadVar T (←asAddr (tmps.getD b undef))
theorem Xf.run {a:Act} {w:World} (ha:Ag N ds env a) (hw:St β L w):∀{xs:List ResultVar} {vs:List Value},Xf P β L env xs vs→(xs.mapM (rvg a.tmps)).run P w= .ok vs w
 |[],[],_=>by simp
 |x::xs,v::vs,h=>by
  have h1:(rvg a.tmps x).run P w= .ok v w:=by
   cases x with
   |tmp t=>have ht:=ha.get t v h.1;simp [rvg,ht]
   |cell b T=>
    obtain⟨p,hp,hl⟩:=h.1
    have ht:=ha.get b _ hp
    simp [rvg,ht,asAddr,hl w hw]
  rw[List.mapM_cons]
  simp only[bz,h1,bw,Xf.run ha hw h.2,cG]
 |[],_::_,h=>h.elim
 |_::_,[],h=>h.elim
def gF:List Value→Value
 |[v]=>v
 |vs=>.tuple vs.toArray
theorem rQ {fn:Func} {a:Act} {w:World} {xs:List ResultVar} {vs:List Value} (hr:fn.results=xs.toArray) (ha:Ag N ds env a) (hw:St β L w) (h:Xf P β L env xs vs):(results fn a.tmps).run P w= .ok (gF vs) w:=by
 have:=Xf.run ha hw h
 have e:results fn a.tmps=(do let vs ←fn.results.mapM (rvg a.tmps);pure (if h:vs.size=1 then vs[0] else .tuple vs)):=rfl
 rw[e,hr]
 simp only[bz,List.mapM_toArray,Sem.run_map,this,bw,cG]
 congr 1
 match vs with
 |[]=>rfl
 |[v]=>rfl
 |_::_::_=>simp [gF]
theorem VE.res {fn:Func} {R:Ending→World→Prop} {xs:List ResultVar} {vs:List Value} (hr:fn.results=xs.toArray) (h:Xf P β L env xs vs) (k:∀w,St β L w→R (.returned (gF vs)) w):VE β N [] env L .ret (FP P fn R):=
 fun a w ha hw=>by
  show LeavesInM (Wf none) 0 P fn a.tmps R a.defers .returning w
  rw[ha.xB]
  exact⟨_,rQ hr ha hw h,k w hw⟩
theorem VE.xf {fn:Func} {R:Ending→World→Prop} {xs:List ResultVar} {vs:List Value} (hr:fn.results=xs.toArray) (h:Xf P β L env xs vs) (k:∀w,St β L w→R (.returned (gF vs)) w):VE β N [] env L .normal (FP P fn R):=
 fun a w ha hw=>by
  show LeavesInM (Wf none) 0 P fn a.tmps R a.defers .returning w
  rw[ha.xB]
  exact⟨_,rQ hr ha hw h,k w hw⟩
theorem VO.n {y:Code} {ops:Array Oper} (h:VC P ro β N ds env L y Q):VO P ro β N ds ops env L [] (Exit.then (y.wpIn (Wf ro) 0 P Q) Q):=VO.nil (VE.aN h)
theorem VC.q {y:Code} {id:Nat} {l:List Oper} (h:VO P ro β N ds l.toArray env L l (Exit.then (y.wpIn (Wf ro) 0 P Q) Q)):VC P ro β N ds env L (.seq (.region id l.toArray false) y) Q:=VC.seq (VC.dU h)
theorem VO.f {ops:Array Oper} {d S f off b o r:Nat} {x:Operand} {ty:TypeId} {pos:String} {aft:Array Edge} {rest:List Oper} (hS:bV P S f off) (h:(ev env x,o+off,df d N)=(some (.pointer (some ⟨b,o,none⟩)),r,true))
  (k:VO P ro β N ds ops ((d,.pointer (some ⟨b,r,none⟩))::env) L rest Q):VO P ro β N ds ops env L (⟨some d,.fieldAddr S x f,ty,pos,aft,none⟩::rest) Q:=VO.l (LO.fa hS (.r (eY h).1) (eY (eY h).2).1) (eY (eY h).2).2 k
theorem VO.c {ops:Array Oper} {d T b o:Nat} {x:Operand} {v:Value} {C:Array Value} {E:TypeId} {fz:Nat×Nat} {ty:TypeId} {pos:String} {aft:Array Edge} {rest:List Oper} (i:Nat) (hT:ig P T) (hx:ev env x=some (.pointer (some ⟨b,o,none⟩))) (hi:L[i]? =some (de b (.cells C E fz))) (hv:∃r,C.toList.drop o=[v]++r) (hd:df d N=true)
  (k:VO P ro β N ds ops ((d,v)::env) L rest Q):VO P ro β N ds ops env L (⟨some d,.load T x,ty,pos,aft,none⟩::rest) Q:=VO.l (LO.ld hT (.r hx) (ax i hi hv)) hd k
theorem VO.p {ops:Array Oper} {d:Nat} {x y:Operand} {xT yT:TypeId} {m n:Int} {ty:TypeId} {pos:String} {aft:Array Edge} {rest:List Oper} (hx:ev env x=some (.int .i64 m)) (hy:ev env y=some (.int .i64 n)) (h1: -9223372036854775808≤m+n) (h2:m+n≤9223372036854775807) (hd:df d N=true)
  (k:VO P ro β N ds ops ((d,.int .i64 (m+n))::env) L rest Q):VO P ro β N ds ops env L (⟨some d,.binOp .add xT x y yT,ty,pos,aft,none⟩::rest) Q:=VO.l (LO.add (.r hx) (.r hy) (wi h1 h2)) hd k
theorem VO.t {ops:Array Oper} {d:Nat} {x y:Operand} {xT yT:TypeId} {kk:IntKind} {m n:Int} {ty:TypeId} {pos:String} {aft:Array Edge} {rest:List Oper} (h:(ev env x,ev env y,df d N)=(some (.int kk m),some (.int kk n),true))
  (k:VO P ro β N ds ops ((d,.bool (decide (m<n)))::env) L rest Q):VO P ro β N ds ops env L (⟨some d,.binOp .lss xT x y yT,ty,pos,aft,none⟩::rest) Q:=VO.l (LO.lt (.r (eY h).1) (.r (eY (eY h).2).1)) (eY (eY h).2).2 k
theorem VO.u {ops:Array Oper} {d:Nat} {x y:Operand} {xT yT:TypeId} {kk:IntKind} {m n:Int} {ty:TypeId} {pos:String} {aft:Array Edge} {rest:List Oper} (h:(ev env x,ev env y,df d N)=(some (.int kk m),some (.int kk n),true))
  (k:VO P ro β N ds ops ((d,.bool (!decide (m=n)))::env) L rest Q):VO P ro β N ds ops env L (⟨some d,.binOp .neq xT x y yT,ty,pos,aft,none⟩::rest) Q:=VO.l (LO.ne (.r (eY h).1) (.r (eY (eY h).2).1)) (eY (eY h).2).2 k
theorem VE.s {fn:Func} {R:Ending→World→Prop} {t:Nat} {v:Value} (hr:fn.results=[ResultVar.tmp t].toArray) (h:jx env t=some v) (k:∀w,St β L w→R (.returned (gF [v])) w):VE β N [] env L .ret (FP P fn R):=VE.res (vs:=[v]) hr ⟨h,trivial⟩ k
def HO (P:Program) (β:Bs) (env:Env) (L:List cq) (o:Oper) (K:Value→List cq→Prop):Prop:=
 ∀(a:Act) (w:World),(∀x,x∈o.op.operands→∀u,ev env x=some u→a.eval x=u)→St β L w→
  (∃nx w' v L',(execOp a.eval o).run P w= .ok nx w'∧(nx= .value v∨(nx= .skip∧v=undef))∧K v L'∧St β L' w')∨
  (∃f args,(execOp a.eval o).run P w= .ok (.enter f args) w∧Calls P f args w fun e w'=>∃v L',e= .returned v∧K v L'∧St β L' w')∨
  (∃l f tmps as_ bd,(execOp a.eval o).run P w= .ok (.round l f tmps as_ bd) w∧RoundIn kU 0 P l f tmps as_ bd w fun e w'=>∃v L',e= .returned v∧K v L'∧St β L' w')
theorem HO.wp {o:Oper} {a:Act} {w:World} {K:Value→List cq→Prop} {K':Act→World→Prop} (h:HO P β env L o K) (hx:∀x,x∈o.op.operands→∀u,ev env x=some u→a.eval x=u) (hw:St β L w)
  (k:∀v L' w',K v L'→St β L' w'→K' (a.put o.dst v) w'):o.wpIn (Wf ro) 0 P a w K' Q:=by
 refine⟨fun _ _=>True.intro,?_⟩
 rcases h a w hx hw with⟨nx,w',v,L',hr,hn,hk,hs⟩|⟨f,args,hr,hc⟩|⟨l,f,tmps,as_,bd,hr,hc⟩
 ·rcases hn with rfl|⟨rfl,rfl⟩
  ·have e:(o.semAt (Wf ro).round a.eval).run P w= .ok (.value v) w':=qU hr (by simp)
   rw[e];exact k _ _ _ hk hs
  ·have e:(o.semAt (Wf ro).round a.eval).run P w= .ok .skip w':=qU hr (by simp)
   rw[e];exact k _ _ _ hk hs
 ·have e:(o.semAt (Wf ro).round a.eval).run P w= .ok (.enter f args) w:=qU hr (by simp)
  rw[e]
  refine⟨fun h=>by simp [Wf,kU]at h,rv.2 (hc.mono ?_)⟩
  rintro e w' ⟨v,L',rfl,hk,hs⟩
  exact k _ _ _ hk hs
 ·have e:(o.semAt (Wf ro).round a.eval).run P w= .ok (.round l f tmps as_ bd) w:=qU hr (by simp)
  rw[e]
  refine⟨fun h=>by simp [Wf,kU]at h,JX (F:=Wf ro) (n:=0) (by exact hc) ?_⟩
  rintro e w' ⟨v,L',rfl,hk,hs⟩
  exact k _ _ _ hk hs
theorem VO.h {ops:Array Oper} {d:Nat} {op:Op} {ty:TypeId} {pos:String} {aft:Array Edge} {rest:List Oper} (hd:df d N=true) (h:HO P β env L ⟨some d,op,ty,pos,aft,none⟩ fun v L'=>VO P ro β N ds ops ((d,v)::env) L' rest Q):
  VO P ro β N ds ops env L (⟨some d,op,ty,pos,aft,none⟩::rest) Q:=by
 intro a w ha hw
 refine wpListIn_plain rfl fun K hK=>?_
 exact h.wp (fun x _ u hu=>ha.eval hu) hw fun v L' w' hk hs=>hK _ _ (hk _ w' (ha.put (bh hd) v) hs)
theorem VO.h0 {ops:Array Oper} {op:Op} {ty:TypeId} {pos:String} {aft:Array Edge} {rest:List Oper} (h:HO P β env L ⟨none,op,ty,pos,aft,none⟩ fun v L'=>VO P ro β N ds ops env L' rest Q):
  VO P ro β N ds ops env L (⟨none,op,ty,pos,aft,none⟩::rest) Q:=by
 intro a w ha hw
 refine wpListIn_plain rfl fun K hK=>?_
 exact h.wp (fun x _ u hu=>ha.eval hu) hw fun v L' w' hk hs=>hK _ _ (hk _ w' ha hs)
section
variable {K:Value→List cq→Prop} {dd:Option Nat}
theorem HO.lo {o:Oper} {v:Value} (h:LO P β env L o v) (k:K v L):HO P β env L o K:=by
 intro a w hx hw
 rcases h a w hx hw with⟨w',hr,hs⟩|⟨f,args,hr,hc⟩
 ·exact .inl ⟨_,w',v,L,hr,.inl rfl,k,hs⟩
 ·exact .inr (.inl ⟨f,args,hr,hc.mono fun e w' ⟨he,hs⟩=>⟨v,L,he,k,hs⟩⟩)
theorem HO.box {x:Operand} {T:Nat} {v:Value} {C:Array Value} (hx:ev env x=some v) (hC:v.cells=C)
  (k:∀b,K (.pointer (some ⟨b,0,none⟩)) (de b (.cells C T)::L)):HO P β env L ⟨dd,.box T x,ty,pos,aft,none⟩ K:=by
 intro a w h hw
 refine .inl ⟨_,w.alloc (.cells C T),_,_,?_,.inl rfl,k w.heap.size,hw.alloc _⟩
 simp [execOp,h x (by simp [az]) v hx,Instr.box,newVar,newRow,hC]
def cj (P:Program) (T:Nat) (z:Value):Prop:=(P.info? T).bind (·.zero)=some z
theorem mc {T:Nat} {z:Value} (hz:cj P T z) (w:World):(zeroValue T).run P w= .ok z w:=by
 unfold cj at hz
 cases hq:P.info? T with
 |none=>simp [hq]at hz
 |some i=>
  have hz':i.zero=some z:=by simpa [hq]using hz
  simp [zeroValue,typeInfo,hq,hz']
theorem HO.alloc {T:Nat} {z:Value} {C:Array Value} (hz:cj P T z) (hC:z.cells=C)
  (k:∀b,K (.pointer (some ⟨b,0,none⟩)) (de b (.cells C T)::L)):HO P β env L ⟨dd,.alloc T,ty,pos,aft,none⟩ K:=by
 intro a w h hw
 refine .inl ⟨_,w.alloc (.cells C T),_,_,?_,.inl rfl,k w.heap.size,hw.alloc _⟩
 simp [execOp,Instr.alloc,mc hz,newVar,newRow,hC]
theorem wM {w:World} {T b o:Nat} {C:Array Value} {E:TypeId} {v:Value} {vs:List Value} (hT:(P.info? T).map (·.size)=some vs.length) (hv:v.cells=vs.toArray) (hb:w.heap[b]? =some (.cells C E (0,0))) (hfit:o+vs.length≤C.size)
  (h1:∀u∈vs,u.oneCell'=true):(storeVar T ⟨b,o,none⟩ v).run P w= .ok () (w.setRow b (C.toList.take o++vs++C.toList.drop (o+vs.length)).toArray):=by
 have:=run_storeCells_at P b o E vs 0 C w hb (by simpa using hfit) h1
 simp only[ki]at this
 simp [storeVar,hv,jv hT,this]
def o5:List Value→Bool
 |[]=>true
 |v::vs=>v.oneCell'&&o5 vs
theorem pZ:∀{vs:List Value},o5 vs=true→∀u∈vs,u.oneCell'=true
 |[],_,u,hu=>by simp at hu
 |v::vs,h,u,hu=>by
  simp only[o5,aQ]at h
  rcases List.mem_cons.1 hu with rfl|hu
  ·exact h.1
  ·exact pZ h.2 u hu
theorem St.setRow {w:World} {i b:Nat} {C C':Array Value} {E:TypeId} (hw:St β L w) (hi:L[i]? =some (de b (.cells C E))):St β (L.set i (de b (.cells C' E))) (w.setRow b C'):=by
 have hb:w.heap[b]? =some (.cells C E (0,0)):=hw.inv i _ hi
 refine hw.SR (o':=.cells C' E) hi rfl ?_ ?_ ?_ rfl rfl rfl
 ·exact setRow_heap w b C C' E (0,0) hb
 ·intro k hk
  simp only[World.setRow,Array.getElem?_modify]
  rw[if_neg (by omega)]
 ·simp [World.setRow]
theorem HO.st (i:Nat) {x y:Operand} {T b o:Nat} {C:Array Value} {E:TypeId} {v:Value} {vs C':List Value} {L':List cq} (hT:(P.info? T).map (·.size)=some vs.length) (hx:ev env x=some (.pointer (some ⟨b,o,none⟩))) (hy:ev env y=some v)
  (hi:L[i]? =some (de b (.cells C E))) (hv:v.cells=vs.toArray) (hfit:rV (o+vs.length) C.size=true) (h1:o5 vs=true)
  (hC:C.toList.take o++vs++C.toList.drop (o+vs.length)=C') (hL:L.set i (de b (.cells C'.toArray E))=L')
  (k:K undef L'):HO P β env L ⟨dd,.store T x y,ty,pos,aft,none⟩ K:=by
 intro a w h hw
 have hb:w.heap[b]? =some (.cells C E (0,0)):=hw.inv i _ hi
 have hrun:=wM (P:=P) hT hv hb (bh hfit) (pZ h1)
 refine .inl ⟨.skip,w.setRow b (C.toList.take o++vs++C.toList.drop (o+vs.length)).toArray,undef,L',?_,.inr ⟨rfl,rfl⟩,k,?_⟩
 ·simp only[execOp,h x (by simp [az]) _ hx,h y (by simp [az]) _ hy,Instr.storeAt,oz,bz,cG,bw,hrun]
 ·rw[hC, ←hL]
  exact hw.setRow hi
theorem HO.call {f:FuncId} {xs:List Operand} {vs:List Value} {aT:Array TypeId} {post:Value→List cq→Prop} (hf:ef P f) (hx:B9 env xs vs)
  (hc:∀w,St β L w→Calls P f vs.toArray w fun e w'=>∃v R,e= .returned v∧post v R∧St (bs w) R w') (k:∀v R,post v R→K v (R++L)):HO P β env L ⟨dd,.call ⟨.value (.func f),xs.toArray,aT⟩,ty,pos,aft,none⟩ K:=by
 intro a w h hw
 refine .inr (.inl ⟨f,vs.toArray,?_,?_⟩)
 ·have hm:xs.map a.eval=vs:=hx.map fun x hm u hu=>by obtain⟨u',hu',e⟩:=hu;subst e;exact h x (by simp [az,eM,hm]) u' hu'
  simp [execOp,resolve,ep,mJ,invoke,re hf,hm]
 ·exact(hc w hw).mono fun e w' ⟨v,R,he,hp,hs⟩=>⟨v,R++L,he,k v R hp,hw.call hs⟩
end
end
def I2 (P:Program) (β:Bs) (ops:Array Oper) (L:List cq) (o:Oper) (env:Env) (v:Value):Prop:=
 (o.guard=none∧LO P β env L o v)∨
 (∃j want t u c v',o.guard=some (j,want)∧(ops[j]?).bind (·.dst)=some t∧jx env t=some u∧GD u want c∧(c=true→LO P β env L o v')∧v=gv c v')
def LL (P:Program) (β:Bs) (N:Nat) (ops:Array Oper) (L:List cq):List Oper→Env→Env→Prop
 |[],env,env'=>env=env'
 |o::r,env,env'=>∃d v,o.dst=some d∧d<N∧I2 P β ops L o env v∧LL P β N ops L r ((d,v)::env) env'
section
variable {P:Program} {ro:Option Nat} {β:Bs} {ds:List Deferred} {N:Nat} {ops:Array Oper} {L:List cq} {env env':Env}
theorem LL.nil:LL P β N ops L [] env env:=rfl
theorem LL.l {d:Nat} {op:Op} {ty:TypeId} {pos:String} {aft:Array Edge} {rest:List Oper} {v:Value} (h:LO P β env L ⟨some d,op,ty,pos,aft,none⟩ v) (hd:df d N=true)
  (k:LL P β N ops L rest ((d,v)::env) env'):LL P β N ops L (⟨some d,op,ty,pos,aft,none⟩::rest) env env':=
 ⟨d,v,rfl,bh hd,.inl ⟨rfl,h⟩,k⟩
theorem LL.lg {d j t:Nat} {want c:Bool} {op:Op} {ty:TypeId} {pos:String} {aft:Array Edge} {rest:List Oper} {v u:Value} (hj:(ops[j]?).bind (·.dst)=some t) (ht:jx env t=some u) (hg:GD u want c)
  (h:c=true→LO P β env L ⟨some d,op,ty,pos,aft,some (j,want)⟩ v) (hd:df d N=true)
  (k:LL P β N ops L rest ((d,gv c v)::env) env'):LL P β N ops L (⟨some d,op,ty,pos,aft,some (j,want)⟩::rest) env env':=
 ⟨d,gv c v,rfl,bh hd,.inr ⟨j,want,t,u,c,v,rfl,hj,ht,hg,h,rfl⟩,k⟩
theorem LL.m {d:Nat} {x:Operand} {ty:TypeId} {pos:String} {aft:Array Edge} {rest:List Oper} {v:Value} (h:(ev env x,df d N)=(some v,true))
  (k:LL P β N ops L rest ((d,v)::env) env'):LL P β N ops L (⟨some d,.move x,ty,pos,aft,none⟩::rest) env env':=LL.l (LO.mv (.r (eY h).1)) (eY h).2 k
theorem LL.gt {d j t:Nat} {c:Bool} {op:Op} {ty:TypeId} {pos:String} {aft:Array Edge} {rest:List Oper} {v:Value} (hj:((ops[j]?).bind (·.dst),jx env t,df d N)=(some t,some (.bool c),true))
  (h:c=true→LO P β env L ⟨some d,op,ty,pos,aft,some (j,true)⟩ v) (k:LL P β N ops L rest ((d,gv c v)::env) env'):LL P β N ops L (⟨some d,op,ty,pos,aft,some (j,true)⟩::rest) env env':=LL.lg (eY hj).1 (eY (eY hj).2).1 (GD.t c) h (eY (eY hj).2).2 k
theorem LL.gf {d j t:Nat} {c:Bool} {op:Op} {ty:TypeId} {pos:String} {aft:Array Edge} {rest:List Oper} {v:Value} (hj:((ops[j]?).bind (·.dst),jx env t,df d N)=(some t,some (.bool c),true))
  (h:(!c)=true→LO P β env L ⟨some d,op,ty,pos,aft,some (j,false)⟩ v) (k:LL P β N ops L rest ((d,gv (!c) v)::env) env'):LL P β N ops L (⟨some d,op,ty,pos,aft,some (j,false)⟩::rest) env env':=LL.lg (eY hj).1 (eY (eY hj).2).1 (GD.f c) h (eY (eY hj).2).2 k
end
def akU (x:Nat) (s:List Nat):List Nat:=bif s.any (eV x) then s else x::s
def afi (acc:List (List Nat)) (o:Oper):List (List Nat):=
 acc++[(o.after.toList.flatMap fun e=>if dq .any e then e.on::acc.getD e.on [] else[]).foldr akU []]
def ji (ops:List Oper):List (List Nat):=ops.foldl afi []
def iM (ops:Array Oper) (o:Oper):List Nat:=
 (o.op.operands.toList.filterMap fun| .tmp t=>some t|_=>none)++(match o.guard with|some (j,_)=>(((ops[j]?).bind (·.dst)).toList)|none=>[])
def idxs (n:Nat):List Nat:=br n
def eA (l:List Oper) (i t:Nat):Bool:=match l[i]? with|some o=>(match o.dst with|some d=>eV d t|none=>false)|none=>false
def Mh (l:List Oper):Bool:=
  let cl:=ji l
  let n:=l.length
  (idxs n).all fun k=>
    match l[k]? with
    |none=>false
    |some o=>
      o.after.toList.all (fun e=> !dq .any e||df e.on k)&&
      (cl.getD k []).all (fun i=>o.after.toList.any fun e=>dq .any e&&(eV e.on i||(cl.getD e.on []).contains i))&&
      o.after.toList.all (fun e=> !dq .any e||(cl.getD k []).contains e.on)&&
      (match o.dst with
       |none=>false
       |some d=>(idxs n).all fun i=> !eA l i d|| !df i k||(cl.getD k []).contains i)&&
      (iM l.toArray o).all fun t=>(idxs n).all fun i=> !eA l i t||(if df i k then(cl.getD k []).contains i else if df k i then(cl.getD i []).contains k else true)
section
variable {P:Program} {ro:Option Nat} {β:Bs} {ds:List Deferred} {N:Nat} {L:List cq}
theorem LL.Uf {ops:Array Oper}:∀{l:List Oper} {env env':Env},LL P β N ops L l env env'→
  ∃vs:List (Nat×Value),vs.length=l.length∧env'=vs.reverse++env∧∀k o,l[k]? =some o→∃d v,vs[k]? =some (d,v)∧o.dst=some d∧d<N∧I2 P β ops L o ((vs.take k).reverse++env) v
 |[],env,env',h=>⟨[],rfl,by simpa using h.symm,by simp⟩
 |o::r,env,env',⟨d,v,hd,hN,hok,hr⟩=>by
  obtain⟨vs,h1,h2,h3⟩:=LL.Uf hr
  refine⟨(d,v)::vs,by simp [h1],by simp [h2],?_⟩
  intro k o' hk
  cases k with
  |zero=>simp at hk;subst hk;exact⟨d,v,by simp,hd,hN,by simpa using hok⟩
  |succ k=>
   simp at hk
   obtain⟨d',v',g1,g2,g3,g4⟩:=h3 k o' hk
   exact⟨d',v',by simpa using g1,g2,g3,by simpa using g4⟩
theorem yI (vs:List (Nat×Value)) (env:Env) (t:Nat) (u:Value):∀k,jx ((vs.take k).reverse++env) t=some u→
  (∃i v,i<k∧vs[i]? =some (t,v)∧v=u∧∀i' x,i<i'→i'<k→vs[i']? =some x→x.1≠t)∨((∀i x,i<k→vs[i]? =some x→x.1≠t)∧jx env t=some u)
 |0,h=>.inr ⟨fun i x hi=>by omega,by simpa using h⟩
 |k+1,h=>by
  cases hk:vs[k]? with
  |none=>
   have hl:vs.length≤k:=by simpa using hk
   have e:vs.take (k+1)=vs.take k:=by rw[dK (by omega),dK hl]
   rw[e]at h
   rcases yI vs env t u k h with⟨i,v,h1,h2,h3,h4⟩|⟨h1,h2⟩
   ·exact .inl ⟨i,v,by omega,h2,h3,fun i' x a b c=>h4 i' x a (by
     rcases aK i' k with q|q
     ·exact q
     ·have:i'=k:=by omega
      subst this;rw[hk]at c;cases c) c⟩
   ·exact .inr ⟨fun i x a b=>h1 i x (by
     rcases aK i k with q|q
     ·exact q
     ·have:i=k:=by omega
      subst this;rw[hk]at b;cases b) b,h2⟩
  |some x=>
   obtain⟨d,v⟩:=x
   have e:vs.take (k+1)=vs.take k++[(d,v)]:=by
    have hl:k<vs.length:=by
     rcases aK k vs.length with q|q
     ·exact q
     ·simp [aH q]at hk
    rw[cT hl]
    have:vs[k]=(d,v):=by simpa [af hl]using hk
    rw[this]
   rw[e,List.reverse_append,List.append_assoc]at h
   by_cases hd:t=d
   ·subst hd
    simp only[uB,jL]at h
    rw[fE]at h
    exact .inl ⟨k,v,by omega,hk,by simpa using h,fun i' x a b=>by omega⟩
   ·simp only[uB,jL]at h
    rw[eN hd]at h
    rcases yI vs env t u k h with⟨i,v',h1,h2,h3,h4⟩|⟨h1,h2⟩
    ·refine .inl ⟨i,v',by omega,h2,h3,fun i' x a b c=>?_⟩
     by_cases q:i'=k
     ·subst q;rw[hk]at c;cases c;exact fun e=>hd e.symm
     ·exact h4 i' x a (by omega) c
    ·refine .inr ⟨fun i x a b=>?_,h2⟩
     by_cases q:i=k
     ·subst q;rw[hk]at b;cases b;exact fun e=>hd e.symm
     ·exact h1 i x (by omega) b
structure A3 (N:Nat) (ds:List Deferred) (β:Bs) (L:List cq) (cl:List (List Nat)) (vs:List (Nat×Value)) (env:Env) (listed:Array Bool) (a:Act) (w:World):Prop where
 vg:listed.size=vs.length
 size:a.tmps.size=N
 xB:a.defers=ds
 st:St β L w
 closed:∀j,listed[j]? =some true→∀i,i∈cl.getD j []→listed[i]? =some true
 top:∀t k v,vs[k]? =some (t,v)→listed[k]? =some true→(∀(k':Nat) (x:Nat×Value),vs[k']? =some x→x.1=t→listed[k']? =some true→k'≤k)→a.tmps[t]? =some v
 base:∀t,(∀(k:Nat) (x:Nat×Value),vs[k]? =some x→x.1=t→listed[k]? ≠some true)→∀v,jx env t=some v→a.tmps[t]? =some v
theorem A3.end_ {cl:List (List Nat)} {vs:List (Nat×Value)} {env:Env} {listed:Array Bool} {a:Act} {w:World} (h:A3 N ds β L cl vs env listed a w) (hall:∀k,k<vs.length→listed[k]? =some true):Ag N ds (vs.reverse++env) a:=by
 refine⟨h.size,h.xB,fun t u hu=>?_⟩
 have hu':jx ((vs.take vs.length).reverse++env) t=some u:=by simpa using hu
 have lt_of:∀{k:Nat} {x:Nat×Value},vs[k]? =some x→k<vs.length:=fun {k x} hx=>by
  rcases aK k vs.length with q|q
  ·exact q
  ·simp [aH q]at hx
 rcases yI vs env t u vs.length hu' with⟨i,v,h1,h2,rfl,h4⟩|⟨h1,h2⟩
 ·refine h.top t i v h2 (hall i h1) fun k' x hx hxt _=>?_
  rcases aK i k' with q|q
  ·exact absurd hxt (h4 k' x q (lt_of hx) hx)
  ·exact q
 ·exact h.base t (fun k x hx hxt=>absurd hxt (h1 k x (lt_of hx) hx)) u h2
theorem yM {l:List Oper} (h:Mh l=true) {k:Nat} {o:Oper} (hk:l[k]? =some o):
  (∀e,e∈o.after.toList→dq .any e=true→e.on<k)∧
  (∀i,i∈(ji l).getD k []→∃e,e∈o.after.toList∧dq .any e=true∧(e.on=i∨i∈(ji l).getD e.on []))∧
  (∀e,e∈o.after.toList→dq .any e=true→e.on∈(ji l).getD k [])∧
  (∃d,o.dst=some d∧∀i,i<k→eA l i d=true→i∈(ji l).getD k [])∧
  (∀t,t∈iM l.toArray o→∀i,i<l.length→eA l i t=true→(i<k→i∈(ji l).getD k [])∧(k<i→k∈(ji l).getD i [])):=by
 have hlt:k<l.length:=by
  rcases aK k l.length with q|q
  ·exact q
  ·simp [aH q]at hk
 have h1:=bF.1 h k (by simpa [idxs]using hlt)
 simp only[hk,aQ]at h1
 obtain⟨⟨⟨⟨a1,a2⟩,a3⟩,a4⟩,a5⟩:=h1
 refine⟨?_,?_,?_,?_,?_⟩
 ·intro e he hb
  have:=bF.1 a1 e he
  simp only[hb,fb,fo]at this
  exact bh this
 ·intro i hi
  have:=bF.1 a2 i hi
  obtain⟨e,he,hx⟩:=eG.1 this
  simp only[aQ,fj]at hx
  exact⟨e,he,hx.1,hx.2.imp bO (by simp)⟩
 ·intro e he hb
  have:=bF.1 a3 e he
  simpa [hb]using this
 ·cases hd:o.dst with
  |none=>simp [hd]at a4
  |some d=>
   simp only[hd]at a4
   refine⟨d,rfl,fun i hi hw=>?_⟩
   have:=bF.1 a4 i (by simp [idxs];omega)
   have hb:df i k=true:=di hi
   simpa [hw,hb]using this
 ·intro t ht i hil hw
  have:=bF.1 (bF.1 a5 t ht) i (by simpa [idxs]using hil)
  simp only[hw,fb,fo]at this
  refine⟨fun hi=>?_,fun hi=>?_⟩
  ·have hb:df i k=true:=di hi
   simpa [hb]using this
  ·have hb:df k i=true:=di hi
   have hb':df i k=false:=by
    cases q:df i k
    ·rfl
    ·have:=bh q;omega
   simpa [hb,hb']using this
theorem filter_lt {p q:Nat→Bool} {i:Nat} (h:∀k,p k=true→q k=true):∀{l:List Nat},i∈l→q i=true→p i=false→(l.filter p).length<(l.filter q).length
 |[],hi,_,_=>by simp at hi
 |x::l,hi,hq,hp=>by
  have le:∀l:List Nat,(l.filter p).length≤(l.filter q).length:=by
   intro l
   induction l with
   |nil=>simp
   |cons y l ih=>
    simp only[iN]
    by_cases hy:p y=true
    ·simp [hy,h y hy];omega
    ·simp only[uq]at hy
     rw[if_neg (by simp [hy])]
     split
     ·simp only[gh];omega
     ·exact ih
  simp only[iN]
  rcases List.mem_cons.1 hi with rfl|hi
  ·rw[if_neg (by simp [hp]),if_pos hq]
   have:=le l
   simp;omega
  ·have ih:=filter_lt h hi hq hp
   by_cases hy:p x=true
   ·simp [hy,h x hy];omega
   ·simp only[uq]at hy
    rw[if_neg (by simp [hy])]
    split
    ·simp only[gh];omega
    ·exact ih
theorem bL {listed:Array Bool} {i j:Nat} (hi:i<listed.size):(listed.setIfInBounds i true)[j]? =some true↔j=i∨listed[j]? =some true:=by
 by_cases e:j=i
 ·subst e;simp [hi]
 ·rw[aS (eD e)];simp [e]
theorem A3.step {l:List Oper} {Q:Exit→Act→World→Prop} {vs:List (Nat×Value)} {env:Env} {listed:Array Bool} {a:Act} {w:World} (hc:Mh l=true) (hlen:vs.length=l.length)
  (hp:∀k o,l[k]? =some o→∃d v,vs[k]? =some (d,v)∧o.dst=some d∧d<N∧I2 P β l.toArray L o ((vs.take k).reverse++env) v)
  (h:A3 N ds β L (ji l) vs env listed a w) {i:Nat} (hi:i∈dr .any l.toArray listed) {K:Act→World→Prop}
  (hK:∀a' w',A3 N ds β L (ji l) vs env (listed.setIfInBounds i true) a' w'→K a' w'):wpOpIn (Wf ro) 0 P l.toArray Q i K a w:=by
 simp only[dr,bK,bf,aQ,bR]at hi
 obtain⟨hin,hnl,hready⟩:=hi
 have hil:i<l.length:=by simpa using hin
 have hiz:i<listed.size:=by rw[h.vg,hlen];exact hil
 obtain⟨o,ho⟩:∃o,l[i]? =some o:=⟨l[i],by simp [hil]⟩
 have hnot:listed[i]? ≠some true:=by
  intro e
  have:listed.getD i true=true:=by simp [e]
  rw[this]at hnl;cases hnl
 have hdone:∀e,e∈o.after.toList→dq .any e=true→listed[e.on]? =some true:=by
  intro e he hb
  have h1:(o.after.all fun e=> !dq .any e||listed.getD e.on false)=true:=by simpa [ho]using hready
  have h2:=(dW.1 h1) e (by simpa using he)
  simp only[hb,fb,fo]at h2
  cases q:listed[e.on]? with
  |none=>simp [q]at h2
  |some b=>simp [q]at h2;rw[h2]
 obtain⟨c1,c2,c3,⟨d,hd,c4⟩,c5⟩:=yM hc ho
 have hcl:∀j,j∈(ji l).getD i []→listed[j]? =some true:=by
  intro j hj
  obtain⟨e,he,hb,hx⟩:=c2 j hj
  rcases hx with rfl|hx
  ·exact hdone e he hb
  ·exact h.closed _ (hdone e he hb) j hx
 obtain⟨d',v,hv,hd',hdN,hok⟩:=hp i o ho
 have:d'=d:=by rw[hd]at hd';exact(gV hd').symm
 subst this
 have dst_of:∀{k:Nat} {x:Nat×Value},vs[k]? =some x→k<l.length∧eA l k x.1=true:=by
  intro k x hx
  have hk:k<l.length:=by
   rcases aK k l.length with q|q
   ·exact q
   ·rw[aH (by omega)]at hx;cases hx
  obtain⟨d2,v2,g1,g2,_⟩:=hp k l[k] (by simp [hk])
  rw[hx]at g1
  cases g1
  exact⟨hk,by simp [eA,hk,g2]⟩
 have reads:∀t,t∈iM l.toArray o→∀u,jx ((vs.take i).reverse++env) t=some u→a.tmps[t]? =some u:=by
  intro t ht u hu
  have late:∀(k':Nat) (x:Nat×Value),vs[k']? =some x→x.1=t→listed[k']? =some true→k'<i:=by
   intro k' x hx hxt hl
   obtain⟨hk,hw⟩:=dst_of hx
   rw[hxt]at hw
   rcases e9 k' i with q|q|q
   ·exact q
   ·subst q;exact absurd hl hnot
   ·exact absurd (h.closed k' hl i ((c5 t ht k' hk hw).2 q)) hnot
  rcases yI vs env t u i hu with⟨k,v',h1,h2,rfl,h4⟩|⟨h1,h2⟩
  ·obtain⟨hk,hw⟩:=dst_of h2
   refine h.top t k v' h2 (hcl k ((c5 t ht k hk hw).1 h1)) fun k' x hx hxt hl=>?_
   rcases aK k k' with q|q
   ·exact absurd hxt (h4 k' x q (late k' x hx hxt hl) hx)
   ·exact q
  ·exact h.base t (fun k x hx hxt hl=>h1 k x (late k x hx hxt hl) hx hxt) u h2
 have fin:∀w',St β L w'→A3 N ds β L (ji l) vs env (listed.setIfInBounds i true) (a.put (some d') v) w':=by
  intro w' hs
  refine⟨by simp [h.vg],by simp [eK,h.size],h.xB,hs,?_,?_,?_⟩
  ·intro j hj k hk
   rw[bL hiz]at hj ⊢
   rcases hj with rfl|hj
   ·exact .inr (hcl k hk)
   ·exact .inr (h.closed j hj k hk)
  ·intro t k u hk hl hmax
   by_cases e:t=d'
   ·subst e
    have hki:k=i:=by
     have g:=hmax i (t,v) hv rfl ((bL hiz).2 (.inl rfl))
     rcases aK i k with q|q
     ·exfalso
      obtain⟨hkl,hw⟩:=dst_of hk
      have hl':listed[k]? =some true:=by
       rcases(bL hiz).1 hl with e|e
       ·omega
       ·exact e
      obtain⟨_,_,_,⟨d3,hd3,c4'⟩,_⟩:=yM hc (k:=k) (o:=l[k]) (by simp [hkl])
      have hdk:d3=t:=by
       simp only[eA,af hkl,hd3]at hw
       exact bO hw
      have hwi:eA l i d3=true:=by have:=(dst_of hv).2;rw[hdk];exact this
      exact hnot (h.closed k hl' i (c4' i q hwi))
     ·omega
    subst hki
    rw[hv]at hk
    cases hk
    simp [eK,h.size,hdN]
   ·have hki:k≠i:=fun q=>by subst q;rw[hv]at hk;cases hk;exact e rfl
    simp only[eK]
    rw[aS (eD e)]
    refine h.top t k u hk ?_ fun k' x hx hxt hl'=>hmax k' x hx hxt ((bL hiz).2 (.inr hl'))
    rcases(bL hiz).1 hl with q|q
    ·exact absurd q hki
    ·exact q
  ·intro t hno u hu
   have e:t≠d':=fun q=>hno i (d',v) hv q.symm ((bL hiz).2 (.inl rfl))
   simp only[eK]
   rw[aS (eD e)]
   exact h.base t (fun k x hx hxt hl=>hno k x hx hxt ((bL hiz).2 (.inr hl))) u hu
 unfold wpOpIn
 have ho':l.toArray[i]? =some o:=by simpa using ho
 simp only[ho']
 have opr:∀x,x∈o.op.operands→∀u,ev ((vs.take i).reverse++env) x=some u→a.eval x=u:=by
  intro x hx u hu
  cases x with
  |tmp t=>
   have:=reads t (dg _ (iy.2 ⟨.tmp t,by simpa using hx,rfl⟩)) u hu
   simp [ep,this]
  |const c=>simpa [ev,ep]using hu
  |global g=>simpa [ev,ep]using hu
  |func f=>simpa [ev,ep]using hu
 rcases hok with⟨hg,hlo⟩|⟨j,want,t,u,c,v',hg,hj,ht,hgd,hlo,rfl⟩
 ·rw[if_pos (by simp [gk,hg])]
  have:=(hlo a w opr h.st).wp (ro:=ro) (Q:=Q) (K:=K) fun w' hs=>by rw[hd];exact hK _ _ (fin w' hs)
  exact this
 ·have ht':a.tmps[t]? =some u:=reads t (eX _ (by rw[hg];show t∈((l.toArray[j]?).bind (·.dst)).toList;rw[hj];simp)) u ht
  have hy:yielded l.toArray a.tmps j=vb u:=by
   unfold yielded;rw[hj];simp only[ll,ht'];cases u<;>rfl
  simp only[gk,hg,hy]
  cases c with
  |true=>
   have hu:=hgd.1 rfl
   subst hu
   simp only[vb,beq_self_eq_true,if_true]
   have:=(hlo rfl a w opr h.st).wp (ro:=ro) (Q:=Q) (K:=K) fun w' hs=>by
    rw[hd]
    have:=fin w' hs
    rw[show gv true v'=v' from rfl]at this
    exact hK _ _ this
   exact this
  |false=>
   have hu:=hgd.2 rfl
   have hne:=O7 hu
   simp only[hne,bP,if_false]
   have:=fin w h.st
   rw[show gv false v'=undef from rfl]at this
   rw[hd]
   exact⟨fun _ _=>True.intro,hK _ _ this⟩
theorem VC.draw {env env':Env} {id:Nat} {l:List Oper} {Q:Exit→Act→World→Prop} (hm:P.follows .mixedOrders=true) (h:LL P β N l.toArray L l env env') (hc:Mh l=true) (k:VE β N ds env' L .normal Q):
  VC P ro β N ds env L (.region id l.toArray true) Q:=by
 intro a w ha hw
 obtain⟨vs,h1,rfl,h3⟩:=h.Uf
 refine wpIn_region_any hm ?_
 have key:∀fuel listed a w,A3 N ds β L (ji l) vs env listed a w→(∀k,k<vs.length→listed[k]? ≠some true→0<fuel)→((br vs.length).filter fun k=> !(listed[k]? ==some true)).length≤fuel→wpAnyIn (Wf ro) 0 P .any l.toArray Q fuel listed a w:=by
  intro fuel
  induction fuel with
  |zero=>
   intro listed a w hI h0 _
   have hall:∀k,k<vs.length→listed[k]? =some true:=fun k hk=>eR fun hn=>by have:=h0 k hk hn;omega
   refine⟨?_,k _ _ (hI.end_ hall) hI.st⟩
   simp only[dr,ff,bf,aQ,bR,not_and]
   intro i hi hf
   have:=hall i (by rw[h1];simpa using hi)
   simp [this]at hf
  |succ fuel ih=>
   intro listed a w hI h0 hcnt
   refine⟨fun hr=>?_,fun i hi=>?_⟩
   ·refine k _ _ (hI.end_ ?_) hI.st
    have:∀n k,k=n→k<vs.length→listed[k]? =some true:=by
     intro n
     induction n using jU with
     |_ n ihn=>
      rintro k rfl hk
      refine eR fun hn=>?_
      have hkl:k<l.length:=by omega
      have hnm:k∉dr .any l.toArray listed:=by rw[hr];simp
      apply hnm
      simp only[dr,bK,bf,aQ,bR]
      refine⟨by simpa using hkl,?_,?_⟩
      ·cases q:listed[k]? with
       |none=>
        have:k<listed.size:=by rw[hI.vg];exact hk
        simp [this]at q
       |some b=>cases b with
        |true=>exact absurd q hn
        |false=>simp [q]
      ·have hok:l.toArray[k]? =some l[k]:=by simp [hkl]
       simp only[hok,dH,dk]
       refine dW.2 fun e he=>?_
       cases hb:dq .any e with
       |false=>rfl
       |true=>
        have hlt:=(yM hc (k:=k) (o:=l[k]) (by simp [hkl])).1 e (by simpa using he) hb
        have:=ihn e.on hlt e.on rfl (by omega)
        simp [this]
    exact fun k hk=>this k k rfl hk
   ·refine hI.step hc h1 h3 hi fun a' w' hI'=>ih _ _ _ hI' ?_ ?_
    ·intro k hk hn
     rcases eO fuel with e|e
     ·exfalso
      subst e
      simp only[dr,bK,bf,aQ,bR]at hi
      have hiz:i<listed.size:=by rw[hI.vg,h1];simpa using hi.1
      rw[Ne,bL hiz,not_or]at hn
      have hni:listed[i]? ≠some true:=fun e=>by have h2:=hi.2.1;simp [e]at h2
      have hil:i<vs.length:=by rw[h1];simpa using hi.1
      have m1:i∈(br vs.length).filter fun k=> !(listed[k]? ==some true):=by simp [hil,hni]
      have m2:k∈(br vs.length).filter fun k=> !(listed[k]? ==some true):=by simp [hk,hn.2]
      match hf:(br vs.length).filter fun k=> !(listed[k]? ==some true),hcnt with
      |[],_=>rw[hf]at m1;simp at m1
      |[x],_=>rw[hf]at m1 m2;simp at m1 m2;exact hn.1 (by omega)
      |_::_::_,hcnt=>simp at hcnt
     ·exact e
    ·simp only[dr,bK,bf,aQ,bR]at hi
     have hiz:i<listed.size:=by rw[hI.vg,h1];simpa using hi.1
     have hni:listed[i]? ≠some true:=fun e=>by have h2:=hi.2.1;simp [e]at h2
     have hil:i<vs.length:=by rw[h1];simpa using hi.1
     have hlt:((br vs.length).filter fun k=> !((listed.setIfInBounds i true)[k]? ==some true)).length<((br vs.length).filter fun k=> !(listed[k]? ==some true)).length:=by
      refine filter_lt (i:=i) ?_ (by simp [hil]) ?_ ?_
      ·intro k hk
       simp only[bR,beq_eq_false_iff_ne,ne_eq]at hk ⊢
       exact fun e=>hk ((bL hiz).2 (.inr e))
      ·simpa using hni
      ·simp [hiz]
     omega
 refine key _ _ _ _ ⟨by simp [h1],ha.size,ha.xB,hw.drew _,?_,?_,?_⟩ ?_ ?_
 ·intro j hj
  simp [dN]at hj
 ·intro t k v hk hl
  simp [dN]at hl
 ·intro t _ v hv
  exact ha.get t v hv
 ·intro k hk _
  rw[h1]at hk
  simpa using kG (bG _) hk
 ·refine eL (cH _ _) ?_
  simp [h1]
end
def emp:cq:=⟨fun _=>False,fun _=>True,fun _ _=>True.intro⟩
def fO (L:List cq) (is:List Nat):List cq:=is.map fun i=>L.getD i emp
section
variable {P:Program} {ro:Option Nat} {β:Bs} {ds:List Deferred} {N:Nat} {L L':List cq} {Q:Exit→Act→World→Prop}
theorem St.map {w:World} (f:Nat→Nat) (h:St β L w) (hf:∀j l,j≠l→j<L'.length→l<L'.length→f j≠f l) (hg:∀j r,L'[j]? =some r→r=emp∨L[f j]? =some r):St β L' w:=by
 have lt:∀(j:Nat) (r:cq),L'[j]? =some r→j<L'.length:=fun j r hr=>by
  rcases aK j L'.length with q|q
  ·exact q
  ·simp [aH q]at hr
 refine⟨h.os,h.tape,h.output,h.size,h.fr,?_,?_,?_⟩
 ·intro j r hr
  rcases hg j r hr with rfl|hr'
  ·exact True.intro
  ·exact h.inv _ r hr'
 ·intro j r hr k hk
  rcases hg j r hr with rfl|hr'
  ·exact hk.elim
  ·exact h.pM _ r hr' k hk
 ·intro j l r s hjl hr hs k hk hk'
  rcases hg j r hr with rfl|hr'
  ·exact hk
  ·rcases hg l s hs with rfl|hs'
   ·exact hk'
   ·exact h.wG _ _ r s (hf j l hjl (lt j r hr) (lt l s hs)) hr' hs' k hk hk'
def lD:List Nat→Bool
 |[]=>true
 |x::xs=> !xs.contains x&&lD xs
theorem pX:∀{l:List Nat},lD l=true→∀(i j:Nat) (hi:i<l.length) (hj:j<l.length),i≠j→l[i]≠l[j]
 |[],_,i,j,hi,_,_=>by simp at hi
 |x::xs,h,i,j,hi,hj,hij=>by
  simp only[lD,aQ,bR]at h
  have hx:∀k (hk:k<xs.length),xs[k]≠x:=fun k hk e=>by
   have:xs.contains x=true:=by simp only[List.contains_iff_mem];exact e ▸ fv hk
   rw[h.1]at this;cases this
  cases i with
  |zero=>
   cases j with
   |zero=>exact absurd rfl hij
   |succ j=>simp at hj ⊢;exact(hx j hj).symm
  |succ i=>
   cases j with
   |zero=>simp at hi ⊢;exact hx i hi
   |succ j=>simp at hi hj ⊢;exact pX h.2 i j hi hj (by omega)
theorem St.fO {w:World} (is:List Nat) (h:St β L w) (hn:lD is=true):St β (fO L is) w:=by
 refine h.map (fun j=>is.getD j 0) ?_ ?_
 ·intro j l hjl hj hl e
  simp [Go.SL.fO]at hj hl
  have:=pX hn j l hj hl hjl
  simp [jw,af hj,af hl]at e
  exact this e
 ·intro j r hr
  simp only[Go.SL.fO,aw]at hr
  cases q:is[j]? with
  |none=>simp [q]at hr
  |some i=>
   simp only[q,dH,oh]at hr
   simp only[jw,q,dk]
   cases q':L[i]? with
   |none=>simp [jw,q']at hr;exact .inl hr.symm
   |some r'=>simp [jw,q']at hr;subst hr;exact .inr rfl
theorem St.Yr {w:World} {is js:List Nat} (h:St β (Go.SL.fO L is) w) (hn:lD js=true) (hs:js.all is.contains=true):St β (Go.SL.fO L js) w:=by
 have hidx:∀j,j<js.length→∃i,i<is.length∧is[i]? =js[j]? :=by
  intro j hj
  have:=bF.1 hs js[j] (fv hj)
  have hm:js[j]∈is:=by simpa using this
  obtain⟨i,hi,e⟩:=List.getElem_of_mem hm
  exact⟨i,hi,by simp [hi,hj,e]⟩
 let f:Nat→Nat:=fun j=>if hj:j<js.length then(hidx j hj).choose else 0
 have hf:∀j,j<js.length→f j<is.length∧is[f j]? =js[j]? :=by
  intro j hj
  have:=(hidx j hj).choose_spec
  simp only[f,hj,dif_pos]
  exact this
 refine h.map f ?_ ?_
 ·intro j l hjl hj hl e
  simp [Go.SL.fO]at hj hl
  have h1:=(hf j hj).2
  have h2:=(hf l hl).2
  rw[e,h2]at h1
  have:=pX hn j l hj hl hjl
  simp [af hj,af hl]at h1
  exact this h1.symm
 ·intro j r hr
  have hj:j<js.length:=by
   rcases aK j js.length with q|q
   ·exact q
   ·simp [Go.SL.fO,aH q]at hr
  right
  simp only[Go.SL.fO,aw]at hr ⊢
  rw[(hf j hj).2]
  exact hr
end
def LX (P:Program) (β:Bs) (N:Nat) (ops:Array Oper) (J:Nat→List cq):List Oper→List (Option Nat)→Env→Env→Prop
 |[],_,env,env'=>env=env'
 |o::r,none::ms,env,env'=>LX P β N ops J r ms env env'
 |o::r,some m::ms,env,env'=>∃d v,o.dst=some d∧d<N∧(∀L,(∀w,St β L w→St β (J m) w)→I2 P β ops L o env v)∧LX P β N ops J r ms ((d,v)::env) env'
 |_::_,[],_,_=>False
def oo (o:Oper) (v:Value) (env:Env):Env:=match o.dst with|some d=>(d,v)::env|none=>env
def HX (P:Program) (β:Bs) (N:Nat) (ds:List Deferred) (J:Nat→List cq) (Q:Exit→Act→World→Prop):Nat→List Oper→List (Option Nat)→Env→List cq→Prop
 |_,[],_,env,L=>VE β N ds env L .normal Q
 |m,o::r,some _::ms,env,L=>HX P β N ds J Q m r ms env L
 |m,o::r,none::ms,env,L=>o.guard=none∧(∀d,o.dst=some d→d<N)∧HO P β env L o fun v L'=>(∀w,St β L' w→St β (J (m+1)) w)∧HX P β N ds J Q (m+1) r ms (oo o v env) L'
 |_,_::_,[],_,_=>False
section
variable {P:Program} {ro:Option Nat} {β:Bs} {ds:List Deferred} {N:Nat} {ops:Array Oper} {J:Nat→List cq} {Q:Exit→Act→World→Prop} {env env':Env} {L:List cq}
theorem LX.nil {ms:List (Option Nat)}:LX P β N ops J [] ms env env:=rfl
theorem LX.s {o:Oper} {rest:List Oper} {ms:List (Option Nat)} (k:LX P β N ops J rest ms env env'):LX P β N ops J (o::rest) (none::ms) env env':=k
theorem LX.l {m:Nat} {ms:List (Option Nat)} {d:Nat} {op:Op} {ty:TypeId} {pos:String} {aft:Array Edge} {rest:List Oper} {v:Value} (h:∀L,(∀w,St β L w→St β (J m) w)→LO P β env L ⟨some d,op,ty,pos,aft,none⟩ v) (hd:df d N=true)
  (k:LX P β N ops J rest ms ((d,v)::env) env'):LX P β N ops J (⟨some d,op,ty,pos,aft,none⟩::rest) (some m::ms) env env':=
 ⟨d,v,rfl,bh hd,fun L hL=>.inl ⟨rfl,h L hL⟩,k⟩
theorem LX.m {m:Nat} {ms:List (Option Nat)} {d:Nat} {x:Operand} {ty:TypeId} {pos:String} {aft:Array Edge} {rest:List Oper} {v:Value} (h:(ev env x,df d N)=(some v,true))
  (k:LX P β N ops J rest ms ((d,v)::env) env'):LX P β N ops J (⟨some d,.move x,ty,pos,aft,none⟩::rest) (some m::ms) env env':=LX.l (fun _ _=>LO.mv (.r (eY h).1)) (eY h).2 k
theorem HX.nil {m:Nat} {ms:List (Option Nat)} (h:VE β N ds env L .normal Q):HX P β N ds J Q m [] ms env L:=h
theorem HX.s {m i:Nat} {o:Oper} {rest:List Oper} {ms:List (Option Nat)} (k:HX P β N ds J Q m rest ms env L):HX P β N ds J Q m (o::rest) (some i::ms) env L:=k
theorem HX.h {m:Nat} {ms:List (Option Nat)} {d:Nat} {op:Op} {ty:TypeId} {pos:String} {aft:Array Edge} {rest:List Oper} (hd:df d N=true)
  (h:HO P β env L ⟨some d,op,ty,pos,aft,none⟩ fun v L'=>(∀w,St β L' w→St β (J (m+1)) w)∧HX P β N ds J Q (m+1) rest ms ((d,v)::env) L'):HX P β N ds J Q m (⟨some d,op,ty,pos,aft,none⟩::rest) (none::ms) env L:=
 ⟨rfl,fun d' e=>by cases e;exact bh hd,h⟩
theorem HX.h0 {m:Nat} {ms:List (Option Nat)} {op:Op} {ty:TypeId} {pos:String} {aft:Array Edge} {rest:List Oper}
  (h:HO P β env L ⟨none,op,ty,pos,aft,none⟩ fun v L'=>(∀w,St β L' w→St β (J (m+1)) w)∧HX P β N ds J Q (m+1) rest ms env L'):HX P β N ds J Q m (⟨none,op,ty,pos,aft,none⟩::rest) (none::ms) env L:=
 ⟨rfl,fun d' e=>(by cases e),h⟩
end
def cN (ms:List (Option Nat)) (i:Nat):Bool:=match ms[i]? with|some (some _)=>true|_=>false
def fm (ms:List (Option Nat)) (i:Nat):Bool:=match ms[i]? with|some none=>true|_=>false
def jZ (ms:List (Option Nat)) (i:Nat):Nat:=((ms.take i).filter fun x=>x.isNone).length
def ahead (ms:List (Option Nat)) (i k:Nat):Bool:=
 if cN ms i then(if cN ms k then df i k else true) else(if cN ms k then false else df i k)
def Uz (l:List Oper) (ms:List (Option Nat)) (js:List (List Nat)):Bool:=
  let cl:=ji l
  let n:=l.length
  eV ms.length n&&js.all lD&&((idxs js.length).all fun m=>(js.getD (m+1) []).all (js.getD m []).contains)&&
  (idxs n).all fun k=>
    match l[k]? with
    |none=>false
    |some o=>
      o.after.toList.all (fun e=> !dq .any e||df e.on k)&&
      (cl.getD k []).all (fun i=>o.after.toList.any fun e=>dq .any e&&(eV e.on i||(cl.getD e.on []).contains i))&&
      o.after.toList.all (fun e=> !dq .any e||(cl.getD k []).contains e.on)&&
      (cN ms k||(idxs n).all fun i=> !fm ms i|| !df i k||(cl.getD k []).contains i)&&
      (match ms.getD k none with|some m=>(idxs n).all fun i=> !fm ms i||df (jZ ms i) m||(cl.getD i []).contains k|none=>true)&&
      (match o.dst with
       |none=> !cN ms k
       |some d=>(idxs n).all fun i=> !eA l i d|| !ahead ms i k||(cl.getD k []).contains i)&&
      (iM l.toArray o).all fun t=>(idxs n).all fun i=> !eA l i t||((!ahead ms i k||(cl.getD k []).contains i)&&(!ahead ms k i||(cl.getD i []).contains k))
def kO (l:List Oper) (ms:List (Option Nat)) (V:Nat→Value) (env:Env):Nat→Env
 |0=>env
 |k+1=>if cN ms k then(match (l[k]?).bind (·.dst) with|some d=>(d,V k)::kO l ms V env k|none=>kO l ms V env k) else kO l ms V env k
theorem G2 {x:Option Nat} {ms:List (Option Nat)} {k:Nat}:cN (x::ms) (k+1)=cN ms k:=by simp [cN]
theorem An (o:Oper) (l:List Oper) (x:Option Nat) (ms:List (Option Nat)) (V:Nat→Value) (env env1:Env) (h:kO (o::l) (x::ms) V env 1=env1):∀k,kO (o::l) (x::ms) V env (k+1)=kO l ms (fun j=>V (j+1)) env1 k
 |0=>by rw[h];rfl
 |k+1=>by
  have ih:=An o l x ms V env env1 h k
  show(if cN (x::ms) (k+1) then _ else _)=_
  rw[G2,ih]
  simp only[fK]
  rfl
section
variable {P:Program} {ro:Option Nat} {β:Bs} {ds:List Deferred} {N:Nat} {ops:Array Oper} {J:Nat→List cq} {Q:Exit→Act→World→Prop}
def xo (v:Value) (V:Nat→Value):Nat→Value
 |0=>v
 |j+1=>V j
theorem LX.lC:∀{l:List Oper} {ms:List (Option Nat)} {env env':Env},LX P β N ops J l ms env env'→
  ∃V:Nat→Value,env'=kO l ms V env l.length∧∀k o m,l[k]? =some o→ms[k]? =some (some m)→∃d,o.dst=some d∧d<N∧∀L,(∀w,St β L w→St β (J m) w)→I2 P β ops L o (kO l ms V env k) (V k)
 |[],ms,env,env',h=>⟨fun _=>undef,h.symm,by simp⟩
 |o::r,none::ms,env,env',h=>by
  obtain⟨V,h1,h2⟩:=LX.lC (l:=r) (ms:=ms) h
  have e:kO (o::r) (none::ms) (xo undef V) env 1=env:=by simp [kO,cN]
  have ec:=An o r none ms (xo undef V) env env e
  refine⟨xo undef V,?_,?_⟩
  ·simp only[gh];rw[ec];exact h1
  ·intro k o' m hk hm
   cases k with
   |zero=>simp at hm
   |succ k=>
    simp only[fK]at hk hm
    rw[ec]
    exact h2 k o' m hk hm
 |o::r,some m0::ms,env,env',⟨d,v,hd,hN,hok,hr⟩=>by
  obtain⟨V,h1,h2⟩:=LX.lC (l:=r) (ms:=ms) hr
  have e:kO (o::r) (some m0::ms) (xo v V) env 1=(d,v)::env:=by simp [kO,cN,hd,xo]
  have ec:=An o r (some m0) ms (xo v V) env _ e
  refine⟨xo v V,?_,?_⟩
  ·simp only[gh];rw[ec];exact h1
  ·intro k o' m hk hm
   cases k with
   |zero=>
    simp at hk hm
    subst hk;subst hm
    exact⟨d,hd,hN,fun L hL=>hok L hL⟩
   |succ k=>
    simp only[fK]at hk hm
    rw[ec]
    exact h2 k o' m hk hm
theorem l7 (l:List Oper) (ms:List (Option Nat)) (V:Nat→Value) (env:Env) (t:Nat) (u:Value):∀k,jx (kO l ms V env k) t=some u→
  (∃i,i<k∧cN ms i=true∧eA l i t=true∧V i=u∧∀i',i<i'→i'<k→cN ms i'=true→eA l i' t=false)∨
  ((∀i,i<k→cN ms i=true→eA l i t=false)∧jx env t=some u)
 |0,h=>.inr ⟨fun i hi=>by omega,h⟩
 |k+1,h=>by
  by_cases hl:cN ms k=true
  ·cases hd:(l[k]?).bind (·.dst) with
   |none=>
    have hdk:∀t,eA l k t=false:=by
     intro t
     unfold eA
     cases q:l[k]? with
     |none=>rfl
     |some o=>simp [q]at hd;simp [hd]
    simp only[kO,hl,if_true,hd]at h
    rcases l7 l ms V env t u k h with⟨i,h1,h2,h3,h4,h5⟩|⟨h1,h2⟩
    ·refine .inl ⟨i,by omega,h2,h3,h4,fun i' a b c=>?_⟩
     by_cases q:i'=k
     ·subst q;exact hdk t
     ·exact h5 i' a (by omega) c
    ·refine .inr ⟨fun i a b=>?_,h2⟩
     by_cases q:i=k
     ·subst q;exact hdk t
     ·exact h1 i (by omega) b
   |some d=>
    have hdk:∀t,eA l k t=eV d t:=by
     intro t
     unfold eA
     cases q:l[k]? with
     |none=>simp [q]at hd
     |some o=>simp [q]at hd;simp [hd]
    simp only[kO,hl,if_true,hd]at h
    by_cases e:t=d
    ·subst e
     rw[fE]at h
     exact .inl ⟨k,by omega,hl,by rw[hdk];exact fC _,by simpa using h,fun i' a b=>by omega⟩
    ·rw[eN e]at h
     have hne:eV d t=false:=by
      cases q:eV d t
      ·rfl
      ·exact absurd (bO q).symm e
     rcases l7 l ms V env t u k h with⟨i,h1,h2,h3,h4,h5⟩|⟨h1,h2⟩
     ·refine .inl ⟨i,by omega,h2,h3,h4,fun i' a b c=>?_⟩
      by_cases q:i'=k
      ·subst q;rw[hdk];exact hne
      ·exact h5 i' a (by omega) c
     ·refine .inr ⟨fun i a b=>?_,h2⟩
      by_cases q:i=k
      ·subst q;rw[hdk];exact hne
      ·exact h1 i (by omega) b
  ·simp only[kO,hl,bP,if_false]at h
   rcases l7 l ms V env t u k h with⟨i,h1,h2,h3,h4,h5⟩|⟨h1,h2⟩
   ·refine .inl ⟨i,by omega,h2,h3,h4,fun i' a b c=>?_⟩
    by_cases q:i'=k
    ·subst q;exact absurd c hl
    ·exact h5 i' a (by omega) c
   ·refine .inr ⟨fun i a b=>?_,h2⟩
    by_cases q:i=k
    ·subst q;exact absurd b hl
    ·exact h1 i (by omega) b
theorem nW (e e':Env) (t:Nat):jx (e++e') t=match jx e t with|some v=>some v|none=>jx e' t:=by
 induction e with
 |nil=>rfl
 |cons x e ih=>
  obtain⟨j,v⟩:=x
  by_cases h:t=j
  ·subst h;simp [fE]
  ·simp [eN h,ih]
theorem HX.drop {l:List Oper} {ms:List (Option Nat)} {m:Nat} {env:Env} {L:List cq} {p:Nat}:∀(k:Nat),HX P β N ds J Q m (l.drop p) (ms.drop p) env L→p+k≤l.length→(∀i,p≤i→i<p+k→cN ms i=true)→HX P β N ds J Q m (l.drop (p+k)) (ms.drop (p+k)) env L
 |0,h,_,_=>h
 |k+1,h,hle,hl=>by
  have ih:=HX.drop k h (by omega) (fun i a b=>hl i a (by omega))
  have hlt:p+k<l.length:=by omega
  have hm:=hl (p+k) (by omega) (by omega)
  unfold cN at hm
  cases q:ms[p+k]? with
  |none=>simp [q]at hm
  |some x=>
   cases x with
   |none=>simp [q]at hm
   |some y=>
    have hml:p+k<ms.length:=by
     rcases aK (p+k) ms.length with r|r
     ·exact r
     ·simp [aH r]at q
    have e1:ms[p+k]=some y:=by simpa [af hml]using q
    rw[cY hlt,cY hml,e1]at ih
    exact ih
structure Hv (P:Program) (β:Bs) (N:Nat) (ds:List Deferred) (J:Nat→List cq) (Q:Exit→Act→World→Prop) (l:List Oper) (ms:List (Option Nat)) (V:Nat→Value) (env:Env) (listed:Array Bool) (p:Nat) (eh:Env) (L:List cq) (a:Act) (w:World):Prop where
 vg:listed.size=l.length
 size:a.tmps.size=N
 xB:a.defers=ds
 st:St β L w
 hJ:∀w,St β L w→St β (J (jZ ms p)) w
 hp:p≤l.length
 hx:HX P β N ds J Q (jZ ms p) (l.drop p) (ms.drop p) (eh++kO l ms V env l.length) L
 hd:∀i,i<l.length→fm ms i=true→(listed[i]? =some true↔i<p)
 closed:∀j,listed[j]? =some true→∀i,i∈(ji l).getD j []→listed[i]? =some true
 G9:∀t v,jx eh t=some v→a.tmps[t]? =some v
 SS:∀t,jx eh t=none→∀i,i<p→fm ms i=true→eA l i t=false
 EP:∀t,jx eh t≠none→∃i,i<p∧fm ms i=true∧eA l i t=true
 top:∀t k,jx eh t=none→k<l.length→cN ms k=true→eA l k t=true→listed[k]? =some true→(∀k',k'<l.length→cN ms k'=true→eA l k' t=true→listed[k']? =some true→k'≤k)→a.tmps[t]? =some (V k)
 base:∀t,jx eh t=none→(∀k,k<l.length→cN ms k=true→eA l k t=true→listed[k]? ≠some true)→∀v,jx env t=some v→a.tmps[t]? =some v
theorem Ah {l:List Oper} {ms:List (Option Nat)} {js:List (List Nat)} (h:Uz l ms js=true):
  ms.length=l.length∧(∀m,lD (js.getD m [])=true)∧(∀m,(js.getD (m+1) []).all (js.getD m []).contains=true)∧
  ∀k o,l[k]? =some o→
   (∀e,e∈o.after.toList→dq .any e=true→e.on<k)∧
   (∀i,i∈(ji l).getD k []→∃e,e∈o.after.toList∧dq .any e=true∧(e.on=i∨i∈(ji l).getD e.on []))∧
   (cN ms k=false→∀i,i<k→fm ms i=true→i∈(ji l).getD k [])∧
   (∀m,ms[k]? =some (some m)→∀i,i<l.length→fm ms i=true→jZ ms i<m∨k∈(ji l).getD i [])∧
   (∀d,o.dst=some d→∀i,i<l.length→eA l i d=true→ahead ms i k=true→i∈(ji l).getD k [])∧
   (∀t,t∈iM l.toArray o→∀i,i<l.length→eA l i t=true→(ahead ms i k=true→i∈(ji l).getD k [])∧(ahead ms k i=true→k∈(ji l).getD i [])):=by
 unfold Uz at h
 simp only[aQ]at h
 obtain⟨⟨⟨h1,h2⟩,h3⟩,h4⟩:=h
 refine⟨bO h1,?_,?_,?_⟩
 ·intro m
  cases q:js[m]? with
  |none=>simp [jw,q,lD]
  |some x=>simp only[jw,q,dk];exact bF.1 h2 x (al q)
 ·intro m
  rcases aK m js.length with q|q
  ·exact bF.1 h3 m (by simpa [idxs]using q)
  ·have:js[m+1]? =none:=by simp;omega
   simp [jw,this]
 ·intro k o hk
  have hlt:k<l.length:=by
   rcases aK k l.length with q|q
   ·exact q
   ·simp [aH q]at hk
  have h5:=bF.1 h4 k (by simpa [idxs]using hlt)
  simp only[hk,aQ]at h5
  obtain⟨⟨⟨⟨⟨⟨a1,a2⟩,a3⟩,a4⟩,a5⟩,a6⟩,a7⟩:=h5
  refine⟨?_,?_,?_,?_,?_,?_⟩
  ·intro e he hb
   have:=bF.1 a1 e he
   simp only[hb,fb,fo]at this
   exact bh this
  ·intro i hi
   have:=bF.1 a2 i hi
   obtain⟨e,he,hx⟩:=eG.1 this
   simp only[aQ,fj]at hx
   exact⟨e,he,hx.1,hx.2.imp bO (by simp)⟩
  ·intro hl i hi hh
   simp only[hl,fo]at a4
   have:=bF.1 a4 i (by simp [idxs];omega)
   have hb:df i k=true:=di hi
   simpa [hh,hb]using this
  ·intro m hm i hi hh
   have e:ms.getD k none=some m:=by simp [jw,hm]
   rw[e]at a5
   have:=bF.1 a5 i (by simpa [idxs]using hi)
   simp only[hh,fb,fo,fj]at this
   exact this.imp (fun q=>bh q) (by simp)
  ·intro d hd i hi hw ha
   simp only[hd]at a6
   have:=bF.1 a6 i (by simpa [idxs]using hi)
   simpa [hw,ha]using this
  ·intro t ht i hi hw
   have:=bF.1 (bF.1 a7 t ht) i (by simpa [idxs]using hi)
   simp only[hw,fb,fo,aQ]at this
   exact⟨fun q=>by simpa [q]using this.1,fun q=>by simpa [q]using this.2⟩
theorem dj {l:List Oper} {ms:List (Option Nat)} (hlen:ms.length=l.length) {k:Nat} (hk:k<l.length):(cN ms k=true∧fm ms k=false∧∃m,ms[k]? =some (some m))∨(cN ms k=false∧fm ms k=true∧ms[k]? =some none):=by
 have:k<ms.length:=by omega
 cases q:ms[k] with
 |none=>right;simp [cN,fm,this,q]
 |some m=>left;simp [cN,fm,this,q]
theorem q7 {ms:List (Option Nat)} {k:Nat} (hk:k<ms.length):jZ ms (k+1)=jZ ms k+(if ms[k].isNone then 1 else 0):=by
 unfold jZ
 rw[cT hk,List.filter_append,aZ]
 congr 1
 simp only[iN,List.filter_nil]
 split<;>rfl
theorem z6 {ms:List (Option Nat)} {m:Nat}:∀p,p≤ms.length→m<jZ ms p→∃i,i<p∧fm ms i=true∧jZ ms i=m
 |0,_,h=>by simp [jZ]at h
 |p+1,hp,h=>by
  by_cases c:m<jZ ms p
  ·obtain⟨i,h1,h2,h3⟩:=z6 p (by omega) c
   exact⟨i,by omega,h2,h3⟩
  ·rw[q7 (by omega)]at h
   cases q:ms[p] with
   |none=>exact⟨p,by omega,by simp [fm,(by omega:p<ms.length),q],by simp [q]at h;omega⟩
   |some x=>simp [q]at h;omega
def R0 (l:List Oper) (ms:List (Option Nat)) (js:List (List Nat)) (q:Nat):Prop:=
  ms.length=l.length∧(∀m,lD (js.getD m [])=true)∧(∀m,(js.getD (m+1) []).all (js.getD m []).contains=true)∧
  ∀k o,l[k]? =some o→
   (∀e,e∈o.after.toList→dq .any e=true→e.on<k)∧
   (∀i,i∈(ji l).getD k []→∃e,e∈o.after.toList∧dq .any e=true∧(e.on=i∨i∈(ji l).getD e.on []))∧
   (cN ms k=false→∀i,q≤i→i<k→fm ms i=true→i∈(ji l).getD k [])∧
   (∀m,ms[k]? =some (some m)→∀i,i<l.length→fm ms i=true→jZ ms i<m∨k∈(ji l).getD i [])∧
   (∀d,o.dst=some d→∀i,i<l.length→eA l i d=true→ahead ms i k=true→i∈(ji l).getD k [])∧
   (∀t,t∈iM l.toArray o→∀i,i<l.length→eA l i t=true→(ahead ms i k=true→i∈(ji l).getD k [])∧(ahead ms k i=true→k∈(ji l).getD i []))
theorem R0.of {l:List Oper} {ms:List (Option Nat)} {js:List (List Nat)} (h:Uz l ms js=true):R0 l ms js 0:=by
 obtain⟨h1,h2,h3,h4⟩:=Ah h
 exact⟨h1,h2,h3,fun k o hk=>⟨(h4 k o hk).1,(h4 k o hk).2.1,fun a i _=>(h4 k o hk).2.2.1 a i,(h4 k o hk).2.2.2⟩⟩
theorem TX {L0:List cq} {js:List (List Nat)} (hn:∀m,lD (js.getD m [])=true) (hs:∀m,(js.getD (m+1) []).all (js.getD m []).contains=true) {w:World}:∀{m m':Nat},m≤m'→St β (fO L0 (js.getD m [])) w→St β (fO L0 (js.getD m' [])) w
 |m,m',h,hw=>by
  induction m' with
  |zero=>
    have:m=0:=by omega
    subst this;exact hw
  |succ m' ih=>
   by_cases e:m=m'+1
   ·subst e;exact hw
   ·exact(ih (by omega)).Yr (hn _) (hs _)
theorem Hv.reads {l:List Oper} {ms:List (Option Nat)} {js:List (List Nat)} {V:Nat→Value} {env:Env} {listed:Array Bool} {p:Nat} {eh:Env} {L:List cq} {a:Act} {w:World} {q:Nat} (hc:R0 l ms js q)
  (h:Hv P β N ds J Q l ms V env listed p eh L a w) {i:Nat} {o:Oper} (ho:l[i]? =some o) (hnot:listed[i]? ≠some true) (hdone:∀j,j∈(ji l).getD i []→listed[j]? =some true) {t:Nat} (ht:t∈iM l.toArray o) {u:Value}:
  (cN ms i=true→jx (kO l ms V env i) t=some u→a.tmps[t]? =some u)∧(cN ms i=false→jx (eh++kO l ms V env l.length) t=some u→a.tmps[t]? =some u):=by
 obtain⟨hlen,hjn,hjs,hops⟩:=hc
 obtain⟨c1,c2,c3,c4,c5,c6⟩:=hops i o ho
 have hil:i<l.length:=by
  rcases aK i l.length with q|q
  ·exact q
  ·simp [aH q]at ho
 
 have before:∀k,k<l.length→eA l k t=true→ahead ms k i=true→listed[k]? =some true:=fun k hk hw ha=>hdone k ((c6 t ht k hk hw).1 ha)
 have behind:∀k,k<l.length→eA l k t=true→ahead ms i k=true→listed[k]? ≠some true:=fun k hk hw ha hl=>hnot (h.closed k hl i ((c6 t ht k hk hw).2 ha))
 refine⟨fun hli hu=>?_,fun hhi hu=>?_⟩
 ·have hno:jx eh t=none:=by
   cases q:jx eh t with
   |none=>rfl
   |some v=>
    exfalso
    obtain⟨k,hkp,hkh,hkd⟩:=h.EP t (by rw[q];simp)
    have hkl:k<l.length:=et hkp h.hp
    have hnl:cN ms k=false:=by
     rcases dj hlen hkl with⟨_,b,_⟩|⟨a,_,_⟩
     ·rw[b]at hkh;cases hkh
     ·exact a
    exact behind k hkl hkd (by simp [ahead,hli,hnl]) ((h.hd k hkl hkh).2 hkp)
  have late:∀k',k'<l.length→cN ms k'=true→eA l k' t=true→listed[k']? =some true→k'<i:=by
   intro k' hk' hl' hd' hdn
   rcases e9 k' i with q|q|q
   ·exact q
   ·subst q;exact absurd hdn hnot
   ·exact absurd hdn (behind k' hk' hd' (by simp only[ahead,hli,hl',if_true];exact di q))
  rcases l7 l ms V env t u i hu with⟨k,h1,h2,h3,h4,h5⟩|⟨h1,h2⟩
  ·rw[←h4]
   refine h.top t k hno (by omega) h2 h3 (before k (by omega) h3 (by simp only[ahead,hli,h2,if_true];exact di h1)) fun k' a b c d=>?_
   rcases aK k k' with q|q
   ·have:=h5 k' q (late k' a b c d) b
    rw[c]at this;cases this
   ·exact q
  ·refine h.base t hno (fun k a b c d=>?_) u h2
   have:=h1 k (late k a b c d) b
   rw[c]at this;cases this
 ·rw[nW]at hu
  cases q:jx eh t with
  |some v=>rw[q]at hu;simp only[oh]at hu;subst hu;exact h.G9 t v q
  |none=>
   rw[q]at hu
   simp only at hu
   rcases l7 l ms V env t u l.length hu with⟨k,h1,h2,h3,h4,h5⟩|⟨h1,h2⟩
   ·rw[←h4]
    refine h.top t k q h1 h2 h3 (before k h1 h3 (by simp [ahead,hhi,h2])) fun k' a b c d=>?_
    rcases aK k k' with r|r
    ·have:=h5 k' r a b
     rw[c]at this;cases this
    ·exact r
   ·refine h.base t q (fun k a b c d=>?_) u h2
    have:=h1 k a b
    rw[c]at this;cases this
theorem Hv.step {l:List Oper} {ms:List (Option Nat)} {js:List (List Nat)} {L0:List cq} {V:Nat→Value} {env:Env} {listed:Array Bool} {p:Nat} {eh:Env} {L:List cq} {a:Act} {w:World} {Q':Exit→Act→World→Prop} {q0:Nat} (hc:R0 l ms js q0) (hq0:q0≤p) (hJe:J=fun m=>fO L0 (js.getD m []))
  (hV:∀k o m,l[k]? =some o→ms[k]? =some (some m)→∃d,o.dst=some d∧d<N∧∀L,(∀w,St β L w→St β (J m) w)→I2 P β l.toArray L o (kO l ms V env k) (V k))
  (h:Hv P β N ds J Q l ms V env listed p eh L a w) {i:Nat} (hi:i∈dr .any l.toArray listed) {K:Act→World→Prop}
  (hK:∀p' eh' L' a' w',q0≤p'→Hv P β N ds J Q l ms V env (listed.setIfInBounds i true) p' eh' L' a' w'→K a' w'):wpOpIn (Wf ro) 0 P l.toArray Q' i K a w:=by
 obtain⟨hlen,hjn,hjs,hops⟩:=hc
 simp only[dr,bK,bf,aQ,bR]at hi
 obtain⟨hin,hnl,hready⟩:=hi
 have hil:i<l.length:=by simpa using hin
 have hiz:i<listed.size:=by rw[h.vg];exact hil
 obtain⟨o,ho⟩:∃o,l[i]? =some o:=⟨l[i],by simp [hil]⟩
 have hnot:listed[i]? ≠some true:=by
  intro e
  have:listed.getD i true=true:=by simp [e]
  rw[this]at hnl;cases hnl
 have hdone:∀e,e∈o.after.toList→dq .any e=true→listed[e.on]? =some true:=by
  intro e he hb
  have h1:(o.after.all fun e=> !dq .any e||listed.getD e.on false)=true:=by simpa [ho]using hready
  have h2:=(dW.1 h1) e (by simpa using he)
  simp only[hb,fb,fo]at h2
  cases q:listed[e.on]? with
  |none=>simp [q]at h2
  |some b=>simp [q]at h2;rw[h2]
 obtain⟨c1,c2,c3,c4,c5,c6⟩:=hops i o ho
 have hcl:∀j,j∈(ji l).getD i []→listed[j]? =some true:=by
  intro j hj
  obtain⟨e,he,hb,hx⟩:=c2 j hj
  rcases hx with rfl|hx
  ·exact hdone e he hb
  ·exact h.closed _ (hdone e he hb) j hx
 have closed':∀j,(listed.setIfInBounds i true)[j]? =some true→∀k,k∈(ji l).getD j []→(listed.setIfInBounds i true)[k]? =some true:=by
  intro j hj k hk
  rw[bL hiz]at hj ⊢
  rcases hj with rfl|hj
  ·exact .inr (hcl k hk)
  ·exact .inr (h.closed j hj k hk)
 have ho':l.toArray[i]? =some o:=by simpa using ho
 have dstI:∀d,o.dst=some d→∀t,eA l i t=eV d t:=by
  intro d hd t;simp [eA,ho,hd]
 have beqne:∀{d t:Nat},t≠d→eV d t=false:=by
  intro d t e
  cases q:eV d t
  ·rfl
  ·exact absurd (bO q).symm e
 unfold wpOpIn
 simp only[ho']
 rcases dj hlen hil with⟨hli,hhv,m,hm⟩|⟨hli,hhv,hm⟩
 ·
  obtain⟨d,hd,hdN,hok⟩:=hV i o m ho hm
  have hstage:jZ ms p≤m:=by
   rcases aK m (jZ ms p) with q|q
   ·exfalso
    obtain⟨j,hjp,hjh,hjr⟩:=z6 (ms:=ms) (m:=m) p (by rw[hlen];exact h.hp) q
    have hjl:j<l.length:=et hjp h.hp
    rcases c4 m hm j hjl hjh with r|r
    ·omega
    ·exact hnot (h.closed j ((h.hd j hjl hjh).2 hjp) i r)
   ·exact q
  have hJm:∀w,St β L w→St β (J m) w:=by
   intro w hw
   have:=h.hJ w hw
   rw[hJe]at this ⊢
   exact TX hjn hjs hstage this
  have hno:jx eh d=none:=by
   cases q:jx eh d with
   |none=>rfl
   |some v=>
    exfalso
    obtain⟨k,hkp,hkh,hkd⟩:=h.EP d (by rw[q];simp)
    have hkl:k<l.length:=et hkp h.hp
    have hnl:cN ms k=false:=by
     rcases dj hlen hkl with⟨_,b,_⟩|⟨a,_,_⟩
     ·rw[b]at hkh;cases hkh
     ·exact a
    obtain⟨_,_,_,_,g5,_⟩:=hops k l[k] (by simp [hkl])
    have hkd':l[k].dst=some d:=by
     simp only[eA,af hkl]at hkd
     cases r:l[k].dst with
     |none=>simp [r]at hkd
     |some d'=>simp only[r]at hkd;rw[bO hkd]
    exact hnot (h.closed k ((h.hd k hkl hkh).2 hkp) i (g5 d hkd' i hil (by rw[dstI d hd];exact fC _) (by simp [ahead,hli,hnl])))
  have fin:∀w',St β L w'→Hv P β N ds J Q l ms V env (listed.setIfInBounds i true) p eh L (a.put (some d) (V i)) w':=by
   intro w' hs
   refine⟨by simp [h.vg],by simp [eK,h.size],h.xB,hs,h.hJ,h.hp,h.hx,?_,closed',?_,h.SS,h.EP,?_,?_⟩
   ·intro k hk hkh
    rw[bL hiz, ←h.hd k hk hkh]
    have:k≠i:=fun e=>by subst e;rw[hhv]at hkh;cases hkh
    simp [this]
   ·intro t v hv
    have e:t≠d:=fun e=>by subst e;rw[hno]at hv;cases hv
    simp only[eK]
    rw[aS (eD e)]
    exact h.G9 t v hv
   ·intro t k hn hk hkl hkd hdn hmax
    by_cases e:t=d
    ·subst e
     have hki:k=i:=by
      have g:=hmax i hil hli (by rw[dstI t hd];exact fC _) ((bL hiz).2 (.inl rfl))
      rcases aK i k with q|q
      ·exfalso
       have hl':listed[k]? =some true:=by
        rcases(bL hiz).1 hdn with e|e
        ·omega
        ·exact e
       obtain⟨_,_,_,_,g5,_⟩:=hops k l[k] (by simp [hk])
       have hkd':l[k].dst=some t:=by
        simp only[eA,af hk]at hkd
        cases r:l[k].dst with
        |none=>simp [r]at hkd
        |some d'=>simp only[r]at hkd;rw[bO hkd]
       exact hnot (h.closed k hl' i (g5 t hkd' i hil (by rw[dstI t hd];exact fC _) (by simp only[ahead,hli,hkl,if_true];exact di q)))
      ·omega
     subst hki
     simp [eK,h.size,hdN]
    ·have hki:k≠i:=fun q=>by subst q;rw[dstI d hd,beqne e]at hkd;cases hkd
     simp only[eK]
     rw[aS (eD e)]
     refine h.top t k hn hk hkl hkd ?_ fun k' a b c d=>hmax k' a b c ((bL hiz).2 (.inr d))
     rcases(bL hiz).1 hdn with q|q
     ·exact absurd q hki
     ·exact q
   ·intro t hn hnone v hv
    have e:t≠d:=fun q=>by subst q;exact hnone i hil hli (by rw[dstI t hd];exact fC _) ((bL hiz).2 (.inl rfl))
    simp only[eK]
    rw[aS (eD e)]
    exact h.base t hn (fun k a b c d=>hnone k a b c ((bL hiz).2 (.inr d))) v hv
  have rd:∀t,t∈iM l.toArray o→∀u,jx (kO l ms V env i) t=some u→a.tmps[t]? =some u:=fun t ht u hu=>(h.reads ⟨hlen,hjn,hjs,hops⟩ ho hnot hcl ht).1 hli hu
  have opr:∀x,x∈o.op.operands→∀u,ev (kO l ms V env i) x=some u→a.eval x=u:=by
   intro x hx u hu
   cases x with
   |tmp t=>
    have:=rd t (dg _ (iy.2 ⟨.tmp t,by simpa using hx,rfl⟩)) u hu
    simp [ep,this]
   |const c=>simpa [ev,ep]using hu
   |global g=>simpa [ev,ep]using hu
   |func f=>simpa [ev,ep]using hu
  have hok':=hok L hJm
  generalize hVi:V i=vi at hok' fin
  rcases hok' with⟨hg,hlo⟩|⟨j,want,t,u,c,v',hg,hj,ht,hgd,hlo,rfl⟩
  ·rw[if_pos (by simp [gk,hg])]
   exact(hlo a w opr h.st).wp (ro:=ro) (Q:=Q') (K:=K) fun w' hs=>by rw[hd];exact hK _ _ _ _ _ hq0 (fin w' hs)
  ·have ht':a.tmps[t]? =some u:=rd t (eX _ (by rw[hg];show t∈((l.toArray[j]?).bind (·.dst)).toList;rw[hj];simp)) u ht
   have hy:yielded l.toArray a.tmps j=vb u:=by
    unfold yielded;rw[hj];simp only[ll,ht'];cases u<;>rfl
   simp only[gk,hg,hy]
   cases c with
   |true=>
    have hu:=hgd.1 rfl
    subst hu
    simp only[vb,beq_self_eq_true,if_true]
    exact(hlo rfl a w opr h.st).wp (ro:=ro) (Q:=Q') (K:=K) fun w' hs=>by
     rw[hd]
     have:=fin w' hs
     rw[show gv true v'=v' from rfl]at this
     exact hK _ _ _ _ _ hq0 this
   |false=>
    have hu:=hgd.2 rfl
    have hne:=O7 hu
    simp only[hne,bP,if_false]
    have:=fin w h.st
    rw[show gv false v'=undef from rfl]at this
    rw[hd]
    exact⟨fun _ _=>True.intro,hK _ _ _ _ _ hq0 this⟩
 ·
  have hpi:p≤i:=by
   rcases aK i p with q|q
   ·exact absurd ((h.hd i hil hhv).2 q) hnot
   ·exact q
  have hlights:∀k,p≤k→k<p+(i-p)→cN ms k=true:=by
   intro k hk hki
   have hkl:k<l.length:=by omega
   rcases dj hlen hkl with⟨a,_,_⟩|⟨_,b,_⟩
   ·exact a
   ·exfalso
    have:=hcl k (c3 hli k (by omega) (by omega) b)
    have:=(h.hd k hkl b).1 this
    omega
  have hx:=HX.drop (i-p) h.hx (by omega) hlights
  rw[show p+(i-p)=i by omega]at hx
  have hml:i<ms.length:=by omega
  have e1:l[i]=o:=by simpa [af hil]using ho
  have e2:ms[i]=none:=by simpa [af hml]using hm
  rw[cY hil,cY hml,e1,e2]at hx
  obtain⟨hg,hdN,hho⟩:=hx
  have hrk:jZ ms p=jZ ms i:=by
   have:∀k,p+k≤i→jZ ms (p+k)=jZ ms p:=by
    intro k
    induction k with
    |zero=>intro _;rfl
    |succ k ih=>
     intro hk
     have hlk:=hlights (p+k) (by omega) (by omega)
     have hkl:p+k<ms.length:=by omega
     rw[show p+(k+1)=(p+k)+1 by omega,q7 hkl,ih (by omega)]
     cases r:ms[p+k] with
     |none=>simp [cN,hkl,r]at hlk
     |some x=>simp
   have:=this (i-p) (by omega)
   rw[show p+(i-p)=i by omega]at this
   exact this.symm
  have hrk1:jZ ms (i+1)=jZ ms p+1:=by
   rw[q7 hml,e2,hrk];simp
  have rd:∀t,t∈iM l.toArray o→∀u,jx (eh++kO l ms V env l.length) t=some u→a.tmps[t]? =some u:=fun t ht u hu=>(h.reads ⟨hlen,hjn,hjs,hops⟩ ho hnot hcl ht).2 hli hu
  have opr:∀x,x∈o.op.operands→∀u,ev (eh++kO l ms V env l.length) x=some u→a.eval x=u:=by
   intro x hx u hu
   cases x with
   |tmp t=>
    have:=rd t (dg _ (iy.2 ⟨.tmp t,by simpa using hx,rfl⟩)) u hu
    simp [ep,this]
   |const c=>simpa [ev,ep]using hu
   |global g=>simpa [ev,ep]using hu
   |func f=>simpa [ev,ep]using hu
  rw[if_pos (by simp [gk,hg])]
  refine(hho.wp (ro:=ro) (Q:=Q') opr h.st fun v L' w' hk hs=>hK (i+1) (oo o v eh) L' _ w' (by omega) ?_)
  obtain⟨hk1,hk2⟩:=hk
  have envE:oo o v (eh++kO l ms V env l.length)=oo o v eh++kO l ms V env l.length:=by
   unfold oo;cases o.dst<;>rfl
  refine⟨by simp [h.vg],?_,(by cases o.dst<;>exact h.xB),hs,?_,by omega,?_,?_,closed',?_,?_,?_,?_,?_⟩
  ·cases q:o.dst with
   |none=>exact h.size
   |some d=>simp [eK,h.size]
  ·rw[hrk1];exact hk1
  ·rw[hrk1, ←envE];exact hk2
  ·intro k hk hkh
   rw[bL hiz,h.hd k hk hkh]
   refine⟨fun q=>by omega,fun q=>?_⟩
   by_cases r:k=i
   ·exact .inl r
   ·right
    rcases aK k p with s|s
    ·exact s
    ·exfalso
     have:=hlights k s (by omega)
     rcases dj hlen hk with⟨_,b,_⟩|⟨b,_,_⟩
     ·rw[b]at hkh;cases hkh
     ·rw[b]at this;cases this
  ·intro t u hu
   unfold oo at hu
   cases q:o.dst with
   |none=>simp only[q]at hu;exact h.G9 t u hu
   |some d=>
    simp only[q]at hu
    by_cases e:t=d
    ·subst e
     rw[fE]at hu
     cases hu
     simp [eK,h.size,hdN t q]
    ·rw[eN e]at hu
     simp only[eK]
     rw[aS (eD e)]
     exact h.G9 t u hu
  ·intro t hn k hk hkh
   unfold oo at hn
   have hn':jx eh t=none:=by
    cases q:o.dst with
    |none=>simpa only[q]using hn
    |some d=>
     simp only[q]at hn
     by_cases e:t=d
     ·subst e;rw[fE]at hn;cases hn
     ·rwa [eN e]at hn
   by_cases r:k=i
   ·subst r
    cases q:o.dst with
    |none=>simp [eA,ho,q]
    |some d=>
     rw[dstI d q]
     refine beqne fun e=>?_
     subst e
     simp only[q]at hn
     rw[fE]at hn
     cases hn
   ·refine h.SS t hn' k ?_ hkh
    rcases aK k p with s|s
    ·exact s
    ·exfalso
     have:=hlights k s (by omega)
     rcases dj hlen (k:=k) (by omega) with⟨_,b,_⟩|⟨b,_,_⟩
     ·rw[b]at hkh;cases hkh
     ·rw[b]at this;cases this
  ·intro t hn
   unfold oo at hn
   cases q:o.dst with
   |none=>
    simp only[q]at hn
    obtain⟨k,a,b,c⟩:=h.EP t hn
    exact⟨k,by omega,b,c⟩
   |some d=>
    simp only[q]at hn
    by_cases e:t=d
    ·subst e
     exact⟨i,by omega,hhv,by rw[dstI t q];exact fC _⟩
    ·rw[eN e]at hn
     obtain⟨k,a,b,c⟩:=h.EP t hn
     exact⟨k,by omega,b,c⟩
  ·intro t k hn hk hkl hkd hdn hmax
   have hki:k≠i:=fun e=>by subst e;rw[hli]at hkl;cases hkl
   unfold oo at hn
   have hn':jx eh t=none∧∀d,o.dst=some d→t≠d:=by
    cases q:o.dst with
    |none=>exact⟨by simpa only[q]using hn,by simp⟩
    |some d=>
     simp only[q]at hn
     by_cases e:t=d
     ·subst e;rw[fE]at hn;cases hn
     ·exact⟨by rwa [eN e]at hn,fun d' hd'=>by cases hd';exact e⟩
   have hdn':listed[k]? =some true:=by
    rcases(bL hiz).1 hdn with q|q
    ·exact absurd q hki
    ·exact q
   have:=h.top t k hn'.1 hk hkl hkd hdn' fun k' a b c d=>hmax k' a b c ((bL hiz).2 (.inr d))
   cases q:o.dst with
   |none=>exact this
   |some d=>
    simp only[eK]
    rw[aS (eD (hn'.2 d q))]
    exact this
  ·intro t hn hnone u hu
   unfold oo at hn
   have hn':jx eh t=none∧∀d,o.dst=some d→t≠d:=by
    cases q:o.dst with
    |none=>exact⟨by simpa only[q]using hn,by simp⟩
    |some d=>
     simp only[q]at hn
     by_cases e:t=d
     ·subst e;rw[fE]at hn;cases hn
     ·exact⟨by rwa [eN e]at hn,fun d' hd'=>by cases hd';exact e⟩
   have:=h.base t hn'.1 (fun k a b c d=>hnone k a b c ((bL hiz).2 (.inr d))) u hu
   cases q:o.dst with
   |none=>exact this
   |some d=>
    simp only[eK]
    rw[aS (eD (hn'.2 d q))]
    exact this
theorem Hv.end_ {l:List Oper} {ms:List (Option Nat)} {V:Nat→Value} {env:Env} {listed:Array Bool} {p:Nat} {eh:Env} {L:List cq} {a:Act} {w:World} (hlen:ms.length=l.length)
  (h:Hv P β N ds J Q l ms V env listed p eh L a w) (hall:∀k,k<l.length→listed[k]? =some true):Q .normal a w:=by
 have hl:∀k,p≤k→k<p+(l.length-p)→cN ms k=true:=by
  intro k hk hkl
  rcases dj hlen (k:=k) (by omega) with⟨a,_,_⟩|⟨_,b,_⟩
  ·exact a
  ·have:=(h.hd k (by omega) b).1 (hall k (by omega));omega
 have hx:=HX.drop (l.length-p) h.hx (by have:=h.hp;omega) hl
 rw[show p+(l.length-p)=l.length by have:=h.hp;omega]at hx
 rw[List.drop_length]at hx
 refine hx a w ⟨h.size,h.xB,fun t u hu=>?_⟩ h.st
 rw[nW]at hu
 cases q:jx eh t with
 |some v=>rw[q]at hu;simp only[oh]at hu;subst hu;exact h.G9 t v q
 |none=>
  rw[q]at hu
  simp only at hu
  rcases l7 l ms V env t u l.length hu with⟨k,h1,h2,h3,h4,h5⟩|⟨h1,h2⟩
  ·rw[←h4]
   refine h.top t k q h1 h2 h3 (hall k h1) fun k' a b c d=>?_
   rcases aK k k' with r|r
   ·have:=h5 k' r a b
    rw[c]at this;cases this
   ·exact r
  ·refine h.base t q (fun k a b c d=>?_) u h2
   have:=h1 k a b
   rw[c]at this;cases this
theorem qW {l:List Oper} {listed:Array Bool} (hsz:listed.size=l.length) (hed:∀k o,l[k]? =some o→∀e,e∈o.after.toList→dq .any e=true→e.on<k) (hr:dr .any l.toArray listed=[]):∀k,k<l.length→listed[k]? =some true:=by
 have:∀n k,k=n→k<l.length→listed[k]? =some true:=by
  intro n
  induction n using jU with
  |_ n ihn=>
   rintro k rfl hk
   refine eR fun hn=>?_
   have hnm:k∉dr .any l.toArray listed:=by rw[hr];simp
   apply hnm
   simp only[dr,bK,bf,aQ,bR]
   refine⟨by simpa using hk,?_,?_⟩
   ·cases q:listed[k]? with
    |none=>
     have:k<listed.size:=by rw[hsz];exact hk
     simp [this]at q
    |some b=>cases b with
     |true=>exact absurd q hn
     |false=>simp [q]
   ·have hok:l.toArray[k]? =some l[k]:=by simp [hk]
    simp only[hok,dH,dk]
    refine dW.2 fun e he=>?_
    cases hb:dq .any e with
    |false=>rfl
    |true=>
     have hlt:=hed k l[k] (by simp [hk]) e (by simpa using he) hb
     have:=ihn e.on hlt e.on rfl (by omega)
     simp [this]
 exact fun k hk=>this k k rfl hk
theorem VC.gu (js:List (List Nat)) (ms:List (Option Nat)) {env env':Env} {L:List cq} {id:Nat} {l:List Oper} (hm:P.follows .mixedOrders=true) (hc:Uz l ms js=true) (h0:js.getD 0 []=br L.length)
  (h:LX P β N l.toArray (fun m=>fO L (js.getD m [])) l ms env env') (k:HX P β N ds (fun m=>fO L (js.getD m [])) Q 0 l ms env' L):
  VC P ro β N ds env L (.region id l.toArray true) Q:=by
 intro a w ha hw
 obtain⟨V,hV1,hV2⟩:=h.lC
 obtain⟨hlen,hjn,hjs,hops⟩:=Ah hc
 subst hV1
 refine wpIn_region_any hm ?_
 have key:∀fuel listed p eh L' a w,Hv P β N ds (fun m=>fO L (js.getD m [])) Q l ms V env listed p eh L' a w→(∀k,k<l.length→listed[k]? ≠some true→0<fuel)→((br l.length).filter fun k=> !(listed[k]? ==some true)).length≤fuel→wpAnyIn (Wf ro) 0 P .any l.toArray Q fuel listed a w:=by
  intro fuel
  induction fuel with
  |zero=>
   intro listed p eh L' a w hI h0 _
   have hall:∀k,k<l.length→listed[k]? =some true:=fun k hk=>eR fun hn=>by have:=h0 k hk hn;omega
   refine⟨?_,hI.end_ hlen hall⟩
   simp only[dr,ff,bf,aQ,bR,not_and]
   intro i hi hf
   have:=hall i (by simpa using hi)
   simp [this]at hf
  |succ fuel ih=>
   intro listed p eh L' a w hI h0 hcnt
   refine⟨fun hr=>hI.end_ hlen (qW hI.vg (fun k o ho=>(hops k o ho).1) hr),fun i hi=>?_⟩
   refine hI.step (R0.of hc) (bG _) rfl hV2 hi fun p' eh' L'' a' w' _ hI'=>ih _ _ _ _ _ _ hI' ?_ ?_
   ·intro k hk hn
    rcases eO fuel with e|e
    ·exfalso
     subst e
     simp only[dr,bK,bf,aQ,bR]at hi
     have hil:i<l.length:=by simpa using hi.1
     have hiz:i<listed.size:=by rw[hI.vg];exact hil
     rw[Ne,bL hiz,not_or]at hn
     have hni:listed[i]? ≠some true:=fun e=>by have h2:=hi.2.1;simp [e]at h2
     have m1:i∈(br l.length).filter fun k=> !(listed[k]? ==some true):=by simp [hil,hni]
     have m2:k∈(br l.length).filter fun k=> !(listed[k]? ==some true):=by simp [hk,hn.2]
     match hf:(br l.length).filter fun k=> !(listed[k]? ==some true),hcnt with
     |[],_=>rw[hf]at m1;simp at m1
     |[x],_=>rw[hf]at m1 m2;simp at m1 m2;exact hn.1 (by omega)
     |_::_::_,hcnt=>simp at hcnt
    ·exact e
   ·simp only[dr,bK,bf,aQ,bR]at hi
    have hil:i<l.length:=by simpa using hi.1
    have hiz:i<listed.size:=by rw[hI.vg];exact hil
    have hni:listed[i]? ≠some true:=fun e=>by have h2:=hi.2.1;simp [e]at h2
    have hlt:((br l.length).filter fun k=> !((listed.setIfInBounds i true)[k]? ==some true)).length<((br l.length).filter fun k=> !(listed[k]? ==some true)).length:=by
     refine filter_lt (i:=i) ?_ (by simp [hil]) ?_ ?_
     ·intro k hk
      simp only[bR,beq_eq_false_iff_ne,ne_eq]at hk ⊢
      exact fun e=>hk ((bL hiz).2 (.inr e))
     ·simpa using hni
     ·simp [hiz]
    omega
 have hnone:∀j:Nat,(Array.replicate l.toArray.size false)[j]? ≠some true:=by
  intro j hj
  simp [dN]at hj
 refine key _ _ 0 [] L _ _ ⟨by simp,ha.size,ha.xB,hw.drew _,?_,by omega,?_,?_,?_,?_,?_,?_,?_,?_⟩ ?_ ?_
 ·intro w hw
  have:jZ ms 0=0:=by simp [jZ]
  rw[this]
  simp only[h0]
  refine hw.fO _ ?_
  have:=hjn 0
  rwa [h0]at this
 ·simpa [jZ]using k
 ·intro i _ _
  exact⟨fun e=>absurd e (hnone i),fun e=>by omega⟩
 ·intro j hj;exact absurd hj (hnone j)
 ·intro t v hv;simp [jx]at hv
 ·intro t _ i hi;omega
 ·intro t ht;simp [jx]at ht
 ·intro t k _ _ _ _ hl;exact absurd hl (hnone k)
 ·intro t _ _ v hv;exact ha.get t v hv
 ·intro k hk _
  simpa using kG (bG _) hk
 ·refine eL (cH _ _) ?_
  simp
end
section
variable {P:Program} {ro:Option Nat} {β:Bs} {ds:List Deferred} {N:Nat} {env:Env} {L:List cq} {Q:Exit→Act→World→Prop}
variable {d:Option Nat} {ty:TypeId} {pos:String} {aft:Array Edge} {g:Option (Nat×Bool)}
theorem aU {w:World} {b off:Nat} {C vs:List Value} (h:fk w ⟨b,0,none⟩ C) (hv:∃r,C.drop off=vs++r):fk w ⟨b,off,none⟩ vs:=by
 intro j v hj
 obtain⟨r,hr⟩:=hv
 have hlt:j<vs.length:=by
  rcases aK j vs.length with q|q
  ·exact q
  ·simp [aH q]at hj
 have h1:C[off+j]? =some v:=by
  rw[←kV,hr,aJ hlt];exact hj
 have h2:=h (off+j) v h1
 have e1:(⟨b,0,none⟩:Addr).add (off+j)=⟨b,off+j,none⟩:=by unfold Addr.add;split<;>simp_all
 have e2:(⟨b,off,none⟩:Addr).add j=⟨b,off+j,none⟩:=by unfold Addr.add;split<;>simp_all
 rw[e2, ←e1];exact h2
theorem LO.fd1 {x:Operand} {S f off:Nat} {C:Array Value} {v:Value} {fs:Array Field} {F:Field} (hS:P.underlying S=some (.struct fs)) (hF:fs[f]? =some F) (ho:F.offset=off) (hT:ig P F.type) (hx:OV env x (.agg C)) (hv:C[off]? =some v):LO P β env L ⟨d,.field S x f,ty,pos,aft,g⟩ v:=
 .ee fun a w h hw=>⟨w,by
  simp [execOp,h x (by simp [az]) _ hx,Instr.field,run_underlying hS,hF,asAgg,part,sM hT,ho,hv],hw⟩
theorem LO.ixa {x i:Operand} {T E z n:Nat} {b o j r:Nat} {k:IntKind} {e:Int} (hT:P.underlying T=some (.array n E)) (hz:(P.info? E).map (·.size)=some z) (hx:OV env x (.pointer (some ⟨b,o,none⟩))) (hi:OV env i (.int k e)) (he:e=(j:Int)) (hj:j<n) (hr:o+j*z=r):
  LO P β env L ⟨d,.indexAddr T x i,ty,pos,aft,g⟩ (.pointer (some ⟨b,r,none⟩)):=
 .ee fun a w h hw=>⟨w,by
  subst he;subst hr
  have hadd:(⟨b,o,none⟩:Addr).add (j*z)=⟨b,o+j*z,none⟩:=by unfold Addr.add;split<;>simp_all
  simp [execOp,h x (by simp [az]) _ hx,h i (by simp [az]) _ hi,Instr.indexAt,asIntOf,run_underlying hT,jv hz,hj,hadd,oz],hw⟩
theorem LO.Zk {x i:Operand} {T E n:Nat} {C:Array Value} {j:Nat} {k:IntKind} {e:Int} {v:Value} (hT:P.underlying T=some (.array n E)) (hE:ig P E) (hx:OV env x (.agg C)) (hi:OV env i (.int k e)) (he:e=(j:Int)) (hj:j<n) (hv:C[j]? =some v):
  LO P β env L ⟨d,.index T x i,ty,pos,aft,g⟩ v:=
 .ee fun a w h hw=>⟨w,by
  subst he
  simp [execOp,h x (by simp [az]) _ hx,h i (by simp [az]) _ hi,Instr.index,asIntOf,run_underlying hT,jv hE.2,hj,part,sM hE,hv],hw⟩
theorem LO.mf {fn:Fn} {xs:List Operand} {cap:List Value} (hx:B9 env xs cap):LO P β env L ⟨d,.makeFunc fn #[] xs.toArray,ty,pos,aft,g⟩ (.func fn #[] cap.toArray):=
 .ee fun a w h hw=>⟨w,by
  have hm:xs.map a.eval=cap:=hx.map fun x hm u hu=>h x (by simp [az,hm]) u hu
  simp [execOp,Instr.makeFunc,hm],hw⟩
def fB (a:Int):Value:=.int .i64 a
def own (E z:Nat) (p:Option Addr) (cap:Nat) (rows:List (List Value)):cq where
 fp:=fun k=>p≠none∧k=pb p
 inv:=fun w=>rows.length≤cap∧(∀r∈rows,r.length=z)∧(p=none→rows=[]∧cap=0)∧(∀a,p=some a→a.off=0∧a.spot=none∧∃C spare,w.heap[a.block]? =some (.cells C E (0,0))∧C.toList=rows.flatten++spare∧C.size=cap*z)
 loc:=fun {w w'} h ⟨h1,h2,h3,h4⟩=>⟨h1,h2,h3,fun a ha=>by
  obtain⟨g1,g2,C,s,g3,g4⟩:=h4 a ha
  refine⟨g1,g2,C,s,?_,g4⟩
  rw[h a.block ⟨by rw[ha];simp,by rw[ha];rfl⟩];exact g3⟩
theorem rO {rows:List (List Value)} {z:Nat} (hz:∀r∈rows,r.length=z):∀{j:Nat} {r:List Value},rows[j]? =some r→∀{i:Nat} {v:Value},r[i]? =some v→rows.flatten[j*z+i]? =some v:=by
 induction rows with
 |nil=>intro j r h;simp at h
 |cons x xs ih=>
  intro j r h i v hv
  have hx:x.length=z:=hz x (by simp)
  cases j with
  |zero=>
   simp at h;subst h
   have:i<x.length:=by
    rcases aK i x.length with q|q
    ·exact q
    ·simp [aH q]at hv
   simp only[gC,Nat.zero_mul,Nat.zero_add]
   rw[aJ this];exact hv
  |succ j=>
   simp only[fK]at h
   simp only[gC]
   rw[aY (by rw[hx,fF];omega),hx,show(j+1)*z+i-z=j*z+i by rw[fF];omega]
   exact ih (fun r hr=>hz r (by simp [hr])) h hv
theorem dE {w:World} (hw:St β L w) (i:Nat) {E z:Nat} {p:Option Addr} {cap:Nat} {rows:List (List Value)} (hi:L[i]? =some (own E z p cap rows)):Rows w z p rows:=by
 obtain⟨h1,h2,h3,h4⟩:=hw.inv i _ hi
 refine⟨?_,fun hp=>(h3 hp).1,fun _ a ha=>(h4 a ha).2.1⟩
 intro j r hr k v hv
 cases p with
 |none=>rw[(h3 rfl).1]at hr;simp at hr
 |some a=>
  obtain⟨g1,g2,C,s,g3,g4,g5⟩:=h4 a rfl
  have hadd:(⟨pb (some a),po (some a)+j*z,none⟩:Addr).add k=⟨a.block,j*z+k,none⟩:=by
   unfold Addr.add pb po;simp only[g1];split<;>simp_all
  rw[hadd]
  simp only[lK,g3,jj,bP,if_false]
  have:C.toList[j*z+k]? =some v:=by
   rw[g4]
   have:=rO h2 hr hv
   rw[aJ]
   ·exact this
   ·rcases aK (j*z+k) rows.flatten.length with q|q
    ·exact q
    ·rw[aH q]at this;cases this
  simpa using this
theorem St.fX {w:World} (hw:St β L w) (E z:Nat):St β (own E z none 0 []::L) w:=by
 have:St (bs w) [own E z none 0 []] w:=by
  refine⟨rfl,rfl,rfl,bA _,fun _ _ _=>rfl,?_,?_,?_⟩
  ·intro i r hr
   cases i with
   |zero=>simp at hr;subst hr;exact⟨bA _,by simp,fun _=>⟨rfl,rfl⟩,fun a ha=>by cases ha⟩
   |succ i=>simp at hr
  ·intro i r hr k hk
   cases i with
   |zero=>simp at hr;subst hr;exact absurd rfl hk.1
   |succ i=>simp at hr
  ·intro i j r s hij hr hs
   cases i with
   |zero=>cases j with|zero=>exact absurd rfl hij|succ j=>simp at hs
   |succ i=>simp at hr
 exact hw.call this
def jW (P:Program) (E z by_:Nat) (zero:Value):Prop:=(P.info? E).map (·.size)=some z∧(P.info? E).map (·.bytes)=some by_∧cj P E zero∧zero.cells.size=z∧0<by_
section
variable {K:Value→List cq→Prop} {dd:Option Nat}
def PLs (len z:Nat):List (Nat×Nat):=(br len).map fun i=>(i*z,z)
theorem HO.bs {T E len z:Nat} {zero:Value} {Z:List Value} {ps:List (Nat×Operand)} {vs:List (Nat×Value)} {C:List Value} (hT:dF P T E) (hz:cj P E zero) (hs:(P.info? E).map (·.size)=some z) (hps:B9 env (ps.map (·.2)) (vs.map (·.2))) (hix:ps.map (·.1)=vs.map (·.1)) (hle:rV (len*z) 16777216=true) (hpos:df 0 (len*z)=true)
  (hZ:(br (len*z)).map (fun i=>zero.cells[i%zero.cells.size]!)=Z) (hb:FL (PLs len z) Z vs C)
  (k:∀b,K (.slice (some ⟨b,0,none⟩) len len) (de b (.cells C.toArray E)::L)):HO P β env L ⟨dd,.buildSlice T len ps.toArray,ty,pos,aft,none⟩ K:=by
 intro a w h hw
 refine .inl ⟨_,w.alloc (.cells C.toArray E),_,_,?_,.inl rfl,k w.heap.size,hw.alloc _⟩
 have h2:=B9.map (a:=a) hps (fun x hm u ⟨u',hu',e⟩=>e ▸ h x (by
  obtain⟨p,hp,e⟩:=List.mem_map.1 hm
  simp only[az]
  subst e
  simpa using⟨p.1,hp⟩) u' hu')
 rw[List.map_map]at h2
 have hm:(ps.map fun p=>(p.1,a.eval p.2))=vs:=uL hix h2
 have hfill:jK (fun i=>some (i*z,z)) Z.toArray vs=some C.toArray:=by
  have:=hb.fill
  have key:∀(vs:List (Nat×Value)) (A:Array Value) (R:Array Value),jK ((PLs len z)[·]?) A vs=some R→jK (fun i=>some (i*z,z)) A vs=some R:=by
   intro vs
   induction vs with
   |nil=>intro A R h;exact h
   |cons x xs ih=>
    intro A R h
    obtain⟨i,v⟩:=x
    simp only[jK]at h ⊢
    cases q:(PLs len z)[i]? with
    |none=>simp [q]at h
    |some y=>
     have hi:y=(i*z,z):=by
      simp only[PLs,aw,Option.map_eq_some_iff]at q
      obtain⟨j,hj,e⟩:=q
      have:j=i:=by
       cases r:(br len)[i]? with
       |none=>rw[r]at hj;cases hj
       |some m=>
        have hlt:i<len:=by
         rcases aK i len with s|s
         ·exact s
         ·rw[aH (by simpa using s)]at r;cases r
        simp [hlt]at hj
        exact hj.symm
      subst this;exact e.symm
     subst hi
     simp only[q]at h
     split at h
     ·cases h
     ·rename_i hc
      simp only[hc,bP,if_false]
      exact ih _ _ h
  exact key _ _ _ this
 have hgt:¬(len*z>2 ^ 24):=by have:=bh hle;omega
 have h0:¬(len*z=0):=by have:0<len*z:=bh hpos;omega
 simp only[execOp,bz]
 rw[show(ps.toArray.map fun(i,x)=>(i,a.eval x))=vs.toArray by rw[←hm];simp]
 have e:((Array.range (len*z)).map fun i=>zero.cells[i%zero.cells.size]!)=Z.toArray:=by
  rw[←hZ];apply Array.ext';simp
 simp only[Instr.buildSlice,run_underlying hT,jv hs,bz,bw,hgt,h0,if_false,mc hz,cG,e,hfill,newRow,run_newObj]
 rfl
theorem FD {E b:Nat} (h:(P.info? E).map (·.bytes)=some b) (w:World):∃i,(typeInfo E).run P w= .ok i w∧i.bytes=b:=by
 cases hq:P.info? E with
 |none=>simp [hq]at h
 |some i=>simp [hq]at h;exact⟨i,by simp [typeInfo,hq],h⟩
theorem ry (zs:Array Value) (n:Nat):(dV zs n).size=n*zs.size:=by simp [dV]
theorem F3 (need:Nat):∀(r c B:Nat),c+(c+768) / 4≤B→c≤B→(∀c',c'<need→c'+(c'+768) / 4≤B)→NL need r c≤B
 |0,c,B,_,h,_=>h
 |r+1,c,B,h1,h2,h3=>by
  unfold Builtin.growBy
  split
  ·exact h2
  ·by_cases h4:c+(c+768) / 4<need
   ·exact F3 need r _ B (h3 _ h4) h1 h3
   ·have:∀r,NL need r (c+(c+768) / 4)=c+(c+768) / 4:=by
     intro r
     cases r with
     |zero=>rfl
     |succ r=>unfold Builtin.growBy;rw[if_pos (by omega)]
    rw[this];exact h1
theorem MM {need cap:Nat} (h:cap<need):sW need cap≤2*need+768:=by
 unfold Builtin.nextslicecap
 split
 ·omega
 ·split
  ·omega
  ·exact F3 need 4 cap _ (by omega) (by omega) (fun c' _=>by omega)
theorem km {rows:List (List Value)} {z:Nat} (hz:∀r∈rows,r.length=z):rows.flatten.length=rows.length*z:=by
 induction rows with
 |nil=>simp
 |cons x xs ih=>simp only[gC,aZ,gh,hz x (by simp),ih (fun r hr=>hz r (by simp [hr])),fF];omega
theorem ald {a:Addr} (h1:a.off=0) (h2:a.spot=none) (n:Nat):a.add n=⟨a.block,n,none⟩:=by
 obtain⟨b,o,s⟩:=a
 simp only at h1 h2
 subst h1;subst h2
 unfold Addr.add;split<;>simp_all
theorem St.conv {w:World} (hw:St β L w) (i:Nat) {r r':cq} (hi:L[i]? =some r) (hf:∀k,r'.fp k→r.fp k) (hinv:r'.inv w):St β (L.set i r') w:=by
 have hlt:i<L.length:=by
  rcases aK i L.length with h'|h'
  ·exact h'
  ·simp [aH h']at hi
 have get:∀(j:Nat) (s:cq),(L.set i r')[j]? =some s→(j=i∧s=r')∨(j≠i∧L[j]? =some s):=by
  intro j s hs
  by_cases e:j=i
  ·subst e;simp [hlt]at hs;exact .inl ⟨rfl,hs.symm⟩
  ·rw[eQ (eD e)]at hs;exact .inr ⟨e,hs⟩
 refine⟨hw.os,hw.tape,hw.output,hw.size,hw.fr,?_,?_,?_⟩
 ·intro j s hs
  rcases get j s hs with⟨rfl,rfl⟩|⟨_,hs'⟩
  ·exact hinv
  ·exact hw.inv j s hs'
 ·intro j s hs k hk
  rcases get j s hs with⟨rfl,rfl⟩|⟨_,hs'⟩
  ·exact hw.pM j _ hi k (hf k hk)
  ·exact hw.pM j s hs' k hk
 ·intro j l s t hjl hs ht k hk hk'
  rcases get j s hs with⟨rfl,rfl⟩|⟨hj,hs'⟩<;>rcases get l t ht with⟨rfl,rfl⟩|⟨hl,ht'⟩
  ·exact hjl rfl
  ·exact hw.wG j l _ _ hjl hi ht' k (hf k hk) hk'
  ·exact hw.wG j l _ _ hjl hs' hi k hk (hf k hk')
  ·exact hw.wG j l _ _ hjl hs' ht' k hk hk'
theorem R2 {w:World} {z:Nat} {q:Option Addr} {rs:List (List Value)} (h:Go.SL.Rows w z q rs) (hz:∀r∈rs,r.length=z) (k:Nat) (v:Value) (hk:rs.flatten[k]? =some v):w.cell? ((⟨pb q,po q,none⟩:Addr).add k)=some v:=by
 have hz0:0<z:=by
  rcases eO z with e|e
  ·have:rs.flatten.length=0:=by rw[km hz,e,Nat.mul_zero]
   rw[aH (by omega)]at hk;cases hk
  ·exact e
 have hkl:k<rs.flatten.length:=by
  rcases aK k rs.flatten.length with e|e
  ·exact e
  ·rw[aH e]at hk;cases hk
 rw[km hz]at hkl
 have hj:k / z<rs.length:=Nat.div_lt_of_lt_mul (by rw[Nat.mul_comm];exact hkl)
 have hm:k%z<z:=Nat.mod_lt _ hz0
 have hr:=af hj
 have hrz:rs[k / z].length=z:=hz _ (fv hj)
 have hv:=af (l:=rs[k / z]) (i:=k%z) (by omega)
 have e:=rO hz hr hv
 have hdm:k / z*z+k%z=k:=by have:=Nat.div_add_mod k z;rw[Nat.mul_comm]at this;exact this
 rw[hdm,hk]at e
 cases e
 have:=h.cells _ _ hr _ _ hv
 have e1:(⟨pb q,po q+k / z*z,none⟩:Addr).add (k%z)=⟨pb q,po q+k,none⟩:=by
  rw[show po q+k=po q+k / z*z+k%z by omega]
  unfold Addr.add;split<;>simp_all
 have e2:(⟨pb q,po q,none⟩:Addr).add k=⟨pb q,po q+k,none⟩:=by
  unfold Addr.add;split<;>simp_all
 rw[e1]at this;rw[e2];exact this
theorem w9 {w:World} {z:Nat} {q:Option Addr} {rs:List (List Value)} {c:Nat} (h:Go.SL.Rows w z q rs) (hz:∀r∈rs,r.length=z):(kH z rs.length (.slice q rs.length c)).run P w= .ok rs.flatten.toArray w:=by
 cases q with
 |none=>have:=h.nil rfl;subst this;simp [kH]
 |some a=>
  by_cases hne:rs=[]
  ·subst hne
   have:=run_loadCells_list (P:=P) w a [] (fun k v hk=>by simp at hk)
   simpa [kH]using this
  ·have hs:=h.spot hne a rfl
   have ea:a=⟨pb (some a),po (some a),none⟩:=by cases a;simp_all [pb,po]
   have:=run_loadCells_list (P:=P) w a rs.flatten (fun k v hk=>by rw[ea];exact R2 h hz k v hk)
   simp only[kH, ←km hz]
   exact this
theorem Ff {w:World} {z:Nat} {q:Option Addr} {rs:List (List Value)} (h:Go.SL.Rows w z q rs):Go.SL.Rows w.drew z q rs:=⟨h.cells,h.nil,h.spot⟩
theorem A9 {w:World} (hw:St β L w) (i:Nat) {T T' ty E z by_:Nat} {zero:Value} {p q:Option Addr} {cap c2:Nat} {rows rs:List (List Value)} (hT:dF P T E) (hT':dF P T' E) (hE:jW P E z by_ zero)
  (hi:L[i]? =some (own E z p cap rows)) (hq:Go.SL.Rows w z q rs) (hr:∀r∈rs,r.length=z) (h1:∀r∈rs,o5 r=true) (hn:(2*(rows.length+rs.length)+768)*by_≤281474976710656) {aT:Array TypeId} (ha0:aT[0]? =some T) (ha1:aT[1]? =some T'):
  ∃p' cap' w',(rW aT ty #[.slice p rows.length cap,.slice q rs.length c2]).run P w= .ok (.slice p' (rows.length+rs.length) cap') w'∧St β (L.set i (own E z p' cap' (rows++rs))) w'∧(rs≠[]→p'≠none)∧(p≠none→p'≠none):=by
 obtain⟨hz,hby,hze,hzz,hb0⟩:=hE
 obtain⟨o1,o2,o3,o4⟩:=hw.inv i _ hi
 obtain⟨ti,hti,htb⟩:=FD hby w
 have hnew:(kH z rs.length (.slice q rs.length c2)).run P w= .ok rs.flatten.toArray w:=w9 hq hr
 have hhas:∀r'∈rows++rs,r'.length=z:=by
  intro r' hr'
  rcases List.mem_append.1 hr' with q|q
  ·exact o2 r' q
  ·exact hr r' q
 have hu':(underlying T').run P w= .ok (.slice E) w:=run_underlying hT' w
 have hu:(underlying T).run P w= .ok (.slice E) w:=run_underlying hT w
 have hone:∀u∈rs.flatten,u.oneCell'=true:=by
  intro u hu
  obtain⟨r,hr',hu'⟩:=List.mem_flatten.1 hu
  exact pZ (h1 r hr') u hu'
 have hni:¬((rows.length+rs.length:Nat):Int)>IntKind.i64.max:=by
  have:rows.length+rs.length≤281474976710656:=by
   have:(2*(rows.length+rs.length)+768)*1≤(2*(rows.length+rs.length)+768)*by_:=Nat.mul_le_mul_left _ hb0
   omega
  have hm:IntKind.i64.max=9223372036854775807:=rfl
  rw[hm]
  omega
 have hlt:i<L.length:=by
  rcases aK i L.length with h'|h'
  ·exact h'
  ·simp [aH h']at hi
 have hfl:=km o2
 have hfl2:=km hr
 by_cases hc:rows.length+rs.length≤cap
 ·
  cases p with
  |none=>
   have h3:=o3 rfl
   have e1:rows=[]:=h3.1
   have e2:rs=[]:=by
    have:rs.length=0:=by omega
    exact List.length_eq_zero_iff.1 this
   subst e1;subst e2
   have e3:cap=0:=h3.2
   subst e3
   refine⟨none,0,w,?_,?_,by simp,by simp⟩
   ·have:(kH z 0 (.slice q 0 c2)).run P w= .ok #[] w:=by simpa using hnew
    simp [rW,ha0,ha1,hu,hu',jv hz,F7,this]
   ·have e:L.set i (own E z none 0 ([]++[]))=L:=by
     have e0:own E z none 0 ([]++[])=own E z none 0 []:=rfl
     rw[e0]
     refine List.ext_getElem? fun k=>?_
     by_cases ek:k=i
     ·subst ek;rw[List.getElem?_set_self hlt,hi]
     ·rw[eQ (eD ek)]
    rw[e];exact hw
  |some a=>
   obtain⟨g1,g2,C,spare,g3,g4,g5⟩:=o4 a rfl
   have hadd:a.add (rows.length*z)=⟨a.block,rows.length*z,none⟩:=ald g1 g2 _
   have hfit:rows.length*z+rs.flatten.length≤C.size:=by
    rw[g5,hfl2]
    have:=gO z hc
    rw[fF]at this;omega
   have hst:=run_storeCells_at P a.block (rows.length*z) E rs.flatten 0 C w g3 (by simpa using hfit) hone
   simp only[ki]at hst
   refine⟨some a,cap,w.setRow a.block (C.toList.take (rows.length*z)++rs.flatten++C.toList.drop (rows.length*z+rs.flatten.length)).toArray,?_,?_,by simp,by simp⟩
   ·simp only[rW,ha0,ha1,bz,List.getElem?_toArray,List.getElem?_cons_zero,fK,hu,hu',jv hz,F7,bw,cG,bP,if_false,Bool.not_false,if_true,hc,hnew,hadd,hst]
   ·have hw1:=hw.conv i (r':=de a.block (.cells C E)) hi (fun k hk=>⟨by simp,hk⟩) g3
    have hi1:(L.set i (de a.block (.cells C E)))[i]? =some (de a.block (.cells C E)):=by simp [hlt]
    have hw2:=hw1.setRow (C':=(C.toList.take (rows.length*z)++rs.flatten++C.toList.drop (rows.length*z+rs.flatten.length)).toArray) hi1
    rw[jk]at hw2
    have hi2:(L.set i (de a.block (.cells (C.toList.take (rows.length*z)++rs.flatten++C.toList.drop (rows.length*z+rs.flatten.length)).toArray E)))[i]? =some (de a.block (.cells (C.toList.take (rows.length*z)++rs.flatten++C.toList.drop (rows.length*z+rs.flatten.length)).toArray E)):=by simp [hlt]
    have hfin:(own E z (some a) cap (rows++rs)).inv (w.setRow a.block (C.toList.take (rows.length*z)++rs.flatten++C.toList.drop (rows.length*z+rs.flatten.length)).toArray):=by
     refine⟨by simp;omega,hhas,fun h=>(by cases h),fun a' ha'=>?_⟩
     cases ha'
     refine⟨g1,g2,_,C.toList.drop (rows.length*z+rs.flatten.length),hw2.inv i _ hi2,?_,?_⟩
     ·have:C.toList.take (rows.length*z)=rows.flatten:=by rw[g4,List.take_append_of_le_length (by omega),dK (by omega)]
      simp [this]
     ·have:=hfit
      simp only[gU,aZ,List.length_take,List.length_drop,Array.length_toList]
      rw[←g5];omega
    have hw3:=hw2.conv (r':=own E z (some a) cap (rows++rs)) i hi2 (fun k hk=>hk.2) hfin
    rwa [jk]at hw3
 ·
  have hcap:¬rows.length+rs.length≤cap:=hc
  have hncap:¬(sW (rows.length+rs.length) cap*ti.bytes>2 ^ 48):=by
   have h2:=MM (need:=rows.length+rs.length) (cap:=cap) (by omega)
   have h3:=gO by_ h2
   rw[htb];omega
  generalize hcc:Qb (.appendCap (rows.length+rs.length) cap E) (w.tape w.drawn (.appendCap (rows.length+rs.length) cap E))=cap'
  have hge:rows.length+rs.length≤cap':=by rw[←hcc];simp [Qb]
  have hrows:Go.SL.Rows w z p rows:=dE hw i hi
  have hold:(kH z rows.length (.slice p rows.length cap)).run P w.drew= .ok rows.flatten.toArray w.drew:=w9 (Ff hrows) o2
  have hnew':(kH z rs.length (.slice q rs.length c2)).run P w.drew= .ok rs.flatten.toArray w.drew:=w9 (Ff hq) hr
  have hti':(typeInfo E).run P w.drew= .ok ti w.drew:=by
   cases hq:P.info? E with
   |none=>simp [typeInfo,hq]at hti
   |some i=>simp [typeInfo,hq]at hti ⊢;exact hti
  refine⟨some ⟨w.heap.size,0,none⟩,cap',(F8 w.drew (.cells (rows.flatten.toArray++rs.flatten.toArray++dV zero.cells (cap'-(rows.length+rs.length))) E)),?_,?_,by simp,by simp⟩
  ·have hb1:ti.bytes≠0:=by omega
   have hncap':¬(281474976710656<sW (rows.length+rs.length) cap*ti.bytes):=by omega
   simp [rW,ha0,ha1,hu,hu',jv hz,F7,hcap,hti,hb1,hncap',Question.forced,hcc,hti',hold,hnew',mc hze,newRow]
   congr 2
   apply Array.ext'
   simp
  ·have hw':=(hw.drew (w.drawn+1):St β L w.drew).alloc (.cells (rows.flatten.toArray++rs.flatten.toArray++dV zero.cells (cap'-(rows.length+rs.length))) E)
   have hm:St β (L.set i (de w.heap.size (.cells (rows.flatten.toArray++rs.flatten.toArray++dV zero.cells (cap'-(rows.length+rs.length))) E))) (F8 w.drew (.cells (rows.flatten.toArray++rs.flatten.toArray++dV zero.cells (cap'-(rows.length+rs.length))) E)):=by
    refine hw'.map (fun k=>if k=i then 0 else k+1) ?_ ?_
    ·intro a b hab _ _
     by_cases e1:a=i<;>by_cases e2:b=i<;>simp [e1,e2]<;>omega
    ·intro k s hs
     right
     by_cases e:k=i
     ·subst e;simp [hlt]at hs;simp [hs]
     ·rw[eQ (eD e)]at hs
      simp [e,hs]
   have hi2:(L.set i (de w.heap.size (.cells (rows.flatten.toArray++rs.flatten.toArray++dV zero.cells (cap'-(rows.length+rs.length))) E)))[i]? =some (de w.heap.size (.cells (rows.flatten.toArray++rs.flatten.toArray++dV zero.cells (cap'-(rows.length+rs.length))) E)):=by simp [hlt]
   have hfin:(own E z (some ⟨w.heap.size,0,none⟩) cap' (rows++rs)).inv (F8 w.drew (.cells (rows.flatten.toArray++rs.flatten.toArray++dV zero.cells (cap'-(rows.length+rs.length))) E)):=by
    refine⟨by simp;omega,hhas,fun h=>(by cases h),fun a' ha'=>?_⟩
    cases ha'
    refine⟨rfl,rfl,_,(dV zero.cells (cap'-(rows.length+rs.length))).toList,hm.inv i _ hi2,by simp,?_⟩
    simp only[Array.size_append,gU,hfl,hfl2,ry,hzz]
    rw[←fF, ←fF]
    congr 1;omega
   have:=hm.conv (r':=own E z (some ⟨w.heap.size,0,none⟩) cap' (rows++rs)) i hi2 (fun k hk=>hk.2) hfin
   rwa [jk]at this
theorem JP {w:World} (hw:St β L w) (i j:Nat) {T T' ty E z by_:Nat} {zero:Value} {p:Option Addr} {cap b:Nat} {rows:List (List Value)} {r:List Value} (hT:dF P T E) (hT':dF P T' E) (hE:jW P E z by_ zero)
  (hi:L[i]? =some (own E z p cap rows)) (hj:L[j]? =some (de b (.cells r.toArray E))) (hr:r.length=z) (h1:o5 r=true) (hn:(2*(rows.length+1)+768)*by_≤281474976710656) {aT:Array TypeId} (ha0:aT[0]? =some T) (ha1:aT[1]? =some T'):
  ∃p' cap' w',(rW aT ty #[.slice p rows.length cap,.slice (some ⟨b,0,none⟩) 1 1]).run P w= .ok (.slice p' (rows.length+1) cap') w'∧St β (L.set i (own E z p' cap' (rows++[r]))) w':=by
 have hbk:w.heap[b]? =some (.cells r.toArray E (0,0)):=hw.inv j _ hj
 have hq:Go.SL.Rows w z (some ⟨b,0,none⟩) [r]:=by
  refine⟨fun i2 r2 h2 j2 v hv=>?_,fun h=>(by cases h),fun _ a ha=>?_⟩
  ·cases i2 with
   |zero=>
    have e:=gV h2
    subst e
    show w.cell? ((⟨b,0+0*z,none⟩:Addr).add j2)=some v
    by_cases q:j2=0
    ·subst q;simpa [Addr.add,lK,hbk]using hv
    ·simpa [Addr.add,lK,hbk,q]using hv
   |succ n=>cases h2
  ·cases ha;rfl
 obtain⟨p',cap',w',h2,h3,_⟩:=A9 (ty:=ty) (c2:=1) hw i hT hT' hE hi hq (fun x hx=>by rw[bT.1 hx];exact hr) (fun x hx=>by rw[bT.1 hx];exact h1) hn ha0 ha1
 exact⟨p',cap',w',h2,h3⟩
theorem HO.aeR (i j:Nat) (LF:cq→List cq) {x y:Operand} {T T' E z by_:Nat} {aT:Array TypeId} {zero:Value} {p:Option Addr} {n cap b:Nat} {rows:List (List Value)} {C:Array Value} {r:List Value} (hT:dF P T E) (hT':dF P T' E) (hE:jW P E z by_ zero) (hx:OV env x (.slice p n cap)) (hy:OV env y (.slice (some ⟨b,0,none⟩) 1 1))
  (hi:L[i]? =some (own E z p cap rows)) (hj:L[j]? =some (de b (.cells C E))) (hC:C=r.toArray) (hr:eV r.length z=true) (h1:o5 r=true) (ha0:aT[0]? =some T) (ha1:aT[1]? =some T') (hL:∀R:cq,L.set i R=LF R) (hn:n=rows.length) (hs:(2*(n+1)+768)*by_≤281474976710656)
  (k:∀p' cap',K (.slice p' (n+1) cap') (LF (own E z p' cap' (rows++[r])))):HO P β env L ⟨dd,.call ⟨.builtin .append,#[x,y],aT⟩,ty,pos,aft,none⟩ K:=by
 intro a w h hw
 subst hn;subst hC
 obtain⟨p',cap',w',h2,h3⟩:=JP (ty:=ty) hw i j hT hT' hE hi hj (bO hr) h1 hs ha0 ha1
 refine .inl ⟨_,w',_,_,?_,.inl rfl,k p' cap',by rw[←hL];exact h3⟩
 have ex:a.eval x= .slice p rows.length cap:=by obtain⟨u,hu,e⟩:=hx;subst e;exact h x (by simp [az,eM]) _ hu
 have ey:a.eval y= .slice (some ⟨b,0,none⟩) 1 1:=by obtain⟨u,hu,e⟩:=hy;subst e;exact h y (by simp [az,eM]) _ hu
 simp [execOp,resolve,invoke,builtin,ex,ey,h2]
end
end
section
variable {P:Program} {ro:Option Nat} {β:Bs} {N:Nat} {ds:List Deferred} {env:Env} {L:List cq} {Q:Exit→Act→World→Prop}
def Dis (L:List cq):Prop:=∀(i j:Nat) (r s:cq),i≠j→L[i]? =some r→L[j]? =some s→∀k,r.fp k→¬s.fp k
theorem St.Um {w w':World} (i:Nat) {r r':cq} (h:St β L w) (hi:L[i]? =some r) (k:St ⟨w,r.fp⟩ [r'] w'):St β (L.set i r') w':=by
 have hlt:i<L.length:=by
  rcases aK i L.length with q|q
  ·exact q
  ·simp [aH q]at hi
 
 have h1:St β ([r]++L.eraseIdx i) w:=by
  refine h.map (fun j=>if j=0 then i else if j-1<i then j-1 else j) ?_ ?_
  ·intro a b hab ha hb
   split<;>split<;>(try split)<;>(try split)<;>omega
  ·intro j s hs
   right
   cases j with
   |zero=>simp at hs;subst hs;simpa using hi
   |succ j=>
    simp only[jL,fK,oQ]at hs
    simp only[Nat.add_one_ne_zero,if_false,Nat.add_sub_cancel]
    by_cases q:j<i
    ·simpa [q]using hs
    ·simpa [q]using hs
 have h2:=h1.Fo (O:=r.fp) (fun k hk=>⟨0,r,rfl,hk⟩) k
 refine h2.map (fun j=>if j=i then 0 else if j<i then j+1 else j) ?_ ?_
 ·intro a b hab ha hb
  split<;>split<;>(try split)<;>(try split)<;>omega
 ·intro j s hs
  right
  by_cases e:j=i
  ·subst e;simp [hlt]at hs;subst hs;simp
  ·rw[eQ (eD e)]at hs
   simp only[e,if_false]
   by_cases q:j<i
   ·simp only[q,if_true,jL,fK,oQ]
    exact hs
   ·simp only[q,if_false]
    obtain⟨j',rfl⟩:∃j',j=j'+1:=⟨j-1,by omega⟩
    simp only[jL,fK,oQ]
    rw[if_neg (by omega)]
    exact hs
def yv (l:Nat):Value:=.func (.yield l) #[] #[]
def yW (P:Program) (l:Nat) (args:List Value) (w:World) (R:Ending→World→Prop):Prop:=
 ∃fn tmps as_ bd,(Instr.yield l args.toArray).run P w= .ok (.round l fn tmps as_ bd) w∧RoundIn kU 0 P l fn tmps as_ bd w R
theorem HO.yield (i:Nat) {K:Value→List cq→Prop} {dd:Option Nat} {ty:TypeId} {pos:String} {aft:Array Edge} {g:Option (Nat×Bool)} {fx:Operand} {xs:List Operand} {vs:List Value} {aT:Array TypeId} {l:Nat} {r:cq} {post:Bool→cq→Prop}
  (hfx:OV env fx (yv l)) (hx:B9 env xs vs) (hi:L[i]? =some r)
  (hy:∀w,r.inv w→(∀k,r.fp k→k<w.heap.size)→(w.os=β.w.os∧w.tape=β.w.tape∧w.output=β.w.output∧β.w.heap.size≤w.heap.size)→yW P l vs w fun e w'=>∃b r',e= .returned (.bool b)∧post b r'∧St ⟨w,r.fp⟩ [r'] w')
  (k:∀b r',post b r'→K (.bool b) (L.set i r')):HO P β env L ⟨dd,.call ⟨.value fx,xs.toArray,aT⟩,ty,pos,aft,g⟩ K:=by
 intro a w h hw
 obtain⟨fn,tmps,as_,bd,hrun,hr⟩:=hy w (hw.inv i r hi) (fun k hk=>(hw.pM i r hi k hk).2) ⟨hw.os,hw.tape,hw.output,hw.size⟩
 refine .inr (.inr ⟨l,fn,tmps,as_,bd,?_,?_⟩)
 ·have hm:xs.map a.eval=vs:=hx.map fun x hm u hu=>by obtain⟨u',hu',e⟩:=hu;subst e;exact h x (by simp [az,eM,hm]) u' hu'
  have hfe:a.eval fx=yv l:=by obtain⟨u',hu',e⟩:=hfx;subst e;exact h fx (by simp [az,eM]) _ hu'
  simp [execOp,resolve,hfe,yv,mJ,invoke,hm,hrun]
 ·refine JX hr ?_
  rintro e w' ⟨b,r',rfl,hp,hs⟩
  exact⟨_,_,rfl,k b r' hp,hw.Um i hi hs⟩
def MG (P:Program) (gf:FuncId) (lb:List Value) (Cap:World→Prop) (xs:List (List Value)):Prop:=
 ∀(l:Nat) (J Jx:Nat→cq→Prop) (w:World) (r0:cq),
  (∀n r w,J n r→r.inv w→Cap w)→
  (∀n vs,xs[n]? =some vs→∀r w1,J n r→r.inv w1→(∀k,r.fp k→k<w1.heap.size)→(w1.os=w.os∧w1.tape=w.tape∧w1.output=w.output∧w.heap.size≤w1.heap.size)→yW P l vs w1 fun e w'=>∃b r',e= .returned (.bool b)∧(if b then J (n+1) r' else Jx (n+1) r')∧St ⟨w1,r.fp⟩ [r'] w')→
  J 0 r0→r0.inv w→(∀k,r0.fp k→k<w.heap.size)→
  Calls P gf (yv l::lb).toArray w fun e w'=>e= .returned (.tuple #[])∧∃n r',(J xs.length r'∨(n≤xs.length∧Jx n r'))∧St ⟨w,r0.fp⟩ [r'] w'
def RB (β:Bs) {α:Type} (F:α→List cq) (T:List cq) (I:α→Prop) (Ix:Code→α→Prop):Exit→Act→World→Prop
 | .normal,_,w=>∃y,I y∧St β (F y++T) w
 | .ret,_,w=>∃y,Ix .ret y∧St β (F y++T) w
 | .exit id,_,w=>∃y,Ix (.exit id) y∧St β (F y++T) w
 |_,_,_=>False
def mark (D:Nat):Deferred:={ target:=.collected D,args:=#[] }
def dR (D:Nat):cq:=de D (.deferred (some []))
theorem St.obj {w:World} {b:Nat} {o o':Obj} (i:Nat) (h:St β L w) (hi:L[i]? =some (de b o)):St β (L.set i (de b o')) (w.putObj b o'):=by
 have hb:w.heap[b]? =some o:=h.inv i _ hi
 have hlt:b<w.heap.size:=(Array.getElem?_eq_some_iff.1 hb).1
 exact h.SR hi rfl (World.putObj_heap_same hlt) (fun k hk=>World.putObj_heap_other hk) (by simp [World.putObj]) rfl rfl rfl
theorem St.tn {w:World} (h:St β L w):St ⟨w,lu L⟩ L w:=
 ⟨rfl,rfl,rfl,bA _,fun _ _ _=>rfl,h.inv,fun i r hr k hk=>⟨.inl ⟨i,r,hr,hk⟩,(h.pM i r hr k hk).2⟩,h.wG⟩
theorem St.back {w w':World} {R:List cq} (h:St β L w) (k:St ⟨w,lu L⟩ R w'):St β R w':=by
 have:=St.Fo (L1:=L) (L2:=[]) (by simpa using h) (fun k hk=>hk) k
 simpa using this
def LB (β:Bs) (L:List cq):cq:=⟨fun k=>lu L k∨(k<β.w.heap.size∧¬β.O k),fun w=>(∀(i:Nat) (r:cq),L[i]? =some r→r.inv w)∧(∀k,k<β.w.heap.size→¬β.O k→w.heap[k]? =β.w.heap[k]?),
 fun h hi=>⟨fun i r hr=>r.loc (fun k hk=>h k (.inl ⟨i,r,hr,hk⟩)) (hi.1 i r hr),fun k hk hO=>(h k (.inr ⟨hk,hO⟩)).trans (hi.2 k hk hO)⟩⟩
def Fits (β:Bs) (L:List cq):Prop:=Dis L∧∀k,lu L k→β.O k∨β.w.heap.size≤k
theorem St.fits {w:World} (h:St β L w):Fits β L:=⟨h.wG,fun k ⟨i,r,hr,hk⟩=>(h.pM i r hr k hk).1⟩
theorem St.G8 {w w1:World} {O:Nat→Prop} (hf:Fits β L) (hos:w.os=β.w.os∧w.tape=β.w.tape∧w.output=β.w.output∧β.w.heap.size≤w.heap.size) (hinv:(LB β L).inv w) (hb:∀k,(LB β L).fp k→k<w.heap.size):St β L w:=
 ⟨hos.1,hos.2.1,hos.2.2.1,hos.2.2.2,hinv.2,hinv.1,fun i r hr k hk=>⟨hf.2 k ⟨i,r,hr,hk⟩,hb k (.inl ⟨i,r,hr,hk⟩)⟩,hf.1⟩
theorem St.Uw {w1 w2:World} {L2:List cq} (h1:St β L w1) (h2:St ⟨w1,lu L⟩ L2 w2):St ⟨w1,(LB β L).fp⟩ [LB β L2] w2:=by
 have hb:=h1.back h2
 refine⟨h2.os,h2.tape,h2.output,h2.size,fun k hk hO=>h2.fr k hk (fun q=>hO (.inl q)),?_,?_,?_⟩
 ·intro i r hr
  cases i with
  |zero=>simp at hr;subst hr;exact⟨hb.inv,hb.fr⟩
  |succ i=>simp at hr
 ·intro i r hr k hk
  cases i with
  |zero=>
   simp at hr;subst hr
   rcases hk with⟨j,s,hs,hk⟩|⟨hk,hO⟩
   ·have:=h2.pM j s hs k hk
    exact⟨this.1.imp (fun q=>.inl q) (fun q=>q),this.2⟩
   ·exact⟨.inl (.inr ⟨hk,hO⟩),et hk hb.size⟩
  |succ i=>simp at hr
 ·intro i j r s hij hr hs
  cases i with
  |zero=>cases j with|zero=>exact absurd rfl hij|succ j=>simp at hs
  |succ i=>simp at hr
def ND (ps:Array Tmp) (vs:List Value):Env:=(ps.toList.zip vs).reverse
theorem MT {N:Nat} {ds:List Deferred}:∀(zs:List (Nat×Value)) (env:Env) (a:Act),(∀z∈zs,z.1<N)→Ag N ds env a→Ag N ds (zs.reverse++env) { a with tmps:=zs.foldl (fun t (p,v)=>t.setIfInBounds p v) a.tmps }
 |[],env,a,_,ha=>by simpa using ha
 |(t,v)::zs,env,a,h,ha=>by
  have h1:=ha.put (h (t,v) (by simp)) v
  have:=MT zs _ _ (fun z hz=>h z (by simp [hz])) h1
  simpa [eK]using this
def AP (β:Bs) (N:Nat) (env:Env) (L:List cq):Exit→Act→World→Prop:=fun e a w=>e= .normal∧Ag N [] env a∧St β L w
theorem VC.Nc {α:Type} {gop:Operand} {ps:Array Tmp} {asg body:Code} {gf:FuncId} {lb:List Value} {Cap:World→Prop} {xs:List (List Value)} (F:α→List cq) (I:Nat→α→Prop) (Ix:Code→Nat→α→Prop) (x0:α) (envb:List Value→Env)
  (hg:ev env gop=some (.func (.func gf) #[] lb.toArray)) (hf:ef P gf) (hseq:MG P gf lb Cap xs) (hF0:∀w,St β L w→St β (F x0) w) (h0:I 0 x0)
  (hps:∀vs,vs∈xs→vs.length=ps.size) (hpN:ps.toList.all (fun t=>df t N)=true)
  (hCap:∀n x w,I n x→(∀(i:Nat) (r:cq),(F x)[i]? =some r→r.inv w)→(∀k,k<β.w.heap.size→¬β.O k→w.heap[k]? =β.w.heap[k]?)→Cap w)
  (hasg:∀(n:Nat) (x:α) (vs:List Value) l T w1,I n x→xs[n]? =some vs→St β (F x++T) w1→VC P (some l) ⟨w1,lu (F x++T)⟩ N [] (ND ps vs++env) (F x++T) asg (AP ⟨w1,lu (F x++T)⟩ N (envb vs) (F x++T)))
  (hbody:∀(n:Nat) (x:α) (vs:List Value) l T w1,I n x→xs[n]? =some vs→St β (F x++T) w1→VC P (some l) ⟨w1,lu (F x++T)⟩ N [] (envb vs) (F x++T) body (RB ⟨w1,lu (F x++T)⟩ F T (I (n+1)) (fun c=>Ix c (n+1))))
  (hdone:∀D x,I xs.length x→VE β N [mark D] env (F x++[dR D]) .normal Q)
  (hstop:∀D c n x,n≤xs.length→Ix c n x→VC P none β N [mark D] env (F x++[dR D]) c Q):
  VC P none β N [] env L (.rangeFunc gop ps asg body) Q:=by
 intro a w ha hw
 have hw0:=hF0 w hw
 refine wpIn_rangeFunc fun fn _=>?_
 obtain⟨rec,hrec⟩:∃rec:LoopState→Option Code→Loop,rec=fun st pe=>{ state:=st,pending:=pe,fn,tmps:=a.tmps,params:=ps,assign:=asg,body,defers:=w.heap.size }:=⟨_,rfl⟩
 obtain⟨D,hD⟩:∃D,D=w.heap.size:=⟨_,rfl⟩
 obtain⟨l,hl⟩:∃l,l=w.heap.size+1:=⟨_,rfl⟩
 obtain⟨W1,hW1⟩:∃W1,(w.alloc (.deferred (some []))).alloc (.loop (rec .ready none))=W1:=⟨_,rfl⟩
 obtain⟨T,hT⟩:∃T:LoopState→Option Code→List cq,T=fun st pe=>[de l (.loop (rec st pe)),dR D]:=⟨_,rfl⟩
 have hTget:∀x st pe,(F x++T st pe)[(F x).length]? =some (de l (.loop (rec st pe))):=by intro x st pe;simp [hT]
 have hTset:∀x st pe st' pe',(F x++T st pe).set (F x).length (de l (.loop (rec st' pe')))=F x++T st' pe':=by intro x st pe st' pe';simp [hT]
 have hst1:St β (F x0++T .ready none) W1:=by
  have h1:=(hw0.alloc (.deferred (some []))).alloc (.loop (rec .ready none))
  rw[hW1,World.size_alloc]at h1
  refine h1.map (fun j=>if j<(F x0).length then j+2 else if j=(F x0).length then 0 else 1) ?_ ?_
  ·intro a b hab ha hb
   simp [hT]at ha hb
   split<;>split<;>(try split)<;>(try split)<;>omega
  ·intro j r hr
   right
   rw[jg]at hr
   by_cases q:j<(F x0).length
   ·simp only[q,if_true]at hr ⊢
    simpa using hr
   ·simp only[q,if_false]at hr ⊢
    by_cases e:j=(F x0).length
    ·subst e;simp [hT]at hr;subst hr;simp [hl]
    ·have:j=(F x0).length+1:=by
      rcases aK (j-(F x0).length) 2 with s|s
      ·omega
      ·simp only[hT]at hr;rw[aH (by simpa using s)]at hr;cases hr
     subst this
     simp [hT]at hr;subst hr;simp [dR,hD]
 
 have endx:∀x st pe w',St β (F x++T st pe) w'→st≠ .busy→∃w4,(Instr.endLoop l).run P w'= .ok pe w4∧St β (F x++[dR D]) w4:=by
  intro x st pe w' hs hne
  have hrl:w'.heap[l]? =some (.loop (rec st pe)):=hs.inv _ _ (hTget x st pe)
  refine⟨w'.putObj l (.loop { rec st pe with state:=.exhausted }),?_,?_⟩
  ·have:=run_endLoop (P:=P) hrl (by rw[hrec];exact hne)
   rw[this];congr 1;rw[hrec]
  ·have h2:=hs.obj (o':=.loop { rec st pe with state:=.exhausted }) _ (hTget x st pe)
   refine h2.map (fun j=>if j<(F x).length then j else j+1) ?_ ?_
   ·intro a b hab ha hb
    split<;>split<;>omega
   ·intro j r hr
    right
    rw[jg]at hr
    by_cases q:j<(F x).length
    ·simp only[q,if_true]at hr ⊢
     rw[eQ (by omega),aJ q];exact hr
    ·simp only[q,if_false]at hr ⊢
     have:j=(F x).length:=by
      rcases aK (j-(F x).length) 1 with s|s
      ·omega
      ·rw[aH (by simpa using s)]at hr;cases hr
     subst this
     simp at hr;subst hr
     rw[eQ (by omega),aY (by omega)]
     simp [hT]
 refine⟨l,[mark D],W1,{ target:=.fn (.func gf) lb.toArray,args:=#[yv l] },W1,gf,(yv l::lb).toArray,W1,?_,?_,?_,?_,fun h=>by simp [Wf,kU]at h,?_⟩
 ·rw[←hW1,hrec,hl,hD];exact run_enterLoop_outer _ _ _ _ _
 ·have e:a.eval gop= .func (.func gf) #[] lb.toArray:=ha.eval hg
  simp only[resolve,e]
  simp [mJ,yv,ep]
 ·intro f' _;exact True.intro
 ·simp [invoke,re hf]
 ·refine rv.2 ((hseq l (fun n r=>∃x,I n x∧r=LB β (F x++T .ready none)∧Fits β (F x++T .ready none)) (fun n r=>∃c x,Ix c n x∧r=LB β (F x++T .done (some c))∧Fits β (F x++T .done (some c)))
   W1 (LB β (F x0++T .ready none)) ?_ ?_ ⟨x0,h0,rfl,hst1.fits⟩ ⟨hst1.inv,hst1.fr⟩ ?_).mono ?_)
  ·rintro n r w' ⟨x,hI,rfl,_⟩ hinv
   exact hCap n x w' hI (fun i r hr=>hinv.1 i r (by
    rw[aJ]
    ·exact hr
    ·rcases aK i (F x).length with q|q
     ·exact q
     ·simp [aH q]at hr)) hinv.2
  ·
   rintro n vs hvs r w1 ⟨x,hI,rfl,hfit⟩ hinv hb hos
   have hs1:St β (F x++T .ready none) w1:=St.G8 (w1:=w1) (O:=β.O) hfit ⟨hos.1.trans hst1.os,hos.2.1.trans hst1.tape,hos.2.2.1.trans hst1.output,eL hst1.size hos.2.2.2⟩ hinv hb
   have hrl:w1.heap[l]? =some (.loop (rec .ready none)):=hs1.inv _ _ (hTget x .ready none)
   have hlen:vs.toArray.size=ps.size:=by simpa using hps vs (al hvs)
   have hy:=run_yield (P:=P) (args:=vs.toArray) hrl (by rw[hrec];exact hlen)
   refine⟨_,_,_,_,hy,?_⟩
   refine roundIn_of_wpIn (F:=kU) (n:=0) True.intro ?_
   have hA:Ag N [] (ND ps vs++env) { tmps:=(ps.zip vs.toArray).foldl (fun t (p,v)=>t.setIfInBounds p v) a.tmps,defers:=[] }:=by
    have h1:=MT (N:=N) (ds:=[]) (ps.toList.zip vs) env { tmps:=a.tmps,defers:=[] } (fun z hz=>by
     have hm:z.1∈ps.toList:=(List.of_mem_zip (a:=z.1) (b:=z.2) hz).1
     exact bh (bF.1 hpN z.1 hm)) ⟨ha.size,rfl,ha.get⟩
    have e:(ps.zip vs.toArray).foldl (fun t (p,v)=>t.setIfInBounds p v) a.tmps=(ps.toList.zip vs).foldl (fun t (p,v)=>t.setIfInBounds p v) a.tmps:=by
     rw[←sU,Array.toList_zip]
    rw[e];exact h1
   have ha1:=hasg n x vs l (T .ready none) w1 hI hvs hs1 _ w1 hA hs1.tn
   rw[hrec]
   refine mm ?_ ha1
   rintro e a2 w2 ⟨rfl,hag,hs2⟩
   have hs2':=hs1.back hs2
   have hrl2:w2.heap[l]? =some (.loop (rec .ready none)):=hs2.inv _ _ (hTget x .ready none)
   refine⟨w2.putObj l (.loop { rec .ready none with state:=.busy }),run_beginRound hrl2 (by rw[hrec]),?_⟩
   have eb:({ rec .ready none with state:=.busy }:Loop)=rec .busy none:=by rw[hrec]
   rw[eb]
   have hs3:=hs2'.obj (o':=.loop (rec .busy none)) _ (hTget x .ready none)
   rw[hTset]at hs3
   have hs3':=hs2.obj (o':=.loop (rec .busy none)) _ (hTget x .ready none)
   rw[hTset]at hs3'
   have hb1:=hbody n x vs l (T .busy none) _ hI hvs hs3 _ _ hag hs3.tn
   refine mm ?_ hb1
   intro e a3 w3 hq
   have fin:∀y (jump:Option Code),St ⟨w2.putObj l (.loop (rec .busy none)),lu (F x++T .busy none)⟩ (F y++T .busy none) w3→
     ∃w4,(Instr.endRound l jump).run P w3= .ok (.bool jump.isNone) w4∧St ⟨w1,(LB β (F x++T .ready none)).fp⟩ [LB β (F y++T (if jump.isNone then .ready else .done) jump)] w4∧Fits β (F y++T (if jump.isNone then .ready else .done) jump):=by
    intro y jump hsy
    have h4:=hs3'.back hsy
    have hrl3:w3.heap[l]? =some (.loop (rec .busy none)):=h4.inv _ _ (hTget y .busy none)
    refine⟨_,run_endRound jump hrl3,?_⟩
    have er:({ rec .busy none with state:=if jump.isNone then .ready else .done,pending:=jump }:Loop)=rec (if jump.isNone then .ready else .done) jump:=by rw[hrec]
    rw[er]
    have h5:=h4.obj (o':=.loop (rec (if jump.isNone then .ready else .done) jump)) _ (hTget y .busy none)
    rw[hTset]at h5
    exact⟨St.Uw hs1 h5,(hs1.back h5).fits⟩
   cases e with
   |normal=>
    obtain⟨y,hy1,hy2⟩:=hq
    obtain⟨w4,h1,h2,h3⟩:=fin y none hy2
    exact⟨_,w4,h1,true,_,rfl,⟨y,hy1,rfl,h3⟩,h2⟩
   |ret=>
    obtain⟨y,hy1,hy2⟩:=hq
    obtain⟨w4,h1,h2,h3⟩:=fin y (some .ret) hy2
    exact⟨_,w4,h1,false,_,rfl,⟨_,y,hy1,rfl,h3⟩,h2⟩
   |exit id=>
    obtain⟨y,hy1,hy2⟩:=hq
    obtain⟨w4,h1,h2,h3⟩:=fin y (some (.exit id)) hy2
    exact⟨_,w4,h1,false,_,rfl,⟨_,y,hy1,rfl,h3⟩,h2⟩
   |goto t=>exact hq.elim
   |panic ch=>exact hq.elim
   |outgrown=>exact hq.elim
  ·intro k hk
   rcases hk with⟨i,r,hr,hk⟩|⟨hk,_⟩
   ·exact(hst1.pM i r hr k hk).2
   ·exact et hk hst1.size
  ·rintro e w' ⟨rfl,n,r',hJ,hs⟩
   have toSt:∀L2,r'=LB β L2→Fits β L2→St β L2 w':=by
    rintro L2 rfl hfit
    have hb:=hs.pM 0 _ rfl
    exact St.G8 (w1:=w') (O:=β.O) hfit ⟨hs.os.trans hst1.os,hs.tape.trans hst1.tape,hs.output.trans hst1.output,eL hst1.size hs.size⟩ (hs.inv 0 _ rfl) (fun k hk=>(hb k hk).2)
   have hag:Ag N [mark D] env { a with defers:=[mark D]++a.defers }:=⟨ha.size,by simp [ha.xB],ha.get⟩
   rcases hJ with⟨x,hI,hr,hfit⟩|⟨hle,c,x,hI,hr,hfit⟩
   ·obtain⟨w4,h1,h2⟩:=endx x .ready none w' (toSt _ hr hfit) (by simp)
    exact⟨none,w4,h1,hdone D x hI _ _ hag h2⟩
   ·obtain⟨w4,h1,h2⟩:=endx x .done (some c) w' (toSt _ hr hfit) (by simp)
    exact⟨some c,w4,h1,hstop D c n x hle hI _ _ hag h2⟩
theorem VC.rangeFunc {α:Type} {gop:Operand} {ps:Array Tmp} {asg body:Code} {gf:FuncId} {lb:List Value} {Cap:World→Prop} {xs:List (List Value)} (F:α→List cq) (I:Nat→α→Prop) (Ix:Code→Nat→α→Prop) (x0:α) (envb:List Value→Env)
  (hg:ev env gop=some (.func (.func gf) #[] lb.toArray)) (hf:ef P gf) (hseq:MG P gf lb Cap xs) (hF0:∀w,St β L w→St β (F x0) w) (h0:I 0 x0)
  (hps:∀vs,vs∈xs→vs.length=ps.size) (hpN:ps.toList.all (fun t=>df t N)=true)
  (hCap:∀n x w,I n x→(∀(i:Nat) (r:cq),(F x)[i]? =some r→r.inv w)→Cap w)
  (hasg:∀(n:Nat) (x:α) (vs:List Value) l T w1,I n x→xs[n]? =some vs→St β (F x++T) w1→VC P (some l) ⟨w1,lu (F x++T)⟩ N [] (ND ps vs++env) (F x++T) asg (AP ⟨w1,lu (F x++T)⟩ N (envb vs) (F x++T)))
  (hbody:∀(n:Nat) (x:α) (vs:List Value) l T w1,I n x→xs[n]? =some vs→St β (F x++T) w1→VC P (some l) ⟨w1,lu (F x++T)⟩ N [] (envb vs) (F x++T) body (RB ⟨w1,lu (F x++T)⟩ F T (I (n+1)) (fun c=>Ix c (n+1))))
  (hdone:∀D x,I xs.length x→VE β N [mark D] env (F x++[dR D]) .normal Q)
  (hstop:∀D c n x,n≤xs.length→Ix c n x→VC P none β N [mark D] env (F x++[dR D]) c Q):
  VC P none β N [] env L (.rangeFunc gop ps asg body) Q:=
 VC.Nc F I Ix x0 envb hg hf hseq hF0 h0 hps hpN (fun n x w h1 h2 _=>hCap n x w h1 h2) hasg hbody hdone hstop
theorem VE.aeI (i:Nat) {fn:Func} {R:Ending→World→Prop} {xs:List ResultVar} {vs:List Value} {D:Nat} {LF:List cq} (hr:fn.results=xs.toArray) (hi:L[i]? =some (dR D)) (hL:L.set i (de D (.deferred none))=LF) (h:Xf P β LF env xs vs)
  (k:∀w,St β LF w→R (.returned (gF vs)) w):VE β N [mark D] env L .ret (FP P fn R):=by
 intro a w ha hw
 show LeavesInM (Wf none) 0 P fn a.tmps R a.defers .returning w
 rw[ha.xB]
 have hd:w.heap[D]? =some (.deferred (some [])):=hw.inv i _ hi
 have hs:=hw.obj (o':=.deferred none) i hi
 rw[hL]at hs
 refine⟨by simp,.inl ⟨D,_,rfl,run_takeDeferred hd,?_⟩⟩
 exact⟨_,rQ (ds:=[]) (a:={ tmps:=a.tmps,defers:=[] }) hr ⟨ha.size,rfl,ha.get⟩ hs h,k _ hs⟩
end
end Go.SL
