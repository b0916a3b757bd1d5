/-
  append of several elements: what is appended lies anywhere (own, old, or in part of what is appended to).
  (and more)
-/
import Derived.Test.YtffbohecdocajaaGreatKV01
import Derived.ProofKit
import Derived.OpenShut
import Derived.Carry
import Derived.ChangeCalls
import Derived.JoinedOf
import Derived.ChangeKeysEq
import Derived.Laws.CopyRow
import Derived.Laws.IdiomRangeMap
open List renaming mem_map→bQ,length_map→aq,map_append→bj,sum_cons→oA,flatten_cons→gC,take_append_drop→gQ,length→fT,map_cons→fD,length_take→dt,take_succ_cons→xM,getElem?_eq_some_iff→aj,getElem?_map→aw,getElem?_eq_getElem→af,getElem?_append_left→aJ,getElem_of_mem→da,mem_cons→cA,append_nil→c9,range→br,all_eq_true→bF,getElem?_eq_none→aH,mem_append→bZ,mem_singleton→bT,mem_map_of_mem→bE,mem_iff_getElem?→cV,pairwise_iff_getElem→be,mem_of_getElem?→al,mem_cons_self→gI,pairwise_cons→fL,mem_cons_of_mem→gd,pairwise_append→gb,mem_append_left→dg,mem_append_right→eX,append_assoc→dp,cons_append→qz,perm_middle→jm,sublist_append_left→s4,take_append_of_le_length→gz,drop_append_of_le_length→qB,length_append→aZ,set_set→jk,size_toArray→gU,ext_getElem?→cO,getElem?_set→fe,mem_range→bf,map_toArray→BS,mem_of_mem_take→lB,flatten_append→nZ,replicate→cy,getElem?_range→eu,mem_replicate→oB,nodup_range→uu,nodup_cons→mQ,length_cons→gh,any_eq_false→AI,getElem_mem→fv,getD_eq_getElem?_getD→av,getElem?_append_right→aY,getElem?_append→jg,getElem?_set_ne→eQ,perm_append_comm→iT,getElem_set→uv,getElem_set_self→vF,getElem_set_ne→xO,getElem?_set_self→iF,nodup_append→lM,eraseIdx_eq_take_drop_succ→o9
open Go.Op renaming operands→az,equalIn→gP
open Go.Call renaming operands→eM
open Go.DataW renaming trod→y5,TrodAll→vC
open Bool renaming and_eq_true→aQ,false_eq_true→bP,not_eq_true'→bR,toNat_true→mO
open Nat renaming zero_le→bG,lt_or_ge→aK,blt→df,le_refl→bA,lt_or_gt_of_ne→nY,lt_of_lt_of_le→et,zero_add→gq,add_mul→fF,eq_zero_or_pos→eO,mod_lt→jV,add_zero→ki,mod_eq_of_lt→nf,div_eq_of_lt→na,mul_add→r6,le_of_ble_eq_true→bh
open Go.Value renaming bool→iS,int→bX
open Go.Instr renaming sliceBounds→BQ,sliceBound→DN,fill→jK,findNow→kt,lookup→nX,findKey→ku,mapUpdate→lq,keyThatStays→o7,sameBits→kW,typeAssert→DR,checkKey→mX,findAsking→vH
open Go.Sem renaming run_bind→bz,run_pure→cG
open List.Perm renaming append_left→BR,swap→qd
open Go.Result renaming andThen_ok→bw,andThen→Bu
open Go.Builtin renaming zeroCells→dV,clear_→xN
open Array renaming toList_range→AF,length_toList→fw,eq_empty_of_size_eq_zero→qC,toList_push→jl,toList_filter→y9,toList_inj→DT
open Option renaming map_some→dH
open Go.Deferred renaming ofValue→mJ
open Go.IntKind renaming wrap→vq
open BitVec renaming ofInt→AG,toNat_ofInt→BU
open List.Pairwise renaming filter→tW,nil→wj
open Classical renaming byContradiction→eR,not_not→cL
open Go.Code renaming wpIn_mono→mm
open Go.Question renaming forced→xK
open Go.Proofs.Tryz renaming prog→ae,underlying304→r7
open Go.SL.VO renaming h→aD,l→ah,lg→nv
open Go.SL.HO renaming box→cf
open Go.SL.VC renaming seq→ak,ret→aP,cond→ay,skip→aC
open Go.SL.LL renaming l→aV
open Go.SL.LO renaming fa→aE,ld→aB,mv→bJ
open Go.SL.VE renaming aN→ag,res→dh
open Go.Ending renaming returned→cW
open Int renaming natCast_nonneg→dD
open Go.SL.St renaming inv→dL
open Go.SL.GD renaming nt→mz
open Go.Value.agg renaming inj→aam

set_option linter.unusedSimpArgs false
set_option maxRecDepth 20000
set_option maxHeartbeats 8000000
namespace Go.SL
set_option linter.unusedVariables false
set_option linter.unusedSimpArgs false
open Go.RowKit
section
variable {P:Program} {ro:Option Nat} {β:Bs} {N:Nat} {ds:List Deferred} {env:Env} {L:List cq} {Q:Exit→Act→World→Prop}
variable {ty:TypeId} {pos:String} {aft:Array Edge}
variable {dd:Option Nat}
theorem HO.aja {α:Type} {f:α→List Value} {l m:List α} (i:Nat) (LF:cq→List cq) {K:Value→List cq→Prop} {x y:Operand} {T T' E z by_:Nat} {aT:Array TypeId} {zero:Value} {p q:Option Addr} {n n2 cap c2:Nat} (hT:dF P T E) (hT':dF P T' E) (hE:jW P E z by_ zero) (hx:OV env x (.slice p n cap)) (hy:OV env y (.slice q n2 c2))
  (hi:L[i]? =some (own E z p cap (l.map f))) (hq:∀w,St β L w→Go.SL.Rows w z q (m.map f)) (hz:∀a,(f a).length=z) (h1:∀a,o5 (f a)=true) (ha0:aT[0]? =some T) (ha1:aT[1]? =some T') (hL:∀R:cq,L.set i R=LF R) (hn:n=l.length) (hn2:n2=m.length) (hs:(2*(n+n2)+768)*by_≤281474976710656)
  (k:∀p' cap',(m≠[]∨p≠none→p'≠none)→K (.slice p' (n+n2) cap') (LF (own E z p' cap' ((l++m).map f)))):HO P β env L ⟨dd,.call ⟨.builtin .append,#[x,y],aT⟩,ty,pos,aft,none⟩ K:=by
 intro a w h hw
 subst hn;subst hn2
 obtain⟨p',cap',w',h2,h3,h4,h5⟩:=A9 (ty:=ty) (c2:=c2) hw i hT hT' hE hi (hq w hw) (by intro r hr;obtain⟨b,_,rfl⟩:=bQ.1 hr;exact hz b) (by intro r hr;obtain⟨b,_,rfl⟩:=bQ.1 hr;exact h1 b) (by simpa using hs) ha0 ha1
 refine .inl ⟨_,w',_,_,?_,.inl rfl,k p' cap' (fun q=>q.elim (fun e=>h4 (by simpa using e)) h5),?_⟩
 ·have ex:a.eval x= .slice p l.length cap:=by obtain⟨u,hu,e⟩:=hx;subst e;exact h x (by simp [az,eM]) _ hu
  have ey:a.eval y= .slice q m.length c2:=by obtain⟨u,hu,e⟩:=hy;subst e;exact h y (by simp [az,eM]) _ hu
  simp only[aq]at h2
  simp [execOp,resolve,invoke,builtin,ex,ey,h2]
 ·rw[bj, ←hL];exact h3
end
end Go.SL
namespace Go.SL
set_option linter.unusedVariables false
open Go.RowKit Go.ChangeShapes Go.WideShapes Go.WideElems
section
variable {H:Type} {enc:TypeId×Value→H} {P:Program} {W:World} {base:Nat}
def RD (enc:TypeId×Value→H) (P:Program) (W:World) (t:TypeId) (R:List Value→Prop):Prop:=
 ∀(n:Nat) (cs:List Value) (x:DataW H×List MemPlace),y5 enc P W 0 (fun _=>true) true n t cs=some x→R cs
def kb (k:IntKind) (n:Int):Prop:=k.min≤n∧n≤k.max
theorem RD.int {t:TypeId} {k:IntKind} (ht:P.underlying t=some (.int k)):RD enc P W t fun cs=>∃n,cs=[.int k n]∧kb k n:=fun n cs x hx=>by
 obtain⟨m,h,_,hw⟩:=DataW.trod_int ht hx
 simp only[Lit.wf,aQ,decide_eq_true_eq]at hw
 exact⟨m,h,hw⟩
theorem RD.bool {t:TypeId} (ht:P.underlying t=some .bool):RD enc P W t fun cs=>∃b,cs=[.bool b]:=fun n cs x hx=>by
 obtain⟨b,h,_⟩:=DataW.trod_bool ht hx
 exact⟨b,h⟩
def splitBy {α:Type}:List Nat→List α→List (List α)
 |[],_=>[]
 |z::zs,l=>l.take z::splitBy zs (l.drop z)
theorem yS {α:Type}:∀(zs:List Nat) (l:List α),l.length=zs.sum→(splitBy zs l).flatten=l
 |[],l,h=>by simp at h;simp [splitBy,h]
 |z::zs,l,h=>by
  simp only[oA]at h
  rw[splitBy,gC,yS zs (l.drop z) (by simp;omega),gQ]
theorem vn {α:Type}:∀(zs:List Nat) (l:List α),l.length=zs.sum→(splitBy zs l).map fT=zs
 |[],l,h=>rfl
 |z::zs,l,h=>by
  simp only[oA]at h
  rw[splitBy,fD,vn zs (l.drop z) (by simp;omega),dt,Nat.min_eq_left (by omega)]
theorem Bc {α:Type}:∀(zs:List Nat) (l:List α) (i z:Nat) (c:List α),zs[i]? =some z→(splitBy zs l)[i]? =some c→c=(l.drop (zs.take i).sum).take z
 |[],l,i,z,c,h,k=>by simp at h
 |y::zs,l,i,z,c,h,k=>by
  cases i with
  |zero=>simp at h;simp [splitBy]at k;subst h;subst k;simp
  |succ i=>
   have:=Bc zs (l.drop y) i z c (by simpa using h) (by simpa [splitBy]using k)
   rw[this,List.drop_drop]
   simp only[xM,oA]
def Ng:Nat→List Nat→List Nat
 |_,[]=>[]
 |o,z::zs=>o::Ng (o+z) zs
theorem Jg:∀(zs:List Nat) (o i:Nat) (a:Nat),(Ng o zs)[i]? =some a→a=o+(zs.take i).sum
 |[],o,i,a,h=>by simp [Ng]at h
 |z::zs,o,i,a,h=>by
  cases i with
  |zero=>simp [Ng]at h;simp [h]
  |succ i=>
   have:=Jg zs (o+z) i a (by simpa [Ng]using h)
   rw[this,xM,oA];omega
theorem CR {t:TypeId} {fs:List Field} {zs:List Nat} {n:Nat} {cs:List Value} {x:DataW H×List MemPlace} (ht:P.underlying t=some (.struct fs.toArray)) (hz:fs.map (fun f=>P.cellsOf f.type)=zs) (ho:fs.map (·.offset)=Ng 0 zs) (hs:P.cellsOf t=zs.sum)
  (h:y5 enc P W 0 (fun _=>true) true n t cs=some x):
  ∃css:List (List Value),cs=css.flatten∧css.length=zs.length∧css.map fT=zs∧∀(i:Nat) (f:Field) (c:List Value),fs[i]? =some f→css[i]? =some c→∃m y,y5 enc P W 0 (fun _=>true) true m f.type c=some y:=by
 obtain⟨xs,m,_,_,hl,hlen,hf⟩:=DataW.trod_struct ht h
 refine⟨splitBy zs cs,(yS zs cs (by omega)).symm,by simpa using congrArg fT (vn zs cs (by omega)),vn zs cs (by omega),fun i f c h1 h2=>?_⟩
 have hi:i<fs.length:=(aj.1 h1).1
 have e1:zs[i]? =some (P.cellsOf f.type):=by rw[←hz,aw,h1];rfl
 have e2:f.offset=(zs.take i).sum:=by
  have:(Ng 0 zs)[i]? =some f.offset:=by rw[←ho,aw,h1];rfl
  have:=Jg zs 0 i _ this
  omega
 have e3:=Bc zs cs i _ c e1 h2
 have e4:=hf i f (by simpa using h1)
 have hx:i<xs.length:=by simp at hlen;omega
 rw[af hx,e2, ←e3]at e4
 exact⟨m,_,e4⟩
theorem uT {w:World} {a:Addr} {n:Nat} {cs:List Value} (h:w.cells? 0 a n=some cs):cs.length=n∧fk w a cs:=by
 unfold World.cells? at h
 rw[if_pos (bG _)]at h
 have hl:cs.length=n:=by simpa using mapM_some_length h
 refine⟨hl,fun j v hj=>?_⟩
 have hjn:j<n:=by rw[←hl];exact(aj.1 hj).1
 have:=mapM_some_get h j j (by simp [hjn])
 rw[this,hj]
theorem RD.slice {t e z:Nat} {R:List Value→Prop} (ht:P.underlying t=some (.slice e)) (hz:P.cellsOf e=z) (hz0:0<z) (hR:RD enc P W e R):
  RD enc P W t fun cs=>∃(p:Option Addr) (cap:Nat) (rows:List (List Value)),cs=[.slice p rows.length cap]∧rows.length≤9223372036854775807∧Rows W z p rows∧∀r,r∈rows→r.length=z∧R r:=fun n cs x hx=>by
 rcases DataW.trod_slice ht hx with⟨rfl,_⟩|⟨a,len,cap,elems,rest,m,_,rfl,_,hb,hl,hc,hlen,hel,hspare⟩
 ·exact⟨none,0,[],rfl,by simp,⟨by simp,fun _=>rfl,fun q=>absurd rfl q⟩,by simp⟩
 ·have hrow:∀i,i<len→∃r,W.cells? 0 (a.add (i*z)) z=some r∧∃y,y5 enc P W 0 (fun _=>true) true m e r=some y:=fun i hi=>by
   have h1:=hel i hi
   rw[hz,af (by omega)]at h1
   obtain⟨r,h2,h3⟩:=Option.bind_eq_some_iff.1 h1
   exact⟨r,h2,_,h3⟩
  have hch:∃rows:List (List Value),rows.length=len∧∀i r,rows[i]? =some r→W.cells? 0 (a.add (i*z)) z=some r∧∃y,y5 enc P W 0 (fun _=>true) true m e r=some y:=by
   clear hel hlen hl hx hspare
   induction len with
   |zero=>exact⟨[],rfl,by simp⟩
   |succ k ih=>
    obtain⟨rows,h1,h2⟩:=ih (fun i hi=>hrow i (by omega))
    obtain⟨r,h3,h4⟩:=hrow k (by omega)
    refine⟨rows++[r],by simp [h1],fun i s hs=>?_⟩
    rcases aK i rows.length with q|q
    ·rw[aJ q]at hs;exact h2 i s hs
    ·have:i=rows.length:=by
      have:=(aj.1 hs).1
      simp at this;omega
     subst this
     simp at hs;subst hs
     rw[h1];exact⟨h3,h4⟩
  obtain⟨rows,h1,h2⟩:=hch
  subst h1
  have spot:rows≠[]→a.spot=none:=fun hne=>by
   cases rows with
   |nil=>exact absurd rfl hne
   |cons r rs=>
    obtain⟨h3,_⟩:=h2 0 r rfl
    obtain⟨h4,h5⟩:=uT h3
    have h6:=h5 0 _ (af (by omega))
    cases hs:a.spot with
    |none=>rfl
    |some s=>
     exfalso
     have:((a.add (0*z)).add 0).spot=some s:=by simp [Addr.add,hs]
     unfold World.cell? at h6
     rw[this]at h6
     split at h6<;>simp at h6
  refine⟨some a,cap,rows,rfl,by unfold maxLen at hc;omega,⟨fun j r hr=>?_,fun q=>(by cases q),fun q b hb=>?_⟩,fun r hr=>?_⟩
  ·obtain⟨h3,_⟩:=h2 j r hr
   have h5:=(uT h3).2
   have hsp:=spot (fun q=>by rw[q]at hr;simp at hr)
   have e:(⟨pb (some a),po (some a)+j*z,none⟩:Addr)=a.add (j*z):=by
    obtain⟨ab,ao,aspt⟩:=a
    have hsp:aspt=none:=hsp
    subst hsp
    show(⟨ab,ao+j*z,none⟩:Addr)=_
    unfold Addr.add
    split
    ·rename_i h0;simp [h0]
    ·rfl
   rw[e];exact h5
  ·cases hb
   exact spot q
  ·obtain⟨i,hi,e⟩:=da hr
   obtain⟨h3,y,h4⟩:=h2 i r (by rw[af hi,e])
   exact⟨(uT h3).1,hR _ _ _ h4⟩
theorem C4 {α:Type} {f:α→List Value} {Q:α→Prop}:∀{rows:List (List Value)},(∀r,r∈rows→∃x,r=f x∧Q x)→∃l:List α,rows=l.map f∧∀x,x∈l→Q x
 |[],_=>⟨[],rfl,by simp⟩
 |r::rs,h=>by
  obtain⟨l,h1,h2⟩:=C4 (fun s hs=>h s (by simp [hs])) (rows:=rs)
  obtain⟨x,h3,h4⟩:=h r (by simp)
  exact⟨x::l,by simp [h1,h3],fun y hy=>by rcases cA.1 hy with rfl|hy;exact h4;exact h2 y hy⟩
theorem Yg {t:TypeId} {fs:Array Field} {v:Value} {R:List Value→Prop} (ht:P.underlying t=some (.struct fs)) (hv:Value.okWide P W .any base t v) {d:DataW H} {p:List MemPlace} (hd:DataW.Trod enc P W 0 (fun _=>true) true t v d p) (hR:RD enc P W t R):∃cs,v= .agg cs.toArray∧R cs:=by
 obtain⟨n,hn'⟩:=hd
 unfold Value.okWide at hv
 rw[ht]at hv
 obtain⟨cs,rfl,_⟩:=hv
 exact⟨cs.toList,by simp,hR _ _ _ hn'⟩
theorem wP (hl:laidOutB P=true) {W':World} {sp':Nat→Bool}:∀{ts:List TypeId} {vs:List Value} {ds:List (DataW H)} {ps:List MemPlace},(∀t,t∈ts→P.readableRec t=true∧t<P.types.size)→
  vC enc P W 0 (fun _=>true) true ts vs ds ps→(∀p,p∈ps→W.sameAt W' p)→(∀p,p∈ps→sp' p.block=true)→vC enc P W' 0 sp' true ts vs ds ps
 |[],vs,ds,ps,_,h,_,_=>by
  obtain⟨rfl,rfl,rfl⟩:=trodAll_nil h
  exact trodAll_mk0
 |t::ts,vs,ds,ps,ht,h,h1,h2=>by
  obtain⟨v,vs1,d,ds1,a,b,rfl,rfl,rfl,h3,h4⟩:=trodAll_cons h
  have:=ht t (by simp)
  exact trodAll_cons_mk (Trod_stays hl this.1 this.2 h3 (fun p hp=>h1 p (by simp [hp])) (fun p hp=>h2 p (by simp [hp]))) (wP hl (fun u hu=>ht u (by simp [hu])) h4 (fun p hp=>h1 p (by simp [hp])) (fun p hp=>h2 p (by simp [hp])))
theorem TM {fn:Func} {s:ChangeSpec} {apart fresh handsOn again:Bool} {W':World} {args:Array Value} {ds gs:List (DataW H)} {before:List MemPlace} {tb:TypeId} (hl:laidOutB P=true) (hts:∀t,t∈fn.params.toList→P.readableRec t=true∧t<P.types.size)
  (hv:s.vars=[]) (hr:fn.resultTypes=#[tb]) (hb:P.underlying tb=some .bool) (hs:∀ds:List (DataW H),ds.length=fn.params.toList.length→s.fn H ds={ results:=[.lit (.bool true)],args:=ds })
  (hW:DataW.Whole enc P fn.params.toList s.vars apart W args.toList ds gs before) (hst:St (bs W) [] W'):s.post enc P fn apart fresh handsOn again W args (.bool true) W':=by
 have hB:Below W.heap.size W W':=hst.below
 have hlt:=hW.lt
 have hW0:=hW
 obtain⟨p,q,hA,hV,rfl,hfz,hnd⟩:=hW
 rw[hv]at hV
 obtain⟨rfl,rfl⟩:=trodVars_none hV
 rw[hv]at hW0
 have hd:ds.length=fn.params.toList.length:=(trodAll_length hA).2
 have e:s.fn H (ds++[])={ results:=[.lit (.bool true)],args:=ds }:=by rw[c9];exact hs ds hd
 have hargs:∀sp:Nat→Bool,(∀x∈p,sp x.block=true)→vC enc P W' 0 sp true fn.params.toList args.toList (s.fn H (ds++[])).args p:=fun sp hsp=>by
  rw[e];exact wP hl hts hA (fun x hx=>hB.same (hlt x (by simpa using hx))) hsp
 have hres:∀(b:Nat) (sp:Nat→Bool) (hd:Bool),vC enc P W' b sp hd fn.resultTypes.toList ((iS true).resultList fn.resultTypes.size) (s.fn H (ds++[])).results []:=fun b sp hd=>by
  rw[e,hr];exact trodAll_cons_mk (shut_bool hb _) trodAll_mk0
 have hvars:∀sp:Nat→Bool,DataW.TrodVars enc P W' sp s.vars (s.fn H (ds++[])).vars []:=fun sp=>by rw[e,hv];rfl
 have hW1:DataW.Whole enc P fn.params.toList s.vars apart W args.toList ds [] (p++[]):=by rw[hv];exact hW0
 refine⟨ds,[],p++[],[],p,[],hW1,hres _ _ _,hargs _ (fun x hx=>by simpa using hlt x (by simpa using hx)),hvars _,hB.frame _,fun _=>?_⟩
 refine⟨?_,_,_,([]++p)++[],⟨[]++p,[],trodAll_append (hargs _ (fun _ _=>rfl)) (hres _ _ _),hvars _,rfl,?_,?_⟩,?_⟩
 ·exact ok_one hr rfl (okWide_bool_mk hb _)
 ·intro b off hp
  have hp':MemPlace.cell b off∈p:=by simpa using hp
  rw[hB.frozen (p:=⟨b,off,none⟩) (hlt (.cell b off) (by simpa using hp'))]
  exact hfz b off (by simpa using hp')
 ·intro ha
  simpa using hnd ha
 ·intro x hx _
  simpa using hx
end
section
variable {P:Program} {β:Bs} {env:Env} {L:List cq}
variable {ty:TypeId} {pos:String} {aft:Array Edge} {g:Option (Nat×Bool)}
def rb (p:Option Addr) (c l z:Nat):Option Addr:=if c=l then p else p.map (·.add (l*z))
theorem LO.sl {d:Option Nat} {x i:Operand} {T E z:Nat} {p:Option Addr} {n c l:Nat} {e:Int} (hT:dF P T E) (hz:(P.info? E).map (·.size)=some z) (hx:OV env x (.slice p n c)) (hi:OV env i (.int .i64 e)) (he:e=(l:Int)) (hl:l≤n):
  LO P β env L ⟨d,.slice T x (some i) none none,ty,pos,aft,g⟩ (.slice (rb p c l z) (n-l) (c-l)):=
 .ee fun a w h hw=>⟨w,by
  subst he
  have h1:((l:Int)≤(n:Int)):=by omega
  simp [execOp,h x (by simp [az]) _ hx,h i (by simp [az]) _ hi,Instr.sliceAt,run_underlying hT,Instr.slice,BQ,DN,asIntOf,hl,jv hz,rb],hw⟩
end
theorem OX {f g:Nat→Option (Nat×Nat)}:∀{ps:List (Nat×Value)} {Z:Array Value},(∀q,q∈ps→f q.1=g q.1)→jK f Z ps=jK g Z ps
 |[],Z,_=>rfl
 |(i,v)::r,Z,h=>by
  have e:f i=g i:=h (i,v) (by simp)
  simp only[jK,e]
  cases g i with
  |none=>rfl
  |some q=>
    dsimp only;split
    ·rfl
    ·exact OX fun q hq=>h q (by simp [hq])
def tG (P:Program) (T:Nat) (PL:List (Nat×Nat)) (Z:List Value):Prop:=∀ps:List (Nat×Value),(ps.all fun q=>df q.1 PL.length)=true→P.built T ps=jK (PL[·]?) Z.toArray ps
theorem tG.mk {P:Program} {T z n:Nat} {PL:List (Nat×Nat)} {Z:List Value} (h:∀ps,P.built T ps=jK (fun i=>some (i*z,z)) Z.toArray ps) (hPL:PL=(br n).map fun i=>(i*z,z)):tG P T PL Z:=fun ps hp=>by
 rw[h]
 refine OX fun q hq=>?_
 have h1:=bF.1 hp q hq
 subst hPL
 have h2:q.1<n:=by simpa [Nat.blt_eq]using h1
 simp [h2]
section
variable {P:Program} {β:Bs} {env:Env} {L:List cq}
variable {ty:TypeId} {pos:String} {aft:Array Edge} {g:Option (Nat×Bool)}
theorem LO.uI {d:Option Nat} {T:Nat} {PL:List (Nat×Nat)} {Z:List Value} {ps:List (Nat×Operand)} {vs:List (Nat×Value)} {C:List Value} (hB:tG P T PL Z) (hv:(vs.all fun q=>df q.1 PL.length)=true) (hps:B9 env (ps.map (·.2)) (vs.map (·.2))) (hix:ps.map (·.1)=vs.map (·.1)) (hb:FL PL Z vs C):LO P β env L ⟨d,.build T ps.toArray,ty,pos,aft,g⟩ (.agg C.toArray):=
 .ee fun a w h hw=>⟨w,by
  have h2:=B9.map (a:=a) hps (fun x hm u hu=>h x (by
   obtain⟨p,hp,e⟩:=bQ.1 hm
   simp only[az]
   subst e
   simpa using⟨p.1,hp⟩) u hu)
  rw[List.map_map]at h2
  have hm:(ps.map fun p=>(p.1,a.eval p.2))=vs:=uL hix h2
  have hb':=run_build (P:=P) w T vs.toArray C.toArray (by rw[hB _ hv];exact hb.fill)
  rw[←hm]at hb'
  simp only[execOp,bz]
  rw[show(ps.toArray.map fun(i,x)=>(i,a.eval x))=(ps.map fun p=>(p.1,a.eval p.2)).toArray by simp]
  simp [hb'],hw⟩
end
def RO {α:Type} (z:Nat) (f:α→List Value) (w:World) (p:Option Addr) (l:List α):Prop:=Go.SL.Rows w z p (l.map f)
section
variable {α:Type} {z:Nat} {f:α→List Value} {w0 w:World} {p:Option Addr} {l:List α} {L:List cq} {β:Bs}
theorem RO.sm (h:RO z f w p l):nu p l.length:=Go.SL.Rows.some h (by simp)
theorem RO.keep (h:RO z f w0 p l):∀w,St (bs w0) L w→RO z f w p l:=Go.SL.Rows.keep h
theorem RO.here (h:RO z f w p l) (d:α) {j:Nat} (hj:j<l.length):fk w ⟨pb p,po p+j*z,none⟩ (f (l.getD j d)):=
 Go.SL.Rows.cells h j _ (by rw[aw,af hj];simp [List.getD,af hj])
theorem RO.at (h:RO z f w0 p l) (d:α) {j:Nat} (hj:j<l.length):∀w,St (bs w0) L w→fk w ⟨pb p,po p+j*z,none⟩ (f (l.getD j d)):=fun w hw=>(h.keep w hw).here d hj
theorem RO.kg (hw:St β L w) (i:Nat) {E cap:Nat} (hi:L[i]? =some (own E z p cap (l.map f))):RO z f w p l:=dE hw i hi
theorem RO.wT {b:Nat} (hz:∀x,(f x).length=z) (h:fk w ⟨b,0,none⟩ (l.map f).flatten):RO z f w (some ⟨b,0,none⟩) l:=by
 refine⟨fun j r hr i v hv=>?_,fun q=>(by cases q),fun _ a q=>(by cases q;rfl)⟩
 have hz':∀r∈l.map f,r.length=z:=fun r hr=>by obtain⟨x,_,rfl⟩:=bQ.1 hr;exact hz x
 have:=h (j*z+i) v (rO hz' hr hv)
 have e1:(⟨b,0,none⟩:Addr).add (j*z+i)=⟨b,j*z+i,none⟩:=by unfold Addr.add;split<;>simp_all
 have e2:(⟨pb (Option.some ⟨b,0,none⟩),po (Option.some ⟨b,0,none⟩)+j*z,none⟩:Addr).add i=⟨b,j*z+i,none⟩:=by unfold Addr.add;simp only[pb,po];split<;>simp_all
 rw[e1]at this;rw[e2];exact this
theorem bq {w:World} {b o off:Nat} {C vs:List Value} (h:fk w ⟨b,o,none⟩ C) (hv:∃r,C.drop off=vs++r):fk w ⟨b,o+off,none⟩ vs:=by
 obtain⟨r,hr⟩:=hv
 intro j v hj
 have h2:C[off+j]? =some v:=by
  rw[←List.getElem?_drop,hr,aJ (by
   rcases aK j vs.length with h|h
   ·exact h
   ·simp [aH h]at hj)]
  exact hj
 have:=h (off+j) v h2
 have e1:(⟨b,o,none⟩:Addr).add (off+j)=⟨b,o+off+j,none⟩:=by unfold Addr.add;split<;>simp_all<;>omega
 have e2:(⟨b,o+off,none⟩:Addr).add j=⟨b,o+off+j,none⟩:=by unfold Addr.add;split<;>simp_all
 rw[e2, ←e1];exact this
end
end Go.SL
namespace Go.SL
set_option linter.unusedVariables false
open Go.RowKit
def Xb (Rs:List cq):cq where
 fp:=fun k=>∃r,r∈Rs∧r.fp k
 inv:=fun w=>∀r,r∈Rs→r.inv w
 loc:=fun h hi r hr=>r.loc (fun k hk=>h k ⟨r,hr,hk⟩) (hi r hr)
section
variable {β:Bs} {L:List cq} {w:World}
theorem St.acY (hw:St β L w):St β (Xb []::L) w:=by
 have:St (bs w) [Xb []] w:=by
  refine⟨rfl,rfl,rfl,bA _,fun _ _ _=>rfl,?_,?_,?_⟩
  ·intro i r hr
   cases i with
   |zero=>simp at hr;subst hr;exact fun r hr=>by cases hr
   |succ i=>simp at hr
  ·intro i r hr k hk
   cases i with
   |zero=>simp at hr;subst hr;obtain⟨r,hr,_⟩:=hk;cases hr
   |succ i=>simp at hr
  ·intro i j r s hij hr hs
   cases i with
   |zero=>cases j with|zero=>exact absurd rfl hij|succ j=>simp at hs
   |succ i=>simp at hr
 exact hw.call this
theorem St.agq {r:cq} {Rs:List cq} (h:St β (r::Xb Rs::L) w):St β (Xb (Rs++[r])::L) w:=by
 have mem:∀{x:cq},x∈Rs++[r]→x∈Rs∨x=r:=fun hx=>by
  rcases bZ.1 hx with q|q
  ·exact .inl q
  ·exact .inr (bT.1 q)
 refine⟨h.os,h.tape,h.output,h.size,h.fr,?_,?_,?_⟩
 ·intro i s hs
  cases i with
  |zero=>
   simp at hs;subst hs
   intro x hx
   rcases mem hx with q|rfl
   ·exact h.inv 1 (Xb Rs) rfl x q
   ·exact h.inv 0 x rfl
  |succ i=>exact h.inv (i+2) s (by simpa using hs)
 ·intro i s hs k hk
  cases i with
  |zero=>
   simp at hs;subst hs
   obtain⟨x,hx,hk⟩:=hk
   rcases mem hx with q|rfl
   ·exact h.pM 1 (Xb Rs) rfl k ⟨x,q,hk⟩
   ·exact h.pM 0 x rfl k hk
  |succ i=>exact h.pM (i+2) s (by simpa using hs) k hk
 ·have key:∀(j:Nat) (s:cq),(L[j]? =some s)→∀k,(Xb (Rs++[r])).fp k→¬s.fp k:=fun j s hs k hk hk2=>by
   obtain⟨x,hx,hk⟩:=hk
   rcases mem hx with q|rfl
   ·exact h.wG 1 (j+2) (Xb Rs) s (by omega) rfl (by simpa using hs) k ⟨x,q,hk⟩ hk2
   ·exact h.wG 0 (j+2) x s (by omega) rfl (by simpa using hs) k hk hk2
  intro i j a b hij ha hb k hk hk2
  cases i with
  |zero=>
   simp at ha;subst ha
   cases j with
   |zero=>exact hij rfl
   |succ j=>exact key j b (by simpa using hb) k hk hk2
  |succ i=>
   cases j with
   |zero=>simp at hb;subst hb;exact key i a (by simpa using ha) k hk2 hk
   |succ j=>exact h.wG (i+2) (j+2) a b (by omega) (by simpa using ha) (by simpa using hb) k hk hk2
theorem eI {E z cap:Nat} {p:Option Addr} {rows:List (List Value)} (h:(own E z p cap rows).inv w):Rows w z p rows:=by
 obtain⟨h1,h2,h3,h4⟩:=h
 refine⟨?_,fun hp=>(h3 hp).1,fun _ a ha=>(h4 a ha).2.1⟩
 intro j r hr k v hv
 cases p with
 |none=>rw[(h3 rfl).1]at hr;simp at hr
 |some a=>
  obtain⟨g1,g2,C,s,g3,g4,g5⟩:=h4 a rfl
  have hadd:(⟨pb (some a),po (some a)+j*z,none⟩:Addr).add k=⟨a.block,j*z+k,none⟩:=by
   unfold Addr.add pb po;simp only[g1];split<;>simp_all
  rw[hadd]
  simp only[World.cell?,g3,Option.isSome_none,bP,if_false]
  have:C.toList[j*z+k]? =some v:=by
   rw[g4]
   have:=rO h2 hr hv
   rw[aJ]
   ·exact this
   ·rcases aK (j*z+k) rows.flatten.length with q|q
    ·exact q
    ·rw[aH q]at this;cases this
  simpa using this
structure eB (α:Type) where
 p:Option Addr
 c:Nat
 l:List α
def eB.z {α:Type}:eB α:=⟨none,0,[]⟩
def sw {α:Type} (x:eB α):List Value:=[.slice x.p x.l.length x.c]
def ri {α:Type} (E z:Nat) (f:α→List Value) (rs:List (eB α)):cq:=Xb (rs.map fun x=>own E z x.p x.c (x.l.map f))
def RR {α:Type} (z:Nat) (f:α→List Value) (w:World) (p:Option Addr) (rs:List (eB α)):Prop:=RO 1 sw w p rs∧∀x,x∈rs→x.l.length≤x.c∧RO z f w x.p x.l
theorem RR.keep {α:Type} {z:Nat} {f:α→List Value} {w0:World} {p:Option Addr} {rs:List (eB α)} (h:RR z f w0 p rs):∀w,St (bs w0) L w→RR z f w p rs:=
 fun w hw=>⟨h.1.keep w hw,fun x hx=>⟨(h.2 x hx).1,(h.2 x hx).2.keep w hw⟩⟩
theorem RR.kg {α:Type} {z:Nat} {f:α→List Value} {p:Option Addr} {rs:List (eB α)} (hw:St β L w) (i j:Nat) {E E' cap:Nat} (hi:L[i]? =some (own E 1 p cap (rs.map sw))) (hj:L[j]? =some (ri E' z f rs)):RR z f w p rs:=
 ⟨RO.kg hw i hi,fun x hx=>by
  have h:=hw.inv j _ hj _ (bE (f:=fun x:eB α=>own E' z x.p x.c (x.l.map f)) hx)
  refine⟨?_,eI h⟩
  have:=h.1
  rwa [aq]at this⟩
theorem St.yF {α:Type} (hw:St β L w) (E z:Nat) (f:α→List Value):St β (ri E z f []::L) w:=hw.acY
theorem St.Nx {α:Type} {E z:Nat} {f:α→List Value} {rs:List (eB α)} {x:eB α} (h:St β (own E z x.p x.c (x.l.map f)::ri E z f rs::L) w):St β (ri E z f (rs++[x])::L) w:=by
 have:=h.agq
 unfold ri
 rw[bj]
 exact this
end
def AY (r s:cq):Prop:=∀k,r.fp k→¬s.fp k
theorem AY.symm {r s:cq} (h:AY r s):AY s r:=fun k hk hk2=>h k hk2 hk
section
variable {β:Bs} {L L' Rs:List cq} {w w':World}
theorem St.mem (h:St β L w) {r:cq} (hr:r∈L):r.inv w:=by
 obtain⟨i,hi⟩:=cV.1 hr
 exact h.inv i r hi
theorem St.G7 (h:St β L w) {r:cq} (hr:r∈L):∀k,r.fp k→(β.O k∨β.w.heap.size≤k)∧k<w.heap.size:=by
 obtain⟨i,hi⟩:=cV.1 hr
 exact h.pM i r hi
theorem St.pw (h:St β L w):L.Pairwise AY:=by
 rw[be]
 intro i j hi hj hij
 exact h.wG i j _ _ (by omega) (af hi) (af hj)
theorem Fy (os:w.os=β.w.os) (tape:w.tape=β.w.tape) (output:w.output=β.w.output) (size:β.w.heap.size≤w.heap.size) (fr:∀k,k<β.w.heap.size→¬β.O k→w.heap[k]? =β.w.heap[k]?)
  (inv:∀r,r∈L→r.inv w) (pM:∀r,r∈L→∀k,r.fp k→(β.O k∨β.w.heap.size≤k)∧k<w.heap.size) (pw:L.Pairwise AY):St β L w:=by
 refine⟨os,tape,output,size,fr,fun i r hr=>inv r (al hr),fun i r hr=>pM r (al hr),?_⟩
 intro i j r s hij hr hs
 obtain⟨hi,rfl⟩:=aj.1 hr
 obtain⟨hj,rfl⟩:=aj.1 hs
 have:=be.1 pw
 rcases nY hij with q|q
 ·exact this i j hi hj q
 ·exact(this j i hj hi q).symm
theorem St.perm (h:St β L w) (hp:L.Perm L'):St β L' w:=
 Fy h.os h.tape h.output h.size h.fr (fun r hr=>h.mem (hp.mem_iff.2 hr)) (fun r hr=>h.G7 (hp.mem_iff.2 hr)) ((hp.pairwise_iff (fun h=>AY.symm h)).1 h.pw)
def bS (Rs:List cq):cq where
 fp:=fun k=>∃r,r∈Rs∧r.fp k
 inv:=fun w=>(∀r,r∈Rs→r.inv w)∧Rs.Pairwise AY
 loc:=fun h hi=>⟨fun r hr=>r.loc (fun k hk=>h k ⟨r,hr,hk⟩) (hi.1 r hr),hi.2⟩
theorem St.uQ (h:St β (bS Rs::L) w):St β (Rs++L) w:=by
 have hb:=h.mem (gI)
 have hp:=fL.1 h.pw
 refine Fy h.os h.tape h.output h.size h.fr (fun r hr=>?_) (fun r hr k hk=>?_) ?_
 ·rcases bZ.1 hr with q|q
  ·exact hb.1 r q
  ·exact h.mem (gd _ q)
 ·rcases bZ.1 hr with q|q
  ·exact h.G7 gI k ⟨r,q,hk⟩
  ·exact h.G7 (gd _ q) k hk
 ·exact gb.2 ⟨hb.2,hp.2,fun r hr s hs k hk=>hp.1 s hs k ⟨r,hr,hk⟩⟩
theorem St.bS (h:St β (Rs++L) w):St β (Go.SL.bS Rs::L) w:=by
 obtain⟨p1,p2,p3⟩:=gb.1 h.pw
 refine Fy h.os h.tape h.output h.size h.fr (fun r hr=>?_) (fun r hr k hk=>?_) ?_
 ·rcases cA.1 hr with rfl|q
  ·exact⟨fun r hr=>h.mem (dg _ hr),p1⟩
  ·exact h.mem (eX _ q)
 ·rcases cA.1 hr with rfl|q
  ·obtain⟨s,hs,hk⟩:=hk
   exact h.G7 (dg _ hs) k hk
  ·exact h.G7 (eX _ q) k hk
 ·exact fL.2 ⟨fun s hs k ⟨r,hr,hk⟩=>p3 r hr s hs k hk,p2⟩
theorem St.focus {A B:List cq} {r:cq} (h:St β (Go.SL.bS (A++r::B)::L) w):St β (r::Go.SL.bS (A++B)::L) w:=by
 have h1:=h.uQ.perm (L':=(A++B)++(r::L)) (by
  simp only[dp,qz]
  exact BR A (jm.symm))
 exact(h1.bS).perm (qd _ _ _)
theorem St.vR {A B:List cq} {r:cq} (h:St β (r::Go.SL.bS (A++B)::L) w):St β (Go.SL.bS (A++r::B)::L) w:=by
 have h1:=(h.perm (qd _ _ _)).uQ.perm (L':=(A++r::B)++L) (by
  simp only[dp,qz]
  exact BR A jm)
 exact h1.bS
def Has (w:World) (R:List cq):Prop:=St ⟨w,lu R⟩ R w
theorem tz {R:List cq} {k:Nat}:lu R k↔∃r,r∈R∧r.fp k:=
 ⟨fun⟨i,r,hr,hk⟩=>⟨r,al hr,hk⟩,fun⟨r,hr,hk⟩=>by obtain⟨i,hi⟩:=cV.1 hr;exact⟨i,r,hi,hk⟩⟩
theorem MB {R:List cq} (h1:∀r,r∈R→r.inv w) (h2:∀r,r∈R→∀k,r.fp k→k<w.heap.size) (h3:R.Pairwise AY):Has w R:=
 Fy rfl rfl rfl (bA _) (fun _ _ _=>rfl) h1 (fun r hr k hk=>⟨.inl (tz.2 ⟨r,hr,hk⟩),h2 r hr k hk⟩) h3
theorem St.has {R:List cq} (h:St β L w) (hs:R.Sublist L):Has w R:=
 MB (fun r hr=>h.mem (hs.subset hr)) (fun r hr k hk=>(h.G7 (hs.subset hr) k hk).2) (h.pw.sublist hs)
theorem St.amJ {R:List cq} (h:St β (R++L) w):Has w R:=h.has (s4 R L)
theorem Has.keep {R:List cq} (h:Has w R) (k:St (bs w) L w'):Has w' R:=
 MB (fun r hr=>r.loc (fun b hb=>k.fr b (h.G7 hr b hb).2 (fun f=>f)) (h.mem hr)) (fun r hr b hb=>et (h.G7 hr b hb).2 k.size) h.pw
theorem Has.aaY {R:List cq} (h:Has w (Go.SL.bS Rs::R)):Has w (Rs++R):=St.has (St.uQ h) (List.Sublist.refl _)
theorem Has.enter (h:Has w L):St ⟨w,lu L⟩ L w:=h
end
section
variable {P:Program} {ro:Option Nat} {β:Bs} {N:Nat} {ds:List Deferred} {env:Env} {L:List cq} {Q:Exit→Act→World→Prop}
 {ty:TypeId} {pos:String} {aft:Array Edge} {g:Option (Nat×Bool)}
theorem VC.res {L':List cq} {c:Code} (hL:∀w,St β L w→St β L' w) (h:VC P ro β N ds env L' c Q):VC P ro β N ds env L c Q:=fun a w ha hw=>h a w ha (hL w hw)
theorem VE.aeW {L':List cq} {e:Exit} (hL:∀w,St β L w→St β L' w) (h:VE β N ds env L' e Q):VE β N ds env L e Q:=fun a w ha hw=>h a w ha (hL w hw)
end
theorem A6 {z:Nat}:∀{rows:List (List Value)} {j o:Nat} {r vs:List Value},(∀r∈rows,r.length=z)→rows[j]? =some r→o+vs.length≤z→
  rows.flatten.take (j*z+o)++vs++rows.flatten.drop (j*z+o+vs.length)=(rows.set j (r.take o++vs++r.drop (o+vs.length))).flatten
 |[],j,o,r,vs,_,h,_=>by simp at h
 |x::xs,0,o,r,vs,hz,h,hl=>by
  simp at h;subst h
  have hx:x.length=z:=hz x (by simp)
  simp only[Nat.zero_mul,gq,gC,List.set_cons_zero]
  rw[gz (by omega),qB (by omega)]
  simp only[dp]
 |x::xs,j+1,o,r,vs,hz,h,hl=>by
  have hx:x.length=z:=hz x (by simp)
  have ih:=A6 (rows:=xs) (j:=j) (o:=o) (r:=r) (vs:=vs) (fun r hr=>hz r (by simp [hr])) (by simpa using h) hl
  simp only[gC,List.set_cons_succ, ←ih]
  have e:(j+1)*z+o=x.length+(j*z+o):=by rw[fF];omega
  rw[e,List.take_length_add_append,show x.length+(j*z+o)+vs.length=x.length+(j*z+o+vs.length) by omega,List.drop_length_add_append]
  simp only[dp]
section
variable {P:Program} {ro:Option Nat} {β:Bs} {N:Nat} {ds:List Deferred} {env:Env} {L:List cq} {Q:Exit→Act→World→Prop}
 {ty:TypeId} {pos:String} {aft:Array Edge} {g:Option (Nat×Bool)}
theorem HO.Yc (i:Nat) (LF:cq→List cq) {K:Value→List cq→Prop} {dd:Option Nat} {x y:Operand} {T E z cap j o q:Nat} {p:Option Addr} {rows:List (List Value)} {r:List Value} {v:Value} {vs:List Value} (hT:(P.info? T).map (·.size)=some vs.length) (hx:OV env x (.pointer (some ⟨pb p,q,none⟩))) (hy:OV env y v)
  (hi:L[i]? =some (own E z p cap rows)) (hj:rows[j]? =some r) (hq:q=po p+j*z+o) (hv:v.cells=vs.toArray) (hfit:o+vs.length≤z) (h1:o5 vs=true) (hL:∀R:cq,L.set i R=LF R)
  (k:K undef (LF (own E z p cap (rows.set j (r.take o++vs++r.drop (o+vs.length)))))):HO P β env L ⟨dd,.store T x y,ty,pos,aft,none⟩ K:=by
 intro a w h hw
 have ex:a.eval x= .pointer (some ⟨pb p,q,none⟩):=by obtain⟨u,hu,e⟩:=hx;subst e;exact h x (by simp [az]) _ hu
 have ey:a.eval y=v:=by obtain⟨u,hu,e⟩:=hy;subst e;exact h y (by simp [az]) _ hu
 obtain⟨g1,g2,g3,g4⟩:=hw.inv i _ hi
 have hlt:i<L.length:=by
  rcases aK i L.length with q|q
  ·exact q
  ·simp [aH q]at hi
 cases p with
 |none=>rw[(g3 rfl).1]at hj;simp at hj
 |some ad=>
  obtain⟨k1,k2,C,sp,k3,k4,k5⟩:=g4 ad rfl
  have hq':q=j*z+o:=by rw[hq];simp only[po,k1];omega
  have hjl:j<rows.length:=(aj.1 hj).1
  have hfl:rows.flatten.length=rows.length*z:=km g2
  have hle:j*z+o+vs.length≤rows.flatten.length:=by
   rw[hfl]
   have:(j+1)*z≤rows.length*z:=Nat.mul_le_mul_right z hjl
   rw[fF]at this;omega
  have hCl:C.size=C.toList.length:=by simp
  have hrun:=wM (P:=P) (o:=q) hT hv k3 (by rw[hCl,k4,aZ];omega) (pZ h1)
  have hr:r.length=z:=g2 r (al hj)
  have hC:C.toList.take q++vs++C.toList.drop (q+vs.length)=(rows.set j (r.take o++vs++r.drop (o+vs.length))).flatten++sp:=by
   rw[←A6 g2 hj hfit,hq',k4,gz (by omega),qB (by omega)]
   simp only[dp]
  refine .inl ⟨.skip,w.setRow ad.block (C.toList.take q++vs++C.toList.drop (q+vs.length)).toArray,undef,_,?_,.inr ⟨rfl,rfl⟩,k,?_⟩
  ·simp only[execOp,ex,ey,pb,Instr.storeAt,Instr.sureAddr,bz,cG,bw,hrun]
  ·rw[←hL]
   have s1:St β (L.set i (de ad.block (.cells C E))) w:=hw.conv i hi (fun k hk=>⟨by simp,hk⟩) k3
   have hg:(L.set i (de ad.block (.cells C E)))[i]? =some (de ad.block (.cells C E)):=by simp [hlt]
   have s2:=s1.setRow (C':=(C.toList.take q++vs++C.toList.drop (q+vs.length)).toArray) hg
   rw[jk]at s2
   have hg2:(L.set i (de ad.block (.cells (C.toList.take q++vs++C.toList.drop (q+vs.length)).toArray E)))[i]? =some (de ad.block (.cells (C.toList.take q++vs++C.toList.drop (q+vs.length)).toArray E)):=by simp [hlt]
   have s3:=s2.conv i (r':=own E z (some ad) cap (rows.set j (r.take o++vs++r.drop (o+vs.length)))) hg2 (fun k hk=>hk.2) (by
    refine⟨by simpa using g1,?_,fun e=>(by cases e),?_⟩
    ·intro s hs
     rcases List.mem_or_eq_of_mem_set hs with q1|q1
     ·exact g2 s q1
     ·subst q1;simp;omega
    ·intro a' ha'
     cases ha'
     refine⟨k1,k2,_,sp,s2.inv i _ hg2,by simpa using hC,?_⟩
     simp only[gU]
     have e1:(C.toList.take q++vs++C.toList.drop (q+vs.length)).length=C.toList.length:=by
      have:=hle
      have:q+vs.length≤C.toList.length:=by rw[k4,aZ];omega
      simp;omega
     rw[e1, ←hCl,k5])
   rwa [jk]at s3
theorem LO.mi {d:Option Nat} {x:Operand} {T:Nat} {v:Value} (hT:∃u,P.underlying T=some u∧(match u with| .interface _=>false|_=>true)=true) (hx:OV env x v):LO P β env L ⟨d,.makeInterface T x,ty,pos,aft,g⟩ (.iface T v):=
 .ee fun a w h hw=>⟨w,by
  obtain⟨u,hu,hb⟩:=hT
  have hm:(Instr.makeInterface T v).run P w= .ok (.iface T v) w:=by
   unfold Instr.makeInterface
   rw[bz,run_underlying hu]
   cases u<;>simp_all
  simp [execOp,h x (by simp [az]) _ hx,hm],hw⟩
end
section
variable {P:Program} {ro:Option Nat} {β:Bs} {N:Nat} {ds:List Deferred} {env:Env} {L:List cq} {Q:Exit→Act→World→Prop}
 {ty:TypeId} {pos:String} {aft:Array Edge} {g:Option (Nat×Bool)}
theorem JR {α:Type} {l:List α} {i:Nat} {x:α} (h:l[i]? =some x):l.set i x=l:=by
 refine cO fun j=>?_
 rw[fe]
 split
 ·rename_i q;subst q;rw[h];split
  ·rfl
  ·rename_i q;rw[aH (by omega)]at h;cases h
 ·rfl
theorem Ew {zs:Array Value} {n:Nat} {u:Value} (h:u∈(dV zs n).toList):u∈zs.toList:=by
 unfold Builtin.zeroCells at h
 rw[Array.toList_map,bQ]at h
 obtain⟨i,hi,rfl⟩:=h
 have h0:0<zs.size:=by
  rw[AF,bf]at hi
  rcases eO zs.size with q|q
  ·rw[q]at hi;omega
  ·exact q
 have hm:i%zs.size<zs.size:=jV _ h0
 rw[getElem!_pos zs _ hm]
 exact Array.getElem_mem_toList hm
theorem St.ownRow {w:World} (hw:St β L w) (i:Nat) {E z cap:Nat} {ad:Addr} {rows rows':List (List Value)} {C C':Array Value} {sp:List Value} (hi:L[i]? =some (own E z (some ad) cap rows)) (hC:w.heap[ad.block]? =some (.cells C E (0,0)))
  (h1:rows'.length≤cap) (h2:∀r∈rows',r.length=z) (h3:C'.toList=rows'.flatten++sp) (h4:C'.size=C.size):St β (L.set i (own E z (some ad) cap rows')) (w.setRow ad.block C'):=by
 obtain⟨g1,g2,g3,g4⟩:=hw.inv i _ hi
 have hlt:i<L.length:=by
  rcases aK i L.length with q|q
  ·exact q
  ·simp [aH q]at hi
 obtain⟨k1,k2,D,sp0,k3,k4,k5⟩:=g4 ad rfl
 rw[hC]at k3
 cases k3
 have s1:St β (L.set i (de ad.block (.cells C E))) w:=hw.conv i hi (fun k hk=>⟨by simp,hk⟩) hC
 have hg:(L.set i (de ad.block (.cells C E)))[i]? =some (de ad.block (.cells C E)):=by simp [hlt]
 have s2:=s1.setRow (C':=C') hg
 rw[jk]at s2
 have hg2:(L.set i (de ad.block (.cells C' E)))[i]? =some (de ad.block (.cells C' E)):=by simp [hlt]
 have s3:=s2.conv i (r':=own E z (some ad) cap rows') hg2 (fun k hk=>hk.2) ⟨h1,h2,fun e=>(by cases e),fun a' ha'=>by cases ha';exact⟨k1,k2,C',sp,s2.inv i _ hg2,h3,by rw[h4,k5]⟩⟩
 rwa [jk]at s3
theorem HO.clr (i k:Nat) (LF:cq→List cq) {K:Value→List cq→Prop} {dd:Option Nat} {x:Operand} {T E z cap n:Nat} {p:Option Addr} {zero:Value} {rows:List (List Value)} {aT:Array TypeId} (hT:dF P T E) (hz:cj P E zero) (hzs:zero.cells.size=z) (hz1:o5 zero.cells.toList=true)
  (hx:OV env x (.slice (rb p cap k z) (n-k) (cap-k))) (hi:L[i]? =some (own E z p cap rows)) (hn:n=rows.length) (hk:k≤rows.length) (ha:aT[0]? =some T) (hL:∀R:cq,L.set i R=LF R)
  (kk:K (.tuple #[]) (LF (own E z p cap (rows.take k)))):HO P β env L ⟨dd,.call ⟨.builtin .clear,#[x],aT⟩,ty,pos,aft,none⟩ K:=by
 intro a w h hw
 have ex:a.eval x= .slice (rb p cap k z) (n-k) (cap-k):=by obtain⟨u,hu,e⟩:=hx;subst e;exact h x (by simp [az,eM]) _ hu
 obtain⟨g1,g2,g3,g4⟩:=hw.inv i _ hi
 have hlt:i<L.length:=by
  rcases aK i L.length with q|q
  ·exact q
  ·simp [aH q]at hi
 subst hn
 rcases aK k rows.length with q|q
 ·cases p with
  |none=>rw[(g3 rfl).1]at q;simp at q
  |some ad=>
   obtain⟨k1,k2,C,sp,k3,k4,k5⟩:=g4 ad rfl
   have hfl:rows.flatten.length=rows.length*z:=km g2
   have hCl:C.size=C.toList.length:=by simp
   have hmul:k*z+(rows.length-k)*z=rows.length*z:=by rw[←fF];congr 1;omega
   have hzl:(dV zero.cells (rows.length-k)).toList.length=(rows.length-k)*z:=by
    rw[fw,ry,hzs]
   have hfit:k*z+(dV zero.cells (rows.length-k)).toList.length≤C.size:=by
    rw[hzl,hCl,k4,aZ,hfl];omega
   have h1:∀u∈(dV zero.cells (rows.length-k)).toList,u.oneCell'=true:=fun u hu=>pZ hz1 u (Ew hu)
   have hrun:=run_storeCells_at P ad.block (k*z) E (dV zero.cells (rows.length-k)).toList 0 C w k3 (by simpa using hfit) h1
   simp only[ki]at hrun
   have hsl:rb (some ad) cap k z=some ⟨ad.block,k*z,none⟩:=by
    unfold rb
    rw[if_neg (by omega)]
    simp only[dH]
    congr 1
    unfold Addr.add
    cases ad;simp_all
   have hne:∃m,rows.length-k=m+1:=⟨rows.length-k-1,by omega⟩
   have hev:(xN aT ty #[.slice (rb (some ad) cap k z) (rows.length-k) (cap-k)]).run P w= .ok (.tuple #[]) (w.setRow ad.block (C.toList.take (k*z)++(dV zero.cells (rows.length-k)).toList++C.toList.drop (k*z+(dV zero.cells (rows.length-k)).toList.length)).toArray):=by
    obtain⟨m,hm⟩:=hne
    rw[hm]at hrun ⊢
    simp [xN,ha,run_underlying hT,hsl,mc hz,hrun]
   refine .inl ⟨.value (.tuple #[]),w.setRow ad.block (C.toList.take (k*z)++(dV zero.cells (rows.length-k)).toList++C.toList.drop (k*z+(dV zero.cells (rows.length-k)).toList.length)).toArray,.tuple #[],_,?_,.inl rfl,kk,?_⟩
   ·simp only[execOp,resolve,invoke,builtin,ex,BS,fD,List.map_nil,bz,cG,bw,hev]
   ·rw[←hL]
    refine hw.ownRow i (sp:=(dV zero.cells (rows.length-k)).toList++C.toList.drop (k*z+(dV zero.cells (rows.length-k)).toList.length)) hi k3 (by rw[dt];omega) (fun r hr=>g2 r (lB hr)) ?_ ?_
    ·have:C.toList.take (k*z)=(rows.take k).flatten:=by
      have e1:((rows.take k).flatten++(rows.drop k).flatten)=rows.flatten:=by rw[←nZ,gQ]
      have e2:(rows.take k).flatten.length=k*z:=by rw[km (fun r hr=>g2 r (lB hr)),dt];congr 1;omega
      rw[k4, ←e1,dp,gz (by omega), ←e2,List.take_length]
     simp [this]
    ·rw[gU,aZ,aZ,dt,List.length_drop];omega
 ·have hke:k=rows.length:=by omega
  have hev:(xN aT ty #[.slice (rb p cap k z) (rows.length-k) (cap-k)]).run P w= .ok (.tuple #[]) w:=by
   rw[show rows.length-k=0 by omega]
   cases rb p cap k z<;>simp [xN,ha,run_underlying hT]
  refine .inl ⟨.value (.tuple #[]),w,.tuple #[],_,?_,.inl rfl,kk,?_⟩
  ·simp only[execOp,resolve,invoke,builtin,ex,BS,fD,List.map_nil,bz,cG,bw,hev]
  ·rw[←hL,List.take_of_length_le (by omega),JR hi]
   exact hw
theorem LO.mf2 {d:Option Nat} {fn:Fn} {ys xs:List Operand} {first cap:List Value} (hy:B9 env ys first) (hx:B9 env xs cap):LO P β env L ⟨d,.makeFunc fn ys.toArray xs.toArray,ty,pos,aft,g⟩ (.func fn first.toArray cap.toArray):=
 .ee fun a w h hw=>⟨w,by
  have hm:xs.map a.eval=cap:=hx.map fun x hm u hu=>h x (by simp [az,hm]) u hu
  have hm2:ys.map a.eval=first:=hy.map fun x hm u hu=>h x (by simp [az,hm]) u hu
  simp [execOp,Instr.makeFunc,hm,hm2],hw⟩
theorem HO.pS {α:Type} (L1 L2:List cq) {K:Value→List cq→Prop} {dd:Option Nat} {f:FuncId} {fx:Operand} {xs:List Operand} {vs first cap:List Value} {aT:Array TypeId} {v:α→Value} {R:α→List cq} {I:α→Prop} (hL:∀w,St β L w→St β (L1++L2) w) (hfx:OV env fx (.func (.func f) first.toArray cap.toArray)) (hf:ef P f) (hx:B9 env xs vs)
  (hc:∀w,St β L w→Has w L1→Calls P f (first++vs++cap).toArray w fun e w'=>∃x,I x∧e= .returned (v x)∧St ⟨w,lu L1⟩ (R x) w') (k:∀x,I x→K (v x) (R x++L2)):HO P β env L ⟨dd,.call ⟨.value fx,xs.toArray,aT⟩,ty,pos,aft,none⟩ K:=by
 intro a w h hw
 refine .inr (.inl ⟨f,(first++vs++cap).toArray,?_,?_⟩)
 ·have hm:xs.map a.eval=vs:=hx.map fun x hm u hu=>by obtain⟨u',hu',e⟩:=hu;subst e;exact h x (by simp [az,eM,hm]) u' hu'
  have hfe:a.eval fx= .func (.func f) first.toArray cap.toArray:=by obtain⟨u',hu',e⟩:=hfx;subst e;exact h fx (by simp [az,eM]) _ hu'
  simp [execOp,resolve,hfe,mJ,invoke,re hf,hm]
 ·have hw2:St β (L1++L2) w:=hL w hw
  exact(hc w hw hw2.amJ).mono fun e w' ⟨x,hI,he,hs⟩=>⟨v x,_,he,k x hI,hw2.Fo (fun k hk=>hk) hs⟩
end
section
variable {P:Program} {ro:Option Nat} {β:Bs} {N:Nat} {ds:List Deferred} {env:Env} {L:List cq} {Q:Exit→Act→World→Prop}
 {ty:TypeId} {pos:String} {aft:Array Edge} {g:Option (Nat×Bool)}
theorem yU {zs:Array Value} (hz:0<zs.size):∀n,(br (n*zs.size)).map (fun i=>zs[i%zs.size]!)=(cy n zs.toList).flatten
 |0=>by simp
 |n+1=>by
  rw[List.replicate_succ',nZ, ←yU hz n,fF,Nat.one_mul,List.range_add,bj]
  congr 1
  rw[List.map_map]
  simp only[gC,List.flatten_nil,c9]
  refine cO fun i=>?_
  rw[aw]
  rcases aK i zs.size with h|h
  ·rw[eu h]
   simp only[dH,Function.comp]
   have e:(n*zs.size+i)%zs.size=i:=by rw[Nat.mul_comm,Nat.mul_add_mod,nf h]
   rw[e,getElem!_pos zs i h]
   simp [h]
  ·rw[aH (by simpa using h),aH (by simpa using h)];rfl
theorem UY {zero:Value} {z:Nat} (h4:zero.cells.size=z) (hz1:0<z) (n:Nat):((Array.range (n*z)).map fun i=>zero.cells[i%zero.cells.size]!)=(cy n zero.cells.toList).flatten.toArray:=by
 rw[←yU (by omega),h4];apply Array.ext';simp
set_option maxRecDepth 8000 in
theorem G4 {T E z by_ n:Nat} {zero:Value} (hT:dF P T E) (hE:jW P E z by_ zero) (hz1:0<z) (hn:by_*n≤281474976710656) (hn2:n≤281474976710656) (w:World):(Instr.makeSlice T (.int .i64 (n:Int)) (.int .i64 (n:Int))).run P w= .ok (.slice (some ⟨w.heap.size,0,none⟩) n n) (w.alloc (.cells (cy n zero.cells.toList).flatten.toArray E)):=by
 obtain⟨h1,h2,h3,h4,h5⟩:=hE
 have hw64:vq .i64 (n:Int)=n:=wi (by omega) (by omega)
 obtain⟨i,hi,hib⟩:=FD h2 w
 have hcells:=UY h4 hz1 n
 have t1:decide ((by_:Int)*n>2 ^ 48)=false:=by
  have h1:(by_:Int)*n≤281474976710656:=by omega
  have h2:¬((n:Int)<0):=by omega
  have h3:¬((by_:Int)*n>281474976710656):=by omega
  rw[show((2:Int) ^ 48)=281474976710656 from rfl,decide_eq_false h3]
 have c1:decide ((n:Int)<0)=false:=by rw[decide_eq_false_iff_not];omega
 have c2:decide ((n:Int)>n)=false:=by rw[decide_eq_false_iff_not];omega
 unfold Instr.makeSlice
 rw[bz,run_underlying hT,bw]
 have ha:(asInt (.int .i64 (n:Int))).run P w= .ok (n:Int) w:=rfl
 dsimp only
 rw[bz,ha,bw,bz,ha,bw,bz,hi,bw]
 simp only[hib,hw64,t1,c1,c2,Bool.or_self,bP,if_false,bz,run_askRoom,bw,jv h1,Int.toNat_natCast]
 by_cases q:n*z=0
 ·have hn0:n=0:=by
   rcases Nat.mul_eq_zero.1 q with q|q
   ·exact q
   ·omega
  subst hn0
  simp [newRow,run_newObj]
  congr 2
  exact Array.ext' (by simp [AF])
 ·simp only[q,if_false,bz,mc h3,bw,cG,hcells,newRow,run_newObj]
  rfl
theorem HO.mks {K:Value→List cq→Prop} {dd:Option Nat} {x y:Operand} {T E z by_ n:Nat} {zero:Value} {e:Int} (hT:dF P T E) (hE:jW P E z by_ zero) (hx:OV env x (.int .i64 e)) (hy:OV env y (.int .i64 e)) (he:e=(n:Int)) (hz1:0<z) (hn:by_*n≤281474976710656) (hn2:n≤281474976710656)
  (k:∀b,K (.slice (some ⟨b,0,none⟩) n n) (own E z (some ⟨b,0,none⟩) n (cy n zero.cells.toList)::L)):HO P β env L ⟨dd,.makeSlice T x y,ty,pos,aft,none⟩ K:=by
 intro a w h hw
 have ex:a.eval x= .int .i64 e:=by obtain⟨u,hu,q⟩:=hx;subst q;exact h x (by simp [az]) _ hu
 have ey:a.eval y= .int .i64 e:=by obtain⟨u,hu,q⟩:=hy;subst q;exact h y (by simp [az]) _ hu
 subst he
 have hrun:=G4 hT hE hz1 hn hn2 w
 obtain⟨h1,h2,h3,h4,h5⟩:=hE
 have hfl:∀n,(cy n zero.cells.toList).flatten.length=n*z:=fun n=>by
  rw[km (z:=z) (fun r hr=>by rw[(oB.1 hr).2,fw,h4])];simp
 refine .inl ⟨_,w.alloc (.cells (cy n zero.cells.toList).flatten.toArray E),_,_,?_,.inl rfl,k w.heap.size,?_⟩
 ·simp only[execOp,ex,ey,bz,hrun,bw,cG]
 ·have s1:=hw.alloc (.cells (cy n zero.cells.toList).flatten.toArray E)
  exact s1.conv 0 (r':=own E z (some ⟨w.heap.size,0,none⟩) n (cy n zero.cells.toList)) rfl (fun k hk=>hk.2) ⟨by simp,fun r hr=>by rw[(oB.1 hr).2,fw,h4],fun q=>(by cases q),fun a' ha'=>by
   cases ha'
   exact⟨rfl,rfl,_,[],heap_alloc_new w _,by simp,by rw[gU,hfl]⟩⟩
theorem FO.mks {d i:Nat} {x y:Operand} {T E z by_ n:Nat} {zero:Value} {e:Int} (hT:dF P T E) (hE:jW P E z by_ zero) (hx:OV env x (.int .i64 e)) (hy:OV env y (.int .i64 e)) (he:e=(n:Int)) (hz1:0<z) (hn:by_*n≤281474976710656) (hn2:n≤281474976710656):
  FO P env ⟨some d,.makeSlice T x y,ty,pos,aft,none⟩ ⟨i,d,fun b=>.slice (some ⟨b,0,none⟩) n n,E,(cy n zero.cells.toList).flatten.toArray⟩:=
 ⟨rfl,rfl,fun a w h=>by
  have ex:a.eval x= .int .i64 e:=by obtain⟨u,hu,q⟩:=hx;subst q;exact h x (by simp [az]) _ hu
  have ey:a.eval y= .int .i64 e:=by obtain⟨u,hu,q⟩:=hy;subst q;exact h y (by simp [az]) _ hu
  subst he
  have hrun:=G4 hT hE hz1 hn hn2 w
  simp only[execOp,ex,ey,bz,hrun,bw,cG]⟩
theorem LO.shr {d:Option Nat} {x y:Operand} {xT yT:TypeId} {k k':IntKind} {m n:Int} (hx:OV env x (.int k m)) (hy:OV env y (.int k' n)) (hn:0≤n):LO P β env L ⟨d,.binOp .shr xT x y yT,ty,pos,aft,g⟩ (.int k (m.fdiv (2 ^ (Min.min n.toNat k.bits)))):=
 .ee fun a w h hw=>⟨w,by
  have hn2:¬n<0:=by omega
  simp [execOp,h x (by simp [az]) _ hx,h y (by simp [az]) _ hy,eqGuard,binOp,Op.shift,hn2],hw⟩
theorem and_one (m:Int):vq .i64 (((AG 64 m&&& AG 64 1).toNat:Nat):Int)=m%2:=by
 have e1:(AG 64 m&&& AG 64 1).toNat=(m%18446744073709551616).toNat%2:=by
  rw[BitVec.toNat_and,BU,BU]
  have:((1:Int)%((2 ^ 64:Nat):Int)).toNat=2 ^ 1-1:=by decide
  rw[this,Nat.and_two_pow_sub_one_eq_mod]
  rfl
 have h0:0≤m%18446744073709551616:=Int.emod_nonneg _ (by decide)
 have e2:(((m%18446744073709551616).toNat%2:Nat):Int)=m%2:=by
  rw[Int.natCast_emod,Int.toNat_of_nonneg h0]
  exact Int.emod_emod_of_dvd m (by decide)
 rw[e1,e2]
 exact wi (by omega) (by omega)
theorem LO.am1 {d:Option Nat} {x y:Operand} {xT yT:TypeId} {m:Int} (hx:OV env x (.int .i64 m)) (hy:OV env y (.int .i64 1)):LO P β env L ⟨d,.binOp .and xT x y yT,ty,pos,aft,g⟩ (.int .i64 (m%2)):=
 .ee fun a w h hw=>⟨w,by
  have e:=and_one m
  simp [execOp,h x (by simp [az]) _ hx,h y (by simp [az]) _ hy,eqGuard,binOp,Op.intBits]
  exact e,hw⟩
end
section
variable {P:Program} {β:Bs} {N:Nat} {env:Env} {L:List cq} {ty:TypeId} {pos:String} {aft:Array Edge} {dd:Option Nat}
theorem HO.akL {K:Value→List cq→Prop} {x y:Operand} {T E z by_ n:Nat} {zero:Value} {e:Int} (hT:dF P T E) (hE:jW P E z by_ zero) (hx:OV env x (.int .i64 e)) (hy:OV env y (.int .i64 e)) (he:e=(n:Int)) (hz1:0<z) (hn:by_*n≤281474976710656) (hn2:n≤281474976710656)
  (k:∀b,K (.slice (some ⟨b,0,none⟩) n n) (de b (.cells (cy n zero.cells.toList).flatten.toArray E)::L)):HO P β env L ⟨dd,.makeSlice T x y,ty,pos,aft,none⟩ K:=by
 intro a w h hw
 have ex:a.eval x= .int .i64 e:=by obtain⟨u,hu,q⟩:=hx;subst q;exact h x (by simp [az]) _ hu
 have ey:a.eval y= .int .i64 e:=by obtain⟨u,hu,q⟩:=hy;subst q;exact h y (by simp [az]) _ hu
 subst he
 have hrun:=G4 hT hE hz1 hn hn2 w
 refine .inl ⟨_,w.alloc (.cells (cy n zero.cells.toList).flatten.toArray E),_,_,?_,.inl rfl,k w.heap.size,hw.alloc _⟩
 simp only[execOp,ex,ey,bz,hrun,bw,cG]
theorem HO.cpy (i:Nat) (LF:cq→List cq) {K:Value→List cq→Prop} {x y:Operand} {T T2 E b o dl dc sl sc:Nat} {a0:Addr} {C C':Array Value} {cs:List Value} (hT:dF P T E) (hz:(P.info? E).map (·.size)=some 1)
  (hx:OV env x (.slice (some ⟨b,o,none⟩) dl dc)) (hy:OV env y (.slice (some a0) sl sc)) (hi:L[i]? =some (de b (.cells C E))) (hn:cs.length=Nat.min sl dl) (hsrc:∀w,St β L w→∀(j:Nat) (v:Value),cs[j]? =some v→w.cell? (a0.add j)=some v)
  (hfit:o+cs.length≤C.size) (h1:∀v∈cs,v.oneCell'=true) (hC:(C.toList.take o++cs++C.toList.drop (o+cs.length)).toArray=C') (hL:∀R:cq,L.set i R=LF R)
  (k:K (.int .i64 cs.length) (LF (de b (.cells C' E)))):HO P β env L ⟨dd,.call ⟨.builtin .copy,#[x,y],#[T,T2]⟩,ty,pos,aft,none⟩ K:=by
 intro a w h hw
 have ex:a.eval x= .slice (some ⟨b,o,none⟩) dl dc:=by obtain⟨u,hu,e⟩:=hx;subst e;exact h x (by simp [az,eM]) _ hu
 have ey:a.eval y= .slice (some a0) sl sc:=by obtain⟨u,hu,e⟩:=hy;subst e;exact h y (by simp [az,eM]) _ hu
 have hg:w.heap[b]? =some (.cells C E (0,0)):=hw.inv i _ hi
 have hrun:=run_copy_row (P:=P) w T T2 ty E b o dl dc a0 sl sc C E cs hT hz hg hn (hsrc w hw) hfit h1
 refine .inl ⟨.value (.int .i64 cs.length),w.setRow b C',_,LF (de b (.cells C' E)),?_,.inl rfl,k,?_⟩
 ·rw[hC]at hrun
  simp [execOp,resolve,invoke,builtin,ex,ey,hrun,goInt]
 ·rw[←hL];exact hw.setRow hi
theorem Rq {b n k:Nat} (h:k<n):rb (some ⟨b,0,none⟩) n k 1=some ⟨b,k,none⟩:=by
 unfold rb
 rw[if_neg (by omega)]
 simp [Addr.add]
 omega
end
end Go.SL
namespace Go.Cell
set_option linter.unusedVariables false
def nb (W H p:Nat):List Nat:=(if 0<p / W then[p-W] else[])++(if 0<p%W then[p-1] else[])++(if p%W+1<W then[p+1] else[])++(if p / W+1<H then[p+W] else[])
theorem VI {W H p r:Nat}:r∈nb W H p↔(0<p / W∧r=p-W)∨(0<p%W∧r=p-1)∨(p%W+1<W∧r=p+1)∨(p / W+1<H∧r=p+W):=by
 unfold nb
 simp only[bZ]
 constructor
 ·rintro (((h|h)|h)|h)<;>split at h<;>simp at h<;>omega
 ·rintro (⟨h,e⟩|⟨h,e⟩|⟨h,e⟩|⟨h,e⟩)
  ·left;left;left;rw[if_pos h];simp [e]
  ·left;left;right;rw[if_pos h];simp [e]
  ·left;right;rw[if_pos h];simp [e]
  ·right;rw[if_pos h];simp [e]
theorem dm (W p:Nat) (hW:0<W):p=W*(p / W)+p%W∧p%W<W:=⟨(Nat.div_add_mod p W).symm,jV p hW⟩
theorem FV {W p a b:Nat} (h:p=W*a+b) (hb:b<W):p / W=a∧p%W=b:=by
 subst h
 constructor
 ·rw[Nat.mul_add_div (by omega),na hb,ki]
 ·rw[Nat.mul_add_mod,nf hb]
theorem w8 {W H p:Nat} (hp:p<W*H):p / W<H:=by
 have hW:0<W:=by rcases eO W with q|q;subst q;simp at hp;exact q
 exact(Nat.div_lt_iff_lt_mul hW).2 (by rw[Nat.mul_comm];exact hp)
theorem xE {W H x y:Nat} (hx:x<W) (hy:y<H):W*y+x<W*H:=by
 have:W*(y+1)≤W*H:=Nat.mul_le_mul_left W hy
 rw[r6]at this
 omega
theorem abN {W H p r:Nat} (hp:p<W*H) (hr:r∈nb W H p):r<W*H∧((r%W=p%W∧(r / W+1=p / W∨r / W=p / W+1))∨(r / W=p / W∧(r%W+1=p%W∨r%W=p%W+1))):=by
 have hW:0<W:=by rcases eO W with q|q;subst q;simp at hp;exact q
 obtain⟨h1,h2⟩:=dm W p hW
 have hy:=w8 hp
 generalize ea:p / W=a at*
 generalize eb:p%W=b at*
 rcases VI.1 hr with⟨h,e⟩|⟨h,e⟩|⟨h,e⟩|⟨h,e⟩
 ·obtain⟨c,rfl⟩:∃c,a=c+1:=⟨a-1,by omega⟩
  have e2:r=W*c+b:=by rw[r6]at h1;omega
  obtain⟨z1,z2⟩:=FV e2 h2
  exact⟨by rw[e2];exact xE h2 (by omega),.inl ⟨z2,.inl (by omega)⟩⟩
 ·have e2:r=W*a+(b-1):=by omega
  obtain⟨z1,z2⟩:=FV e2 (by omega)
  exact⟨by rw[e2];exact xE (by omega) hy,.inr ⟨z1,.inl (by omega)⟩⟩
 ·have e2:r=W*a+(b+1):=by omega
  obtain⟨z1,z2⟩:=FV e2 (by omega)
  exact⟨by rw[e2];exact xE (by omega) hy,.inr ⟨z1,.inr (by omega)⟩⟩
 ·have e2:r=W*(a+1)+b:=by rw[r6];omega
  obtain⟨z1,z2⟩:=FV e2 h2
  exact⟨by rw[e2];exact xE h2 (by omega),.inl ⟨z2,.inr (by omega)⟩⟩
theorem U3 {W H p r:Nat} (hp:p<W*H) (hr:r<W*H) (h:(r%W=p%W∧(r / W+1=p / W∨r / W=p / W+1))∨(r / W=p / W∧(r%W+1=p%W∨r%W=p%W+1))):r∈nb W H p:=by
 have hW:0<W:=by rcases eO W with q|q;subst q;simp at hp;exact q
 obtain⟨h1,h2⟩:=dm W p hW
 obtain⟨h3,h4⟩:=dm W r hW
 have hy:=w8 hp
 have hy2:=w8 hr
 refine VI.2 ?_
 rcases h with⟨e,f|f⟩|⟨e,f|f⟩
 ·left;rw[←f,r6]at h1;rw[e]at h3;exact⟨by rw[←f];exact Nat.succ_pos _,by omega⟩
 ·right;right;right;rw[f,r6,e]at h3;exact⟨by rw[←f];exact hy2,by omega⟩
 ·right;left;rw[e]at h3;exact⟨by rw[←f];exact Nat.succ_pos _,by omega⟩
 ·right;right;left;rw[e]at h3;exact⟨by rw[←f];exact h4,by omega⟩
theorem DH {W H p r:Nat} (hp:p<W*H) (hr:r∈nb W H p):r<W*H:=(abN hp hr).1
theorem GY {W H p r:Nat} (hp:p<W*H) (hr:r∈nb W H p):p∈nb W H r:=by
 obtain⟨h1,h2⟩:=abN hp hr
 exact U3 h1 hp (by omega)
inductive Cn (W H:Nat) (S:Nat→Bool) (p:Nat):Nat→Prop
 |refl:S p=true→Cn W H S p p
 |step {q r:Nat}:Cn W H S p q→r∈nb W H q→S r=true→Cn W H S p r
section
variable {W H:Nat} {S T:Nat→Bool} {p q r:Nat}
theorem Cn.left (h:Cn W H S p q):S p=true:=by induction h with|refl h=>exact h|step _ _ _ ih=>exact ih
theorem Cn.right (h:Cn W H S p q):S q=true:=by cases h with|refl h=>exact h|step _ _ h=>exact h
theorem Cn.lt (h:Cn W H S p q) (hp:p<W*H):q<W*H:=by induction h with|refl _=>exact hp|step _ h _ ih=>exact DH ih h
theorem Cn.trans (h:Cn W H S p q) (k:Cn W H S q r):Cn W H S p r:=by induction k with|refl _=>exact h|step _ h2 h3 ih=>exact .step ih h2 h3
theorem Cn.symm (h:Cn W H S p q) (hp:p<W*H):Cn W H S q p:=by
 induction h with
 |refl h=>exact .refl h
 |step h1 h2 h3 ih=>exact Cn.trans (.step (.refl h3) (GY (h1.lt hp) h2) h1.right) ih
theorem Cn.mono (h:Cn W H S p q) (hp:p<W*H) (hST:∀r,r<W*H→S r=true→T r=true):Cn W H T p q:=by
 induction h with
 |refl h=>exact .refl (hST _ hp h)
 |step h1 h2 h3 ih=>exact .step ih h2 (hST _ (DH (h1.lt hp) h2) h3)
theorem Cn.closed {X:Nat→Prop} (h:Cn W H S p q) (hp:X p) (hc:∀a b,X a→b∈nb W H a→S b=true→X b):X q:=by
 induction h with
 |refl _=>exact hp
 |step _ h2 h3 ih=>exact hc _ _ ih h2 h3
end
section
variable (W H:Nat) (S:Nat→Bool)
def grow (l:List Nat):List Nat:=(br (W*H)).filter fun q=>decide (q∈l)||(S q&&(nb W H q).any fun r=>decide (r∈l))
def zM (p:Nat):Nat→List Nat
 |0=>[p]
 |k+1=>grow W H S (zM p k)
def lR (p:Nat):List Nat:=zM W H S p (W*H)
end
section
variable {W H:Nat} {S T:Nat→Bool} {p q r:Nat}
theorem mem_grow {l:List Nat}:q∈grow W H S l↔q<W*H∧(q∈l∨(S q=true∧∃r,r∈nb W H q∧r∈l)):=by
 unfold grow
 simp only[List.mem_filter,bf,Bool.or_eq_true,decide_eq_true_eq,aQ,List.any_eq_true]
theorem AB (hp:p<W*H):∀{k q},q∈zM W H S p k→q<W*H
 |0,q,h=>by simp [zM]at h;omega
 |k+1,q,h=>(mem_grow.1 h).1
theorem As (hp:p<W*H) (hs:S p=true):∀{k q},q∈zM W H S p k→Cn W H S p q
 |0,q,h=>by simp [zM]at h;subst h;exact .refl hs
 |k+1,q,h=>by
  obtain⟨h1,h2|⟨h2,r,h3,h4⟩⟩:=mem_grow.1 h
  ·exact As hp hs h2
  ·exact .step (As hp hs h4) (GY h1 h3) h2
theorem ID (hp:p<W*H) {k:Nat} (h:q∈zM W H S p k):q∈zM W H S p (k+1):=mem_grow.2 ⟨AB hp h,.inl h⟩
theorem Aj (hp:p<W*H):∀k,(zM W H S p k).Nodup
 |0=>by simp [zM]
 |k+1=>by unfold zM grow;exact tW _ uu
theorem length_le_of_subset:∀{l m:List Nat},l.Nodup→(∀x,x∈l→x∈m)→l.length≤m.length
 |[],_,_,_=>bG _
 |a::l,m,hn,hs=>by
  have h1:a∈m:=hs a (by simp)
  have h2:=length_le_of_subset (l:=l) (m:=m.erase a) (mQ.1 hn).2 (fun x hx=>(List.mem_erase_of_ne (fun e=>(mQ.1 hn).1 (by rw[←e];exact hx))).2 (hs x (by simp [hx])))
  have h3:=List.length_erase_of_mem h1
  have h4:0<m.length:=List.length_pos_of_mem h1
  simp only[gh]
  omega
theorem sJ {l m:List Nat} (hl:l.Nodup) (hs:∀x,x∈l→x∈m) (hlen:m.length≤l.length) (hm:m.Nodup):∀x,x∈m→x∈l:=by
 intro x hx
 by_cases q:x∈l
 ·exact q
 ·have:=length_le_of_subset (l:=x::l) (m:=m) (mQ.2 ⟨q,hl⟩) (fun y hy=>by rcases cA.1 hy with e|e;exact e ▸ hx;exact hs y e)
  simp only[gh]at this
  omega
theorem CG (hp:p<W*H):∀k,k≤(zM W H S p k).length∨∃j,j<k∧∀x,x∈zM W H S p (j+1)→x∈zM W H S p j
 |0=>.inl (bG _)
 |k+1=>by
  rcases CG hp k with h|⟨j,h1,h2⟩
  ·by_cases q:(zM W H S p (k+1)).length≤(zM W H S p k).length
   ·right
    exact⟨k,by omega,sJ (Aj hp k) (fun x hx=>ID hp hx) q (Aj hp (k+1))⟩
   ·left;omega
  ·exact .inr ⟨j,by omega,h2⟩
theorem Ab {j:Nat} (hp:p<W*H) (h:∀x,x∈zM W H S p (j+1)→x∈zM W H S p j):∀k x,x∈zM W H S p (j+k)→x∈zM W H S p j
 |0,x,hx=>hx
 |k+1,x,hx=>by
  apply h
  obtain⟨h1,h2⟩:=mem_grow.1 (show x∈grow W H S (zM W H S p (j+k)) from hx)
  refine mem_grow.2 ⟨h1,?_⟩
  rcases h2 with h2|⟨h2,r,h3,h4⟩
  ·exact .inl (Ab hp h k x h2)
  ·exact .inr ⟨h2,r,h3,Ab hp h k r h4⟩
theorem MA (hp:p<W*H) {j:Nat}:∀{k x},x∈zM W H S p j→x∈zM W H S p (j+k)
 |0,x,h=>h
 |k+1,x,h=>ID hp (MA hp h)
theorem Hi (hp:p<W*H) {a b:Nat} (ha:a∈lR W H S p) (hb:b∈nb W H a) (hs:S b=true):b∈lR W H S p:=by
 unfold lR at*
 have hstep:∀j,a∈zM W H S p j→b∈zM W H S p (j+1):=fun j h=>mem_grow.2 ⟨DH (AB hp h) hb,.inr ⟨hs,a,GY (AB hp h) hb,h⟩⟩
 rcases CG (S:=S) hp (W*H) with h|⟨j,h1,h2⟩
 ·
  have hall:=sJ (Aj (S:=S) hp (W*H)) (m:=br (W*H)) (fun x hx=>bf.2 (AB hp hx)) (by simpa using h) uu
  exact hall b (bf.2 (DH (AB hp ha) hb))
 ·have e:W*H=j+(W*H-j):=by omega
  have ha':a∈zM W H S p j:=by rw[e]at ha;exact Ab hp h2 _ a ha
  have:=MA hp (k:=W*H-j) (h2 b (hstep j ha'))
  rw[←e]at this
  exact this
theorem CT (hp:p<W*H):p∈lR W H S p:=by
 have:=MA (S:=S) hp (j:=0) (k:=W*H) (x:=p) (by simp [zM])
 rw[gq]at this
 exact this
theorem oY (hp:p<W*H) (hs:S p=true):q∈lR W H S p↔Cn W H S p q:=
 ⟨As hp hs,fun h=>h.closed (X:=fun x=>x∈lR W H S p) (CT hp) fun a b ha hb hS=>Hi hp ha hb hS⟩
theorem lS (hp:p<W*H):(lR W H S p).Pairwise (· < ·):=by
 unfold lR
 obtain⟨k,e⟩:∃k,W*H=k+1:=⟨W*H-1,by omega⟩
 rw[e]
 unfold zM grow
 exact tW _ List.pairwise_lt_range
theorem uW (hp:p<W*H) (h:q∈lR W H S p):q<W*H:=AB hp h
end
theorem Ce:∀{l m:List Nat},l.Pairwise (· < ·)→m.Pairwise (· < ·)→(∀x,x∈l↔x∈m)→l=m
 |[],[],_,_,_=>rfl
 |[],b::m,_,_,h=>by have:=(h b).2 (by simp);simp at this
 |a::l,[],_,_,h=>by have:=(h a).1 (by simp);simp at this
 |a::l,b::m,hl,hm,h=>by
  obtain⟨h1,h2⟩:=fL.1 hl
  obtain⟨h3,h4⟩:=fL.1 hm
  have e:a=b:=by
   rcases cA.1 ((h a).1 (by simp)) with e|e
   ·exact e
   ·rcases cA.1 ((h b).2 (by simp)) with f|f
    ·exact f.symm
    ·have:=h3 a e;have:=h1 b f;omega
  subst e
  congr 1
  refine Ce h2 h4 fun x=>?_
  have hx:=h x
  simp only[cA]at hx
  constructor
  ·intro q
   rcases hx.1 (.inr q) with e|e
   ·subst e;exact absurd (h1 _ q) (Nat.lt_irrefl _)
   ·exact e
  ·intro q
   rcases hx.2 (.inr q) with e|e
   ·subst e;exact absurd (h3 _ q) (Nat.lt_irrefl _)
   ·exact e
theorem Tt {W H:Nat} {S:Nat→Bool} {p q:Nat} (hp:p<W*H) (h:Cn W H S p q):lR W H S q=lR W H S p:=
 Ce (lS (h.lt hp)) (lS hp) fun x=>by
  rw[oY (h.lt hp) h.right,oY hp h.left]
  exact⟨fun k=>h.trans k,fun k=>(h.symm hp).trans k⟩
section
variable (W H:Nat) (S:Nat→Bool)
def eZ:Nat→List (List Nat)
 |0=>[]
 |p+1=>if(S p&& !(eZ p).any fun l=>decide (p∈l))=true then eZ p++[lR W H S p] else eZ p
def eU:List (List Nat):=eZ W H S (W*H)
end
def lX:List (List Nat)→Nat→Int
 |[],_=> -1
 |l::ls,q=>if q∈l then 0 else if lX ls q= -1 then-1 else lX ls q+1
section
variable {W H:Nat} {S:Nat→Bool} {p q r:Nat}
theorem pQ (h:S p=true) (k:∀l,l∈eZ W H S p→p∉l):eZ W H S (p+1)=eZ W H S p++[lR W H S p]:=by
 rw[eZ,if_pos]
 rw[aQ,bR,AI]
 exact⟨h,fun l hl=>by simpa using k l hl⟩
theorem rM (h:¬(S p=true∧∀l,l∈eZ W H S p→p∉l)):eZ W H S (p+1)=eZ W H S p:=by
 rw[eZ,if_neg]
 intro q
 rw[aQ,bR,AI]at q
 exact h ⟨q.1,fun l hl=>by simpa using q.2 l hl⟩
theorem kS {l:List Nat}:∀{p},l∈eZ W H S p→∃r,r<p∧S r=true∧l=lR W H S r
 |0,h=>by simp [eZ]at h
 |p+1,h=>by
  by_cases q:S p=true∧∀l,l∈eZ W H S p→p∉l
  ·rw[pQ q.1 q.2]at h
   rcases bZ.1 h with h|h
   ·obtain⟨r,h1,h2⟩:=kS h;exact⟨r,by omega,h2⟩
   ·exact⟨p,by omega,q.1,by simpa using h⟩
  ·rw[rM q]at h
   obtain⟨r,h1,h2⟩:=kS h;exact⟨r,by omega,h2⟩
theorem ru {l:List Nat} (hp:p≤W*H) (hl:l∈eZ W H S p) (ha:q∈l):S q=true∧q<W*H∧(∀x,x∈l↔Cn W H S q x)∧l=lR W H S q:=by
 obtain⟨r,h1,h2,rfl⟩:=kS hl
 have hr:r<W*H:=by omega
 have h3:=(oY hr h2).1 ha
 have e:=Tt hr h3
 exact⟨h3.right,h3.lt hr,fun x=>by rw[←e];exact oY (h3.lt hr) h3.right,e.symm⟩
theorem Aa (hp:p≤W*H) (hq:q<p) (hs:S q=true):∃l,l∈eZ W H S p∧q∈l:=by
 induction p with
 |zero=>omega
 |succ p ih=>
  by_cases z:S p=true∧∀l,l∈eZ W H S p→p∉l
  ·rw[pQ z.1 z.2]
   rcases aK q p with h|h
   ·obtain⟨l,h1,h2⟩:=ih (by omega) h;exact⟨l,by simp [h1],h2⟩
   ·have:q=p:=by omega
    subst this
    exact⟨lR W H S q,by simp,CT (by omega)⟩
  ·rw[rM z]
   rcases aK q p with h|h
   ·exact ih (by omega) h
   ·have:q=p:=by omega
    subst this
    exact eR fun k=>z ⟨hs,fun l h1 h2=>k ⟨l,h1,h2⟩⟩
theorem pY (hp:p≤W*H):(eZ W H S p).Pairwise fun a b=>∀x,x∈a→x∉b:=by
 induction p with
 |zero=>exact wj
 |succ p ih=>
  by_cases z:S p=true∧∀l,l∈eZ W H S p→p∉l
  ·rw[pQ z.1 z.2]
   refine gb.2 ⟨ih (by omega),List.pairwise_singleton _ _,fun a ha b hb x hx hx2=>?_⟩
   simp at hb;subst hb
   have h1:=(oY (by omega:p<W*H) z.1).1 hx2
   obtain⟨_,h2,h3,_⟩:=ru (by omega) ha hx
   exact z.2 a ha ((h3 p).2 (h1.symm (by omega)))
  ·rw[rM z];exact ih (by omega)
theorem Cg:∀{ls:List (List Nat)},(∀l,l∈ls→q∉l)→lX ls q= -1
 |[],_=>rfl
 |l::ls,h=>by
  unfold lX
  rw[if_neg (h l (by simp)),if_pos (Cg fun m hm=>h m (by simp [hm]))]
theorem MR {q:Nat}:∀{ls:List (List Nat)}, -1≤lX ls q
 |[]=>by simp [lX]
 |l::ls=>by have:=MR (q:=q) (ls:=ls);unfold lX;split<;>(try split)<;>omega
theorem DD:∀{ls:List (List Nat)} {i:Nat} {l:List Nat},ls.Pairwise (fun a b=>∀x,x∈a→x∉b)→ls[i]? =some l→q∈l→lX ls q=i
 |[],i,l,_,h,_=>by simp at h
 |m::ls,0,l,_,h,hq=>by simp at h;subst h;unfold lX;rw[if_pos hq];rfl
 |m::ls,i+1,l,hp,h,hq=>by
  obtain⟨h1,h2⟩:=fL.1 hp
  have h3:ls[i]? =some l:=by simpa using h
  have h4:=DD h2 h3 hq
  have hm:q∉m:=fun z=>h1 l (al h3) q z hq
  unfold lX
  rw[if_neg hm,h4,if_neg (by omega)]
  omega
theorem Ak {q:Nat}:∀{ls:List (List Nat)},0≤lX ls q→∃(i:Nat) (l:List Nat),ls[i]? =some l∧q∈l∧lX ls q=i
 |[],h=>by simp [lX]at h
 |m::ls,h=>by
  unfold lX at h ⊢
  by_cases z:q∈m
  ·rw[if_pos z];exact⟨0,m,rfl,z,rfl⟩
  ·rw[if_neg z]at h ⊢
   by_cases y:lX ls q= -1
   ·rw[if_pos y]at h;omega
   ·rw[if_neg y]at h ⊢
    obtain⟨i,l,h1,h2,h3⟩:=Ak (ls:=ls) (q:=q) (by have:=MR (q:=q) (ls:=ls);omega)
    exact⟨i+1,l,by simpa using h1,h2,by omega⟩
theorem uP {ls:List (List Nat)}:lX ls q<0↔∀l,l∈ls→q∉l:=by
 constructor
 ·intro h l hl hq
  obtain⟨i,hi⟩:=cV.1 hl
  have:∀{ls:List (List Nat)},l∈ls→0≤lX ls q:=fun {ls}=>by
   induction ls with
   |nil=>intro h;cases h
   |cons m ls ih=>
    intro h
    unfold lX
    rcases cA.1 h with e|e
    ·subst e;rw[if_pos hq];exact Int.le_refl _
    ·have:=ih e;split
     ·exact Int.le_refl _
     ·split<;>omega
  have:=this hl;omega
 ·intro h;rw[Cg h];omega
theorem Zj {ls:List (List Nat)} {l:List Nat}:lX (ls++[l]) q=if lX ls q= -1 then(if q∈l then(ls.length:Int) else-1) else lX ls q:=by
 induction ls with
 |nil=>simp [lX]
 |cons m ls ih=>
  rw[qz,lX,lX,ih]
  by_cases z:q∈m
  ·rw[if_pos z,if_pos z,if_neg (by omega)]
  ·rw[if_neg z,if_neg z]
   have h0:=MR (q:=q) (ls:=ls)
   by_cases y:lX ls q= -1
   ·rw[if_pos y,if_pos y,if_pos rfl]
    by_cases x:q∈l
    ·rw[if_pos x,if_pos x,if_neg (by omega)];simp only[gh];omega
    ·rw[if_neg x,if_neg x,if_pos rfl]
   ·rw[if_neg y,if_neg y,if_neg (by omega)]
end
section
variable {W H:Nat} {S T:Nat→Bool} {p q r:Nat}
theorem DE (hp:p<W*H):lR W H S p≠[]:=fun e=>by have:=CT (S:=S) hp;rw[e]at this;cases this
theorem FC {l:List Nat} (h:l≠[]):l.headD 0∈l:=by cases l with|nil=>exact absurd rfl h|cons a l=>simp
theorem Fs (hq:q<W*H):0≤lX (eU W H S) q↔S q=true:=by
 constructor
 ·intro h
  obtain⟨i,l,h1,h2,_⟩:=Ak h
  exact(ru (bA _) (al h1) h2).1
 ·intro h
  obtain⟨l,h1,h2⟩:=Aa (bA _) hq h
  rcases Int.lt_or_le (lX (eU W H S) q) 0 with z|z
  ·exact absurd h2 (uP.1 z l h1)
  ·exact z
theorem adz (hq:q<W*H) (hs:S q=true):lX (eU W H S) q=lX (eU W H S) r↔Cn W H S q r:=by
 obtain⟨l,h1,h2⟩:=Aa (bA _) hq hs
 obtain⟨i,hi⟩:=cV.1 h1
 have e:=DD (pY (bA _)) hi h2
 obtain⟨_,_,h3,_⟩:=ru (bA _) h1 h2
 constructor
 ·intro h
  have e2:lX (eU W H S) r=i:=by rw[←h];exact e
  obtain⟨j,m,h4,h5,h6⟩:=Ak (q:=r) (ls:=eU W H S) (by omega)
  have:j=i:=by omega
  subst this
  rw[show(eU W H S)[j]? =some l from hi]at h4
  cases h4
  exact(h3 r).1 h5
 ·intro h
  rw[show lX (eU W H S) r=i from DD (pY (bA _)) hi ((h3 r).2 h)]
  exact e
end
end Go.Cell
namespace Go.SL
set_option linter.unusedVariables false
theorem abC {β:Bs} {L L1 L2 X:List cq} (is:List Nat) (hn:lD is=true) (h:fO L is=L1++L2) (hlt:is.all (fun i=>df i L.length)=true):∀w,St β (L++X) w→St β (L1++(L2++X)) w:=fun w hw=>by
 rw[←dp, ←h]
 have hle:(fO L is).length=is.length:=by unfold fO;exact aq _
 have hb:∀j (hj:j<is.length),is[j]<L.length:=fun j hj=>bh (bF.1 hlt _ (fv hj))
 have hfl:∀j (hj:j<is.length),is.getD j 0=is[j]:=fun j hj=>by rw[av,af hj];rfl
 refine hw.map (fun j=>if j<is.length then is.getD j 0 else L.length+(j-is.length)) ?_ ?_
 ·intro j l hjl hj hl
  by_cases h1:j<is.length
  ·by_cases h2:l<is.length
   ·rw[if_pos h1,if_pos h2,hfl j h1,hfl l h2]
    exact pX hn j l h1 h2 hjl
   ·rw[if_pos h1,if_neg h2,hfl j h1]
    have:=hb j h1;omega
  ·by_cases h2:l<is.length
   ·rw[if_neg h1,if_pos h2,hfl l h2]
    have:=hb l h2;omega
   ·rw[if_neg h1,if_neg h2];omega
 ·intro j r hr
  by_cases h1:j<is.length
  ·refine .inr ?_
   rw[if_pos h1,hfl j h1,aJ (hb j h1)]
   rw[aJ (by rw[hle];exact h1)]at hr
   unfold fO at hr
   rw[aw,af h1]at hr
   simp only[dH,Option.some.injEq]at hr
   rw[av,af (hb j h1)]at hr
   rw[af (hb j h1), ←hr];rfl
  ·refine .inr ?_
   rw[if_neg h1,aY (by omega),show L.length+(j-is.length)-L.length=j-is.length by omega]
   rw[aY (by rw[hle];omega),hle]at hr
   exact hr
end Go.SL
namespace Go.SL
set_option linter.unusedVariables false
open Go.RowKit
section
variable {P:Program} {ro:Option Nat} {β:Bs} {N:Nat} {ds:List Deferred} {env:Env} {L:List cq} {Q:Exit→Act→World→Prop}
theorem VC.Ni {α:Type} {gop:Operand} {ps:Array Tmp} {asg body:Code} {gf:FuncId} {lb:List Value} {Cap:World→Prop} {xs:List (List Value)} (F:α→List cq) (I:Nat→α→Prop) (Ix:Code→Nat→α→Prop) (x0:α) (envb:List Value→Env)
  (hg:ev env gop=some (.func (.func gf) #[] lb.toArray)) (hf:ef P gf) (hseq:MG P gf lb Cap xs) (hF0:∀w,St β L w→St β (F x0) w) (h0:I 0 x0)
  (hps:∀vs,vs∈xs→vs.length=ps.size) (hpN:ps.toList.all (fun t=>df t N)=true)
  (hCap:∀n x w,I n x→(∀(i:Nat) (r:cq),(F x)[i]? =some r→r.inv w)→(∀k,k<β.w.heap.size→¬β.O k→w.heap[k]? =β.w.heap[k]?)→Cap w)
  (hasg:∀(n:Nat) (x:α) (vs:List Value) l T w1,I n x→xs[n]? =some vs→St β (F x++T) w1→VC P (some l) ⟨w1,lu (F x++T)⟩ N [] (ND ps vs++env) (F x++T) asg (AP ⟨w1,lu (F x++T)⟩ N (envb vs) (F x++T)))
  (hbody:∀(n:Nat) (x:α) (vs:List Value) l T w1,I n x→xs[n]? =some vs→St β (F x++T) w1→VC P (some l) ⟨w1,lu (F x++T)⟩ N [] (envb vs) (F x++T) body (RB ⟨w1,lu (F x++T)⟩ F T (I (n+1)) (fun c=>Ix c (n+1))))
  (hdone:∀D x,I xs.length x→VE β N (mark D::ds) env (F x++[dR D]) .normal Q)
  (hstop:∀D c n x,n≤xs.length→Ix c n x→VC P none β N (mark D::ds) env (F x++[dR D]) c Q):
  VC P none β N ds env L (.rangeFunc gop ps asg body) Q:=by
 intro a w ha hw
 have hw0:=hF0 w hw
 refine wpIn_rangeFunc fun fn _=>?_
 obtain⟨rec,hrec⟩:∃rec:LoopState→Option Code→Loop,rec=fun st pe=>{ state:=st,pending:=pe,fn,tmps:=a.tmps,params:=ps,assign:=asg,body,defers:=w.heap.size }:=⟨_,rfl⟩
 obtain⟨D,hD⟩:∃D,D=w.heap.size:=⟨_,rfl⟩
 obtain⟨l,hl⟩:∃l,l=w.heap.size+1:=⟨_,rfl⟩
 obtain⟨W1,hW1⟩:∃W1,(w.alloc (.deferred (some []))).alloc (.loop (rec .ready none))=W1:=⟨_,rfl⟩
 obtain⟨T,hT⟩:∃T:LoopState→Option Code→List cq,T=fun st pe=>[de l (.loop (rec st pe)),dR D]:=⟨_,rfl⟩
 have hTget:∀x st pe,(F x++T st pe)[(F x).length]? =some (de l (.loop (rec st pe))):=by intro x st pe;simp [hT]
 have hTset:∀x st pe st' pe',(F x++T st pe).set (F x).length (de l (.loop (rec st' pe')))=F x++T st' pe':=by intro x st pe st' pe';simp [hT]
 have hst1:St β (F x0++T .ready none) W1:=by
  have h1:=(hw0.alloc (.deferred (some []))).alloc (.loop (rec .ready none))
  rw[hW1,World.size_alloc]at h1
  refine h1.map (fun j=>if j<(F x0).length then j+2 else if j=(F x0).length then 0 else 1) ?_ ?_
  ·intro a b hab ha hb
   simp [hT]at ha hb
   split<;>split<;>(try split)<;>(try split)<;>omega
  ·intro j r hr
   right
   rw[jg]at hr
   by_cases q:j<(F x0).length
   ·simp only[q,if_true]at hr ⊢
    simpa using hr
   ·simp only[q,if_false]at hr ⊢
    by_cases e:j=(F x0).length
    ·subst e;simp [hT]at hr;subst hr;simp [hl]
    ·have:j=(F x0).length+1:=by
      rcases aK (j-(F x0).length) 2 with s|s
      ·omega
      ·simp only[hT]at hr;rw[aH (by simpa using s)]at hr;cases hr
     subst this
     simp [hT]at hr;subst hr;simp [dR,hD]
 
 have endx:∀x st pe w',St β (F x++T st pe) w'→st≠ .busy→∃w4,(Instr.endLoop l).run P w'= .ok pe w4∧St β (F x++[dR D]) w4:=by
  intro x st pe w' hs hne
  have hrl:w'.heap[l]? =some (.loop (rec st pe)):=hs.inv _ _ (hTget x st pe)
  refine⟨w'.putObj l (.loop { rec st pe with state:=.exhausted }),?_,?_⟩
  ·have:=run_endLoop (P:=P) hrl (by rw[hrec];exact hne)
   rw[this];congr 1;rw[hrec]
  ·have h2:=hs.obj (o':=.loop { rec st pe with state:=.exhausted }) _ (hTget x st pe)
   refine h2.map (fun j=>if j<(F x).length then j else j+1) ?_ ?_
   ·intro a b hab ha hb
    split<;>split<;>omega
   ·intro j r hr
    right
    rw[jg]at hr
    by_cases q:j<(F x).length
    ·simp only[q,if_true]at hr ⊢
     rw[eQ (by omega),aJ q];exact hr
    ·simp only[q,if_false]at hr ⊢
     have:j=(F x).length:=by
      rcases aK (j-(F x).length) 1 with s|s
      ·omega
      ·rw[aH (by simpa using s)]at hr;cases hr
     subst this
     simp at hr;subst hr
     rw[eQ (by omega),aY (by omega)]
     simp [hT]
 refine⟨l,[mark D],W1,{ target:=.fn (.func gf) lb.toArray,args:=#[yv l] },W1,gf,(yv l::lb).toArray,W1,?_,?_,?_,?_,fun h=>by simp [Wf,Fence.wide]at h,?_⟩
 ·rw[←hW1,hrec,hl,hD];exact run_enterLoop_outer _ _ _ _ _
 ·have e:a.eval gop= .func (.func gf) #[] lb.toArray:=ha.eval hg
  simp only[resolve,e]
  simp [mJ,yv,Act.eval]
 ·intro f' _;exact True.intro
 ·simp [invoke,re hf]
 ·refine rv.2 ((hseq l (fun n r=>∃x,I n x∧r=LB β (F x++T .ready none)∧Fits β (F x++T .ready none)) (fun n r=>∃c x,Ix c n x∧r=LB β (F x++T .done (some c))∧Fits β (F x++T .done (some c)))
   W1 (LB β (F x0++T .ready none)) ?_ ?_ ⟨x0,h0,rfl,hst1.fits⟩ ⟨hst1.inv,hst1.fr⟩ ?_).mono ?_)
  ·rintro n r w' ⟨x,hI,rfl,_⟩ hinv
   exact hCap n x w' hI (fun i r hr=>hinv.1 i r (by
    rw[aJ]
    ·exact hr
    ·rcases aK i (F x).length with q|q
     ·exact q
     ·simp [aH q]at hr)) hinv.2
  ·
   rintro n vs hvs r w1 ⟨x,hI,rfl,hfit⟩ hinv hb hos
   have hs1:St β (F x++T .ready none) w1:=St.G8 (w1:=w1) (O:=β.O) hfit ⟨hos.1.trans hst1.os,hos.2.1.trans hst1.tape,hos.2.2.1.trans hst1.output,Nat.le_trans hst1.size hos.2.2.2⟩ hinv hb
   have hrl:w1.heap[l]? =some (.loop (rec .ready none)):=hs1.inv _ _ (hTget x .ready none)
   have hlen:vs.toArray.size=ps.size:=by simpa using hps vs (al hvs)
   have hy:=run_yield (P:=P) (args:=vs.toArray) hrl (by rw[hrec];exact hlen)
   refine⟨_,_,_,_,hy,?_⟩
   refine roundIn_of_wpIn (F:=Fence.wide) (n:=0) True.intro ?_
   have hA:Ag N [] (ND ps vs++env) { tmps:=(ps.zip vs.toArray).foldl (fun t (p,v)=>t.setIfInBounds p v) a.tmps,defers:=[] }:=by
    have h1:=MT (N:=N) (ds:=[]) (ps.toList.zip vs) env { tmps:=a.tmps,defers:=[] } (fun z hz=>by
     have hm:z.1∈ps.toList:=(List.of_mem_zip (a:=z.1) (b:=z.2) hz).1
     exact bh (bF.1 hpN z.1 hm)) ⟨ha.size,rfl,ha.get⟩
    have e:(ps.zip vs.toArray).foldl (fun t (p,v)=>t.setIfInBounds p v) a.tmps=(ps.toList.zip vs).foldl (fun t (p,v)=>t.setIfInBounds p v) a.tmps:=by
     rw[←Array.foldl_toList,Array.toList_zip]
    rw[e];exact h1
   have ha1:=hasg n x vs l (T .ready none) w1 hI hvs hs1 _ w1 hA hs1.tn
   rw[hrec]
   refine mm ?_ ha1
   rintro e a2 w2 ⟨rfl,hag,hs2⟩
   have hs2':=hs1.back hs2
   have hrl2:w2.heap[l]? =some (.loop (rec .ready none)):=hs2.inv _ _ (hTget x .ready none)
   refine⟨w2.putObj l (.loop { rec .ready none with state:=.busy }),run_beginRound hrl2 (by rw[hrec]),?_⟩
   have eb:({ rec .ready none with state:=.busy }:Loop)=rec .busy none:=by rw[hrec]
   rw[eb]
   have hs3:=hs2'.obj (o':=.loop (rec .busy none)) _ (hTget x .ready none)
   rw[hTset]at hs3
   have hs3':=hs2.obj (o':=.loop (rec .busy none)) _ (hTget x .ready none)
   rw[hTset]at hs3'
   have hb1:=hbody n x vs l (T .busy none) _ hI hvs hs3 _ _ hag hs3.tn
   refine mm ?_ hb1
   intro e a3 w3 hq
   have fin:∀y (jump:Option Code),St ⟨w2.putObj l (.loop (rec .busy none)),lu (F x++T .busy none)⟩ (F y++T .busy none) w3→
     ∃w4,(Instr.endRound l jump).run P w3= .ok (.bool jump.isNone) w4∧St ⟨w1,(LB β (F x++T .ready none)).fp⟩ [LB β (F y++T (if jump.isNone then .ready else .done) jump)] w4∧Fits β (F y++T (if jump.isNone then .ready else .done) jump):=by
    intro y jump hsy
    have h4:=hs3'.back hsy
    have hrl3:w3.heap[l]? =some (.loop (rec .busy none)):=h4.inv _ _ (hTget y .busy none)
    refine⟨_,run_endRound jump hrl3,?_⟩
    have er:({ rec .busy none with state:=if jump.isNone then .ready else .done,pending:=jump }:Loop)=rec (if jump.isNone then .ready else .done) jump:=by rw[hrec]
    rw[er]
    have h5:=h4.obj (o':=.loop (rec (if jump.isNone then .ready else .done) jump)) _ (hTget y .busy none)
    rw[hTset]at h5
    exact⟨St.Uw hs1 h5,(hs1.back h5).fits⟩
   cases e with
   |normal=>
    obtain⟨y,hy1,hy2⟩:=hq
    obtain⟨w4,h1,h2,h3⟩:=fin y none hy2
    exact⟨_,w4,h1,true,_,rfl,⟨y,hy1,rfl,h3⟩,h2⟩
   |ret=>
    obtain⟨y,hy1,hy2⟩:=hq
    obtain⟨w4,h1,h2,h3⟩:=fin y (some .ret) hy2
    exact⟨_,w4,h1,false,_,rfl,⟨_,y,hy1,rfl,h3⟩,h2⟩
   |exit id=>
    obtain⟨y,hy1,hy2⟩:=hq
    obtain⟨w4,h1,h2,h3⟩:=fin y (some (.exit id)) hy2
    exact⟨_,w4,h1,false,_,rfl,⟨_,y,hy1,rfl,h3⟩,h2⟩
   |goto t=>exact hq.elim
   |panic ch=>exact hq.elim
   |outgrown=>exact hq.elim
  ·intro k hk
   rcases hk with⟨i,r,hr,hk⟩|⟨hk,_⟩
   ·exact(hst1.pM i r hr k hk).2
   ·exact et hk hst1.size
  ·rintro e w' ⟨rfl,n,r',hJ,hs⟩
   have toSt:∀L2,r'=LB β L2→Fits β L2→St β L2 w':=by
    rintro L2 rfl hfit
    have hb:=hs.pM 0 _ rfl
    exact St.G8 (w1:=w') (O:=β.O) hfit ⟨hs.os.trans hst1.os,hs.tape.trans hst1.tape,hs.output.trans hst1.output,Nat.le_trans hst1.size hs.size⟩ (hs.inv 0 _ rfl) (fun k hk=>(hb k hk).2)
   have hag:Ag N (mark D::ds) env { a with defers:=[mark D]++a.defers }:=⟨ha.size,by simp [ha.xB],ha.get⟩
   rcases hJ with⟨x,hI,hr,hfit⟩|⟨hle,c,x,hI,hr,hfit⟩
   ·obtain⟨w4,h1,h2⟩:=endx x .ready none w' (toSt _ hr hfit) (by simp)
    exact⟨none,w4,h1,hdone D x hI _ _ hag h2⟩
   ·obtain⟨w4,h1,h2⟩:=endx x .done (some c) w' (toSt _ hr hfit) (by simp)
    exact⟨some c,w4,h1,hstop D c n x hle hI _ _ hag h2⟩
def Dm (Ds:List Nat):List Deferred:=Ds.map mark
def Db (Ds:List Nat):cq:=bS (Ds.map dR)
theorem St.db0 {w:World} (h:St β L w):St β (Db []::L) w:=St.bS (Rs:=[]) h
theorem St.abe {w:World} {A:List cq} {D:Nat} {Ds:List Nat} (h:St β (A++[Db Ds]++[dR D]) w):St β (A++[Db (D::Ds)]) w:=by
 have h1:St β (dR D::Db Ds::A) w:=h.perm (by
  rw[dp]
  refine(iT).trans ?_
  exact qd _ _ _)
 have h2:St β (Db (D::Ds)::A) w:=by
  have h3:=St.vR (A:=[]) (B:=Ds.map dR) (r:=dR D) (L:=A) h1
  exact h3
 exact h2.perm (iT (l₁:=[Db (D::Ds)]) (l₂:=A))
theorem VC.MD {α:Type} {gop:Operand} {ps:Array Tmp} {asg body:Code} {gf:FuncId} {lb:List Value} {Cap:World→Prop} {xs:List (List Value)} {Ds:List Nat} (F:α→List cq) (I:Nat→α→Prop) (Ix:Code→Nat→α→Prop) (x0:α) (envb:List Value→Env)
  (hg:ev env gop=some (.func (.func gf) #[] lb.toArray)) (hf:ef P gf) (hseq:MG P gf lb Cap xs) (hF0:∀w,St β L w→St β (F x0++[Db Ds]) w) (h0:I 0 x0)
  (hps:∀vs,vs∈xs→vs.length=ps.size) (hpN:ps.toList.all (fun t=>df t N)=true)
  (hCap:∀n x w,I n x→(∀(i:Nat) (r:cq),(F x)[i]? =some r→r.inv w)→Cap w)
  (hasg:∀(n:Nat) (x:α) (vs:List Value) l T w1,I n x→xs[n]? =some vs→St β (F x++T) w1→VC P (some l) ⟨w1,lu (F x++T)⟩ N [] (ND ps vs++env) (F x++T) asg (AP ⟨w1,lu (F x++T)⟩ N (envb vs) (F x++T)))
  (hbody:∀(n:Nat) (x:α) (vs:List Value) l T w1,I n x→xs[n]? =some vs→St β (F x++T) w1→VC P (some l) ⟨w1,lu (F x++T)⟩ N [] (envb vs) (F x++T) body (RB ⟨w1,lu (F x++T)⟩ F T (I (n+1)) (fun c=>Ix c (n+1))))
  (hdone:∀D x,I xs.length x→VE β N (Dm (D::Ds)) env (F x++[Db (D::Ds)]) .normal Q)
  (hstop:∀D c n x,n≤xs.length→Ix c n x→VC P none β N (Dm (D::Ds)) env (F x++[Db (D::Ds)]) c Q):
  VC P none β N (Dm Ds) env L (.rangeFunc gop ps asg body) Q:=by
 have as1:∀(x:α) (T:List cq),(F x++[Db Ds])++T=F x++([Db Ds]++T):=fun x T=>dp _ _ _
 refine VC.Ni (fun x=>F x++[Db Ds]) I Ix x0 envb hg hf hseq hF0 h0 hps hpN (fun n x w h1 h2 _=>hCap n x w h1 fun i r hr=>h2 i r (by
   rw[aJ (aj.1 hr).1];exact hr)) ?_ ?_ (fun D x hI=>?_) (fun D c n x hn hI=>?_)
 ·intro n x vs l T w1 h1 h2 h3
  rw[as1]at h3 ⊢
  exact hasg n x vs l _ w1 h1 h2 h3
 ·intro n x vs l T w1 h1 h2 h3
  rw[as1]at h3 ⊢
  refine fun a w ha hw=>mm ?_ (hbody n x vs l _ w1 h1 h2 h3 a w ha hw)
  intro e a w q
  cases e with
  |normal=>obtain⟨y,q1,q2⟩:=q;exact⟨y,q1,by rw[as1];exact q2⟩
  |ret=>obtain⟨y,q1,q2⟩:=q;exact⟨y,q1,by rw[as1];exact q2⟩
  |exit id=>obtain⟨y,q1,q2⟩:=q;exact⟨y,q1,by rw[as1];exact q2⟩
  |_=>exact q
 ·intro a w ha hw
  exact hdone D x hI a w ha (St.abe hw)
 ·intro a w ha hw
  exact hstop D c n x hn hI a w ha (St.abe hw)
theorem VC.L9 {α:Type} {gop:Operand} {ps:Array Tmp} {asg body:Code} {gf:FuncId} {lb:List Value} {Cap:World→Prop} {xs:List (List Value)} {Ds:List Nat} (R:List cq) (F:α→List cq) (I:Nat→α→Prop) (Ix:Code→Nat→α→Prop) (x0:α) (envb:List Value→Env)
  (hg:ev env gop=some (.func (.func gf) #[] lb.toArray)) (hf:ef P gf) (hseq:MG P gf lb Cap xs) (hF0:∀w,St β L w→St β ((F x0++R)++[Db Ds]) w) (h0:I 0 x0)
  (hps:∀vs,vs∈xs→vs.length=ps.size) (hpN:ps.toList.all (fun t=>df t N)=true)
  (hCap:∀n x w,I n x→(∀(i:Nat) (r:cq),(F x++R)[i]? =some r→r.inv w)→Cap w)
  (hasg:∀(n:Nat) (x:α) (vs:List Value) l T w1,I n x→xs[n]? =some vs→St β ((F x++R)++T) w1→VC P (some l) ⟨w1,lu ((F x++R)++T)⟩ N [] (ND ps vs++env) ((F x++R)++T) asg (AP ⟨w1,lu ((F x++R)++T)⟩ N (envb vs) ((F x++R)++T)))
  (hbody:∀(n:Nat) (x:α) (vs:List Value) l T w1,I n x→xs[n]? =some vs→St β ((F x++R)++T) w1→VC P (some l) ⟨w1,lu ((F x++R)++T)⟩ N [] (envb vs) ((F x++R)++T) body (RB ⟨w1,lu ((F x++R)++T)⟩ (fun x=>F x++R) T (I (n+1)) (fun c=>Ix c (n+1))))
  (hdone:∀D x,I xs.length x→VE β N (Dm (D::Ds)) env ((F x++R)++[Db (D::Ds)]) .normal Q)
  (hstop:∀D c n x,n≤xs.length→Ix c n x→VC P none β N (Dm (D::Ds)) env ((F x++R)++[Db (D::Ds)]) c Q):
  VC P none β N (Dm Ds) env L (.rangeFunc gop ps asg body) Q:=
 VC.MD (fun x=>F x++R) I Ix x0 envb hg hf hseq hF0 h0 hps hpN hCap hasg hbody hdone hstop
theorem VC.abR {α:Type} (n:Nat) (E:α→Env) (Ek:Env) (F:α→List cq) (Df:α→List Nat) (I:α→Prop) (μ:α→Nat) (x0:α) {Ds:List Nat} {c:Code} (hd:Df x0=Ds) (h0:I x0) (hE:Sub (E x0++Ek) env)
  (hF:∀w,St β L w→St β (F x0++L.drop n) w)
  (hr:∀x,I x→VC P ro β N (Dm (Df x)) (E x++Ek) (F x++L.drop n) c (Exit.then (fun a w=>∃y,I y∧μ y<μ x∧Ag N (Dm (Df y)) (E y++Ek) a∧St β (F y++L.drop n) w) Q)):VC P ro β N (Dm Ds) env L (.loop c) Q:=by
 intro a w ha hw
 refine Fu (fun n' a w=>∃x,I x∧μ x=n'∧Ag N (Dm (Df x)) (E x++Ek) a∧St β (F x++L.drop n) w) (μ x0) ⟨x0,h0,rfl,by rw[hd];exact ha.sub hE,hF w hw⟩ ?_
 rintro n' a w ⟨x,hI,rfl,hA,hS⟩
 refine mm ?_ (hr x hI a w hA hS)
 intro e a w q
 cases e with
 |normal=>obtain⟨y,h1,h2,h3,h4⟩:=q;exact⟨μ y,h2,y,h1,rfl,h3,h4⟩
 |_=>exact q
theorem FH {fn:Func} {R:Ending→World→Prop} {tmps:Array Value}:∀{Ds:List Nat} {A:List cq} {w:World},St β (Db Ds::A) w→(∀w',St β A w'→LeavesInM (Wf none) 0 P fn tmps R [] .returning w')→LeavesInM (Wf none) 0 P fn tmps R (Dm Ds) .returning w
 |[],A,w,h,k=>k w (h.perm (List.Perm.refl _) |> fun h=>h.uQ)
 |D::Ds,A,w,h,k=>by
  have h1:St β (dR D::Db Ds::A) w:=St.focus (A:=[]) (B:=Ds.map dR) (r:=dR D) (L:=A) h
  have hd:w.heap[D]? =some (.deferred (some [])):=h1.inv 0 _ rfl
  have hs:=h1.obj (o':=.deferred none) 0 rfl
  refine⟨by simp,.inl ⟨D,_,rfl,run_takeDeferred hd,?_⟩⟩
  have h2:St β (Db Ds::A) (w.putObj D (.deferred none)):=by
   have:([dR D]++(Db Ds::A)).set 0 (de D (.deferred none))=de D (.deferred none)::Db Ds::A:=rfl
   exact(hs.map (fun j=>j+1) (fun a b hab _ _=>by omega) (fun j r hr=>.inr (by simpa using hr)):St β (Db Ds::A) _)
  exact FH h2 k
theorem VE.ahr {fn:Func} {R:Ending→World→Prop} {xs:List ResultVar} {vs:List Value} {Ds:List Nat} {A:List cq} (hr:fn.results=xs.toArray) (hL:∀w,St β L w→St β (Db Ds::A) w) (h:Xf P β A env xs vs)
  (k:∀w,St β A w→R (.returned (gF vs)) w):VE β N (Dm Ds) env L .ret (FP P fn R):=by
 intro a w ha hw
 show LeavesInM (Wf none) 0 P fn a.tmps R a.defers .returning w
 rw[ha.xB]
 refine FH (hL w hw) fun w' hw'=>?_
 exact⟨_,rQ (ds:=[]) (a:={ tmps:=a.tmps,defers:=[] }) hr ⟨ha.size,rfl,ha.get⟩ hw' h,k _ hw'⟩
theorem VC.dm0 {c:Code} (h:VC P ro β N (Dm []) env (Db []::L) c Q):VC P ro β N [] env L c Q:=fun a w ha hw=>h a w ha hw.db0
end
section
variable {P:Program} {ro:Option Nat} {β:Bs} {ds:List Deferred} {N:Nat} {env:Env} {L:List cq} {Q:Exit→Act→World→Prop}
variable {d:Option Nat} {ty:TypeId} {pos:String} {aft:Array Edge} {g:Option (Nat×Bool)}
variable {K:Value→List cq→Prop} {dd:Option Nat}
theorem BK (w:World) (ir:Nat) (ty:TypeId) (bm since c0:Nat) (seen:Array Nat) (es:Array MapEntry) (clock:Nat) (hi:w.heap[ir]? =some (.mapIter (some bm) since seen c0)) (hb:w.heap[bm]? =some (.map es clock)) (hold:∀x∈es.toList,x.born<since) (hsc:since≤c0):
  ((leftOf es seen).size=0∧(Instr.next (.pointer (some ⟨ir,0,none⟩)) false ty).run P w= .ok (.tuple #[.bool false]) w)∨
  ∃e∈(leftOf es seen).toList,∃n:Nat,(Instr.next (.pointer (some ⟨ir,0,none⟩)) false ty).run P w= .ok (.tuple #[.bool true,e.key,e.val]) (({ w with drawn:=n }:World).putObj ir (.mapIter (some bm) since (seen.push e.born) clock)):=by
 simp only[Instr.next,getObj,bz,Sem.run,hi,hb,Bu,next_test_false seen es since c0 hold hsc,bP,if_false]
 unfold leftOf
 have hmem:∀x∈(Array.filter (fun e=> !seen.contains e.born) es).toList,x.born<since:=fun x hx=>hold x (by simp at hx ⊢;exact hx.1)
 generalize Array.filter (fun e=> !seen.contains e.born) es=L at hmem ⊢
 have e1:L.filter (fun x=>decide (x.born<since))=L:=Array.filter_eq_self.2 (fun x hx=>by simpa using hmem x (by simpa using hx))
 have e2:L.filter (fun x=>decide (x.born≥since))=#[]:=by
  rw[Array.filter_eq_empty_iff]
  intro x hx
  have:=hmem x (by simpa using hx)
  simp
  omega
 simp only[e1,e2,Array.append_empty]
 by_cases h0:L.size=0
 ·left
  have:L=#[]:=qC h0
  subst this
  refine⟨rfl,?_⟩
  simp [choose,Sem.run,xK]
 ·right
  have hne:L.isEmpty=false:=by simp [Array.isEmpty,h0]
  simp only[hne,bP,if_false,Array.empty_append,Array.size_map]
  have hch:∃(j:Nat) (n:Nat),j<L.size∧(choose (Question.mapNext L.size)).run P w= .ok j ({ w with drawn:=n }:World):=by
   by_cases hf:L.size≤1
   ·exact⟨0,w.drawn,by omega,by simp [choose,Sem.run,xK,hf]⟩
   ·exact⟨_,_,jV _ (by omega),by
     simp only[choose,Sem.run,xK,decide_eq_true_eq,hf,if_false,Question.cut]
     rfl⟩
  obtain⟨j,n,hj,hrun⟩:=hch
  refine⟨L[j],by simp,n,?_⟩
  have hset:(setObj ir (.mapIter (some bm) since (seen.push L[j].born) clock)).run P ({ w with drawn:=n }:World)= .ok () (({ w with drawn:=n }:World).putObj ir (.mapIter (some bm) since (seen.push L[j].born) clock)):=by
   simp only[setObj,Sem.run,hi];rfl
  simp only[hrun,Array.getElem?_map,Array.getElem?_eq_getElem hj,dH,bz,hset,Bu]
  rfl
theorem HO.adn {T k e:Nat} {x:Operand} {b:Nat} {es:Array MapEntry} {clock:Nat} (hT:P.underlying T=some (.map k e)) (hx:ev env x=some (.map (some b))) (hc:∀w,St β L w→w.heap[b]? =some (.map es clock))
  (kk:∀ib,K (.pointer (some ⟨ib,0,none⟩)) (de ib (.mapIter (some b) clock #[] clock)::L)):HO P β env L ⟨dd,.range T x,ty,pos,aft,g⟩ K:=by
 intro a w h hw
 refine .inl ⟨_,w.alloc (.mapIter (some b) clock #[] clock),_,_,?_,.inl rfl,kk w.heap.size,hw.alloc _⟩
 simp [execOp,h x (by simp [az]) _ hx,run_range_map w T k e b es clock hT (hc w hw)]
theorem HO.abM (i:Nat) (LF:cq→List cq) {x:Operand} {b ib since c0 clock:Nat} {seen:Array Nat} {es:Array MapEntry} (hx:ev env x=some (.pointer (some ⟨ib,0,none⟩))) (hi:L[i]? =some (de ib (.mapIter (some b) since seen c0))) (hL:∀R:cq,L.set i R=LF R)
  (hc:∀w,St β L w→w.heap[b]? =some (.map es clock)) (hold:∀x∈es.toList,x.born<since) (hsc:since≤c0)
  (k0:(leftOf es seen).size=0→K (.tuple #[.bool false]) L) (k1:∀e,e∈(leftOf es seen).toList→K (.tuple #[.bool true,e.key,e.val]) (LF (de ib (.mapIter (some b) since (seen.push e.born) clock)))):HO P β env L ⟨dd,.next x false,ty,pos,aft,g⟩ K:=by
 intro a w h hw
 have hb:w.heap[ib]? =some (.mapIter (some b) since seen c0):=hw.inv i _ hi
 rcases BK (P:=P) w ib ty b since c0 seen es clock hb (hc w hw) hold hsc with⟨h0,hr⟩|⟨e,he,n,hr⟩
 ·refine .inl ⟨_,w,_,_,?_,.inl rfl,k0 h0,hw⟩
  simp [execOp,h x (by simp [az]) _ hx,hr]
 ·refine .inl ⟨_,({ w with drawn:=n }:World).putObj ib (.mapIter (some b) since (seen.push e.born) clock),.tuple #[.bool true,e.key,e.val],LF (de ib (.mapIter (some b) since (seen.push e.born) clock)),?_,.inl rfl,k1 e he,?_⟩
  ·simp [execOp,h x (by simp [az]) _ hx,hr]
  ·rw[←hL]
   exact(hw.drew n).obj i hi
end
section
variable {P:Program} {ro:Option Nat} {β:Bs} {ds:List Deferred} {N:Nat} {env:Env} {L:List cq} {Q:Exit→Act→World→Prop}
variable {d:Option Nat} {ty:TypeId} {pos:String} {aft:Array Edge} {g:Option (Nat×Bool)}
variable {K:Value→List cq→Prop} {dd:Option Nat}
theorem run_entry_at (w:World) (ir bm since:Nat) (seen:Array Nat) (es:Array MapEntry) (clock:Nat) (e:MapEntry) (hi:w.heap[ir]? =some (.mapIter (some bm) since (seen.push e.born) clock)) (hb:w.heap[bm]? =some (.map es clock)) (he:e∈es.toList) (hn:(es.toList.map (·.born)).Nodup):
  (Instr.entry (.pointer (some ⟨ir,0,none⟩))).run P w= .ok (.tuple #[e.key,e.val]) w:=by
 have hf:es.find? (·.born==e.born)=some e:=by rw[←Array.find?_toList];exact find_born e es.toList hn he
 simp only[Instr.entry,getObj,bz,Sem.run,hi,hb,Bu,Array.back?_push,bne_self_eq_false,bP,if_false,hf]
 rfl
theorem LO.entry {x:Operand} {ib b since clock:Nat} {seen:Array Nat} {es:Array MapEntry} {e:MapEntry} (hx:OV env x (.pointer (some ⟨ib,0,none⟩))) (hi:∀w,St β L w→w.heap[ib]? =some (.mapIter (some b) since (seen.push e.born) clock)) (hc:∀w,St β L w→w.heap[b]? =some (.map es clock)) (he:e∈es.toList) (hn:(es.toList.map (·.born)).Nodup):LO P β env L ⟨d,.entry x,ty,pos,aft,g⟩ (.tuple #[e.key,e.val]):=
 .ee fun a w h hw=>⟨w,by
  have:=run_entry_at (P:=P) w ib b since seen es clock e (hi w hw) (hc w hw) he hn
  simp [execOp,h x (by simp [az]) _ hx,this],hw⟩
theorem HO.adS (i:Nat) {x:Operand} {b ib since c0 clock:Nat} {seen:Array Nat} {es:Array MapEntry} (hx:ev env x=some (.pointer (some ⟨ib,0,none⟩))) (hi:L[i]? =some (de ib (.mapIter (some b) since seen c0)))
  (hc:∀w,St β L w→w.heap[b]? =some (.map es clock)) (hold:∀x∈es.toList,x.born<since) (hsc:since≤c0) (h0:(leftOf es seen).size=0)
  (k:K (.tuple #[.bool false]) L):HO P β env L ⟨dd,.next x false,ty,pos,aft,g⟩ K:=
 HO.abM i (fun R=>L.set i R) hx hi (fun _=>rfl) hc hold hsc (fun _=>k) (fun e he=>by
  have:(leftOf es seen).toList.length=0:=by rw[fw];exact h0
  rw[List.length_eq_zero_iff.1 this]at he;cases he)
theorem HO.aff (i:Nat) (LF:cq→List cq) {x:Operand} {b ib since c0 clock:Nat} {seen:Array Nat} {es:Array MapEntry} (hx:ev env x=some (.pointer (some ⟨ib,0,none⟩))) (hi:L[i]? =some (de ib (.mapIter (some b) since seen c0))) (hL:∀R:cq,L.set i R=LF R)
  (hc:∀w,St β L w→w.heap[b]? =some (.map es clock)) (hold:∀x∈es.toList,x.born<since) (hsc:since≤c0) (h0:¬(leftOf es seen).size=0)
  (k:∀e,e∈(leftOf es seen).toList→K (.tuple #[.bool true,e.key,e.val]) (LF (de ib (.mapIter (some b) since (seen.push e.born) clock)))):HO P β env L ⟨dd,.next x false,ty,pos,aft,g⟩ K:=
 HO.abM i LF hx hi hL hc hold hsc (fun h=>absurd h h0) k
theorem HO.bs0 {T E z:Nat} (hT:dF P T E) (hs:(P.info? E).map (·.size)=some z) (k:∀b,K (.slice (some ⟨b,0,none⟩) 0 0) (own E z (some ⟨b,0,none⟩) 0 []::L)):HO P β env L ⟨dd,.buildSlice T 0 #[],ty,pos,aft,none⟩ K:=by
 intro a w h hw
 refine .inl ⟨_,w.alloc (.cells #[] E),_,_,?_,.inl rfl,k w.heap.size,?_⟩
 ·simp [execOp,Instr.buildSlice,run_underlying hT,jv hs,jK,newRow]
  rw[qC (xs:=Array.map (fun x=>default) (Array.range 0)) (by simp)]
 ·have h1:=hw.alloc (.cells #[] E)
  have:=h1.conv 0 (r':=own E z (some ⟨w.heap.size,0,none⟩) 0 []) rfl (fun k hk=>hk.2) ⟨by simp,by simp,fun q=>(by cases q),fun a ha=>by cases ha;exact⟨rfl,rfl,#[],[],h1.inv 0 _ rfl,rfl,by simp⟩⟩
  simpa using this
theorem LO.slH {T E z:Nat} {x j:Operand} {p:Option Addr} {n c k:Nat} {e:Int} (hT:dF P T E) (hz:(P.info? E).map (·.size)=some z) (hx:OV env x (.slice p n c)) (hj:OV env j (.int .i64 e)) (he:e=(k:Int)) (hk:k≤c):LO P β env L ⟨d,.slice T x none (some j) none,ty,pos,aft,g⟩ (.slice p k c):=
 .ee fun a w h hw=>⟨w,by
  subst he
  have h0:∀q:Addr,q.add 0=q:=fun q=>by simp [Addr.add]
  have h2:p.map (fun x=>x.add 0)=p:=by cases p<;>simp [h0]
  simp [execOp,h x (by simp [az]) _ hx,h j (by simp [az]) _ hj,Instr.sliceAt,run_underlying hT,Instr.slice,BQ,DN,asIntOf,hk,jv hz,h2],hw⟩
end
section
variable {P:Program} {ro:Option Nat} {β:Bs} {N:Nat} {ds:List Deferred} {env:Env} {L:List cq} {Q:Exit→Act→World→Prop}
 {ty:TypeId} {pos:String} {aft:Array Edge} {g:Option (Nat×Bool)}
theorem VC.tn {c:Code} (h:∀w1,St β L w1→VC P ro (bs w1) N ds env [] c Q):VC P ro β N ds env L c Q:=fun a w ha hw=>h w hw a w ha (St.refl w)
theorem St.ai5 {w0 w1 w2:World} {L L':List cq} (h:St (bs w0) L w1) (k:St (bs w1) L' w2):St (bs w0) [] w2:=(h.call k).nil
theorem HO.akS {α:Type} {f:α→List Value} {z0:α} {K:Value→List cq→Prop} {dd:Option Nat} {x y:Operand} {T E z by_ n:Nat} {zero:Value} {e:Int} (hf:zero.cells.toList=f z0) (hT:dF P T E) (hE:jW P E z by_ zero) (hx:OV env x (.int .i64 e)) (hy:OV env y (.int .i64 e)) (he:e=(n:Int)) (hz1:0<z) (hn:by_*n≤281474976710656) (hn2:n≤281474976710656)
  (k:∀b,K (.slice (some ⟨b,0,none⟩) n n) (own E z (some ⟨b,0,none⟩) n ((cy n z0).map f)::L)):HO P β env L ⟨dd,.makeSlice T x y,ty,pos,aft,none⟩ K:=
 HO.mks hT hE hx hy he hz1 hn hn2 fun b=>by
  have:=k b
  rw[List.map_replicate, ←hf]at this
  exact this
theorem HO.stm {α:Type} {f:α→List Value} {l:List α} (i:Nat) (LF:cq→List cq) (v0:α) {K:Value→List cq→Prop} {dd:Option Nat} {x y:Operand} {T E z cap j q:Nat} {p:Option Addr} {v:Value} {vs:List Value} (hT:(P.info? T).map (·.size)=some vs.length) (hx:OV env x (.pointer (some ⟨pb p,q,none⟩))) (hy:OV env y v)
  (hi:L[i]? =some (own E z p cap (l.map f))) (hj:j<l.length) (hq:q=po p+j*z) (hv:v.cells=vs.toArray) (hfv:f v0=vs) (hz:vs.length=z) (h1:o5 vs=true) (hL:∀R:cq,L.set i R=LF R)
  (k:K undef (LF (own E z p cap ((l.set j v0).map f)))):HO P β env L ⟨dd,.store T x y,ty,pos,aft,none⟩ K:=by
 obtain⟨r,hr⟩:∃r,(l.map f)[j]? =some r:=⟨_,af (by simpa using hj)⟩
 intro a w h hw
 have hrz:r.length=z:=(hw.inv i _ hi).2.1 r (al hr)
 refine HO.Yc i LF (o:=0) (vs:=vs) (rows:=l.map f) (r:=r) (j:=j) hT hx hy hi hr (by rw[hq];rfl) hv (by omega) h1 hL ?_ a w h hw
 have e:(l.map f).set j (r.take 0++vs++r.drop (0+vs.length))=(l.set j v0).map f:=by
  rw[List.map_set,hfv,List.take_zero,List.nil_append,gq,hz, ←hrz,List.drop_length,c9]
 rw[e]
 exact k
end
structure uz (es:List MapEntry) (M:Int→Option Int):Prop where
 zN:∀e,e∈es→∃n v,e.key=fB n∧e.val=fB v∧M n=some v
 mem:∀n v,M n=some v→∃e,e∈es∧e.key=fB n∧e.val=fB v
 A5:es.Pairwise fun a b=>a.key≠b.key
def Gv (M:Int→Option Int) (n v:Int):Int→Option Int:=fun m=>if m=n then some v else M m
theorem rU {k:IntKind} {n:Int}:∀{es:List MapEntry} (i:Nat),(∀e,e∈es→∃m,e.key=fB m)→
  (∃j e,kt (.int k) (fB n) es i=some (some (j,e.val))∧i≤j∧es[j-i]? =some e∧e.key=fB n)∨(kt (.int k) (fB n) es i=some none∧∀e,e∈es→e.key≠fB n)
 |[],i,_=>.inr ⟨rfl,by simp⟩
 |e::es,i,h=>by
  obtain⟨m,hm⟩:=h e (by simp)
  simp only[kt,hm,fB,Instr.sameNow,if_true]
  by_cases q:n=m
  ·subst q
   left
   simp only[beq_self_eq_true]
   exact⟨i,e,rfl,bA _,by simp,hm⟩
  ·have:(n==m)=false:=by simp [q]
   rw[this]
   rcases rU (k:=k) (n:=n) (es:=es) (i+1) (fun e' he=>h e' (by simp [he])) with⟨j,e',h1,h2,h3,h4⟩|⟨h1,h2⟩
   ·left
    refine⟨j,e',h1,by omega,?_,h4⟩
    rw[show j-i=(j-(i+1))+1 by omega]
    simpa using h3
   ·right
    refine⟨h1,?_⟩
    intro e' he
    rcases cA.1 he with rfl|he
    ·rw[hm];exact fun e=>q (mF e).symm
    ·exact h2 e' he
theorem Vx {es:List MapEntry} {M:Int→Option Int} (h:uz es M) {e:MapEntry} {n:Int} (he:e∈es) (hk:e.key=fB n):∃v,e.val=fB v∧M n=some v:=by
 obtain⟨m,v,h1,h2,h3⟩:=h.zN e he
 have:m=n:=mF (h1.symm.trans hk)
 subst this
 exact⟨v,h2,h3⟩
theorem Rm {es:List MapEntry} {M:Int→Option Int} (h:uz es M) {n:Int} (hn:∀e,e∈es→e.key≠fB n):M n=none:=by
 cases q:M n with
 |none=>rfl
 |some v=>obtain⟨e,h1,h2,_⟩:=h.mem n v q;exact absurd h2 (hn e h1)
theorem V4:uz [] (fun _=>none):=⟨fun _ h=>(by cases h),fun _ _ h=>(by cases h),wj⟩
theorem R4 {es:List MapEntry} {M:Int→Option Int} (h:uz es M) {n v:Int} {c:Nat} (hn:∀e,e∈es→e.key≠fB n):uz (es++[⟨fB n,fB v,c⟩]) (Gv M n v):=by
 refine⟨fun e he=>?_,fun m u hm=>?_,?_⟩
 ·rcases bZ.1 he with q|q
  ·obtain⟨m,u,h1,h2,h3⟩:=h.zN e q
   refine⟨m,u,h1,h2,?_⟩
   unfold Gv
   rw[if_neg (fun z=>hn e q (by rw[h1,z]))];exact h3
  ·have:=bT.1 q;subst this
   exact⟨n,v,rfl,rfl,if_pos rfl⟩
 ·unfold Gv at hm
  split at hm
  ·rename_i q;cases hm;subst q;exact⟨_,eX _ (bT.2 rfl),rfl,rfl⟩
  ·obtain⟨e,h1,h2,h3⟩:=h.mem m u hm;exact⟨e,dg _ h1,h2,h3⟩
 ·rw[gb]
  refine⟨h.A5,by simp,fun a ha b hb=>?_⟩
  have:=bT.1 hb;subst this
  exact hn a ha
theorem Vs {es:List MapEntry} {M:Int→Option Int} (h:uz es M) {j:Nat} {e:MapEntry} {n v:Int} (hj:es[j]? =some e) (hk:e.key=fB n):uz (es.set j ⟨fB n,fB v,e.born⟩) (Gv M n v):=by
 have hjl:=(aj.1 hj).1
 have hje:=(aj.1 hj).2
 have hkey:∀i (h1:i<(es.set j ⟨fB n,fB v,e.born⟩).length) (h2:i<es.length),(es.set j ⟨fB n,fB v,e.born⟩)[i].key=es[i].key:=fun i h1 h2=>by
  rw[uv]
  split
  ·rename_i q;subst q;rw[hje,hk]
  ·rfl
 have hne:∀i,i<es.length→(hi:i<es.length)→i≠j→es[i].key≠fB n:=fun i _ hi hij z=>by
  have pw:=be.1 h.A5
  rcases nY hij with q|q
  ·exact pw i j hi hjl q (by rw[z,hje,hk])
  ·exact pw j i hjl hi q (by rw[z,hje,hk])
 refine⟨fun x hx=>?_,fun m u hm=>?_,?_⟩
 ·obtain⟨i,hi,rfl⟩:=da hx
  have hi2:i<es.length:=by simpa using hi
  by_cases q:j=i
  ·subst q
   rw[vF]
   exact⟨n,v,rfl,rfl,if_pos rfl⟩
  ·rw[xO q]
   obtain⟨m,u,h1,h2,h3⟩:=h.zN _ (fv hi2)
   refine⟨m,u,h1,h2,?_⟩
   unfold Gv
   rw[if_neg (fun z=>hne i hi2 hi2 (fun y=>q y.symm) (by rw[h1,z]))];exact h3
 ·unfold Gv at hm
  split at hm
  ·rename_i q;cases hm;subst q
   exact⟨_,al (i:=j) (by rw[iF hjl]),rfl,rfl⟩
  ·rename_i q
   obtain⟨x,h1,h2,h3⟩:=h.mem m u hm
   obtain⟨i,hi,rfl⟩:=da h1
   have hij:j≠i:=fun z=>by subst z;rw[hje,hk]at h2;exact q (mF h2).symm
   exact⟨_,al (i:=i) (by rw[eQ hij,af hi]),h2,h3⟩
 ·rw[be]
  intro a b ha hb hab
  rw[hkey a ha (by simpa using ha),hkey b hb (by simpa using hb)]
  exact be.1 h.A5 a b _ _ hab
theorem CL {es:List MapEntry} {j c:Nat} {e:MapEntry} {k v:Value} (h:mH es c) (hj:es[j]? =some e):mH (es.set j ⟨k,v,e.born⟩) c:=by
 have hm:(es.set j ⟨k,v,e.born⟩).map (·.born)=es.map (·.born):=by
  rw[List.map_set]
  refine cO fun i=>?_
  by_cases q:j=i
  ·subst q
   have:=(aj.1 hj).1
   rw[iF (by simpa using this),aw,hj];rfl
  ·rw[eQ q]
 refine⟨by rw[hm];exact h.1,fun x hx=>?_⟩
 have:x.born∈(es.set j ⟨k,v,e.born⟩).map (·.born):=bE hx
 rw[hm]at this
 obtain⟨y,h1,h2⟩:=bQ.1 this
 rw[←h2];exact h.2 y h1
theorem A1 {es:List MapEntry} {c:Nat} {k v:Value} (h:mH es c):mH (es++[⟨k,v,c⟩]) (c+1):=by
 refine⟨?_,fun x hx=>?_⟩
 ·rw[bj,lM]
  refine⟨h.1,by simp,?_⟩
  intro a ha b hb
  obtain⟨x,hx,rfl⟩:=bQ.1 ha
  have:=h.2 x hx
  simp at hb
  omega
 ·rcases bZ.1 hx with q|q
  ·have:=h.2 x q;omega
  ·have:=bT.1 q;subst this;exact Nat.lt_succ_self _
theorem tf {es:Array MapEntry} {j:Nat} {e:MapEntry} {f:MapEntry→MapEntry} (hj:es.toList[j]? =some e):(es.modify j f).toList=es.toList.set j (f e):=by
 refine cO fun i=>?_
 have hjl:=(aj.1 hj).1
 rw[Array.toList_modify]
 by_cases q:j=i
 ·subst q
  rw[List.getElem?_modify_eq,hj,iF hjl];rfl
 ·rw[eQ q];simp [List.getElem?_modify,q]
section
variable {P:Program} {ro:Option Nat} {β:Bs} {N:Nat} {ds:List Deferred} {env:Env} {L:List cq} {Q:Exit→Act→World→Prop}
variable {d:Option Nat} {ty:TypeId} {pos:String} {aft:Array Edge} {g:Option (Nat×Bool)}
def GQ (P:Program) (T:Nat):Prop:=∃K E k,P.underlying T=some (.map K E)∧P.underlying K=some (.int k)∧cj P E (.int .i64 0)
theorem EG {T b:Nat} {M:Int→Option Int} {n:Int} {w:World} {es:Array MapEntry} {clock:Nat} (hT:GQ P T) (hb:w.heap[b]? =some (.map es clock)) (hs:uz es.toList M):(nX T (.map (some b)) (fB n) true).run P w= .ok (.tuple #[fB ((M n).getD 0),.bool (M n).isSome]) w:=by
 obtain⟨K,E,k,hu,hK,hz⟩:=hT
 have hobj:(getObj b).run P w= .ok (.map es clock) w:=by simp [getObj,Sem.run,hb]
 simp only[nX,bz,run_underlying hu,bw,hobj,cG,lV hK,ku,run_underlying hK]
 rcases rU (k:=k) (n:=n) (es:=es.toList) 0 (fun e he=>by obtain⟨m,_,h1,_⟩:=hs.zN e he;exact⟨m,h1⟩) with⟨j,e,h1,h2,h3,h4⟩|⟨h1,h2⟩
 ·rw[h1]
  obtain⟨v,g1,g2⟩:=Vx hs (al h3) h4
  simp [g1,g2]
 ·rw[h1,Rm hs h2]
  simp [mc hz,fB]
theorem LO.lk2 {x y:Operand} {T b:Nat} {M:Int→Option Int} {n:Int} (hT:GQ P T) (hx:OV env x (.map (some b))) (hy:OV env y (.int .i64 n)) (hi:∀w,St β L w→∃(es:Array MapEntry) (clock:Nat),w.heap[b]? =some (.map es clock)∧uz es.toList M):LO P β env L ⟨d,.lookup T x y true,ty,pos,aft,g⟩ (.tuple #[.int .i64 ((M n).getD 0),.bool (M n).isSome]):=
 .ee fun a w h hw=>⟨w,by
  obtain⟨es,clock,h1,h2⟩:=hi w hw
  have:=EG (n:=n) hT h1 h2
  simp only[fB]at this
  simp [execOp,h x (by simp [az]) _ hx,h y (by simp [az]) _ hy,this],hw⟩
section
variable {K:Value→List cq→Prop} {dd:Option Nat}
theorem HO.aeo {T:Nat} (k:∀b,K (.map (some b)) (de b (.map #[] 0)::L)):HO P β env L ⟨dd,.makeMap T none,ty,pos,aft,none⟩ K:=by
 intro a w h hw
 refine .inl ⟨_,w.alloc (.map #[] 0),_,_,?_,.inl rfl,k w.heap.size,hw.alloc _⟩
 simp only[execOp]
 rfl
theorem B7 {s:Sem Unit} {w w':World} (h:s.run P w= .ok () w'):(s.run P w).andThen (fun _ w=>.ok Next.skip w)= .ok Next.skip w':=by rw[h];rfl
theorem HO.Vk (i:Nat) (LF:cq→List cq) {x y z:Operand} {T b:Nat} {M:Int→Option Int} {n v:Int} {es:Array MapEntry} {clock:Nat} (hT:GQ P T) (hx:OV env x (.map (some b))) (hy:OV env y (.int .i64 n)) (hz:OV env z (.int .i64 v)) (hi:L[i]? =some (de b (.map es clock))) (hs:uz es.toList M) (hst:mH es.toList clock) (hL:∀R:cq,L.set i R=LF R)
  (k:∀(es':Array MapEntry) (clock':Nat),uz es'.toList (Gv M n v)→mH es'.toList clock'→K undef (LF (de b (.map es' clock')))):HO P β env L ⟨dd,.mapUpdate T x y z,ty,pos,aft,none⟩ K:=by
 intro a w h hw
 obtain⟨KT,E,kk,hu,hK,_⟩:=hT
 have hb:w.heap[b]? =some (.map es clock):=hw.inv i _ hi
 have hobj:(getObj b).run P w= .ok (.map es clock) w:=by simp [getObj,Sem.run,hb]
 have hset:∀o,(setObj b o).run P w= .ok () (w.putObj b o):=fun o=>by simp [setObj,Sem.run,hb,World.putObj]
 have ex:a.eval x= .map (some b):=by obtain⟨u,hu,e⟩:=hx;subst e;exact h x (by simp [az]) _ hu
 have ey:a.eval y=fB n:=by obtain⟨u,hu,e⟩:=hy;subst e;exact h y (by simp [az]) _ hu
 have ez:a.eval z=fB v:=by obtain⟨u,hu,e⟩:=hz;subst e;exact h z (by simp [az]) _ hu
 rcases rU (k:=kk) (n:=n) (es:=es.toList) 0 (fun e he=>by obtain⟨m,_,h1,_⟩:=hs.zN e he;exact⟨m,h1⟩) with⟨j,e,h1,h2,h3,h4⟩|⟨h1,h2⟩
 ·simp only[Nat.sub_zero]at h3
  have hj:es[j]? =some e:=by simpa using h3
  refine .inl ⟨.skip,w.putObj b (.map (es.modify j fun e=>{ e with key:=fB n,val:=fB v }) clock),undef,_,?_,.inr ⟨rfl,rfl⟩,k (es.modify j fun e=>{ e with key:=fB n,val:=fB v }) clock (by rw[tf h3];exact Vs hs h3 h4) (by rw[tf h3];exact CL hst h3),by rw[←hL];exact hw.obj i hi⟩
  simp only[execOp,ex,ey,ez,bz,cG]
  refine B7 ?_
  simp only[lq,bz,run_underlying hu,bw,hobj,lV hK,ku,run_underlying hK]
  rw[h1]
  simp [hj,h4,o7,fB,kW]
  exact hset _
 ·refine .inl ⟨.skip,w.putObj b (.map (es.push { key:=fB n,val:=fB v,born:=clock }) (clock+1)),undef,_,?_,.inr ⟨rfl,rfl⟩,k (es.push { key:=fB n,val:=fB v,born:=clock }) (clock+1) (by rw[jl];exact R4 hs h2) (by rw[jl];exact A1 hst),by rw[←hL];exact hw.obj i hi⟩
  simp only[execOp,ex,ey,ez,bz,cG]
  refine B7 ?_
  simp only[lq,bz,run_underlying hu,bw,hobj,lV hK,ku,run_underlying hK]
  rw[h1]
  exact hset _
end
theorem LO.ac4 {x:Operand} {ib b since clock:Nat} {seen:Array Nat} {es:Array MapEntry} {e:MapEntry} {n v:Int} (hx:OV env x (.pointer (some ⟨ib,0,none⟩))) (hi:∀w,St β L w→w.heap[ib]? =some (.mapIter (some b) since (seen.push e.born) clock)) (hc:∀w,St β L w→w.heap[b]? =some (.map es clock)) (he:e∈es.toList) (hn:(es.toList.map (·.born)).Nodup) (hk:e.key=fB n) (hv:e.val=fB v):LO P β env L ⟨d,.entry x,ty,pos,aft,g⟩ (.tuple #[.int .i64 n,.int .i64 v]):=by
 have:=LO.entry (P:=P) (β:=β) (env:=env) (L:=L) (d:=d) (ty:=ty) (pos:=pos) (aft:=aft) (g:=g) hx hi hc he hn
 rw[hk,hv]at this
 exact this
theorem LO.taT {x:Operand} {T A:TypeId} {v:Value} (hA:∃fs,P.underlying A=some (.struct fs)) (hx:OV env x (.iface A v)):LO P β env L ⟨d,.typeAssert x T A true,ty,pos,aft,g⟩ (.tuple #[v,.bool true]):=
 .ee fun a w h hw=>⟨w,by
  obtain⟨fs,hA⟩:=hA
  simp [execOp,h x (by simp [az]) _ hx,DR,run_underlying hA],hw⟩
theorem LO.taF {x:Operand} {T A B:TypeId} {v z:Value} (hA:∃fs,P.underlying A=some (.struct fs)) (hz:cj P A z) (hx:OV env x (.iface B v)) (hne:B≠A):LO P β env L ⟨d,.typeAssert x T A true,ty,pos,aft,g⟩ (.tuple #[z,.bool false]):=
 .ee fun a w h hw=>⟨w,by
  obtain⟨fs,hA⟩:=hA
  simp [execOp,h x (by simp [az]) _ hx,DR,run_underlying hA,hne,mc hz],hw⟩
end
theorem uU {es:Array MapEntry} {seen:Array Nat} {e:MapEntry}:e∈(leftOf es seen).toList↔e∈es.toList∧e.born∉seen:=by
 unfold leftOf
 simp
theorem Pv {es:Array MapEntry} {seen:Array Nat} {e:MapEntry} (he:e∈(leftOf es seen).toList):(leftOf es (seen.push e.born)).size<(leftOf es seen).size:=by
 have sz:∀s:Array Nat,(leftOf es s).size=(es.toList.filter fun x=> !s.contains x.born).length:=fun s=>by unfold leftOf;rw[←y9,fw]
 rw[sz,sz]
 unfold leftOf at he
 rw[y9]at he
 have e1:es.toList.filter (fun x=> !(seen.push e.born).contains x.born)=(es.toList.filter fun x=> !seen.contains x.born).filter fun x=> !(x.born==e.born):=by
  rw[List.filter_filter]
  refine List.filter_congr fun x _=>?_
  simp only[Array.contains_push]
  cases seen.contains x.born<;>cases h:(x.born==e.born)<;>simp_all
 rw[e1]
 exact List.length_filter_lt_length_iff_exists.2 ⟨e,he,by simp⟩
theorem V1 {es:Array MapEntry} {seen:Array Nat} (h:(leftOf es seen).size=0) {e:MapEntry} (he:e∈es.toList):e.born∈seen:=by
 refine eR fun q=>?_
 have:=uU.2 ⟨he,q⟩
 rw[List.eq_nil_of_length_eq_zero (l:=(leftOf es seen).toList) (by rw[fw];exact h)]at this
 cases this
end Go.SL
namespace Go.Proofs.YtffbohecdocajaaGreat
open Go.SL Go.Proofs Go.qO Go.Cell
set_option linter.unusedVariables false
theorem Cw:bV ae 304 0 0:=⟨_,_,r7,rfl,rfl,5,by kernel_rfl⟩
theorem U5:bV ae 304 1 6:=⟨_,_,r7,rfl,rfl,0,by kernel_rfl⟩
theorem mixed:ae.follows .mixedOrders=true:=by kernel_rfl
theorem EE:ed ae 25 [(0,1),(1,1)] [.int .i64 0,.int .i64 0]:=ed.mk fun _=>by kernel_rfl
theorem XM:cj ae 304 (.agg #[.int .i64 0,.int .i64 0,.int .i64 0,.int .i64 0,.int .i64 0,.slice none 0 0,.int .i64 0]):=by unfold cj;kernel_rfl
theorem C79:ef ae 79:=⟨_,Tryz.func79,by decide,rfl⟩
theorem Yu:ed ae 304 [(0,6),(6,1)] [.int .i64 0,.int .i64 0,.int .i64 0,.int .i64 0,.int .i64 0,.slice none 0 0,.int .i64 0]:=ed.mk fun _=>by kernel_rfl
theorem Wa:(ae.info? 304).map (·.size)=some 7:=by kernel_rfl
theorem Np:jX ae 304 7:=⟨⟨_,r7,rfl⟩,by kernel_rfl⟩
abbrev nC (p:Nat):List Value:=[.int .i64 (p:Int)]
abbrev iC (n:Int):List Value:=[.int .i64 n]
abbrev vm (g:cU) (pv:Option Addr) (n cv:Nat):Value:=.agg #[.int .i64 g.x,.int .i64 g.y,.int .i64 g.size,.int .i64 g.wide,.int .i64 g.high,.slice pv n cv]
abbrev zR (g:cU) (pv:Option Addr) (n cv:Nat) (lv:Int):Value:=.agg #[.int .i64 g.x,.int .i64 g.y,.int .i64 g.size,.int .i64 g.wide,.int .i64 g.high,.slice pv n cv,.int .i64 lv]
abbrev Md:Value:=.agg #[.int .i64 0,.int .i64 0,.int .i64 0,.int .i64 0,.int .i64 0,.slice none 0 0,.int .i64 0]
def ga (vs:List Span) (lv:Int) (p:Nat):Bool:=decide (lv≤(vs.getD p ⟨0,0⟩).hi)
def yf (vs:List Span) (lv:Int) (p:Nat):Bool:=decide (lv≤(vs.getD p ⟨0,0⟩).lo)
def nF (g:cU) (vs:List Span) (lv:Int):Int:=if fS 1073741824 ⟨g,vs⟩≠0 then fS 1073741824 ⟨g,vs⟩ else if lv<1∨1073741824<lv then 3 else 0
theorem oE1 {g:cU} {vs:List Span} {lv:Int} (h:fS 1073741824 ⟨g,vs⟩≠0):fS 1073741824 ⟨g,vs⟩=nF g vs lv:=(if_pos h).symm
theorem oE2 {g:cU} {vs:List Span} {lv:Int} (h:¬fS 1073741824 ⟨g,vs⟩≠0) (k:lv<1∨1073741824<lv):3=nF g vs lv:=by unfold nF;rw[if_neg h,if_pos k]
theorem oE3 {g:cU} {vs:List Span} {lv:Int} (h:¬fS 1073741824 ⟨g,vs⟩≠0) (k:¬(lv<1∨1073741824<lv)):0=nF g vs lv:=by unfold nF;rw[if_neg h,if_neg k]
theorem Co {g:cU} {vs:List Span} {lv:Int} (h:nF g vs lv=0):cF g∧(vs.length:Int)=g.wide*g.high∧(∀j,j<vs.length→lH 1073741824 (vs.getD j ⟨0,0⟩))∧1≤lv∧lv≤1073741824:=by
 unfold nF at h
 split at h
 ·rename_i q;exact absurd h q
 ·rename_i q
  split at h
  ·omega
  ·rename_i z
   have q:=cL.1 q
   unfold fS at q
   split at q
   ·omega
   ·rename_i y
    split at q
    ·omega
    ·rename_i x
     refine⟨cL.1 y,cL.1 x,fun j hj=>?_,by omega,by omega⟩
     have:=oW q j hj
     unfold NB at this
     split at this
     ·assumption
     ·omega
theorem agF (g:cU) (vs:List Span) (pv:Option Addr) (cv:Nat) (lv:Int) (p:Nat) (w:World) (hv:lP w pv vs) (hp:p<vs.length):
 Calls ae 175 #[zR g pv vs.length cv lv,.int .i64 (p:Int)] w fun e w'=>e= .returned (.bool (ga vs lv p))∧St (bs w) [] w':=by
 refine enter (vs:=[_,_]) (env:=[(0,_),(1,_)]) Tryz.func175 rfl rfl rfl rfl ?_
 refine VC.q (aD rfl<|cf (C:=#[_,_,_,_,_,_,_]) rfl rfl fun b1=>VO.a rfl<|VO.n<|ak<|VC.draw mixed (aV (aE (r:=0) Cw (.r rfl) rfl) rfl<|aV (aE (r:=5) jI (.r rfl) rfl) rfl<|aV (aB JL (.r rfl) (ax 0 rfl ⟨_,rfl⟩)) rfl<|LL.m rfl<|aV (LO.lA uH sC hv.some (.r rfl) (.r rfl) rfl (by omega)) rfl<|aV (aE rR (.r rfl) rfl) rfl<|aV (aB O3 (.r rfl) (fun w hw=>bq (off:=1) ((hv.at (j:=p) (by omega)) w hw) ⟨_,rfl⟩)) rfl<|aV (aE (r:=6) U5 (.r rfl) rfl) rfl<|aV (aB O3 (.r rfl) (ax 0 rfl ⟨_,rfl⟩)) rfl<|aV (LO.ge (.r rfl) (.r rfl)) rfl<|aV (LO.as (.r rfl)) rfl<|LL.nil) (by kernel_rfl)<|ag<|aP (VE.s rfl rfl (fun w hw=>?_)))
 exact⟨rfl,hw.nil⟩
theorem ahD (g:cU) (vs:List Span) (pv:Option Addr) (cv:Nat) (lv:Int) (p:Nat) (w:World) (hv:lP w pv vs) (hp:p<vs.length):
 Calls ae 177 #[zR g pv vs.length cv lv,.int .i64 (p:Int)] w fun e w'=>e= .returned (.bool (yf vs lv p))∧St (bs w) [] w':=by
 refine enter (vs:=[_,_]) (env:=[(0,_),(1,_)]) Tryz.func177 rfl rfl rfl rfl ?_
 refine VC.q (aD rfl<|cf (C:=#[_,_,_,_,_,_,_]) rfl rfl fun b1=>VO.a rfl<|VO.n<|ak<|VC.draw mixed (aV (aE (r:=0) Cw (.r rfl) rfl) rfl<|aV (aE (r:=5) jI (.r rfl) rfl) rfl<|aV (aB JL (.r rfl) (ax 0 rfl ⟨_,rfl⟩)) rfl<|LL.m rfl<|aV (LO.lA uH sC hv.some (.r rfl) (.r rfl) rfl (by omega)) rfl<|aV (aE rL (.r rfl) rfl) rfl<|aV (aB O3 (.r rfl) (fun w hw=>bq (off:=0) ((hv.at (j:=p) (by omega)) w hw) ⟨_,rfl⟩)) rfl<|aV (aE (r:=6) U5 (.r rfl) rfl) rfl<|aV (aB O3 (.r rfl) (ax 0 rfl ⟨_,rfl⟩)) rfl<|aV (LO.ge (.r rfl) (.r rfl)) rfl<|aV (LO.as (.r rfl)) rfl<|LL.nil) (by kernel_rfl)<|ag<|aP (VE.s rfl rfl (fun w hw=>?_)))
 exact⟨rfl,hw.nil⟩
theorem V3 (a b n:Int) (w:World):
 Calls ae 176 #[.agg #[.int .i64 a,.int .i64 b],.int .i64 n] w fun e w'=>e= .returned (.agg #[.int .i64 (min a n),.int .i64 (max b n)])∧St (bs w) [] w':=by
 refine enter (vs:=[_,_]) (env:=[(0,_),(1,_)]) Tryz.func176 rfl rfl rfl rfl ?_
 refine VC.q (aD rfl<|cf (C:=#[_,_]) rfl rfl fun b1=>aD rfl<|HO.alloc (C:=#[_,_]) IT rfl fun b2=>VO.n<|VC.q (VO.f (r:=0) rL rfl<|VO.c 1 O3 rfl rfl ⟨_,rfl⟩ rfl<|VO.m rfl<|ah (LO.min (.r rfl) (.r rfl)) rfl<|VO.f (r:=1) rR rfl<|VO.c 1 O3 rfl rfl ⟨_,rfl⟩ rfl<|VO.m rfl<|ah (LO.max (.r rfl) (.r rfl)) rfl<|ah (LO.bd (ps:=[(_,_),(_,_)]) (vs:=[(_,_),(_,_)]) (C:=[_,_]) EE ⟨(.r rfl),(.r rfl),trivial⟩ rfl ⟨_,[_],[_,_],rfl,rfl,rfl,rfl,⟨_,[_],[_,_],rfl,rfl,rfl,rfl,rfl⟩⟩) rfl<|VO.h0<|HO.st 0 (vs:=[_,_]) (C':=[_,_]) (L':=[_,_]) sC rfl rfl rfl rfl rfl rfl rfl rfl<|VO.n<|aP (dh (vs:=[_]) rfl ⟨RV.agg (vs:=[_,_]) xb rfl (ax 0 rfl ⟨_,rfl⟩) rfl,trivial⟩ (fun w hw=>?_))))
 exact⟨rfl,hw.nil⟩
theorem QY (g:cU) (vs:List Span) (pv:Option Addr) (cv:Nat) (lv:Int) (w:World) (hv:lP w pv vs) (hok:nF g vs lv=0):
 Calls ae 109 #[vm g pv vs.length cv,.int .i64 lv] w fun e w'=>e= .returned (.tuple #[zR g pv vs.length cv lv,.int .i64 0])∧St (bs w) [] w':=by
 refine enter (vs:=[_,_]) (env:=[(0,_),(1,_)]) Tryz.func109 rfl rfl rfl rfl ?_
 refine VC.q (aD rfl<|cf (C:=#[_,_,_,_,_,_]) rfl rfl fun b1=>aD rfl<|HO.alloc (C:=#[_,_,_,_,_,_,_]) XM rfl fun b2=>VO.a rfl<|VO.n<|ak<|VC.q (ah (LO.fg (vs:=[_,_,_,_,_,_]) wA (.r rfl) (ax 1 rfl ⟨_,rfl⟩) rfl) rfl<|ah (LO.call (xs:=[_]) (vs:=[_]) C79 ⟨(.r rfl),trivial⟩ (fun w hw=>mh ⟨g,vs⟩ pv cv w (hv.keep w hw))) rfl<|VO.a rfl<|VO.n ?_))
 refine VC.q (VO.m rfl<|VO.u rfl<|VO.n<|ay rfl (fun h1=>?_) (fun h1=>?_))
 · (exfalso;exact h1 (by have z:=oE1 (lv:=lv) h1;rw[hok]at z;exact z))
 ·
  refine aC (ag<|ak<|VC.q (VO.m rfl<|VO.t rfl<|VO.m rfl<|VO.gf rfl (fun hg=>bJ (.r rfl))<|VO.gf rfl (fun hg=>LO.gt (.g hg rfl) (.r rfl))<|ah (LO.qh (.r rfl) (.r rfl) rfl rfl) rfl<|VO.n<|ay rfl (fun h2=>?_) (fun h2=>?_)))
  · (exfalso;have z:=Co hok;first |omega|(simp at h2;omega))
  ·
   refine aC (ag<|VC.q (ah (LO.fg (vs:=[_,_,_,_,_,_]) wA (.r rfl) (ax 1 rfl ⟨_,rfl⟩) rfl) rfl<|VO.m rfl<|ah (LO.bd (ps:=[(_,_),(_,_)]) (vs:=[(_,_),(_,_)]) (C:=[_,_,_,_,_,_,_]) Yu ⟨(.r rfl),(.r rfl),trivial⟩ rfl ⟨_,[_,_,_,_,_,_],[_,_,_,_,_,_,_],rfl,rfl,rfl,rfl,⟨_,[_],[_,_,_,_,_,_,_],rfl,rfl,rfl,rfl,rfl⟩⟩) rfl<|VO.h0<|HO.st 0 (vs:=[_,_,_,_,_,_,_]) (C':=[_,_,_,_,_,_,_]) (L':=[_,_]) Wa rfl rfl rfl rfl rfl rfl rfl rfl<|VO.a rfl<|VO.n<|aP (dh (vs:=[_,_]) rfl ⟨RV.agg (vs:=[_,_,_,_,_,_,_]) Np rfl (ax 0 rfl ⟨_,rfl⟩) rfl,rfl,trivial⟩ (fun w hw=>?_))))
   exact⟨rfl,hw.nil⟩
theorem V5 (g:cU) (vs:List Span) (pv:Option Addr) (cv:Nat) (lv:Int) (w:World) (hv:lP w pv vs) (hne:nF g vs lv≠0):
 Calls ae 109 #[vm g pv vs.length cv,.int .i64 lv] w fun e w'=>e= .returned (.tuple #[Md,.int .i64 (nF g vs lv)])∧St (bs w) [] w':=by
 refine enter (vs:=[_,_]) (env:=[(0,_),(1,_)]) Tryz.func109 rfl rfl rfl rfl ?_
 refine VC.q (aD rfl<|cf (C:=#[_,_,_,_,_,_]) rfl rfl fun b1=>aD rfl<|HO.alloc (C:=#[_,_,_,_,_,_,_]) XM rfl fun b2=>VO.a rfl<|VO.n<|ak<|VC.q (ah (LO.fg (vs:=[_,_,_,_,_,_]) wA (.r rfl) (ax 1 rfl ⟨_,rfl⟩) rfl) rfl<|ah (LO.call (xs:=[_]) (vs:=[_]) C79 ⟨(.r rfl),trivial⟩ (fun w hw=>mh ⟨g,vs⟩ pv cv w (hv.keep w hw))) rfl<|VO.a rfl<|VO.n ?_))
 refine VC.q (VO.m rfl<|VO.u rfl<|VO.n<|ay rfl (fun h1=>?_) (fun h1=>?_))
 ·
  refine VC.q (ah (LO.bd (ps:=[]) (vs:=[]) (C:=[_,_,_,_,_,_,_]) Yu trivial rfl rfl) rfl<|VO.m rfl<|VO.h0<|HO.st 0 (vs:=[_,_,_,_,_,_,_]) (C':=[_,_,_,_,_,_,_]) (L':=[_,_]) Wa rfl rfl rfl rfl rfl rfl rfl rfl<|VO.a rfl<|VO.n<|aP (VE.cJ (dh (vs:=[_,_]) rfl ⟨RV.agg (vs:=[_,_,_,_,_,_,_]) Np rfl (ax 0 rfl ⟨_,rfl⟩) rfl,rfl,trivial⟩ (fun w hw=>?_))))
  refine⟨?_,hw.nil⟩
  refine congrArg (fun z=>cW (.tuple #[Md,.int .i64 z])) ?_
  first |exact oE1 h1|exact oE2 h1 (by first |omega|(simp at h2;omega))
 ·
  refine aC (ag<|ak<|VC.q (VO.m rfl<|VO.t rfl<|VO.m rfl<|VO.gf rfl (fun hg=>bJ (.r rfl))<|VO.gf rfl (fun hg=>LO.gt (.g hg rfl) (.r rfl))<|ah (LO.qh (.r rfl) (.r rfl) rfl rfl) rfl<|VO.n<|ay rfl (fun h2=>?_) (fun h2=>?_)))
  ·
   refine VC.q (ah (LO.bd (ps:=[]) (vs:=[]) (C:=[_,_,_,_,_,_,_]) Yu trivial rfl rfl) rfl<|VO.h0<|HO.st 0 (vs:=[_,_,_,_,_,_,_]) (C':=[_,_,_,_,_,_,_]) (L':=[_,_]) Wa rfl rfl rfl rfl rfl rfl rfl rfl<|VO.a rfl<|VO.n<|aP (VE.cJ (dh (vs:=[_,_]) rfl ⟨RV.agg (vs:=[_,_,_,_,_,_,_]) Np rfl (ax 0 rfl ⟨_,rfl⟩) rfl,rfl,trivial⟩ (fun w hw=>?_))))
   refine⟨?_,hw.nil⟩
   refine congrArg (fun z=>cW (.tuple #[Md,.int .i64 z])) ?_
   first |exact oE1 h1|exact oE2 h1 (by first |omega|(simp at h2;omega))
  · (exfalso;exact hne (oE3 h1 (by first |omega|(simp at h2;omega))).symm)
abbrev arF (bp bg:Nat):Value:=.func (.func 264) #[] #[.pointer (some ⟨bp,0,none⟩),.pointer (some ⟨bg,0,none⟩)]
abbrev V6 (g:cU):List Value:=[.int .i64 g.x,.int .i64 g.y,.int .i64 g.size,.int .i64 g.wide,.int .i64 g.high]
structure aiw (g:cU) (p:Nat) (bp bg:Nat) (w:World):Prop where
 p:fk w ⟨bp,0,none⟩ [.int .i64 (p:Int)]
 g:fk w ⟨bg,0,none⟩ (V6 g)
abbrev gW (g:cU):Nat:=g.wide.toNat
abbrev gH (g:cU):Nat:=g.high.toNat
theorem ME {g:cU} (h:cF g):(gW g:Int)=g.wide∧(gH g:Int)=g.high∧1≤gW g∧gW g≤64∧1≤gH g∧gH g≤64:=by
 obtain⟨_,_,_,h4,h5⟩:=h;unfold gW gH;omega
theorem Ik {g:cU} (h:cF g) (p:Nat):((p:Int)).tmod g.wide=((p%gW g:Nat):Int):=by
 rw[←(ME h).1];rfl
theorem rf {g:cU} (h:cF g) (p:Nat):((p:Int)).tdiv g.wide=((p / gW g:Nat):Int):=by
 rw[←(ME h).1];rfl
theorem Mn {g:cU} (h:cF g):((gW g*gH g:Nat):Int)=g.wide*g.high:=by rw[Int.natCast_mul,(ME h).1,(ME h).2.1]
theorem abH {g:cU} (h:cF g) {n:Nat} (k:(n:Int)=g.wide*g.high):n=gW g*gH g:=by rw[←Mn h]at k;omega
theorem qN {g:cU} (h:cF g):gW g*gH g≤4096:=by have:=rP h;have:=Mn h;omega
theorem VM {J Jx:Nat→cq→Prop} {s d b:Bool} {k len:Nat} {r r':cq} (h1:s=false→J k r) (h2:s=true→∃n,n≤len∧Jx n r) (hk:d=true→k+1≤len) (hp:(!s&&d)=true→if b=true then J (k+1) r' else Jx (k+1) r') (hq:(!s&&d)=false→r'=r):
  ((s||(d&& !b))=false→J (k+d.toNat) r')∧((s||(d&& !b))=true→∃n,n≤len∧Jx n r'):=by
 cases s with
 |true=>exact⟨fun h=>(by cases h),fun _=>by rw[hq rfl];exact h2 rfl⟩
 |false=>
  cases d with
  |false=>exact⟨fun _=>by rw[hq rfl];exact h1 rfl,fun h=>(by cases h)⟩
  |true=>
   cases b with
   |true=>exact⟨fun _=>by have:=hp rfl;rw[if_pos rfl]at this;exact this,fun h=>(by cases h)⟩
   |false=>exact⟨fun h=>(by cases h),fun _=>⟨k+1,hk rfl,by have:=hp rfl;rw[if_neg (by decide)]at this;exact this⟩⟩
theorem alu {W H p:Nat} (h:0<p / W):(nb W H p)[0]? =some (p-W):=by unfold nb;rw[if_pos h];rfl
theorem amT {W H p:Nat} (h:0<p%W):(nb W H p)[(decide (0<p / W)).toNat]? =some (p-1):=by
 unfold nb;rw[if_pos h]
 by_cases q:0<p / W
 ·rw[if_pos q,decide_eq_true q];rfl
 ·rw[if_neg q,decide_eq_false q];rfl
theorem akK {W H p:Nat} (h:p%W+1<W):(nb W H p)[(decide (0<p / W)).toNat+(decide (0<p%W)).toNat]? =some (p+1):=by
 unfold nb;rw[if_pos h]
 by_cases q:0<p / W<;>by_cases z:0<p%W
 ·rw[if_pos q,decide_eq_true q,if_pos z,decide_eq_true z];rfl
 ·rw[if_pos q,decide_eq_true q,if_neg z,decide_eq_false z];rfl
 ·rw[if_neg q,decide_eq_false q,if_pos z,decide_eq_true z];rfl
 ·rw[if_neg q,decide_eq_false q,if_neg z,decide_eq_false z];rfl
theorem T3 {W H p:Nat}:(nb W H p).length=(decide (0<p / W)).toNat+(decide (0<p%W)).toNat+(decide (p%W+1<W)).toNat+(decide (p / W+1<H)).toNat:=by
 unfold nb
 simp only[aZ]
 have key:∀{c:Prop} [Decidable c] {x:Nat},(if c then[x] else[]).length=(decide c).toNat:=fun {c} _ {x}=>by
  by_cases q:c
  ·rw[if_pos q,decide_eq_true q];rfl
  ·rw[if_neg q,decide_eq_false q];rfl
 rw[key,key,key,key]
theorem akJ {W H p:Nat} (h:p / W+1<H):(nb W H p)[(decide (0<p / W)).toNat+(decide (0<p%W)).toNat+(decide (p%W+1<W)).toNat]? =some (p+W):=by
 have hl:=T3 (W:=W) (H:=H) (p:=p)
 rw[decide_eq_true h]at hl
 have hl2:((if 0<p / W then[p-W] else[])++(if 0<p%W then[p-1] else[])++(if p%W+1<W then[p+1] else[]):List Nat).length=(decide (0<p / W)).toNat+(decide (0<p%W)).toNat+(decide (p%W+1<W)).toNat:=by
  have e:(nb W H p).length=((if 0<p / W then[p-W] else[])++(if 0<p%W then[p-1] else[])++(if p%W+1<W then[p+1] else[]):List Nat).length+1:=by
   unfold nb;rw[if_pos h,aZ];rfl
  simp only[mO]at hl
  omega
 unfold nb
 rw[if_pos h,aY (by omega),hl2,Nat.sub_self]
 rfl
theorem agR {g:cU} (h:cF g) {p:Nat} (q:0<p / gW g):(p:Int)-g.wide=((p-gW g:Nat):Int):=by
 have h1:=(ME h).1
 have h2:gW g≤p:=by
  rcases aK p (gW g) with z|z
  ·rw[na z]at q;omega
  ·exact z
 omega
theorem aeO {p W:Nat} (q:0<p%W):(p:Int)-1=((p-1:Nat):Int):=by
 have:0<p:=by
  rcases eO p with z|z
  ·subst z;simp at q
  ·exact z
 omega
theorem CC {J Jx:Nat→cq→Prop} {xs:List (List Value)} {n:Nat} {r:cq} (h:n≤xs.length) (k:Jx n r):J xs.length r∨∃n,n≤xs.length∧Jx n r:=.inr ⟨n,h,k⟩
theorem JO {J Jx:Nat→cq→Prop} {xs:List (List Value)} {r:cq} (k:J xs.length r):J xs.length r∨∃n,n≤xs.length∧Jx n r:=.inl k
theorem vX {J Jx:Nat→cq→Prop} {xs:List (List Value)} {r:cq} {β:Bs} {w:World} (h:J xs.length r∨∃n,n≤xs.length∧Jx n r) (hw:St β [r] w):∃n r',(J xs.length r'∨(n≤xs.length∧Jx n r'))∧St β [r'] w:=by
 rcases h with h|⟨n,h1,h2⟩
 ·exact⟨0,r,.inl h,hw⟩
 ·exact⟨n,r,.inr ⟨h1,h2⟩,hw⟩
theorem Wj (g:cU) (p:Nat) (w:World):
 Calls ae 225 #[uk g,.int .i64 (p:Int)] w fun e w'=>∃y:Nat×Nat,True∧e= .returned (arF y.1 y.2)∧St (bs w) [de y.1 (.cells #[.int .i64 (p:Int)] 3),de y.2 (.cells (V6 g).toArray 88)] w':=by
 refine enter (vs:=[_,_]) (env:=[(0,_),(1,_)]) Tryz.func225 rfl rfl rfl rfl ?_
 refine VC.q (aD rfl<|cf (C:=#[_,_,_,_,_]) rfl rfl fun b1=>aD rfl<|cf (C:=#[_]) rfl rfl fun b2=>VO.a rfl<|VO.n<|VC.q (aD rfl<|HO.lo (LO.mf (cap:=[_,_]) ⟨(.r rfl),(.r rfl),trivial⟩)<|aD rfl<|HO.lo (LO.as (.r rfl))<|VO.n<|aP (VE.s rfl rfl (fun w hw=>?_))))
 exact⟨(b2,b1),trivial,rfl,hw⟩
theorem LO.eqv {P:Program} {β:Bs} {env:Env} {L:List cq} {o:Oper} {v v':Value} (h:LO P β env L o v) (e:v=v'):LO P β env L o v':=e ▸ h
theorem dlt {a b:Nat} {x y:Int} (h1:x=a) (h2:y=b):iS (decide (x<y))= .bool (decide (a<b)):=by
 subst h1;subst h2;exact congrArg iS (decide_eq_decide.2 (by omega))
theorem yg2 {P:Program} {ro:Option Nat} {β:Bs} {N:Nat} {ds:List Deferred} {env:Env} {L:List cq} {Q:Exit→Act→World→Prop} (i:Nat) {ops:Array Oper} {d j t:Nat} {want c:Bool} {ty:TypeId} {pos:String} {aft:Array Edge} {rest:List Oper} {u:Value} {fx:Operand} {xs:List Operand} {vs:List Value} {aT:Array TypeId} {l:Nat} {r:cq} {post:Bool→cq→Prop} (hj:(ops[j]?).bind (·.dst)=some t) (ht:jx env t=some u) (hg:GD u want c) (hd:df d N=true)
  (hfx:c=true→OV env fx (yv l)) (hx:c=true→B9 env xs vs) (hi:L[i]? =some r)
  (hy:c=true→∀w,r.inv w→(∀k,r.fp k→k<w.heap.size)→(w.os=β.w.os∧w.tape=β.w.tape∧w.output=β.w.output∧β.w.heap.size≤w.heap.size)→yW P l vs w fun e w'=>∃b r',e= .returned (.bool b)∧post b r'∧St ⟨w,r.fp⟩ [r'] w')
  (k:∀b r',(c=true→post b r')→(c=false→r'=r)→VO P ro β N ds ops ((d,gv c (.bool b))::env) (L.set i r') rest Q):
  VO P ro β N ds ops env L (⟨some d,.call ⟨.value fx,xs.toArray,aT⟩,ty,pos,aft,some (j,want)⟩::rest) Q:=by
 cases c with
 |true=>
  exact VO.hg (Kx:=fun v L'=>∃b r',v= .bool b∧L'=L.set i r'∧post b r') hj ht hg (fun q=>HO.yield i (hfx q) (hx q) hi (hy q) fun b r' hp=>⟨b,r',rfl,rfl,hp⟩) hd fun v L' h1 _=>by
   obtain⟨b,r',h2,h3,h4⟩:=h1 rfl
   subst h2;subst h3
   exact k b r' (fun _=>h4) (fun q=>by cases q)
 |false=>
  refine VO.hg (Kx:=fun _ _=>False) hj ht hg (fun q=>by cases q) hd fun v L' _ h2=>?_
  have h3:=h2 rfl
  subst h3
  have h4:=k true r (fun q=>by cases q) (fun _=>rfl)
  have h5:L'.set i r=L':=by
   apply cO
   intro n
   rw[fe]
   split
   ·rename_i q;subst q
    split
    ·exact hi.symm
    ·rename_i q;simp [aH (Nat.not_lt.1 q)]at hi
   ·rfl
  rw[h5]at h4
  exact h4
theorem nS {a b:Bool} (h:(!a&&b)=true):a=false:=by cases a<;>simp_all
theorem nT {a b:Bool} (h:(!a&&b)=true):b=true:=by cases a<;>simp_all
theorem nN {a:Bool} (h:(!a)=true):a=false:=by cases a<;>simp_all
theorem MU (g:cU) (p bp bg:Nat) (hg0:cF g) (hp:p<gW g*gH g):
 MG ae 264 [.pointer (some ⟨bp,0,none⟩),.pointer (some ⟨bg,0,none⟩)] (aiw g p bp bg) ((nb (gW g) (gH g) p).map nC):=by
 intro l J Jx w r hCap hyl hJ hi0 hf0
 obtain⟨hW,hH,hW1,hW2,hH1,hH2⟩:=ME hg0
 have hal:=qN hg0
 have hxl:p%gW g<gW g:=jV _ (by omega)
 have hyl2:p / gW g<gH g:=w8 hp
 have hdy:(0:Int)≤((p / gW g:Nat):Int)∧(0:Int)≤((p%gW g:Nat):Int):=⟨dD _,dD _⟩
 obtain⟨D1,hD1⟩:∃D,D=(decide (0<p / gW g)):=⟨_,rfl⟩
 obtain⟨D2,hD2⟩:∃D,D=(decide (0<p%gW g)):=⟨_,rfl⟩
 obtain⟨D3,hD3⟩:∃D,D=(decide (p%gW g+1<gW g)):=⟨_,rfl⟩
 obtain⟨D4,hD4⟩:∃D,D=(decide (p / gW g+1<gH g)):=⟨_,rfl⟩
 have hlen:((nb (gW g) (gH g) p).map nC).length=D1.toNat+D2.toNat+D3.toNat+D4.toNat:=by rw[aq,T3,hD1,hD2,hD3,hD4]
 have hk1:D1=true→0+1≤((nb (gW g) (gH g) p).map nC).length:=fun h=>by rw[hlen,h];simp only[mO];omega
 have hk2:D2=true→0+D1.toNat+1≤((nb (gW g) (gH g) p).map nC).length:=fun h=>by rw[hlen,h];simp only[mO];omega
 have hk3:D3=true→0+D1.toNat+D2.toNat+1≤((nb (gW g) (gH g) p).map nC).length:=fun h=>by rw[hlen,h];simp only[mO];omega
 refine mG (vs:=[_,_,_]) (env:=[(0,_),(1,_),(2,_)]) (St.one hi0 hf0) Tryz.func264 rfl rfl rfl rfl ?_
 refine ak<|VC.draw mixed (aV (aB O3 (.r rfl) (fun _ hw=>aU (off:=0) (hCap _ _ _ hJ (dL hw 0 _ rfl)).p ⟨_,rfl⟩)) rfl<|aV (aE (r:=3) jD (.r rfl) rfl) rfl<|aV (aB O3 (.r rfl) (fun _ hw=>aU (off:=3) (hCap _ _ _ hJ (dL hw 0 _ rfl)).g ⟨_,rfl⟩)) rfl<|aV (LO.eqv (LO.rem (.r rfl) (.r rfl) (by omega)) (congrArg (bX .i64) (Ik hg0 p))) rfl<|aV (aB O3 (.r rfl) (fun _ hw=>aU (off:=0) (hCap _ _ _ hJ (dL hw 0 _ rfl)).p ⟨_,rfl⟩)) rfl<|aV (aE (r:=3) jD (.r rfl) rfl) rfl<|aV (aB O3 (.r rfl) (fun _ hw=>aU (off:=3) (hCap _ _ _ hJ (dL hw 0 _ rfl)).g ⟨_,rfl⟩)) rfl<|aV (LO.eqv (LO.quo (.r rfl) (.r rfl) (by omega) (wi (by rw[rf hg0];omega) (by rw[rf hg0];omega))) (congrArg (bX .i64) (rf hg0 p))) rfl<|aV (LO.as (.r rfl)) rfl<|aV (LO.as (.r rfl)) rfl<|LL.nil) (by kernel_rfl)<|ag<|ak<|VC.q (VO.m rfl<|ah (LO.eqv (v':=.bool D1) (LO.gt (.r rfl) (.r rfl)) (by rw[hD1];exact dlt rfl rfl)) rfl<|VO.m rfl<|VO.gt rfl (fun hg=>bJ (.r rfl))<|VO.gt rfl (fun hg=>aB O3 (.r rfl) (fun _ hw=>aU (off:=0) (hCap _ _ _ hJ (dL hw 0 _ rfl)).p ⟨_,rfl⟩))<|VO.gt rfl (fun hg=>aE (r:=3) jD (.r rfl) rfl)<|VO.gt rfl (fun hg=>aB O3 (.g hg rfl) (fun _ hw=>aU (off:=3) (hCap _ _ _ hJ (dL hw 0 _ rfl)).g ⟨_,rfl⟩))<|VO.gt rfl (fun hg=>LO.eqv (LO.sub (.g hg rfl) (.g hg rfl) (wi (by omega) (by omega))) (congrArg (bX .i64) (agR hg0 (of_decide_eq_true (hD1 ▸ hg)))))<|yg2 0 (r:=r) (vs:=[_]) (post:=fun b r'=>if b=true then J (0+1) r' else Jx (0+1) r') rfl rfl (GD.t _) rfl (fun hg=>.g hg rfl) (fun hg=>⟨.g hg rfl,trivial⟩) rfl (fun hg w2 hi hr hs=>hyl (0) _ (by rw[aw,alu (of_decide_eq_true (hD1 ▸ hg))];rfl) r w2 (hJ) hi hr hs) fun b1 r1 hp1 hq1=>have hA1:=VM (J:=J) (Jx:=Jx) (s:=false) (d:=D1) (len:=((nb (gW g) (gH g) p).map nC).length) (fun _=>hJ) (fun q=>by cases q) (hk1) hp1 hq1;VO.gt rfl (fun hg=>LO.not (.g hg rfl))<|ah (LO.pE (.r rfl) rfl rfl (.r rfl)) rfl<|VO.m rfl<|VO.gf rfl (fun hg=>bJ (.r rfl))<|VO.gf rfl (fun hg=>LO.eqv (v':=.bool D2) (LO.gt (.g hg rfl) (.r rfl)) (by rw[hD2];exact dlt rfl rfl))<|VO.gf rfl (fun hg=>bJ (.g hg rfl))<|nv rfl rfl (mz _ _) (fun hg=>bJ (.r rfl)) rfl<|nv rfl rfl (mz _ _) (fun hg=>aB O3 (.r rfl) (fun _ hw=>(hCap _ _ _ (hA1.1 (nS hg)) (dL hw 0 _ rfl)).p)) rfl<|nv rfl rfl (mz _ _) (fun hg=>LO.eqv (LO.sub (.g hg rfl) (.r rfl) (wi (by omega) (by omega))) (congrArg (bX .i64) (aeO (of_decide_eq_true (hD2 ▸ nT hg))))) rfl<|yg2 0 (r:=r1) (vs:=[_]) (post:=fun b r'=>if b=true then J ((0+D1.toNat)+1) r' else Jx ((0+D1.toNat)+1) r') rfl rfl (mz _ _) rfl (fun hg=>.g hg rfl) (fun hg=>⟨.g hg rfl,trivial⟩) rfl (fun hg w2 hi hr hs=>hyl ((0+D1.toNat)) _ (by rw[hD1,aw,gq,amT (of_decide_eq_true (hD2 ▸ nT hg))];rfl) r1 w2 (hA1.1 (nS hg)) hi hr hs) fun b2 r2 hp2 hq2=>have hA2:=VM (J:=J) (Jx:=Jx) (s:=(D1&& !b1)) (d:=D2) (len:=((nb (gW g) (gH g) p).map nC).length) hA1.1 hA1.2 (hk2) hp2 hq2;nv rfl rfl (mz _ _) (fun hg=>LO.not (.g hg rfl)) rfl<|VO.gf rfl (fun hg=>LO.pE (.g hg rfl) rfl (PI hg) (.r rfl))<|ah (LO.qh (.r rfl) (.r rfl) rfl rfl) rfl<|VO.m rfl<|VO.gf rfl (fun hg=>bJ (.r rfl))<|VO.gf rfl (fun hg=>LO.add (.g hg rfl) (.r rfl) (wi (by omega) (by omega)))<|VO.gf rfl (fun hg=>aE (r:=3) jD (.r rfl) rfl)<|VO.gf rfl (fun hg=>aB (v:=.int .i64 g.wide) O3 (.g hg rfl) (fun _ hw=>aU (off:=3) (hCap _ _ _ (hA2.1 (nN hg)) (dL hw 0 _ rfl)).g ⟨_,rfl⟩))<|VO.gf rfl (fun hg=>LO.eqv (v':=.bool D3) (LO.lt (.g hg rfl) (.g hg rfl)) (by rw[hD3];exact dlt rfl hW.symm))<|VO.gf rfl (fun hg=>bJ (.g hg rfl))<|nv rfl rfl (mz _ _) (fun hg=>bJ (.r rfl)) rfl<|nv rfl rfl (mz _ _) (fun hg=>aB O3 (.r rfl) (fun _ hw=>(hCap _ _ _ (hA2.1 (nS hg)) (dL hw 0 _ rfl)).p)) rfl<|nv rfl rfl (mz _ _) (fun hg=>LO.add (.g hg rfl) (.r rfl) (wi (by omega) (by omega))) rfl<|yg2 0 (r:=r2) (vs:=[_]) (post:=fun b r'=>if b=true then J ((0+D1.toNat+D2.toNat)+1) r' else Jx ((0+D1.toNat+D2.toNat)+1) r') rfl rfl (mz _ _) rfl (fun hg=>.g hg rfl) (fun hg=>⟨.g hg rfl,trivial⟩) rfl (fun hg w2 hi hr hs=>hyl ((0+D1.toNat+D2.toNat)) _ (by rw[hD1,hD2,aw,gq,akK (of_decide_eq_true (hD3 ▸ nT hg))];rfl) r2 w2 (hA2.1 (nS hg)) hi hr hs) fun b3 r3 hp3 hq3=>have hA3:=VM (J:=J) (Jx:=Jx) (s:=((D1&& !b1)||(D2&& !b2))) (d:=D3) (len:=((nb (gW g) (gH g) p).map nC).length) hA2.1 hA2.2 (hk3) hp3 hq3;nv rfl rfl (mz _ _) (fun hg=>LO.not (.g hg rfl)) rfl<|VO.gf rfl (fun hg=>LO.pE (.g hg rfl) rfl (PI hg) (.r rfl))<|ah (LO.qh (.r rfl) (.r rfl) rfl rfl) rfl<|VO.n ?_)
 refine ay rfl (fun h49=>?_) (fun h49=>?_)
 ·
  obtain⟨n3,hn3,hx3⟩:=hA3.2 (by simpa using h49)
  have hE:=CC (J:=J) (xs:=((nb (gW g) (gH g) p).map nC)) hn3 hx3
  refine aP (VE.cJ (dh (vs:=[]) rfl trivial (fun w hw=>?_)))
  exact⟨rfl,vX hE hw⟩
 ·
  have hJ:=hA3.1 (by simpa using h49)
  refine aC (ag<|VC.q (VO.m rfl<|VO.p rfl rfl (by omega) (by omega) rfl<|VO.f (r:=4) qH rfl<|ah (aB O3 (.r rfl) (fun _ hw=>aU (off:=4) (hCap _ _ _ hJ (dL hw 0 _ rfl)).g ⟨_,rfl⟩)) rfl<|ah (LO.eqv (v':=.bool D4) (LO.lt (.r rfl) (.r rfl)) (by rw[hD4];exact dlt rfl hH.symm)) rfl<|VO.n<|ay rfl (fun h54=>?_) (fun h54=>?_)))
  ·
   refine VC.dU (VO.m rfl<|ah (aB O3 (.r rfl) (fun _ hw=>aU (off:=0) (hCap _ _ _ hJ (dL hw 0 _ rfl)).p ⟨_,rfl⟩)) rfl<|VO.f (r:=3) jD rfl<|ah (aB O3 (.r rfl) (fun _ hw=>aU (off:=3) (hCap _ _ _ hJ (dL hw 0 _ rfl)).g ⟨_,rfl⟩)) rfl<|VO.p rfl rfl (by omega) (by omega) rfl<|aD rfl<|HO.yield 0 (r:=r3) (vs:=[_]) (post:=fun b r'=>if b=true then J (0+D1.toNat+D2.toNat+D3.toNat+1) r' else Jx (0+D1.toNat+D2.toNat+D3.toNat+1) r') (.r rfl) ⟨.r rfl,trivial⟩ rfl (fun w2 hi hr hs=>hyl (0+D1.toNat+D2.toNat+D3.toNat) _ (by rw[hD1,hD2,hD3,aw,gq,akJ (of_decide_eq_true (hD4 ▸ h54))];show some [bX .i64 ((p+gW g:Nat):Int)]=some [bX .i64 ((p:Int)+g.wide)];rw[←hW];rfl) r3 w2 hJ hi hr hs) fun b4 r4 hp4=>VO.nil ?_)
   have hE:J ((nb (gW g) (gH g) p).map nC).length r4∨∃n,n≤((nb (gW g) (gH g) p).map nC).length∧Jx n r4:=by
    have e4:0+D1.toNat+D2.toNat+D3.toNat+1=((nb (gW g) (gH g) p).map nC).length:=by rw[hlen,show D4=true from h54];simp only[mO];omega
    rw[e4]at hp4
    cases b4 with
    |true=>rw[if_pos rfl]at hp4;exact .inl hp4
    |false=>rw[if_neg (by decide)]at hp4;exact .inr ⟨_,bA _,hp4⟩
   refine VE.xf (vs:=[]) rfl trivial (fun w hw=>?_)
   exact⟨rfl,vX hE hw⟩
  ·
   have hE:=JO (J:=J) (Jx:=Jx) (xs:=((nb (gW g) (gH g) p).map nC)) (r:=r3) (by rw[hlen,show D4=false by simpa using h54];simp only[Bool.toNat_false,ki];rw[gq]at hJ;exact hJ)
   refine aC (VE.xf (vs:=[]) rfl trivial (fun w hw=>?_))
   exact⟨rfl,vX hE hw⟩
end Go.Proofs.YtffbohecdocajaaGreat
namespace Go.Cell
set_option linter.unusedVariables false
section
variable (W H:Nat) (S:Nat→Bool)
def GW (p:Nat) (l:List Nat) (q:Nat):Int:=if q∈l then((eZ W H S p).length:Int) else lX (eZ W H S p) q
def CF (p:Nat) (l:List Nat):List Int:=(br (W*H)).map (GW W H S p l)
end
section
variable {W H:Nat} {S:Nat→Bool} {p q r:Nat} {l:List Nat}
theorem pC:(CF W H S p l).length=W*H:=by unfold CF;simp
theorem y3 (h:q<W*H):(CF W H S p l)[q]? =some (GW W H S p l q):=by
 unfold CF;rw[aw,eu h];rfl
theorem Vz:cy (W*H) (-1:Int)=CF W H S 0 []:=by
 refine cO fun q=>?_
 by_cases h:q<W*H
 ·rw[y3 h,List.getElem?_replicate,if_pos h];simp [GW,eZ,lX]
 ·rw[aH (by simpa using h),aH (by rw[pC];omega)]
theorem PW (hr:r<W*H):(CF W H S p l).set r ((eZ W H S p).length:Int)=CF W H S p (l++[r]):=by
 refine cO fun q=>?_
 by_cases h:q<W*H
 ·rw[y3 h,fe]
  by_cases e:r=q
  ·subst e
   rw[if_pos rfl,if_pos (by rw[pC];exact h)]
   unfold GW;rw[if_pos (by simp)]
  ·rw[if_neg e,y3 h]
   unfold GW
   have:(q∈l++[r])↔q∈l:=by simp;intro z;exact absurd z.symm e
   by_cases z:q∈l
   ·rw[if_pos z,if_pos (this.2 z)]
   ·rw[if_neg z,if_neg (fun y=>z (this.1 y))]
 ·rw[aH (by rw[List.length_set,pC];omega),aH (by rw[pC];omega)]
theorem ado (hp:p<W*H) (h:0≤GW W H S p [] p∨S p=false):eZ W H S (p+1)=eZ W H S p:=by
 refine rM fun⟨h1,h2⟩=>?_
 rcases h with h|h
 ·unfold GW at h
  rw[if_neg (by simp),Cg h2]at h
  omega
 ·rw[h]at h1;cases h1
theorem ZZ (h:eZ W H S (p+1)=eZ W H S p):CF W H S (p+1) []=CF W H S p []:=by unfold CF GW;rw[h]
theorem afj (h:¬0≤GW W H S p [] p):∀l,l∈eZ W H S p→p∉l:=by
 unfold GW at h
 rw[if_neg (by simp)]at h
 exact uP.1 (by omega)
structure WL (W H:Nat) (S:Nat→Bool) (p:Nat) (l:List Nat) (i:Nat):Prop where
 A5:l.Nodup
 mem:∀q,q∈l→q<W*H∧Cn W H S p q
 self:p∈l
 cl:∀(j q r:Nat),j<i→l[j]? =some q→r∈nb W H q→S r=true→r∈l
 le:i≤l.length
theorem WL.one (hp:p<W*H) (hs:S p=true):WL W H S p [p] 0:=⟨by simp,fun q hq=>by simp at hq;subst hq;exact⟨hp,.refl hs⟩,by simp,fun j q r hj=>absurd hj (Nat.not_lt_zero _),bG _⟩
theorem WL.len {i:Nat} (h:WL W H S p l i):l.length≤W*H:=by
 have:=length_le_of_subset (m:=br (W*H)) h.A5 (fun x hx=>bf.2 (h.mem x hx).1)
 simpa using this
theorem WL.full (h:WL W H S p l l.length) (hp:p<W*H) (hs:S p=true):∀q,q∈l↔q∈lR W H S p:=fun q=>by
 rw[oY hp hs]
 refine⟨fun z=>(h.mem q z).2,fun z=>?_⟩
 refine z.closed (X:=fun x=>x∈l) h.self fun a b ha hb hS=>?_
 obtain⟨j,hj⟩:=cV.1 ha
 exact h.cl j a b (aj.1 hj).1 hj hb hS
theorem VD (hp:p<W*H) (hs:S p=true) (hn:∀l,l∈eZ W H S p→p∉l) (h:∀q,q∈l↔q∈lR W H S p):CF W H S p l=CF W H S (p+1) []:=by
 unfold CF
 refine List.map_congr_left fun q hq=>?_
 have hq:=bf.1 hq
 have e2:GW W H S (p+1) [] q=if lX (eZ W H S p) q= -1 then(if q∈lR W H S p then((eZ W H S p).length:Int) else-1) else lX (eZ W H S p) q:=by
  unfold GW
  rw[if_neg (by simp),pQ hs hn,Zj]
 rw[e2]
 unfold GW
 by_cases z:q∈l
 ·rw[if_pos z]
  have z2:=(h q).1 z
  have hno:∀m,m∈eZ W H S p→q∉m:=fun m hm hqm=>by
   have h1:=(oY hp hs).1 z2
   obtain⟨_,_,h2,_⟩:=ru (Nat.le_of_lt hp) hm hqm
   exact hn m hm ((h2 p).2 (h1.symm hp))
  rw[if_pos (Cg hno),if_pos z2]
 ·rw[if_neg z]
  by_cases y:lX (eZ W H S p) q= -1
  ·rw[if_pos y,if_neg (fun z2=>z ((h q).2 z2)),y]
  ·rw[if_neg y]
structure WN (W H:Nat) (S:Nat→Bool) (p:Nat) (l:List Nat) (q k:Nat) (m:List Nat):Prop where
 A5:m.Nodup
 mem:∀z,z∈m→z<W*H∧Cn W H S p z
 pre:∃t,m=l++t
 dn:∀(j r:Nat),j<k→(nb W H q)[j]? =some r→S r=true→r∈m
theorem WN.zero {i:Nat} (h:WL W H S p l i):WN W H S p l q 0 l:=⟨h.A5,h.mem,⟨[],by simp⟩,fun j r hj=>absurd hj (Nat.not_lt_zero _)⟩
theorem WN.len {k:Nat} {m:List Nat} (h:WN W H S p l q k m):m.length≤W*H:=by
 have:=length_le_of_subset (m:=br (W*H)) h.A5 (fun x hx=>bf.2 (h.mem x hx).1)
 simpa using this
theorem WN.skip {k:Nat} {m:List Nat} (h:WN W H S p l q k m) (hr:(nb W H q)[k]? =some r) (hx:S r=true→r∈m):WN W H S p l q (k+1) m:=by
 refine⟨h.A5,h.mem,h.pre,fun j z hj hz hs=>?_⟩
 rcases aK j k with y|y
 ·exact h.dn j z y hz hs
 ·have:j=k:=by omega
  subst this
  rw[hr]at hz;cases hz
  exact hx hs
theorem WN.take {k i:Nat} {m:List Nat} (h:WN W H S p l q k m) (h0:WL W H S p l i) (hi:l[i]? =some q) (hr:(nb W H q)[k]? =some r) (hx:r∉m) (hs:S r=true):WN W H S p l q (k+1) (m++[r]):=by
 have hq:=h0.mem q (al hi)
 have hrn:=al hr
 obtain⟨t,ht⟩:=h.pre
 refine⟨lM.2 ⟨h.A5,by simp,fun a ha b hb=>by simp at hb;subst hb;intro e;subst e;exact hx ha⟩,fun z hz=>?_,⟨t++[r],by rw[ht,dp]⟩,fun j z hj hz hS=>?_⟩
 ·rcases bZ.1 hz with y|y
  ·exact h.mem z y
  ·simp at y;subst y;exact⟨DH hq.1 hrn,.step hq.2 hrn hs⟩
 ·rcases aK j k with y|y
  ·exact dg _ (h.dn j z y hz hS)
  ·have:j=k:=by omega
   subst this
   rw[hr]at hz;cases hz
   simp
theorem VS {k i:Nat} {m:List Nat} (h:WN W H S p l q k m) (h0:WL W H S p l i) (hp:p<W*H) (hi:l[i]? =some q) (hr:(nb W H q)[k]? =some r) (hn:∀l,l∈eZ W H S p→p∉l) (hs:S r=true):GW W H S p m r<0↔r∉m:=by
 have hq:=h0.mem q (al hi)
 have hrn:=al hr
 unfold GW
 by_cases z:r∈m
 ·rw[if_pos z];exact⟨fun y=>by omega,fun y=>absurd z y⟩
 ·rw[if_neg z]
  refine⟨fun _=>z,fun _=>?_⟩
  refine uP.2 fun x hx hrx=>?_
  obtain⟨_,_,h2,_⟩:=ru (Nat.le_of_lt hp) hx hrx
  have hc:Cn W H S p r:=.step hq.2 hrn hs
  exact hn x hx ((h2 p).2 (hc.symm hp))
theorem WN.done {k i:Nat} {m:List Nat} (h:WN W H S p l q k m) (h0:WL W H S p l i) (hi:l[i]? =some q) (hk:(nb W H q).length≤k):WL W H S p m (i+1):=by
 obtain⟨t,ht⟩:=h.pre
 have hil:=(aj.1 hi).1
 refine⟨h.A5,h.mem,by rw[ht];exact dg _ h0.self,fun j z r hj hz hr hs=>?_,by rw[ht,aZ];omega⟩
 rcases aK j i with y|y
 ·rw[ht,aJ (by omega)]at hz
  rw[ht];exact dg _ (h0.cl j z r y hz hr hs)
 ·have:j=i:=by omega
  subst this
  rw[ht,aJ hil,hi]at hz;cases hz
  obtain⟨n,hn⟩:=cV.1 hr
  exact h.dn n r (by have:=(aj.1 hn).1;omega) hn hs
end
end Go.Cell
namespace Go.SL
set_option linter.unusedVariables false
section
variable {P:Program} {ro:Option Nat} {β:Bs} {N:Nat} {ds:List Deferred} {env:Env} {L:List cq} {Q:Exit→Act→World→Prop} {w v:World}
theorem VC.XQ {Lk Lf:List cq} {c:Code} (h:∀w1,St β (Lk++Lf) w1→VC P ro ⟨w1,lu Lk⟩ N ds env Lk c Q):VC P ro β N ds env (Lk++Lf) c Q:=fun a w ha hw=>h w hw a w ha (hw.has (s4 _ _))
theorem St.fz {R rest:List cq} (h:St β (R++rest) w) (hs:St ⟨w,lu R⟩ L v):St β (L++rest) v:=h.Fo (fun k hk=>hk) hs
theorem St.lZ {A B:List cq} (h:St β (A++B) w):St β B w:=h.map (fun j=>A.length+j) (fun a b hab _ _=>by omega) (fun j r hr=>.inr (by rw[aY (by omega),show A.length+j-A.length=j by omega];exact hr))
variable {α:Type} {f:α→cq} {as_:List α} {a:α} {i:Nat}
theorem St.yD (h:St β (Go.SL.bS (as_.map f)::L) w) (hi:as_[i]? =some a):St β (f a::Go.SL.bS ((as_.eraseIdx i).map f)::L) w:=by
 obtain⟨hl,rfl⟩:=aj.1 hi
 have e:as_.map f=(as_.take i).map f++f as_[i]::(as_.drop (i+1)).map f:=by
  rw[←fD, ←bj, ←List.drop_eq_getElem_cons hl,gQ]
 rw[e]at h
 have h2:=St.focus h
 rw[o9,bj]
 exact h2
theorem St.sO (h:St β (f a::Go.SL.bS ((as_.eraseIdx i).map f)::L) w) (hl:i<as_.length):St β (Go.SL.bS ((as_.set i a).map f)::L) w:=by
 rw[o9,bj]at h
 have h2:=St.vR h
 have e:(as_.set i a).map f=(as_.take i).map f++f a::(as_.drop (i+1)).map f:=by
  rw[List.set_eq_take_append_cons_drop,if_pos hl,bj,fD]
 rw[e]
 exact h2
end
end Go.SL
namespace Go.SL
set_option linter.unusedVariables false
open Go.RowKit
structure TW {α:Type} (P:Program) (K:TypeId) (kE:α→Value):Prop where
 inj:∀{a b:α},kE a=kE b→a=b
 Mh:∀(e:Bool) (n:Nat) (a:α) (w:World),(mX e (n+2) K (kE a)).run P w= .ok () w
 find:∀(n:α) (es:List MapEntry) (w:World),(∀e,e∈es→∃m,e.key=kE m)→
  (∃j e,(ku K (kE n) es).run P w= .ok (some (j,e.val)) w∧es[j]? =some e∧e.key=kE n)∨((ku K (kE n) es).run P w= .ok none w∧∀e,e∈es→e.key≠kE n)
 bits:∀a:α,kW 10000 (kE a) (kE a)=true
section
variable {α δ:Type} {kE:α→Value} {vE:δ→Value}
structure Gu (kE:α→Value) (vE:δ→Value) (es:List MapEntry) (M:α→Option δ):Prop where
 zN:∀e,e∈es→∃n v,e.key=kE n∧e.val=vE v∧M n=some v
 mem:∀n v,M n=some v→∃e,e∈es∧e.key=kE n∧e.val=vE v
 A5:es.Pairwise fun a b=>a.key≠b.key
def mo [DecidableEq α] (M:α→Option δ) (n:α) (v:δ):α→Option δ:=fun m=>if m=n then some v else M m
def kM (kE:α→Value) (vE:δ→Value) (b:Nat) (M:α→Option δ):cq:=⟨fun k=>k=b,fun w=>∃es clock,w.heap[b]? =some (.map es clock)∧Gu kE vE es.toList M∧mH es.toList clock,fun h ⟨es,c,h1,h2⟩=>⟨es,c,(h b rfl).trans h1,h2⟩⟩
variable {es:List MapEntry} {M:α→Option δ}
theorem Vh (hi:∀{a b:α},kE a=kE b→a=b) (h:Gu kE vE es M) {e:MapEntry} {n:α} (he:e∈es) (hk:e.key=kE n):∃v,e.val=vE v∧M n=some v:=by
 obtain⟨m,v,h1,h2,h3⟩:=h.zN e he
 have:m=n:=hi (h1.symm.trans hk)
 subst this
 exact⟨v,h2,h3⟩
theorem RF (h:Gu kE vE es M) {n:α} (hn:∀e,e∈es→e.key≠kE n):M n=none:=by
 cases q:M n with
 |none=>rfl
 |some v=>obtain⟨e,h1,h2,_⟩:=h.mem n v q;exact absurd h2 (hn e h1)
theorem TG:Gu kE vE [] (fun _=>none):=⟨fun _ h=>(by cases h),fun _ _ h=>(by cases h),wj⟩
variable [DecidableEq α]
theorem Rk (h:Gu kE vE es M) {n:α} {v:δ} {c:Nat} (hn:∀e,e∈es→e.key≠kE n):Gu kE vE (es++[⟨kE n,vE v,c⟩]) (mo M n v):=by
 refine⟨fun e he=>?_,fun m u hm=>?_,?_⟩
 ·rcases bZ.1 he with q|q
  ·obtain⟨m,u,h1,h2,h3⟩:=h.zN e q
   refine⟨m,u,h1,h2,?_⟩
   unfold mo
   rw[if_neg (fun z=>hn e q (by rw[h1,z]))];exact h3
  ·have:=bT.1 q;subst this
   exact⟨n,v,rfl,rfl,if_pos rfl⟩
 ·unfold mo at hm
  split at hm
  ·rename_i q;cases hm;subst q;exact⟨_,eX _ (bT.2 rfl),rfl,rfl⟩
  ·obtain⟨e,h1,h2,h3⟩:=h.mem m u hm;exact⟨e,dg _ h1,h2,h3⟩
 ·rw[gb]
  refine⟨h.A5,by simp,fun a ha b hb=>?_⟩
  have:=bT.1 hb;subst this
  exact hn a ha
theorem Tk (hinj:∀{a b:α},kE a=kE b→a=b) (h:Gu kE vE es M) {j:Nat} {e:MapEntry} {n:α} {v:δ} (hj:es[j]? =some e) (hk:e.key=kE n):Gu kE vE (es.set j ⟨kE n,vE v,e.born⟩) (mo M n v):=by
 have hjl:=(aj.1 hj).1
 have hje:=(aj.1 hj).2
 have hkey:∀i (h1:i<(es.set j ⟨kE n,vE v,e.born⟩).length) (h2:i<es.length),(es.set j ⟨kE n,vE v,e.born⟩)[i].key=es[i].key:=fun i h1 h2=>by
  rw[uv]
  split
  ·rename_i q;subst q;rw[hje,hk]
  ·rfl
 have hne:∀i,i<es.length→(hi:i<es.length)→i≠j→es[i].key≠kE n:=fun i _ hi hij z=>by
  have pw:=be.1 h.A5
  rcases nY hij with q|q
  ·exact pw i j hi hjl q (by rw[z,hje,hk])
  ·exact pw j i hjl hi q (by rw[z,hje,hk])
 refine⟨fun x hx=>?_,fun m u hm=>?_,?_⟩
 ·obtain⟨i,hi,rfl⟩:=da hx
  have hi2:i<es.length:=by simpa using hi
  by_cases q:j=i
  ·subst q
   rw[vF]
   exact⟨n,v,rfl,rfl,if_pos rfl⟩
  ·rw[xO q]
   obtain⟨m,u,h1,h2,h3⟩:=h.zN _ (fv hi2)
   refine⟨m,u,h1,h2,?_⟩
   unfold mo
   rw[if_neg (fun z=>hne i hi2 hi2 (fun y=>q y.symm) (by rw[h1,z]))];exact h3
 ·unfold mo at hm
  split at hm
  ·rename_i q;cases hm;subst q
   exact⟨_,al (i:=j) (by rw[iF hjl]),rfl,rfl⟩
  ·rename_i q
   obtain⟨x,h1,h2,h3⟩:=h.mem m u hm
   obtain⟨i,hi,rfl⟩:=da h1
   have hij:j≠i:=fun z=>by subst z;rw[hje,hk]at h2;exact q (hinj h2).symm
   exact⟨_,al (i:=i) (by rw[eQ hij,af hi]),h2,h3⟩
 ·rw[be]
  intro a b ha hb hab
  rw[hkey a ha (by simpa using ha),hkey b hb (by simpa using hb)]
  exact be.1 h.A5 a b _ _ hab
end
section
variable {P:Program} {ro:Option Nat} {β:Bs} {N:Nat} {ds:List Deferred} {env:Env} {L:List cq} {Q:Exit→Act→World→Prop}
variable {d:Option Nat} {ty:TypeId} {pos:String} {aft:Array Edge} {g:Option (Nat×Bool)}
variable {α δ:Type} {kE:α→Value} {vE:δ→Value}
def u7 (P:Program) (T:Nat) (kE:α→Value) (vE:δ→Value) (d0:δ):Prop:=∃K E,P.underlying T=some (.map K E)∧TW P K kE∧cj P E (vE d0)
theorem yj {T b:Nat} {M:α→Option δ} {d0:δ} {n:α} {w:World} (c:Bool) (hT:u7 P T kE vE d0) (hb:(kM kE vE b M).inv w):(nX T (.map (some b)) (kE n) c).run P w= .ok (if c then .tuple #[vE ((M n).getD d0),.bool (M n).isSome] else vE ((M n).getD d0)) w:=by
 obtain⟨K,E,hu,hK,hz⟩:=hT
 obtain⟨es,clock,hb,hs,_⟩:=hb
 have hobj:(getObj b).run P w= .ok (.map es clock) w:=by simp [getObj,Sem.run,hb]
 simp only[nX,bz,run_underlying hu,bw,hobj,cG,hK.Mh]
 rcases hK.find n es.toList w (fun e he=>by obtain⟨m,_,h1,_⟩:=hs.zN e he;exact⟨m,h1⟩) with⟨j,e,h1,h3,h4⟩|⟨h1,h2⟩
 ·rw[h1]
  obtain⟨v,g1,g2⟩:=Vh hK.inj hs (al h3) h4
  cases c<;>simp [g1,g2]
 ·rw[h1,RF hs h2]
  cases c<;>simp [mc hz]
theorem LO.lkG {x y:Operand} {T b:Nat} {M:α→Option δ} {d0:δ} {n:α} (hT:u7 P T kE vE d0) (hx:OV env x (.map (some b))) (hy:OV env y (kE n)) (hi:∀w,St β L w→(kM kE vE b M).inv w):LO P β env L ⟨d,.lookup T x y true,ty,pos,aft,g⟩ (.tuple #[vE ((M n).getD d0),.bool (M n).isSome]):=
 .ee fun a w h hw=>⟨w,by
  have:=yj (n:=n) true hT (hi w hw)
  simp only[if_true]at this
  simp [execOp,h x (by simp [az]) _ hx,h y (by simp [az]) _ hy,this],hw⟩
theorem LO.Td {x y:Operand} {T b:Nat} {M:α→Option δ} {d0:δ} {n:α} (hT:u7 P T kE vE d0) (hx:OV env x (.map (some b))) (hy:OV env y (kE n)) (hi:∀w,St β L w→(kM kE vE b M).inv w):LO P β env L ⟨d,.lookup T x y false,ty,pos,aft,g⟩ (vE ((M n).getD d0)):=
 .ee fun a w h hw=>⟨w,by
  have:=yj (n:=n) false hT (hi w hw)
  simp only[bP,if_false]at this
  simp [execOp,h x (by simp [az]) _ hx,h y (by simp [az]) _ hy,this],hw⟩
section
variable {K:Value→List cq→Prop} {dd:Option Nat}
theorem HO.Dy {T:Nat} (kE:α→Value) (vE:δ→Value) (k:∀b,K (.map (some b)) (kM kE vE b (fun _=>none)::L)):HO P β env L ⟨dd,.makeMap T none,ty,pos,aft,none⟩ K:=by
 intro a w h hw
 refine .inl ⟨_,w.alloc (.map #[] 0),_,_,?_,.inl rfl,k w.heap.size,?_⟩
 ·simp only[execOp]
  rfl
 ·have h1:=hw.alloc (.map #[] 0)
  have:=h1.conv 0 (r':=kM kE vE w.heap.size (fun _=>none)) rfl (fun k hk=>hk) ⟨#[],0,h1.inv 0 _ rfl,TG,by simp,by simp⟩
  simpa using this
variable [DecidableEq α]
theorem HO.Ve (i:Nat) (LF:cq→List cq) {x y z:Operand} {T b:Nat} {M:α→Option δ} {d0:δ} (n:α) (v:δ) (hT:u7 P T kE vE d0) (hx:OV env x (.map (some b))) (hy:OV env y (kE n)) (hz:OV env z (vE v)) (hi:L[i]? =some (kM kE vE b M)) (hL:∀R:cq,L.set i R=LF R)
  (k:K undef (LF (kM kE vE b (mo M n v)))):HO P β env L ⟨dd,.mapUpdate T x y z,ty,pos,aft,none⟩ K:=by
 intro a w h hw
 obtain⟨KT,E,hu,hK,_⟩:=hT
 obtain⟨es,clock,hb,hs,hst⟩:=hw.inv i _ hi
 have hlt:i<L.length:=by
  rcases aK i L.length with q|q
  ·exact q
  ·simp [aH q]at hi
 have hobj:(getObj b).run P w= .ok (.map es clock) w:=by simp [getObj,Sem.run,hb]
 have hset:∀o,(setObj b o).run P w= .ok () (w.putObj b o):=fun o=>by simp [setObj,Sem.run,hb,World.putObj]
 have ex:a.eval x= .map (some b):=by obtain⟨u,hu,e⟩:=hx;subst e;exact h x (by simp [az]) _ hu
 have ey:a.eval y=kE n:=by obtain⟨u,hu,e⟩:=hy;subst e;exact h y (by simp [az]) _ hu
 have ez:a.eval z=vE v:=by obtain⟨u,hu,e⟩:=hz;subst e;exact h z (by simp [az]) _ hu
 have h1:St β (L.set i (de b (.map es clock))) w:=hw.conv i hi (fun k hk=>hk) hb
 have SR:∀es' clock',Gu kE vE es'.toList (mo M n v)→mH es'.toList clock'→St β (L.set i (kM kE vE b (mo M n v))) (w.putObj b (.map es' clock')):=by
  intro es' clock' hse hst'
  have hg:(L.set i (de b (.map es clock)))[i]? =some (de b (.map es clock)):=by simp [hlt]
  have h2:=h1.obj (o':=.map es' clock') i hg
  rw[jk]at h2
  have hg2:(L.set i (de b (.map es' clock')))[i]? =some (de b (.map es' clock')):=by simp [hlt]
  have h3:=h2.conv i (r':=kM kE vE b (mo M n v)) hg2 (fun k hk=>hk) ⟨es',clock',h2.inv i _ hg2,hse,hst'⟩
  rwa [jk]at h3
 rcases hK.find n es.toList w (fun e he=>by obtain⟨m,_,h1,_⟩:=hs.zN e he;exact⟨m,h1⟩) with⟨j,e,h1,h3,h4⟩|⟨h1,h2⟩
 ·have hj:es[j]? =some e:=by simpa using h3
  refine .inl ⟨.skip,w.putObj b (.map (es.modify j fun e=>{ e with key:=kE n,val:=vE v }) clock),undef,_,?_,.inr ⟨rfl,rfl⟩,k,by rw[←hL];exact SR _ _ (by rw[tf h3];exact Tk hK.inj hs h3 h4) (by rw[tf h3];exact CL hst h3)⟩
  simp only[execOp,ex,ey,ez,bz,cG]
  refine B7 ?_
  simp only[lq,bz,run_underlying hu,bw,hobj,hK.Mh]
  rw[h1]
  simp [hj,h4,o7,hK.bits]
  exact hset _
 ·refine .inl ⟨.skip,w.putObj b (.map (es.push { key:=kE n,val:=vE v,born:=clock }) (clock+1)),undef,_,?_,.inr ⟨rfl,rfl⟩,k,by rw[←hL];exact SR _ _ (by rw[jl];exact Rk hs h2) (by rw[jl];exact A1 hst)⟩
  simp only[execOp,ex,ey,ez,bz,cG]
  refine B7 ?_
  simp only[lq,bz,run_underlying hu,bw,hobj,hK.Mh]
  rw[h1]
  exact hset _
end
end
section
variable {P:Program}
theorem YD {K:TypeId} (hK:P.underlying K=some (.int .i64)):TW P K fB where
 inj:=mF
 Mh:=fun e n a w=>lV hK e (n+1) _ w
 find:=fun n es w h=>by
  simp only[ku,bz,run_underlying hK,bw]
  rcases rU (k:=.i64) (n:=n) (es:=es) 0 h with⟨j,e,h1,h2,h3,h4⟩|⟨h1,h2⟩
  ·rw[h1];exact .inl ⟨j,e,rfl,by simpa using h3,h4⟩
  ·rw[h1];exact .inr ⟨rfl,h2⟩
 bits:=fun a=>by simp [kW,fB]
structure Bj {γ:Type} [DecidableEq γ] (P:Program) (T:TypeId) (c:γ→Value):Prop where
 inj:∀{a b:γ},c a=c b→a=b
 Mh:∀(e:Bool) (n:Nat) (a:γ) (w:World),(mX e (n+1) T (c a)).run P w= .ok () w
 eql:∀(d:Nat) (a b:γ) (w:World),(gP (d+1) T (c a) (c b)).run P w= .ok (decide (a=b)) w
 one:ig P T
 bits:∀(n:Nat) (a:γ),kW n (c a) (c a)=true
theorem wb {T:TypeId} (hT:P.underlying T=some (.int .i64)) (h1:ig P T):Bj P T fB where
 inj:=mF
 Mh:=fun e n a w=>lV hT e n _ w
 eql:=fun d a b w=>by rw[fB,fB,run_equalIn_int w d T .i64 .i64 a b hT];rfl
 one:=h1
 bits:=fun n a=>by cases n<;>simp [kW,fB]
theorem Dk {T:TypeId} (hT:P.underlying T=some .bool) (h1:ig P T):Bj P T iS where
 inj:=fun h=>by simpa using h
 Mh:=fun e n a w=>by simp [mX,run_underlying hT]
 eql:=fun d a b w=>by
  simp only[gP,bz,run_underlying hT,bw,cG]
  cases a<;>cases b<;>rfl
 one:=h1
 bits:=fun n a=>by cases n<;>simp [kW]
def Wg (P:Program) (K T0 T1:TypeId):Prop:=∃F0 F1:Field,P.underlying K=some (.struct #[F0,F1])∧F0.name≠ "_" ∧F1.name≠ "_" ∧F0.offset=0∧F1.offset=1∧F0.type=T0∧F1.type=T1∧P.stoodInHeld K=false
variable {γ0 γ1:Type} [DecidableEq γ0] [DecidableEq γ1] {c0:γ0→Value} {c1:γ1→Value} {K T0 T1:TypeId}
abbrev sS (c0:γ0→Value) (c1:γ1→Value) (x:γ0×γ1):Value:=.agg #[c0 x.1,c1 x.2]
theorem sK {T:TypeId} (h:ig P T) {cs:Array Value} {o:Nat} {v:Value} (hv:cs[o]? =some v) (w:World):(part T cs o).run P w= .ok v w:=by
 simp [part,sM h,hv]
theorem Ij (h0:Bj P T0 c0) (h1:Bj P T1 c1) (hK:Wg P K T0 T1) (x y:γ0×γ1) (d:Nat) (w:World):(gP (d+2) K (sS c0 c1 x) (sS c0 c1 y)).run P w= .ok (decide (x=y)) w:=by
 obtain⟨F0,F1,hu,n0,n1,o0,o1,t0,t1,hs⟩:=hK
 have hfs:P.fieldsOf K=#[F0,F1]:=by simp [Program.fieldsOf,hu]
 rw[sS,sS,run_equalIn_struct w (d+1) K _ _ (by rw[hfs];exact hu) hs,hfs]
 simp only[Op.eqFields,n0,n1,ne_eq,not_false_eq_true,if_true,bz,o0,o1,t0,t1]
 rw[sK h0.one (v:=c0 x.1) rfl,bw,sK h0.one (v:=c0 y.1) rfl,bw,h0.eql,bw]
 obtain⟨x0,x1⟩:=x
 obtain⟨y0,y1⟩:=y
 by_cases e0:x0=y0
 ·subst e0
  simp only[decide_true,Bool.not_true,bP,if_false,bz]
  rw[sK h1.one (v:=c1 x1) rfl,bw,sK h1.one (v:=c1 y1) rfl,bw,h1.eql,bw]
  by_cases e1:x1=y1
  ·subst e1;simp
  ·simp [e1]
 ·simp [e0]
theorem Dg {fs:Array Field} {k:Value} {es:List MapEntry} {i:Nat}:kt (.struct fs) k es i=if es=[]then some none else none:=by
 cases es with
 |nil=>rfl
 |cons e es=>simp [kt,Instr.sameNow]
theorem va {α:Type} [DecidableEq α] {kE:α→Value} (hinj:∀{a b:α},kE a=kE b→a=b) (heq:∀(a b:α) (w:World),(Op.equal K (kE a) (kE b)).run P w= .ok (decide (a=b)) w) (n:α) (w:World):∀(es:List MapEntry) (i:Nat),(∀e,e∈es→∃m,e.key=kE m)→
  (∃j e,(vH K (kE n) es i).run P w= .ok (some (j,e.val)) w∧i≤j∧es[j-i]? =some e∧e.key=kE n)∨((vH K (kE n) es i).run P w= .ok none w∧∀e,e∈es→e.key≠kE n)
 |[],i,_=>.inr ⟨rfl,by simp⟩
 |e::es,i,h=>by
  obtain⟨m,hm⟩:=h e (by simp)
  simp only[vH,bz,hm,heq,bw]
  by_cases q:n=m
  ·subst q
   left
   exact⟨i,e,by simp,bA _,by simp,hm⟩
  ·simp only[q,decide_false,bP,if_false]
   rcases va hinj heq n w es (i+1) (fun e' he=>h e' (by simp [he])) with⟨j,e',h1,h2,h3,h4⟩|⟨h1,h2⟩
   ·left
    refine⟨j,e',h1,by omega,?_,h4⟩
    rw[show j-i=(j-(i+1))+1 by omega]
    simpa using h3
   ·right
    refine⟨h1,fun e' he'=>?_⟩
    rcases cA.1 he' with rfl|he'
    ·rw[hm];exact fun z=>q (hinj z).symm
    ·exact h2 e' he'
theorem Jo (h0:Bj P T0 c0) (h1:Bj P T1 c1) (hK:Wg P K T0 T1):TW P K (sS c0 c1) where
 inj:=fun {a b} h=>by
  have e:=DT.2 (aam h)
  simp at e
  exact Prod.ext (h0.inj e.1) (h1.inj e.2)
 Mh:=fun e n x w=>by
  obtain⟨F0,F1,hu,n0,n1,o0,o1,t0,t1,hs⟩:=hK
  unfold Instr.checkKey
  simp only[bz,run_underlying hu,bw]
  rw[←Array.forIn_toList]
  simp only[List.forIn_cons,List.forIn_nil,n0,n1,ne_eq,not_false_eq_true,if_true,bz,o0,o1,t0,t1]
  rw[sK h0.one (v:=c0 x.1) rfl,bw,h0.Mh]
  simp only[bw,cG,bz]
  rw[sK h1.one (v:=c1 x.2) rfl,bw,h1.Mh]
  rfl
 find:=fun n es w h=>by
  have hinj:∀{a b:γ0×γ1},sS c0 c1 a=sS c0 c1 b→a=b:=fun {a b} h=>by
   have e:=DT.2 (aam h)
   simp at e
   exact Prod.ext (h0.inj e.1) (h1.inj e.2)
  have heq:∀(a b:γ0×γ1) (w:World),(Op.equal K (sS c0 c1 a) (sS c0 c1 b)).run P w= .ok (decide (a=b)) w:=fun a b w=>Ij h0 h1 hK a b 9998 w
  obtain⟨F0,F1,hu,_⟩:=hK
  simp only[ku,bz,run_underlying hu,bw,Dg]
  by_cases q:es=[]
  ·subst q;exact .inr ⟨rfl,by simp⟩
  ·rw[if_neg q]
   rcases va hinj heq n w es 0 h with⟨j,e,h1,h2,h3,h4⟩|⟨h1,h2⟩
   ·exact .inl ⟨j,e,h1,by simpa using h3,h4⟩
   ·exact .inr ⟨h1,h2⟩
 bits:=fun x=>by simp [kW,h0.bits,h1.bits]
variable {ro:Option Nat} {β:Bs} {env:Env} {L:List cq} {d:Option Nat} {ty:TypeId} {pos:String} {aft:Array Edge} {g:Option (Nat×Bool)}
theorem LO.neP {x y:Operand} {yT:Nat} {a b:γ0×γ1} (h0:Bj P T0 c0) (h1:Bj P T1 c1) (hK:Wg P K T0 T1) (hG:P.eqGuardType P.depth K=false) (hx:OV env x (sS c0 c1 a)) (hy:OV env y (sS c0 c1 b)):LO P β env L ⟨d,.binOp .neq K x y yT,ty,pos,aft,g⟩ (.bool (!decide (a=b))):=
 .ee fun ac w h hw=>⟨w,by
  have h2:=Ij h0 h1 hK a b 9998 w
  simp only[execOp,h x (by simp [az]) _ hx,h y (by simp [az]) _ hy,bz,run_eqGuard_agg w .neq K x y _ _ hG,bw,run_neq_struct,h2,cG],hw⟩
end
end Go.SL
