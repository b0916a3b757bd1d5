/-
  Groups, and events out of groups, in plain Lean.
  (and more)
-/
import Derived.Test.YtffbohecdocajaaGreatKV02
open List renaming getElem?_modify→j9,range→br,mem_filter→bK,mem_range→bf,range_succ→fA,filter_append→dI,mem_of_getElem?→al,append_nil→c9,ext_getElem?→cO,getElem?_map→aw,getElem?_modify_eq→oC,getElem?_eq_some_iff→aj,map_congr_left→fU,filter_eq_nil_iff→ff,length_map→aq,getElem?_append_right→aY,getElem?_append_left→aJ,getElem?_eq_none→aH,filter_congr→ia,mem_iff_getElem→cC,pairwise_iff_getElem→be,find?_eq_none→iz,mem_of_find?_eq_some→jG,find?_some→rD,find?_append→ph,getD_eq_getElem?_getD→av,getElem?_eq_getElem→af,mem_append→bZ,mem_singleton→bT,length_append→aZ,mem_map→bQ,length_singleton→cu,pairwise_map→gl,getElem_mem→fv,filter_cons→iN,filter_nil→mL,map_map→dG,length_pos_of_mem→kJ
open List.Pairwise renaming filter→tW
open Nat renaming lt_trichotomy→e9,le_refl→bA,lt_succ_iff_lt_or_eq→fV,sub_self→gJ,lt_succ_self→mY,lt_succ_of_lt→zc
open Option renaming map_some→dH
open Bool renaming false_eq_true→bP,and_eq_true→aQ,or_eq_true→fj
open Go.Op renaming equalIn→gP,operands→az
open Go.Sem renaming run_bind→bz,run_pure→cG
open Go.Result renaming andThen_ok→bw
open Option.some renaming inj→gV
open Go.Instr renaming findNow→kt,checkKey→mX,mapUpdate→lq
open Array renaming getElem?_eq_some_iff→eo,toList_push→jl

set_option linter.unusedSimpArgs false
set_option maxRecDepth 20000
set_option maxHeartbeats 8000000
namespace Go.Proofs.YtffbohecdocajaaGreat
open Go.SL
set_option linter.unusedVariables false
section
variable {α:Type} [DecidableEq α]
structure O2 (M:α→Option α) (ld:α→α):Prop where
 fix:∀x,M (ld x)=none
 stay:∀x,M x=none→ld x=x
 go:∀x y,M x=some y→ld y=ld x
 jZ:∃r:α→Nat,∀x y,M x=some y→r y<r x
inductive Em (J:α→α→Prop):α→α→Prop
 |refl (x):Em J x x
 |base {x y}:J x y→Em J x y
 |symm {x y}:Em J x y→Em J y x
 |trans {x y z}:Em J x y→Em J y z→Em J x z
theorem Em.mono {α:Type} {J K:α→α→Prop} (h:∀x y,J x y→K x y) {x y:α} (k:Em J x y):Em K x y:=by
 induction k with
 |refl x=>exact .refl x
 |base j=>exact .base (h _ _ j)
 |symm _ ih=>exact ih.symm
 |trans _ _ i1 i2=>exact i1.trans i2
theorem O2.nil {α:Type}:O2 (fun _:α=>none) id:=⟨fun _=>rfl,fun _ _=>rfl,fun _ _ h=>(by cases h),⟨fun _=>0,fun _ _ h=>(by cases h)⟩⟩
def Bn (M:α→Option α) (ld:α→α) (x y:α):α→Option α:=if ld x=ld y then M else mo M (ld y) (ld x)
def sD (ld:α→α) (x y:α):α→α:=fun z=>if ld z=ld y then ld x else ld z
theorem O2.idem {α:Type} {M:α→Option α} {ld:α→α} (h:O2 M ld) (x:α):ld (ld x)=ld x:=h.stay _ (h.fix x)
theorem O2.join {M:α→Option α} {ld:α→α} (h:O2 M ld) (x y:α):O2 (Bn M ld x y) (sD ld x y):=by
 unfold Bn
 split
 ·rename_i e
  have:sD ld x y=ld:=by funext z;unfold sD;split<;>simp_all
  rw[this];exact h
 ·rename_i e
  obtain⟨r,hr⟩:=h.jZ
  have lx:=h.idem x
  have ly:=h.idem y
  refine⟨fun z=>?_,fun z hz=>?_,fun z u hz=>?_,⟨fun z=>if ld z=ld y then r z+r (ld x)+1 else r z,fun z u hz=>?_⟩⟩
  ·show mo M (ld y) (ld x) (sD ld x y z)=none
   unfold sD
   by_cases q:ld z=ld y
   ·rw[if_pos q];unfold mo;rw[if_neg e];exact h.fix x
   ·rw[if_neg q];unfold mo;rw[if_neg q];exact h.fix z
  ·unfold mo at hz
   split at hz
   ·cases hz
   ·rename_i q
    have hs:=h.stay z hz
    unfold sD
    rw[hs,if_neg q]
  ·unfold mo at hz
   split at hz
   ·rename_i q
    cases hz
    subst q
    unfold sD
    rw[lx,ly,if_neg e,if_pos rfl]
   ·unfold sD
    rw[h.go z u hz]
  ·unfold mo at hz
   dsimp only
   split at hz
   ·rename_i q
    cases hz
    subst q
    rw[lx,ly,if_neg e,if_pos rfl];omega
   ·have:=hr z u hz
    rw[h.go z u hz]
    split<;>omega
theorem U1 {J:α→α→Prop} {ld:α→α} (h:∀a b,ld a=ld b↔Em J a b) (x y:α) (a b:α):sD ld x y a=sD ld x y b↔Em (fun a b=>J a b∨(a=x∧b=y)) a b:=by
 have up:∀{a b},ld a=ld b→Em (fun a b=>J a b∨(a=x∧b=y)) a b:=fun e=>((h _ _).1 e).mono fun _ _ j=>.inl j
 have xy:Em (fun a b=>J a b∨(a=x∧b=y)) x y:=.base (.inr ⟨rfl,rfl⟩)
 constructor
 ·unfold sD
  intro e
  split at e
  ·rename_i ha
   split at e
   ·rename_i hb;exact up (ha.trans hb.symm)
   ·exact(up ha).trans (xy.symm.trans (up e))
  ·rename_i ha
   split at e
   ·rename_i hb;exact(up e).trans (xy.trans (up hb).symm)
   ·exact up e
 ·intro k
  induction k with
  |refl x=>rfl
  |base j=>
   rcases j with j|⟨rfl,rfl⟩
   ·unfold sD;rw[(h _ _).2 (.base j)]
   ·unfold sD;rw[if_pos rfl];split<;>rfl
  |symm _ ih=>exact ih.symm
  |trans _ _ i1 i2=>exact i1.trans i2
end
theorem Fc {α:Type} {l:List α} {i j:Nat} {f:α→α} (h:i≠j):(l.modify i f)[j]? =l[j]? :=by simp [j9,h]
structure jS where
 kd:Int
 f:List Nat
 t:List Nat
def lG (a b:Nat):Int:=if a=0 then 2 else if b=0 then 3 else if a=1 then(if b=1 then 4 else 5) else if b=1 then 6 else 7
section
variable {α:Type} [DecidableEq α] {κ:Nat→α} {n t:Nat}
def mV (κ:Nat→α) (k:Nat):Bool:=decide (∀j,j<k→κ j≠κ k)
def jr (κ:Nat→α) (t:Nat):List Nat:=(br t).filter (mV κ)
def Fw (κ:Nat→α) (n t k:Nat):jS:=⟨0,(br (min t n)).filter (fun i=>decide (κ i=κ k)),(br (t-n)).filter (fun j=>decide (κ (n+j)=κ k))⟩
def HS (κ:Nat→α) (n t:Nat):List jS:=(jr κ t).map (Fw κ n t)
def wO (n t:Nat) (e:jS):jS:=if t<n then { e with f:=e.f++[t] } else { e with t:=e.t++[t-n] }
theorem lW {k:Nat}:k∈jr κ t↔k<t∧∀j,j<k→κ j≠κ k:=by unfold jr mV;rw[bK,bf,decide_eq_true_eq]
theorem x6:(jr κ t).Nodup:=tW _ List.nodup_range
theorem E7 {i j:Nat} (hi:i∈jr κ t) (hj:j∈jr κ t) (e:κ i=κ j):i=j:=by
 have a:=(lW.1 hi).2
 have b:=(lW.1 hj).2
 rcases e9 i j with q|q|q
 ·exact absurd e (b i q)
 ·exact q
 ·exact absurd e.symm (a j q)
theorem AX:jr κ (t+1)=jr κ t++if mV κ t then[t] else[]:=by
 unfold jr;rw[fA,dI]
 congr 1
 by_cases h:mV κ t=true
 ·simp [h]
 ·simp [h]
theorem IM (κ:Nat→α):∀k,∃j,j≤k∧κ j=κ k∧mV κ j=true:=fun k=>by
 induction k using Nat.strongRecOn with
 |_ k ih=>
  by_cases h:mV κ k=true
  ·exact⟨k,bA _,rfl,h⟩
  ·unfold mV at h
   rw[decide_eq_true_eq]at h
   obtain⟨j,hj⟩:=Classical.not_forall.1 h
   have hj2:j<k∧κ j=κ k:=by
    by_cases q:j<k
    ·exact⟨q,Classical.not_not.1 (fun z=>hj (fun _=>z))⟩
    ·exact absurd (fun z=>absurd z q) hj
   obtain⟨i,h1,h2,h3⟩:=ih j hj2.1
   exact⟨i,by omega,h2.trans hj2.2,h3⟩
theorem yV {k:Nat}:Fw κ n (t+1) k=if κ t=κ k then wO n t (Fw κ n t k) else Fw κ n t k:=by
 unfold Fw wO
 by_cases h:t<n
 ·rw[show min (t+1) n=min t n+1 by omega,fA,dI,show min t n=t by omega,show t+1-n=t-n by omega]
  by_cases e:κ t=κ k
  ·rw[if_pos e,if_pos h];simp [e]
  ·rw[if_neg e];simp [e]
 ·rw[show min (t+1) n=min t n by omega,show t+1-n=(t-n)+1 by omega,fA,dI]
  have:n+(t-n)=t:=by omega
  by_cases e:κ t=κ k
  ·rw[if_pos e,if_neg h];simp [this,e]
  ·rw[if_neg e];simp [this,e]
theorem Y2 {p k0:Nat} (hp:(jr κ t)[p]? =some k0) (he:κ k0=κ t):jr κ (t+1)=jr κ t∧HS κ n (t+1)=(HS κ n t).modify p (wO n t):=by
 have hk0:=al hp
 have h1:jr κ (t+1)=jr κ t:=by
  have:¬mV κ t=true:=fun h=>by
   unfold mV at h;rw[decide_eq_true_eq]at h
   exact h k0 (lW.1 hk0).1 he
  rw[AX,if_neg this,c9]
 refine⟨h1,?_⟩
 unfold HS
 rw[h1]
 refine cO fun i=>?_
 rw[aw]
 by_cases q:i=p
 ·subst q
  rw[oC,aw,hp]
  simp only[dH]
  rw[yV,if_pos he.symm];rfl
 ·rw[Fc (fun z=>q z.symm),aw]
  cases hi:(jr κ t)[i]? with
  |none=>rfl
  |some k=>
   simp only[dH]
   rw[yV,if_neg]
   intro e
   have:k=k0:=E7 (al hi) hk0 (e.symm.trans he.symm)
   subst this
   exact q ((List.getElem?_inj (aj.1 hi).1 x6).1 (hi.trans hp.symm))
theorem ZQ (h:∀j,j<t→κ j≠κ t):jr κ (t+1)=jr κ t++[t]∧HS κ n (t+1)=HS κ n t++[wO n t ⟨0,[],[]⟩]:=by
 have h1:jr κ (t+1)=jr κ t++[t]:=by
  have:mV κ t=true:=decide_eq_true h
  rw[AX,if_pos this]
 refine⟨h1,?_⟩
 unfold HS
 rw[h1,List.map_append]
 congr 1
 ·refine fU fun k hk=>?_
  rw[yV,if_neg fun e=>h k (lW.1 hk).1 e.symm]
 ·rw[List.map_singleton,yV,if_pos rfl]
  congr 2
  unfold Fw
  congr 1
  ·exact ff.2 fun i hi=>by have:=bf.1 hi;simpa using h i (by omega)
  ·exact ff.2 fun i hi=>by have:=bf.1 hi;simpa using h (n+i) (by omega)
structure KI (κ:Nat→α) (n t:Nat) (A:α→Option Nat) (l:List jS):Prop where
 l:l=HS κ n t
 ix:∀q p,A q=some p→∃k,(jr κ t)[p]? =some k∧κ k=q
 has:∀j,j<t→(A (κ j)).isSome=true
theorem KI.zero:KI κ n 0 (fun _=>none) []:=⟨rfl,fun _ _ h=>(by cases h),fun j h=>absurd h (Nat.not_lt_zero _)⟩
theorem KI.lt {A:α→Option Nat} {l:List jS} (h:KI κ n t A l) {q:α} {p:Nat} (hp:A q=some p):p<l.length:=by
 obtain⟨k,h1,_⟩:=h.ix q p hp
 rw[h.l];unfold HS;rw[aq]
 exact(aj.1 h1).1
def wJ (A:α→Option Nat) (q:α) (len:Nat):α→Option Nat:=if(A q).isSome=true then A else mo A q len
def oy (A:α→Option Nat) (q:α) (len:Nat):Nat:=(A q).getD len
theorem KI.step {A:α→Option Nat} {l:List jS} (h:KI κ n t A l):KI κ n (t+1) (wJ A (κ t) l.length) ((if(A (κ t)).isSome=true then l else l++[⟨0,[],[]⟩]).modify (oy A (κ t) l.length) (wO n t)):=by
 unfold wJ oy
 cases hA:A (κ t) with
 |some p=>
  obtain⟨k0,h1,h2⟩:=h.ix _ _ hA
  obtain⟨g1,g2⟩:=Y2 (n:=n) h1 h2
  simp only[Option.isSome_some,if_true,Option.getD_some]
  refine⟨by rw[g2, ←h.l],fun q p hq=>by rw[g1];exact h.ix q p hq,fun j hj=>?_⟩
  rcases fV.1 hj with q|rfl
  ·exact h.has j q
  ·rw[hA];rfl
 |none=>
  have hn:∀j,j<t→κ j≠κ t:=fun j hj e=>by
   have:=h.has j hj
   rw[e,hA]at this
   cases this
  obtain⟨g1,g2⟩:=ZQ (n:=n) hn
  have hl:l.length=(jr κ t).length:=by rw[h.l];unfold HS;rw[aq]
  simp only[Option.isSome_none,bP,if_false,Option.getD_none]
  refine⟨?_,fun q p hq=>?_,fun j hj=>?_⟩
  ·rw[g2, ←h.l]
   refine cO fun i=>?_
   by_cases q:i=l.length
   ·subst q
    rw[oC,aY (bA _),aY (bA _),gJ];rfl
   ·rw[Fc (fun z=>q z.symm)]
    rcases Nat.lt_or_ge i l.length with z|z
    ·rw[aJ z,aJ z]
    ·rw[aH (by simp;omega),aH (by simp;omega)]
  ·rw[g1]
   unfold mo at hq
   split at hq
   ·rename_i e
    cases hq;subst e
    exact⟨t,by rw[hl,aY (bA _),gJ];rfl,rfl⟩
   ·obtain⟨k,h1,h2⟩:=h.ix q p hq
    exact⟨k,by rw[aJ (aj.1 h1).1];exact h1,h2⟩
  ·unfold mo
   split
   ·rfl
   ·rename_i e
    rcases fV.1 hj with q|rfl
    ·exact h.has j q
    ·exact absurd rfl e
def wC (κ:Nat→α) (n m:Nat):List jS:=(HS κ n (n+m)).map fun e=>{ e with kd:=lG e.f.length e.t.length }
theorem L8 {β:Type} [DecidableEq β] {κ':Nat→β} {m:Nat} (h:∀i j,i<n+m→j<n+m→(κ i=κ j↔κ' i=κ' j)):wC κ n m=wC κ' n m:=by
 have hf:jr κ (n+m)=jr κ' (n+m):=by
  unfold jr
  refine ia fun k hk=>?_
  have hk:=bf.1 hk
  unfold mV
  rw[decide_eq_decide]
  exact⟨fun g j hj e=>g j hj ((h j k (by omega) hk).2 e),fun g j hj e=>g j hj ((h j k (by omega) hk).1 e)⟩
 unfold wC HS
 rw[hf]
 congr 1
 refine fU fun k hk=>?_
 have hk:=(lW.1 hk).1
 unfold Fw
 congr 1
 ·refine ia fun i hi=>?_
  have hi:=bf.1 hi
  rw[decide_eq_decide];exact h i k (by omega) hk
 ·refine ia fun i hi=>?_
  have hi:=bf.1 hi
  rw[decide_eq_decide];exact h (n+i) k (by omega) hk
end
section
variable {W H r:Nat} {oa ob:List Int} {p v u:Nat} {a b:Bool×Int}
structure Pr (W H r:Nat) (oa ob:List Int) (p v u:Nat) (a b:Bool×Int):Prop where
 hp:p<W*H
 hv:v≤p / W+r∧p / W≤v+r∧v<H
 hu:u≤p%W+r∧p%W≤u+r∧u<W
 ha:a=(false,oa.getD p (-1))∧0≤oa.getD p (-1)
 hb:b=(true,ob.getD (v*W+u) (-1))∧0≤ob.getD (v*W+u) (-1)
abbrev SU (p v u p2 v2 u2:Nat):Prop:=p<p2∨p=p2∧(v<v2∨v=v2∧u<u2)
structure Jw (W H r:Nat) (oa ob:List Int) (p2 v2 u2:Nat) (a b:Bool×Int):Prop where
 ex:∃p v u,SU p v u p2 v2 u2∧Pr W H r oa ob p v u a b
structure Jal (W H r:Nat) (oa ob:List Int) (a b:Bool×Int):Prop where
 ex:∃p v u,Pr W H r oa ob p v u a b
structure nr (J:Bool×Int→Bool×Int→Prop) (M:Bool×Int→Option (Bool×Int)):Prop where
 ex:∃ld,O2 M ld∧∀a b,ld a=ld b↔Em J a b
theorem Em.iff {α:Type} [DecidableEq α] {J K:α→α→Prop} (h:∀a b,J a b↔K a b) {a b:α}:Em J a b↔Em K a b:=⟨fun k=>k.mono fun x y=>(h x y).1,fun k=>k.mono fun x y=>(h x y).2⟩
theorem nr.congr {J K:Bool×Int→Bool×Int→Prop} {M:Bool×Int→Option (Bool×Int)} (g:nr J M) (h:∀a b,J a b↔K a b):nr K M:=by
 obtain⟨ld,h1,h2⟩:=g.ex
 exact⟨ld,h1,fun a b=>(h2 a b).trans (Em.iff h)⟩
theorem nr.zero:nr (Jw W H r oa ob 0 0 0) (fun _=>none):=⟨id,O2.nil,fun a b=>⟨fun e=>by cases e;exact .refl _,fun k=>by
 induction k with
 |refl _=>rfl
 |base j=>obtain⟨p,v,u,h,_⟩:=j.ex;omega
 |symm _ ih=>exact ih.symm
 |trans _ _ i1 i2=>exact i1.trans i2⟩⟩
theorem Jw.same {p1 v1 u1 p2 v2 u2:Nat} (h:∀p v u a b,Pr W H r oa ob p v u a b→(SU p v u p1 v1 u1↔SU p v u p2 v2 u2)) (a b:Bool×Int):Jw W H r oa ob p1 v1 u1 a b↔Jw W H r oa ob p2 v2 u2 a b:=
 ⟨fun⟨p,v,u,h1,h2⟩=>⟨p,v,u,(h _ _ _ _ _ h2).1 h1,h2⟩,fun⟨p,v,u,h1,h2⟩=>⟨p,v,u,(h _ _ _ _ _ h2).2 h1,h2⟩⟩
variable {M:Bool×Int→Option (Bool×Int)}
theorem nr.skip (g:nr (Jw W H r oa ob p 0 0) M) (h:oa.getD p (-1)<0):nr (Jw W H r oa ob (p+1) 0 0) M:=g.congr<|Jw.same fun p' v' u' a b hp=>by
 have:=hp.ha.2
 have:p'≠p:=fun e=>by subst e;omega
 unfold SU;omega
theorem nr.row (g:nr (Jw W H r oa ob p 0 0) M):nr (Jw W H r oa ob p (p / W-r) 0) M:=g.congr<|Jw.same fun p' v' u' a b hp=>by
 have h1:=hp.hv.2.1
 have:p'=p→p / W-r≤v':=fun e=>by subst e;omega
 unfold SU;omega
theorem nr.col (g:nr (Jw W H r oa ob p v 0) M):nr (Jw W H r oa ob p v (p%W-r)) M:=g.congr<|Jw.same fun p' v' u' a b hp=>by
 have h1:=hp.hu.2.1
 have:p'=p→p%W-r≤u':=fun e=>by subst e;omega
 unfold SU;omega
theorem nr.adU (g:nr (Jw W H r oa ob p v u) M) (h:W≤u∨p%W+r<u):nr (Jw W H r oa ob p (v+1) 0) M:=g.congr<|Jw.same fun p' v' u' a b hp=>by
 have h1:=hp.hu
 have:p'=p→u'<u:=fun e=>by subst e;omega
 unfold SU;omega
theorem nr.adk (g:nr (Jw W H r oa ob p v 0) M) (h:H≤v∨p / W+r<v):nr (Jw W H r oa ob (p+1) 0 0) M:=g.congr<|Jw.same fun p' v' u' a b hp=>by
 have h1:=hp.hv
 have:p'=p→v'<v:=fun e=>by subst e;omega
 unfold SU;omega
theorem nr.all (g:nr (Jw W H r oa ob (W*H) 0 0) M):nr (Jal W H r oa ob) M:=g.congr fun a b=>⟨fun⟨p,v,u,_,h⟩=>⟨p,v,u,h⟩,fun⟨p,v,u,h⟩=>⟨p,v,u,.inl h.hp,h⟩⟩
theorem nr.none_ (g:nr (Jw W H r oa ob p v u) M) (h:ob.getD (v*W+u) (-1)<0):nr (Jw W H r oa ob p v (u+1)) M:=g.congr<|Jw.same fun p' v' u' a b hp=>by
 have h1:=hp.hb.2
 have:¬(p'=p∧v'=v∧u'=u):=fun e=>by obtain⟨rfl,rfl,rfl⟩:=e;omega
 unfold SU;omega
theorem nr.join {ld:Bool×Int→Bool×Int} (h1:O2 M ld) (h2:∀a b,ld a=ld b↔Em (Jw W H r oa ob p v u) a b) (hp:p<W*H) (hv:v≤p / W+r∧p / W≤v+r∧v<H) (hu:u≤p%W+r∧p%W≤u+r∧u<W) (ha:0≤oa.getD p (-1)) (hb:0≤ob.getD (v*W+u) (-1)):
  nr (Jw W H r oa ob p v (u+1)) (Bn M ld (false,oa.getD p (-1)) (true,ob.getD (v*W+u) (-1))):=by
 refine⟨_,h1.join _ _,fun a b=>(U1 h2 _ _ a b).trans (Em.iff fun a b=>?_)⟩
 constructor
 ·rintro (⟨p',v',u',k1,k2⟩|⟨rfl,rfl⟩)
  ·exact⟨p',v',u',by unfold SU at*;omega,k2⟩
  ·exact⟨p,v,u,by unfold SU;omega,hp,hv,hu,⟨rfl,ha⟩,⟨rfl,hb⟩⟩
 ·rintro ⟨p',v',u',k1,k2⟩
  by_cases e:p'=p∧v'=v∧u'=u
  ·obtain⟨rfl,rfl,rfl⟩:=e
   exact .inr ⟨k2.ha.1,k2.hb.1⟩
  ·exact .inl ⟨p',v',u',by unfold SU at*;omega,k2⟩
def yK (n t:Nat):Bool×Int:=if t<n then(false,(t:Int)) else(true,((t-n:Nat):Int))
theorem Wo {n t:Nat} (h:t<n):yK n t=(false,(t:Int)):=if_pos h
theorem TD {n t:Nat}:yK n (n+t)=(true,(t:Int)):=by unfold yK;rw[if_neg (by omega),show n+t-n=t by omega]
structure UN (W H r:Nat) (oa ob:List Int) (n m:Nat) (l:List jS):Prop where
 ex:∃ld:Bool×Int→Bool×Int,(∀a b,ld a=ld b↔Em (Jal W H r oa ob) a b)∧l=wC (fun t=>ld (yK n t)) n m
end
end Go.Proofs.YtffbohecdocajaaGreat
namespace Go.SL
set_option linter.unusedVariables false
open Go.RowKit
section
variable {P:Program} {β:Bs} {env:Env} {L:List cq} {d:Option Nat} {ty:TypeId} {pos:String} {aft:Array Edge} {g:Option (Nat×Bool)} {T T2:TypeId} {x y:Operand} {u v:Value} {b:Bool} {E:Nat}
structure Wk (P:Program) (T:TypeId) (u v:Value) (b:Bool):Prop where
 h:∀w,(gP Op.maxDepth T u v).run P w= .ok b w
theorem ahg {p:Addr} (hT:∃E,P.underlying T=some (.pointer E)):Wk P T (.pointer (some p)) (.pointer none) false:=⟨fun w=>by
 obtain⟨E,hE⟩:=hT
 show(gP (9999+1) T (.pointer (some p)) (.pointer none)).run P w=_
 unfold Op.equalIn
 rw[bz,run_underlying hE]
 rfl⟩
theorem ak7 {p:Option Nat} (hT:∃K E,P.underlying T=some (.map K E)):Wk P T (.map p) (.map none) p.isNone:=⟨fun w=>by
 obtain⟨K,E,hE⟩:=hT
 show(gP (9999+1) T (.map p) (.map none)).run P w=_
 unfold Op.equalIn
 rw[bz,run_underlying hE]
 cases p<;>rfl⟩
theorem amd {p:Option Addr} {n c:Nat} (hT:dF P T E):Wk P T (.slice p n c) (.slice none 0 0) p.isNone:=⟨fun w=>by
 show(gP (9999+1) T (.slice p n c) (.slice none 0 0)).run P w=_
 unfold Op.equalIn
 rw[bz,run_underlying hT]
 cases p<;>rfl⟩
theorem LO.UX {op:BinOp} (hb:∀w,(binOp op T u v).run P w= .ok (.bool b) w) (hg:∀w,(eqGuard op T x y u v).run P w= .ok () w) (hx:OV env x u) (hy:OV env y v):LO P β env L ⟨d,.binOp op T x y T2,ty,pos,aft,g⟩ (.bool b):=
 .ee fun a w h hw=>⟨w,by
  simp only[execOp,h x (by simp [az]) _ hx,h y (by simp [az]) _ hy,bz,cG,bw,hb,hg],hw⟩
theorem LO.amF {p:Addr} (hT:∃E,P.underlying T=some (.pointer E)) (hx:OV env x (.pointer (some p))) (hy:OV env y (.pointer none)):LO P β env L ⟨d,.binOp .neq T x y T2,ty,pos,aft,g⟩ (.bool true):=LO.UX (fun w=>by simp only[binOp,Op.equal,bz,(ahg hT).h,bw,cG];rfl) (fun _=>rfl) hx hy
theorem LO.neM {p:Option Nat} (hT:∃K E,P.underlying T=some (.map K E)) (hx:OV env x (.map p)) (hy:OV env y (.map none)):LO P β env L ⟨d,.binOp .neq T x y T2,ty,pos,aft,g⟩ (.bool p.isSome):=LO.UX (fun w=>by simp only[binOp,Op.equal,bz,(ak7 hT).h,bw,cG];cases p<;>rfl) (fun _=>rfl) hx hy
theorem LO.alF {p:Option Addr} {n c:Nat} (hT:dF P T E) (hx:OV env x (.slice p n c)) (hy:OV env y (.slice none 0 0)):LO P β env L ⟨d,.binOp .eql T x y T2,ty,pos,aft,g⟩ (.bool p.isNone):=LO.UX (fun w=>by simp only[binOp,Op.equal,bz,(amd hT).h,bw,cG]) (fun _=>rfl) hx hy
end
theorem St.nq {β:Bs} {L Rs:List cq} {r:cq} {w:World} (h:St β (r::Go.SL.bS Rs::L) w):St β (Go.SL.bS (Rs++[r])::L) w:=St.vR (A:=Rs) (B:=[]) (by rw[c9];exact h)
end Go.SL
namespace Go.Cell
set_option linter.unusedVariables false
section
variable {W H:Nat} {S:Nat→Bool} {p q r:Nat} {out out0:List Bool} {gr:Bool}
theorem sy {f:Nat→Bool} {n:Nat}:((br n).filter f).Pairwise (· < ·):=tW _ (List.pairwise_lt_range)
end
end Go.Cell
namespace Go.Proofs.YtffbohecdocajaaGreat
open Go.SL Go.Cell
set_option linter.unusedVariables false
def zEv:jS:=⟨0,[],[]⟩
def Hm (es:List jS) (j:Nat):jS:=(es.find? fun e=>decide (j∈e.t)).getD zEv
def qY (es:List jS) (i:Nat):jS:=(es.find? fun e=>decide (i∈e.f)).getD zEv
structure iq (n m:Nat) (es:List jS):Prop where
 kd:∀e,e∈es→e.kd=lG e.f.length e.t.length∧0<e.f.length+e.t.length
 fs:∀e,e∈es→e.f.Pairwise (· < ·)∧∀i,i∈e.f→i<n
 ts:∀e,e∈es→e.t.Pairwise (· < ·)∧∀j,j∈e.t→j<m
 apart:es.Pairwise fun a b=>(∀i,i∈a.f→i∉b.f)∧∀j,j∈a.t→j∉b.t
 ac8:∀i,i<n→∃e,e∈es∧i∈e.f
 aiv:∀j,j<m→∃e,e∈es∧j∈e.t
section
variable {n m i j k:Nat} {es es':List jS} {e:jS}
theorem Dq {a b:Nat} (h:lG a b=4):a=1∧b=1:=by
 unfold lG at h
 repeat' split at h
 all_goals first |omega|(exact absurd h (by decide))
theorem Jt (a b:Nat):2≤lG a b∧lG a b≤7:=by
 unfold lG
 by_cases h1:a=0<;>by_cases h2:b=0<;>by_cases h3:a=1<;>by_cases h4:b=1<;>simp [h1,h2,h3,h4]
theorem yd {l:List Nat} (h:l.length=1):l=[l.headD 0]:=by
 cases l with
 |nil=>simp at h
 |cons a l=>cases l with
  |nil=>rfl
  |cons b l=>simp at h
theorem iq.kept (h:iq n m es) (he:e∈es) (hk:e.kd=4):e.f=[e.f.headD 0]∧e.t=[e.t.headD 0]:=by
 rw[(h.kd e he).1]at hk
 exact⟨yd (Dq hk).1,yd (Dq hk).2⟩
theorem iq.aje (h:iq n m es) {a b:jS} (ha:a∈es) (hb:b∈es) (h1:i∈a.f) (h2:i∈b.f):a=b:=by
 obtain⟨x,hx,rfl⟩:=cC.1 ha
 obtain⟨y,hy,rfl⟩:=cC.1 hb
 have hp:=be.1 h.apart
 rcases e9 x y with z|z|z
 ·exact absurd h2 ((hp x y hx hy z).1 i h1)
 ·subst z;rfl
 ·exact absurd h1 ((hp y x hy hx z).1 i h2)
theorem iq.UG (h:iq n m es) {a b:jS} (ha:a∈es) (hb:b∈es) (h1:j∈a.t) (h2:j∈b.t):a=b:=by
 obtain⟨x,hx,rfl⟩:=cC.1 ha
 obtain⟨y,hy,rfl⟩:=cC.1 hb
 have hp:=be.1 h.apart
 rcases e9 x y with z|z|z
 ·exact absurd h2 ((hp x y hx hy z).2 j h1)
 ·subst z;rfl
 ·exact absurd h1 ((hp y x hy hx z).2 j h2)
theorem vT {P:jS→Bool} (he:e∈es) (hp:P e=true) (hu:∀a,a∈es→P a=true→a=e):es.find? P=some e:=by
 cases h:es.find? P with
 |none=>exact absurd hp (by simpa using iz.1 h e he)
 |some a=>rw[hu a (jG h) (rD h)]
theorem iq.L6 (h:iq n m es) (he:e∈es) (hi:i∈e.f):qY es i=e:=by
 unfold qY;rw[vT he (decide_eq_true hi) fun a ha hp=>h.aje ha he (of_decide_eq_true hp) hi];rfl
theorem iq.Vc (h:iq n m es) (he:e∈es) (hj:j∈e.t):Hm es j=e:=by
 unfold Hm;rw[vT he (decide_eq_true hj) fun a ha hp=>h.UG ha he (of_decide_eq_true hp) hj];rfl
theorem iq.PR (h:iq n m es) (hi:i<n):qY es i∈es∧i∈(qY es i).f:=by
 obtain⟨e,he,hie⟩:=h.ac8 i hi
 rw[h.L6 he hie];exact⟨he,hie⟩
theorem iq.YH (h:iq n m es) (hj:j<m):Hm es j∈es∧j∈(Hm es j).t:=by
 obtain⟨e,he,hje⟩:=h.aiv j hj
 rw[h.Vc he hje];exact⟨he,hje⟩
theorem Jh (h:∀e,e∈es→i∉e.f):qY es i=zEv:=by
 unfold qY;rw[iz.2 fun e he=>by simpa using h e he];rfl
theorem yO:qY (es++[e]) i=if(∃a,a∈es∧i∈a.f) then qY es i else if i∈e.f then e else zEv:=by
 unfold qY
 rw[ph]
 split
 ·rename_i h
  obtain⟨a,ha,hi⟩:=h
  cases hq:es.find? (fun e=>decide (i∈e.f)) with
  |none=>exact absurd (decide_eq_true hi) (by simpa using iz.1 hq a ha)
  |some b=>rfl
 ·rename_i h
  rw[iz.2 fun a ha=>by simpa using fun hi=>h ⟨a,ha,hi⟩]
  split
  ·rename_i q;simp [q]
  ·rename_i q;simp [q]
end
structure jf where
 bg:Int
 fr:Nat
 ar:List Nat
 en:Int
 pa:List Nat
 ch:List Nat
def jf.last (t:jf):Nat:=t.ar.getD (t.ar.length-1) 0
def jf.up (t:jf):Nat:=t.fr+t.ar.length
def Vj (e:jS) (t:jf):jf:=if e.kd=4 then { t with ar:=t.ar++[e.t.headD 0] } else { t with en:=e.kd }
def kL (N:Nat) (es:List jS) (t:jf):jf:=if t.up=N then Vj (qY es t.last) t else t
def cut (e:jS) (j:Nat):jS:={ e with f:=e.f.take j }
section
variable {N n i j k k0 a:Nat} {es es':List jS} {e:jS} {t:jf} {tk tk0:List jf} {of of0:Nat×Nat→Option Nat}
theorem abB (h:t.en=0):Vj zEv t=t:=by
 unfold Vj;rw[if_neg (by decide)];cases t;simp [zEv]at h ⊢;exact h.symm
structure RX (N:Nat) (tk:List jf) (of:Nat×Nat→Option Nat):Prop where
 Pd:∀n i k,of (n,i)=some k↔∃t,tk[k]? =some t∧t.fr≤n∧t.ar[n-t.fr]? =some i
 pos:∀t,t∈tk→0<t.ar.length∧t.up≤N
 en:∀t,t∈tk→t.up=N→t.en=0
theorem tj (h:0<t.ar.length):t.ar[t.ar.length-1]? =some t.last:=by
 unfold jf.last;rw[av,af (by omega)];rfl
theorem RX.lt (h:RX N tk of) {n i:Nat} (hs:of (n,i)=some k):n<N∧k<tk.length:=by
 obtain⟨t,h1,h2,h3⟩:=(h.Pd n i k).1 hs
 have h4:=(h.pos t (al h1)).2
 unfold jf.up at h4
 have h5:=(aj.1 h3).1
 exact⟨by omega,(aj.1 h1).1⟩
theorem RX.at (h:RX (N+1) tk of) (hk:of (N,a)=some k0):∃t,tk[k0]? =some t∧t.up=N+1∧t.last=a:=by
 obtain⟨t,h1,h2,h3⟩:=(h.Pd N a k0).1 hk
 have h4:=h.pos t (al h1)
 unfold jf.up at h4
 have h5:=(aj.1 h3).1
 have e:N-t.fr=t.ar.length-1:=by omega
 refine⟨t,h1,by unfold jf.up;omega,?_⟩
 rw[e,tj h4.1]at h3
 exact gV h3
theorem RX.only (h:RX (N+1) tk of) (hk:of (N,a)=some k0) (hi:tk[i]? =some t) (hu:t.up=N+1) (hl:t.last=a):i=k0:=by
 have hp:=h.pos t (al hi)
 have:of (N,a)=some i:=(h.Pd N a i).2 ⟨t,hi,by unfold jf.up at hu;omega,by
  have e:N-t.fr=t.ar.length-1:=by unfold jf.up at hu;omega
  rw[e,tj hp.1,hl]⟩
 rw[hk]at this
 exact(gV this).symm
theorem Jc (h:∀t,t∈tk→t.up=N→t.en=0):tk.map (kL N (es++[cut e 0]))=tk.map (kL N es):=by
 refine fU fun t ht=>?_
 unfold kL
 split
 ·rw[yO]
  split
  ·rfl
  ·rename_i q
   rw[if_neg (by simp [cut]),Jh fun a ha hi=>q ⟨a,ha,hi⟩]
 ·rfl
theorem PZ:cut e e.f.length=e:=by unfold cut;rw[List.take_length]
theorem Z8 (h:∀t,t∈tk→t.up=N→t.en=0):tk.map (kL N [])=tk:=by
 conv=>rhs;rw[←List.map_id tk]
 refine fU fun t ht=>?_
 unfold kL
 split
 ·rename_i q;rw[Jh (by simp)];exact abB (h t ht q)
 ·rfl
theorem IQ (h:RX (N+1) tk of) (hk:of (N,a)=some k0) (ha:e.f[j]? =some a) (hn:e.f.Nodup) (hes:∀x,x∈es→a∉x.f):
  (tk.map (kL (N+1) (es++[cut e j]))).modify k0 (Vj e)=tk.map (kL (N+1) (es++[cut e (j+1)])):=by
 refine cO fun i=>?_
 rw[j9,aw,aw]
 cases ht:tk[i]? with
 |none=>by_cases q:k0=i<;>simp [q]
 |some t=>
  obtain⟨hj,rfl⟩:=aj.1 ha
  have htake:∀x,x∈(cut e (j+1)).f↔x∈(cut e j).f∨x=e.f[j]:=fun x=>by
   unfold cut
   show x∈e.f.take (j+1)↔x∈e.f.take j∨_
   rw[List.take_succ_eq_append_getElem hj,bZ,bT]
  have hnot:e.f[j]∉(cut e j).f:=fun hm=>by
   obtain⟨x,hx,hx2⟩:=cC.1 hm
   have hx3:x<j:=by
    have:x<(e.f.take j).length:=hx
    rw[List.length_take]at this;omega
   have hx4:e.f[x]'(by omega)=e.f[j]:=by
    rw[←hx2]
    have hx':x<(e.f.take j).length:=hx
    have:(e.f.take j)[x]'hx'=e.f[x]'(by omega):=List.getElem_take
    exact this.symm
   exact be.1 hn x j (by omega) hj hx3 hx4
  simp only[dH]
  by_cases q:k0=i
  ·subst q
   obtain⟨t',h1,h2,h3⟩:=h.at hk
   rw[ht]at h1;cases h1
   have he0:=h.en t (al ht) h2
   have hes':¬∃x,x∈es∧e.f[j]∈x.f:=fun⟨x,hx,hx2⟩=>hes x hx hx2
   have b1:qY (es++[cut e j]) t.last=zEv:=by rw[h3,yO,if_neg hes',if_neg hnot]
   have b2:qY (es++[cut e (j+1)]) t.last=cut e (j+1):=by rw[h3,yO,if_neg hes',if_pos ((htake _).2 (.inr rfl))]
   have e1:kL (N+1) (es++[cut e j]) t=t:=by unfold kL;rw[if_pos h2,b1,abB he0]
   have e2:kL (N+1) (es++[cut e (j+1)]) t=Vj e t:=by unfold kL;rw[if_pos h2,b2];rfl
   simp only[if_true,e1,e2];rfl
  ·simp only[q,if_false]
   have key:kL (N+1) (es++[cut e j]) t=kL (N+1) (es++[cut e (j+1)]) t:=by
    unfold kL
    split
    ·rename_i hu
     have hla:t.last≠e.f[j]:=fun z=>q (h.only hk ht hu z).symm
     rw[yO,yO]
     split
     ·rfl
     ·by_cases z:t.last∈(cut e j).f
      ·rw[if_pos z,if_pos ((htake _).2 (.inl z))];rfl
      ·rw[if_neg z,if_neg fun y=>((htake _).1 y).elim z hla]
    ·rfl
   rw[key];rfl
def wT (N:Nat) (es:List jS) (of0:Nat×Nat→Option Nat) (x:Nat×Nat):Option Nat:=
 if x.1=N+1 then((es.find? fun e=>decide (e.kd=4)&&decide (x.2∈e.t)).bind fun e=>of0 (N,e.f.headD 0)) else of0 x
theorem Zg (h:RX (N+1) tk of):wT N [] of=of:=by
 funext x
 unfold wT
 split
 ·rename_i q
  cases hz:of x with
  |none=>rfl
  |some k=>have:=(h.lt (n:=x.1) (i:=x.2) hz).1;omega
 ·rfl
theorem OY {i:Nat}:wT N es of0 (N,i)=of0 (N,i):=if_neg (Nat.ne_of_lt (mY N))
theorem U9 (h:e.kd≠4):wT N (es++[e]) of0=wT N es of0:=by
 funext x
 unfold wT
 split
 ·rw[ph];simp [h]
 ·rfl
theorem Tz {b:Nat} (hk:e.kd=4) (hb:e.t=[b]) (h0:of0 (N,e.f.headD 0)=some k0) (hes:∀x,x∈es→b∉x.t):mo (wT N es of0) (N+1,b) k0=wT N (es++[e]) of0:=by
 funext x
 obtain⟨x1,x2⟩:=x
 unfold mo wT
 by_cases q:x1=N+1
 ·subst q
  simp only[if_true]
  rw[ph]
  by_cases z:x2=b
  ·subst z
   rw[if_pos rfl,iz.2 fun a ha=>by simp [hes a ha]]
   simp [hk,hb,h0]
   simp [←h0]
  ·rw[if_neg (by simp [z])]
   cases hq:es.find? (fun e=>decide (e.kd=4)&&decide (x2∈e.t)) with
   |some a=>rfl
   |none=>simp [hb,z]
 ·rw[if_neg (by simp [q]),if_neg q,if_neg q]
end
def zT:jf:=⟨0,0,[],0,[],[]⟩
def xD (N:Nat) (jz:List jS) (j:Nat):Bool:=decide (N=0∨(Hm jz j).kd≠4)
def trB (N:Nat) (jz:List jS) (ps:List Nat) (j:Nat):jf:=⟨if N=0 then 1 else(Hm jz j).kd,N,[j],0,ps,[]⟩
def oe (tk:List jf) (ps:List Nat) (n:Nat):List jf:=tk.mapIdx fun p t=>if p∈ps then { t with ch:=t.ch++[n] } else t
def Jb (tk:List jf) (N:Nat) (f:List Nat):List Nat:=(br tk.length).filter fun p=>decide ((tk.getD p zT).up=N∧(tk.getD p zT).last∈f)
def ve (tk:List jf) (N:Nat) (jz:List jS) (j:Nat):List Nat:=if N=0 then[] else Jb tk N (Hm jz j).f
def tl (evss:List (List jS)) (x y:jf):Bool:=decide (x.up=y.fr∧0<y.fr∧x.last∈(Hm (evss.getD y.fr []) (y.ar.headD 0)).f)
structure j6 (evss:List (List jS)) (ms:List Nat) (j:Nat) (tk:List jf) (of:Nat×Nat→Option Nat):Prop where
 base:RX ms.length tk of
 len:evss.length=ms.length
 Mm:∀n i,n<ms.length→i<ms.getD n 0→(n+1<ms.length∨i<j∨xD n (evss.getD n []) i=false)→∃k,of (n,i)=some k
 hd:∀t,t∈tk→t.fr+1=ms.length→t.ar.headD 0<j
 pM:∀t,t∈tk→∀(j a:Nat),t.ar[j]? =some a→a<ms.getD (t.fr+j) 0
 bg:∀t,t∈tk→(t.fr=0∧t.bg=1)∨(0<t.fr∧t.bg=(Hm (evss.getD t.fr []) (t.ar.headD 0)).kd∧t.bg≠4)
 step:∀t,t∈tk→∀(j a b:Nat),t.ar[j]? =some a→t.ar[j+1]? =some b→(qY (evss.getD (t.fr+j+1) []) a).kd=4∧(qY (evss.getD (t.fr+j+1) []) a).t=[b]
 en:∀t,t∈tk→t.en=(if t.up=ms.length then 0 else(qY (evss.getD t.up []) t.last).kd)∧t.en≠4
 ord:tk.Pairwise fun a b=>a.fr<b.fr∨a.fr=b.fr∧a.ar.headD 0<b.ar.headD 0
 pa:∀(k:Nat) (t:jf),tk[k]? =some t→t.pa=(br tk.length).filter fun i=>tl evss (tk.getD i zT) t
 ch:∀(k:Nat) (t:jf),tk[k]? =some t→t.ch=(br tk.length).filter fun i=>tl evss t (tk.getD i zT)
structure tB (evss:List (List jS)) (ms:List Nat) (tk:List jf) (of:Nat×Nat→Option Nat):Prop where
 q:j6 evss ms (ms.getD (ms.length-1) 0) tk of
theorem tB.zero:tB [] [] [] (fun _=>none):=⟨⟨⟨fun n i k=>by simp,by simp,by simp⟩,rfl,fun n i h=>absurd h (Nat.not_lt_zero _),by simp,by simp,by simp,by simp,by simp,by simp,fun k t h=>by simp at h,fun k t h=>by simp at h⟩⟩
section
variable {evss:List (List jS)} {ms:List Nat} {jz:List jS} {N m j k:Nat} {tk:List jf} {of:Nat×Nat→Option Nat} {t:jf}
theorem qX {α:Type} {l:List α} {x d:α} {i:Nat} (h:i<l.length):(l++[x]).getD i d=l.getD i d:=by
 rw[av,av,aJ h]
theorem lJ {α:Type} {l:List α} {x d:α}:(l++[x]).getD l.length d=x:=by
 rw[av,aY (bA _),gJ];rfl
theorem ov {α:Type} {l:List α} {d x:α} {i:Nat} (h:l[i]? =some x):l.getD i d=x:=by rw[av,h];rfl
theorem U4 {l:List Nat} {b:Nat} (h:0<l.length):(l++[b]).headD 0=l.headD 0:=by cases l with|nil=>simp at h|cons a l=>rfl
theorem Zc {l:List Nat} (h:0<l.length):l[0]? =some (l.headD 0):=by cases l with|nil=>simp at h|cons a l=>rfl
theorem kx (N:Nat) (jz:List jS) (t:jf):(t.up≠N∧kL N jz t=t)∨(t.up=N∧(qY jz t.last).kd=4∧kL N jz t={ t with ar:=t.ar++[(qY jz t.last).t.headD 0] })∨(t.up=N∧(qY jz t.last).kd≠4∧kL N jz t={ t with en:=(qY jz t.last).kd }):=by
 unfold kL Vj
 by_cases h:t.up=N
 ·rw[if_pos h]
  by_cases k:(qY jz t.last).kd=4
  ·rw[if_pos k];exact .inr (.inl ⟨h,k,rfl⟩)
  ·rw[if_neg k];exact .inr (.inr ⟨h,k,rfl⟩)
 ·rw[if_neg h];exact .inl ⟨h,rfl⟩
theorem nR:(kL N jz t).fr=t.fr∧(kL N jz t).bg=t.bg∧(kL N jz t).pa=t.pa∧(kL N jz t).ch=t.ch:=by
 rcases kx N jz t with⟨_,e⟩|⟨_,_,e⟩|⟨_,_,e⟩<;>rw[e]<;>exact⟨rfl,rfl,rfl,rfl⟩
theorem yq (h:0<t.ar.length):(kL N jz t).ar.headD 0=t.ar.headD 0:=by
 rcases kx N jz t with⟨_,e⟩|⟨_,_,e⟩|⟨_,_,e⟩<;>rw[e]
 exact U4 h
theorem j6.first (h:tB [] [] tk of):j6 [[]] [m] 0 tk of:=by
 have hq:=h.q
 have e:tk=[]:=by
  cases tk with
  |nil=>rfl
  |cons t l=>have z:=hq.base.pos t (by simp);unfold jf.up at z;rw[List.length_nil]at z;omega
 subst e
 have ho:∀n i,of (n,i)=none:=fun n i=>by
  cases z:of (n,i) with
  |none=>rfl
  |some k=>have:=(hq.base.lt z).1;simp at this
 exact⟨⟨fun n i k=>by rw[ho];simp,by simp,by simp⟩,rfl,fun n i h1 h2 h3=>by
  have h1:n=0:=by simpa using h1
  subst h1
  rcases h3 with z|z|z
  ·simp at z
  ·omega
  ·simp [xD]at z,by simp,by simp,by simp,by simp,by simp,by simp,fun k t h=>by simp at h,fun k t h=>by simp at h⟩
theorem j6.change (h:tB evss ms tk of) (hN:ms.length=N+1) (hg:iq (ms.getD N 0) m jz):j6 (evss++[jz]) (ms++[m]) 0 (tk.map (kL (N+1) jz)) (wT N jz of):=by
 have hq:=h.q
 have hb:=hq.base
 rw[hN]at hb
 have hel:evss.length=N+1:=by rw[hq.len,hN]
 have hE1:∀n,n<N+1→(evss++[jz]).getD n []=evss.getD n []:=fun n hn=>qX (by omega)
 have Gy:(evss++[jz]).getD (N+1) []=jz:=by rw[←hel];exact lJ
 have hM1:∀n,n<N+1→(ms++[m]).getD n 0=ms.getD n 0:=fun n hn=>qX (by omega)
 have hM2:(ms++[m]).getD (N+1) 0=m:=by rw[←hN];exact lJ
 have hln:(ms++[m]).length=N+2:=by rw[aZ,hN];rfl
 have hlast:∀t,t∈tk→t.up=N+1→t.last<ms.getD N 0:=fun t ht hu=>by
  have h1:=hq.pM t ht _ _ (tj (hb.pos t ht).1)
  have h2:=(hb.pos t ht).1
  unfold jf.up at hu
  rwa [show t.fr+(t.ar.length-1)=N by omega]at h1
 have hkept:∀t,t∈tk→t.up=N+1→(qY jz t.last).kd=4→qY jz t.last∈jz∧(qY jz t.last).f=[t.last]∧(qY jz t.last).t=[(qY jz t.last).t.headD 0]∧(qY jz t.last).t.headD 0<m:=fun t ht hu hk=>by
  obtain⟨h1,h2⟩:=hg.PR (hlast t ht hu)
  obtain⟨h3,h4⟩:=hg.kept h1 hk
  refine⟨h1,?_,h4,(hg.ts _ h1).2 _ (by rw[h4];simp)⟩
  have h5:t.last∈[(qY jz t.last).f.headD 0]:=by rw[←h3];exact h2
  exact h3.trans (congrArg (fun x=>[x]) (bT.1 h5).symm)
 have hget:∀{k t},(tk.map (kL (N+1) jz))[k]? =some t→∃t0,tk[k]? =some t0∧t=kL (N+1) jz t0:=fun {k t} hk=>by
  rw[aw]at hk
  cases z:tk[k]? with
  |none=>rw[z]at hk;cases hk
  |some t0=>rw[z]at hk;exact⟨t0,z,(gV hk).symm⟩
 have hmem:∀{t},t∈tk.map (kL (N+1) jz)→∃t0,t0∈tk∧t=kL (N+1) jz t0:=fun {t} ht=>by
  obtain⟨t0,h1,h2⟩:=bQ.1 ht;exact⟨t0,h1,h2.symm⟩
 refine⟨⟨fun n i k=>?_,fun t ht=>?_,fun t ht hu=>?_⟩,by rw[aZ,hln,hel];rfl,fun n i hn hi hc=>?_,fun t ht hf=>?_,fun t ht=>?_,fun t ht=>?_,fun t ht=>?_,fun t ht=>?_,?_,fun k t hk=>?_,fun k t hk=>?_⟩
 ·
  unfold wT
  by_cases q:n=N+1
  ·subst q
   simp only[if_true]
   constructor
   ·intro hs
    obtain⟨e,he1,he2⟩:=Option.bind_eq_some_iff.1 hs
    have hem:=jG he1
    have hp:=rD he1
    simp only[aQ,decide_eq_true_eq]at hp
    obtain⟨hk3,hk4⟩:=hg.kept hem hp.1
    obtain⟨t,t1,t2,t3⟩:=hb.at he2
    have hbe:qY jz t.last=e:=hg.L6 hem (by rw[t3,hk3];simp)
    have hbi:e.t.headD 0=i:=by have:=hp.2;rw[hk4]at this;exact(bT.1 this).symm
    refine⟨kL (N+1) jz t,by rw[aw,t1];rfl,?_,?_⟩
    ·rw[nR.1];unfold jf.up at t2;omega
    ·rcases kx (N+1) jz t with⟨z,_⟩|⟨_,_,z⟩|⟨_,z,_⟩
     ·exact absurd t2 z
     ·rw[z,hbe,hbi]
      show(t.ar++[i])[N+1-t.fr]? =some i
      rw[aY (by unfold jf.up at t2;omega),show N+1-t.fr-t.ar.length=0 by unfold jf.up at t2;omega];rfl
     ·rw[hbe]at z;exact absurd hp.1 z
   ·rintro ⟨t,h1,h2,h3⟩
    obtain⟨t0,h4,rfl⟩:=hget h1
    have hp:=hb.pos t0 (al h4)
    have h5:=(aj.1 h3).1
    rw[nR.1]at h2 h3 h5
    rcases kx (N+1) jz t0 with⟨z1,z⟩|⟨z1,z2,z⟩|⟨z1,z2,z⟩
    ·rw[z]at h5;unfold jf.up at hp;omega
    ·rw[z]at h3
     have h3:(t0.ar++[(qY jz t0.last).t.headD 0])[N+1-t0.fr]? =some i:=h3
     rw[aY (by unfold jf.up at z1;omega),show N+1-t0.fr-t0.ar.length=0 by unfold jf.up at z1;omega]at h3
     have h3:(qY jz t0.last).t.headD 0=i:=gV h3
     obtain⟨k1,k2,k3,k4⟩:=hkept t0 (al h4) z1 z2
     rw[vT (e:=qY jz t0.last) k1 (by rw[z2,k3,h3];simp) (fun a ha hp=>by
      simp only[aQ,decide_eq_true_eq]at hp
      exact hg.UG ha k1 hp.2 (by rw[k3,h3];simp))]
     show of (N,(qY jz t0.last).f.headD 0)=some k
     rw[k2]
     show of (N,t0.last)=some k
     refine(hb.Pd N t0.last k).2 ⟨t0,h4,by unfold jf.up at z1;omega,?_⟩
     rw[show N-t0.fr=t0.ar.length-1 by unfold jf.up at z1;omega]
     exact tj hp.1
    ·rw[z]at h5
     have h5:N+1-t0.fr<t0.ar.length:=h5
     unfold jf.up at z1;omega
  ·rw[if_neg q]
   constructor
   ·intro hs
    have hlt:=(hb.lt hs).1
    obtain⟨t,h1,h2,h3⟩:=(hb.Pd n i k).1 hs
    refine⟨kL (N+1) jz t,by rw[aw,h1];rfl,by rw[nR.1];exact h2,?_⟩
    rw[nR.1]
    rcases kx (N+1) jz t with⟨_,z⟩|⟨_,_,z⟩|⟨_,_,z⟩<;>rw[z]
    ·exact h3
    ·show(t.ar++_)[n-t.fr]? =some i
     rw[aJ (aj.1 h3).1];exact h3
    ·exact h3
   ·rintro ⟨t,h1,h2,h3⟩
    obtain⟨t0,h4,rfl⟩:=hget h1
    rw[nR.1]at h2 h3
    refine(hb.Pd n i k).2 ⟨t0,h4,h2,?_⟩
    rcases kx (N+1) jz t0 with⟨_,z⟩|⟨z1,_,z⟩|⟨_,_,z⟩<;>rw[z]at h3
    ·exact h3
    ·have h3:(t0.ar++[(qY jz t0.last).t.headD 0])[n-t0.fr]? =some i:=h3
     have h5:=(aj.1 h3).1
     rw[aZ]at h5
     simp only[cu]at h5
     unfold jf.up at z1
     rwa [aJ (by omega)]at h3
    ·exact h3
 ·obtain⟨t0,h1,rfl⟩:=hmem ht
  have hp:=hb.pos t0 h1
  rw[hln]
  rcases kx (N+1) jz t0 with⟨_,z⟩|⟨z1,_,z⟩|⟨_,_,z⟩<;>rw[z]
  ·exact⟨hp.1,by omega⟩
  ·refine⟨by show 0<(t0.ar++_).length;rw[aZ];omega,?_⟩
   show t0.fr+(t0.ar++_).length≤N+2
   unfold jf.up at z1;rw[aZ,cu];omega
  ·exact⟨hp.1,by show t0.up≤N+2;omega⟩
 ·obtain⟨t0,h1,rfl⟩:=hmem ht
  have hp:=hb.pos t0 h1
  rw[hln]at hu
  rcases kx (N+1) jz t0 with⟨_,z⟩|⟨z1,_,z⟩|⟨_,_,z⟩<;>rw[z]at hu ⊢
  ·omega
  ·exact hb.en t0 h1 z1
  ·have hu:t0.up=N+2:=hu
   omega
 ·rw[hln]at hn hc
  by_cases q:n=N+1
  ·subst q
   rw[hM2]at hi
   rcases hc with z|z|z
   ·omega
   ·omega
   ·rw[Gy]at z
    unfold xD at z
    have z:(Hm jz i).kd=4:=by simpa using z
    obtain⟨h1,h2⟩:=hg.YH hi
    obtain⟨h3,h4⟩:=hg.kept h1 z
    have h5:=(hg.fs _ h1).2 ((Hm jz i).f.headD 0) (by rw[h3];simp)
    obtain⟨k,hk⟩:=hq.Mm N _ (by omega) h5 (.inr (.inl (by rw[hN];exact h5)))
    refine⟨k,?_⟩
    unfold wT
    simp only[if_true]
    rw[vT (e:=Hm jz i) h1 (by simp [z,h2]) (fun a ha hp=>by
     simp only[aQ,decide_eq_true_eq]at hp
     exact hg.UG ha h1 hp.2 h2)]
    exact hk
  ·rw[hM1 n (by omega)]at hi
   obtain⟨k,hk⟩:=hq.Mm n i (by omega) hi (by
    rw[hN]
    by_cases y:n+1<N+1
    ·exact .inl y
    ·have:n=N:=by omega
     subst this
     exact .inr (.inl hi))
   refine⟨k,?_⟩
   unfold wT;rw[if_neg q];exact hk
 ·obtain⟨t0,h1,rfl⟩:=hmem ht
  rw[hln,nR.1]at hf
  have hp:=hb.pos t0 h1
  unfold jf.up at hp;omega
 ·obtain⟨t0,h1,rfl⟩:=hmem ht
  intro j a hj
  have hp:=hb.pos t0 h1
  have old:∀j a,t0.ar[j]? =some a→a<(ms++[m]).getD (t0.fr+j) 0:=fun j a hj=>by
   have:=(aj.1 hj).1
   unfold jf.up at hp
   rw[hM1 _ (by omega)];exact hq.pM t0 h1 j a hj
  rw[nR.1]
  rcases kx (N+1) jz t0 with⟨_,z⟩|⟨z1,z2,z⟩|⟨_,_,z⟩<;>rw[z]at hj
  ·exact old j a hj
  ·have hj:(t0.ar++[(qY jz t0.last).t.headD 0])[j]? =some a:=hj
   by_cases y:j<t0.ar.length
   ·rw[aJ y]at hj;exact old j a hj
   ·have h5:=(aj.1 hj).1
    rw[aZ,cu]at h5
    rw[aY (by omega),show j-t0.ar.length=0 by omega]at hj
    have hj:(qY jz t0.last).t.headD 0=a:=gV hj
    unfold jf.up at z1
    rw[show t0.fr+j=N+1 by omega,hM2, ←hj]
    exact(hkept t0 h1 z1 z2).2.2.2
  ·exact old j a hj
 ·obtain⟨t0,h1,rfl⟩:=hmem ht
  have hp:=hb.pos t0 h1
  rw[nR.1,nR.2.1,yq hp.1]
  unfold jf.up at hp
  rw[hE1 _ (by omega)]
  exact hq.bg t0 h1
 ·obtain⟨t0,h1,rfl⟩:=hmem ht
  intro j a b ha hb'
  have hp:=hb.pos t0 h1
  have old:∀j a b,t0.ar[j]? =some a→t0.ar[j+1]? =some b→(qY ((evss++[jz]).getD (t0.fr+j+1) []) a).kd=4∧(qY ((evss++[jz]).getD (t0.fr+j+1) []) a).t=[b]:=fun j a b ha hb'=>by
   have:=(aj.1 hb').1
   unfold jf.up at hp
   rw[hE1 _ (by omega)];exact hq.step t0 h1 j a b ha hb'
  rw[nR.1]
  rcases kx (N+1) jz t0 with⟨_,z⟩|⟨z1,z2,z⟩|⟨_,_,z⟩<;>rw[z]at ha hb'
  ·exact old j a b ha hb'
  ·have ha:(t0.ar++[(qY jz t0.last).t.headD 0])[j]? =some a:=ha
   have hb':(t0.ar++[(qY jz t0.last).t.headD 0])[j+1]? =some b:=hb'
   by_cases y:j+1<t0.ar.length
   ·rw[aJ (by omega)]at ha hb';exact old j a b ha hb'
   ·have h5:=(aj.1 hb').1
    rw[aZ,cu]at h5
    rw[aY (by omega),show j+1-t0.ar.length=0 by omega]at hb'
    rw[aJ (by omega),show j=t0.ar.length-1 by omega,tj hp.1]at ha
    have hb':(qY jz t0.last).t.headD 0=b:=gV hb'
    have ha:t0.last=a:=gV ha
    obtain⟨k1,k2,k3,k4⟩:=hkept t0 h1 z1 z2
    unfold jf.up at z1
    rw[show t0.fr+j+1=N+1 by omega,Gy, ←ha, ←hb']
    exact⟨z2,k3⟩
  ·exact old j a b ha hb'
 ·obtain⟨t0,h1,rfl⟩:=hmem ht
  have hp:=hb.pos t0 h1
  obtain⟨e1,e2⟩:=hq.en t0 h1
  rw[hN]at e1
  rw[hln]
  rcases kx (N+1) jz t0 with⟨z1,z⟩|⟨z1,z2,z⟩|⟨z1,z2,z⟩<;>rw[z]
  ·rw[if_neg z1]at e1
   rw[if_neg (by omega),hE1 _ (by omega)]
   exact⟨e1,e2⟩
  ·rw[if_pos z1]at e1
   have:({ t0 with ar:=t0.ar++[(qY jz t0.last).t.headD 0] }:jf).up=N+2:=by
    show t0.fr+(t0.ar++_).length=_
    unfold jf.up at z1;rw[aZ,cu];omega
   rw[if_pos this];exact⟨e1,e2⟩
  ·have:({ t0 with en:=(qY jz t0.last).kd }:jf).up=N+1:=z1
   rw[if_neg (by omega),this,Gy]
   exact⟨rfl,z2⟩
 ·refine gl.2 (hq.ord.imp_of_mem fun {a b} ha hb' hab=>?_)
  rw[nR.1,nR.1,yq (hb.pos a ha).1,yq (hb.pos b hb').1];exact hab
 all_goals
  obtain⟨t0,h4,rfl⟩:=hget hk
  have h1:=al h4
  have hln1:∀x y,x∈tk→y∈tk→tl (evss++[jz]) (kL (N+1) jz x) (kL (N+1) jz y)=tl evss x y:=fun x y hx hy=>by
   have px:=hb.pos x hx
   have py:=hb.pos y hy
   unfold tl
   rw[nR.1,yq py.1]
   have hy2:y.fr<N+1:=by unfold jf.up at py;omega
   rw[hE1 _ hy2]
   refine decide_eq_decide.2 ?_
   rcases kx (N+1) jz x with⟨_,z⟩|⟨z1,_,z⟩|⟨z1,_,z⟩<;>rw[z]
   ·have:({ x with ar:=x.ar++[(qY jz x.last).t.headD 0] }:jf).up=N+2:=by
     show x.fr+(x.ar++_).length=_
     unfold jf.up at z1;rw[aZ,cu];omega
    constructor
    ·rintro ⟨c,_⟩;omega
    ·rintro ⟨c,_⟩;omega
   ·exact Iff.rfl
  have hgd:∀i,i<tk.length→(tk.map (kL (N+1) jz)).getD i zT=kL (N+1) jz (tk.getD i zT)∧tk.getD i zT∈tk:=fun i hi=>by
   have e:tk[i]? =some tk[i]:=af hi
   rw[ov (x:=kL (N+1) jz tk[i]) (by rw[aw,e];rfl),ov e]
   exact⟨rfl,fv hi⟩
 ·rw[nR.2.2.1,hq.pa k t0 h4,aq]
  refine ia fun i hi=>?_
  obtain⟨g1,g2⟩:=hgd i (bf.1 hi)
  rw[g1,hln1 _ _ g2 h1]
 ·rw[nR.2.2.2,hq.ch k t0 h4,aq]
  refine ia fun i hi=>?_
  obtain⟨g1,g2⟩:=hgd i (bf.1 hi)
  rw[g1,hln1 _ _ h1 g2]
end
section
variable {E:List (List jS)} {Ms:List Nat} {N j k n:Nat} {tk:List jf} {of:Nat×Nat→Option Nat} {t x:jf} {ps:List Nat}
def yz (ps:List Nat) (K p:Nat) (t:jf):jf:=if p∈ps then { t with ch:=t.ch++[K] } else t
theorem jJ {K p:Nat}:(yz ps K p t).fr=t.fr∧(yz ps K p t).ar=t.ar∧(yz ps K p t).bg=t.bg∧(yz ps K p t).en=t.en∧(yz ps K p t).pa=t.pa∧(yz ps K p t).up=t.up∧(yz ps K p t).last=t.last:=by
 unfold yz;split<;>exact⟨rfl,rfl,rfl,rfl,rfl,rfl,rfl⟩
theorem Rg {l:List jf} {n:Nat}:(oe l ps n).length=l.length:=by unfold oe;rw[List.length_mapIdx]
theorem oZ {l:List jf} {n:Nat}:(oe l ps n)[k]? =(l[k]?).map (yz ps n k):=by unfold oe yz;rw[List.getElem?_mapIdx]
theorem UP {jz:List jS} (h:k∈ve tk N jz j):k<tk.length:=by
 unfold ve Jb at h
 split at h
 ·simp at h
 ·exact bf.1 (bK.1 h).1
theorem rj (hps:∀p,p∈ps→p<tk.length) (h:(oe (tk++[x]) ps tk.length)[k]? =some t):(∃t0,tk[k]? =some t0∧t=yz ps tk.length k t0)∨(k=tk.length∧t=x):=by
 rw[oZ]at h
 by_cases q:k<tk.length
 ·rw[aJ q,af q]at h
  exact .inl ⟨tk[k],af q,(gV h).symm⟩
 ·by_cases z:k=tk.length
  ·subst z
   rw[aY (bA _),gJ]at h
   refine .inr ⟨rfl,?_⟩
   have h:=(gV h).symm
   rw[h];unfold yz;rw[if_neg fun y=>absurd (hps _ y) (Nat.lt_irrefl _)]
  ·rw[aH (by rw[aZ,cu];omega)]at h;cases h
theorem Jz (h:tk[k]? =some t):(oe (tk++[x]) ps tk.length)[k]? =some (yz ps tk.length k t):=by
 rw[oZ,aJ (aj.1 h).1,h];rfl
theorem Iq (hps:∀p,p∈ps→p<tk.length):(oe (tk++[x]) ps tk.length)[tk.length]? =some x:=by
 rw[oZ,aY (bA _),gJ]
 show some (yz ps tk.length tk.length x)=_
 unfold yz;rw[if_neg fun y=>absurd (hps _ y) (Nat.lt_irrefl _)]
def vd (N:Nat) (jz:List jS) (s:List jf×(Nat×Nat→Option Nat)) (j:Nat):List jf×(Nat×Nat→Option Nat):=
 if xD N jz j=true then(oe (s.1++[trB N jz (ve s.1 N jz j) j]) (ve s.1 N jz j) s.1.length,mo s.2 (N,j) s.1.length) else s
def kI (N:Nat) (jz:List jS) (s:List jf×(Nat×Nat→Option Nat)):Nat→List jf×(Nat×Nat→Option Nat)
 |0=>s
 |k+1=>vd N jz (kI N jz s k) k
theorem j6.free (h:j6 E Ms j tk of) (hN:Ms.length=N+1) (hg:0<N→iq (Ms.getD (N-1) 0) (Ms.getD N 0) (E.getD N [])) (hn:xD N (E.getD N []) j=true):of (N,j)=none:=by
 cases z:of (N,j) with
 |none=>rfl
 |some k=>
  obtain⟨t,t1,t2,t3⟩:=(h.base.Pd N j k).1 z
  have tm:=al t1
  exfalso
  by_cases q:t.fr=N
  ·have h1:=h.hd t tm (by omega)
   rw[q,gJ]at t3
   have:=Zc (h.base.pos t tm).1
   rw[t3]at this
   have:=gV this
   omega
  ·obtain⟨a,ha⟩:∃a,t.ar[N-t.fr-1]? =some a:=⟨_,af (by have:=(aj.1 t3).1;omega)⟩
   have hs:=h.step t tm (N-t.fr-1) a j ha (by rw[show N-t.fr-1+1=N-t.fr by omega];exact t3)
   rw[show t.fr+(N-t.fr-1)+1=N by omega]at hs
   have hr:=h.pM t tm _ _ ha
   rw[show t.fr+(N-t.fr-1)=N-1 by omega]at hr
   have hg:=hg (by omega)
   obtain⟨g1,g2⟩:=hg.PR hr
   have hb:Hm (E.getD N []) j=qY (E.getD N []) a:=hg.Vc g1 (by rw[hs.2];simp)
   unfold xD at hn
   have hn:=of_decide_eq_true hn
   rw[hb]at hn
   rcases hn with y|y
   ·omega
   ·exact y hs.1
theorem j6.skip (h:j6 E Ms j tk of) (hN:Ms.length=N+1) (hn:¬xD N (E.getD N []) j=true):j6 E Ms (j+1) tk of:=by
 refine⟨h.base,h.len,fun n i h1 h2 h3=>h.Mm n i h1 h2 ?_,fun t ht hf=>zc (h.hd t ht hf),h.pM,h.bg,h.step,h.en,h.ord,h.pa,h.ch⟩
 rcases h3 with z|z|z
 ·exact .inl z
 ·rcases fV.1 z with y|y
  ·exact .inr (.inl y)
  ·subst y
   by_cases q:n+1<Ms.length
   ·exact .inl q
   ·have:n=N:=by omega
    subst this
    exact .inr (.inr (by simpa using hn))
 ·exact .inr (.inr z)
theorem j6.born (h:j6 E Ms j tk of) (hN:Ms.length=N+1) (hj:j<Ms.getD N 0) (hg:0<N→iq (Ms.getD (N-1) 0) (Ms.getD N 0) (E.getD N [])) (hn:xD N (E.getD N []) j=true):
  j6 E Ms (j+1) (oe (tk++[trB N (E.getD N []) (ve tk N (E.getD N []) j) j]) (ve tk N (E.getD N []) j) tk.length) (mo of (N,j) tk.length):=by
 have hfree:=h.free hN hg hn
 obtain⟨ps,hps0⟩:∃ps,ps=ve tk N (E.getD N []) j:=⟨_,rfl⟩
 rw[←hps0]
 have hps:∀p,p∈ps→p<tk.length:=fun p hp=>UP (hps0 ▸ hp)
 obtain⟨x,hx⟩:∃x,x=trB N (E.getD N []) ps j:=⟨_,rfl⟩
 rw[←hx]
 have xfr:x.fr=N:=by rw[hx];rfl
 have xar:x.ar=[j]:=by rw[hx];rfl
 have xen:x.en=0:=by rw[hx];rfl
 have xpa:x.pa=ps:=by rw[hx];rfl
 have xch:x.ch=[]:=by rw[hx];rfl
 have xup:x.up=N+1:=by unfold jf.up;rw[xfr,xar];rfl
 have xbg:x.bg=if N=0 then 1 else(Hm (E.getD N []) j).kd:=by rw[hx];rfl
 have hb:=h.base
 rw[hN]at hb
 have hfr:∀t,t∈tk→t.fr≤N:=fun t ht=>by have:=hb.pos t ht;unfold jf.up at this;omega
 have hmem:∀{t},t∈oe (tk++[x]) ps tk.length→(∃t0 k,t0∈tk∧t=yz ps tk.length k t0)∨t=x:=fun {t} ht=>by
  obtain⟨k,hk⟩:=List.mem_iff_getElem?.1 ht
  rcases rj hps hk with⟨t0,h1,h2⟩|⟨_,h2⟩
  ·exact .inl ⟨t0,k,al h1,h2⟩
  ·exact .inr h2
 have hlenA:(oe (tk++[x]) ps tk.length).length=tk.length+1:=by rw[Rg,aZ];rfl
 have hgd:∀i,i<tk.length→(oe (tk++[x]) ps tk.length).getD i zT=yz ps tk.length i (tk.getD i zT)∧tk.getD i zT∈tk:=fun i hi=>by
  have e:tk[i]? =some tk[i]:=af hi
  rw[ov (Jz e),ov e];exact⟨rfl,fv hi⟩
 have hgx:(oe (tk++[x]) ps tk.length).getD tk.length zT=x:=ov (Iq hps)
 have ladj:∀a b K p r,tl E (yz ps K p a) (yz ps K r b)=tl E a b:=fun a b K p r=>by
  unfold tl
  obtain⟨a1,a2,_,_,_,a6,a7⟩:=jJ (ps:=ps) (K:=K) (p:=p) (t:=a)
  obtain⟨b1,b2,_,_,_,_,_⟩:=jJ (ps:=ps) (K:=K) (p:=r) (t:=b)
  rw[a6,a7,b1,b2]
 have ladj2:∀a b K r,tl E a (yz ps K r b)=tl E a b:=fun a b K r=>by
  unfold tl
  obtain⟨b1,b2,_,_,_,_,_⟩:=jJ (ps:=ps) (K:=K) (p:=r) (t:=b)
  rw[b1,b2]
 have ladj1:∀a b K p,tl E (yz ps K p a) b=tl E a b:=fun a b K p=>by
  unfold tl
  obtain⟨a1,a2,_,_,_,a6,a7⟩:=jJ (ps:=ps) (K:=K) (p:=p) (t:=a)
  rw[a6,a7]
 have lx1:∀t,t.fr≤N→tl E x t=false:=fun t ht=>by
  unfold tl;rw[xup];exact decide_eq_false fun z=>by omega
 have lx2:∀t,tl E t x=decide (0<N∧t.up=N∧t.last∈(Hm (E.getD N []) j).f):=fun t=>by
  unfold tl;rw[xfr,xar]
  exact decide_eq_decide.2 ⟨fun⟨a,b,c⟩=>⟨b,a,c⟩,fun⟨a,b,c⟩=>⟨b,a,c⟩⟩
 have hpsm:∀p,p<tk.length→(p∈ps↔(0<N∧(tk.getD p zT).up=N∧(tk.getD p zT).last∈(Hm (E.getD N []) j).f)):=fun p hp=>by
  rw[hps0];unfold ve Jb
  split
  ·rename_i q;subst q;simp
  ·rename_i q
   rw[bK,bf,decide_eq_true_eq]
   exact⟨fun⟨_,a⟩=>⟨by omega,a⟩,fun⟨_,a⟩=>⟨hp,a⟩⟩
 refine⟨⟨fun n i k=>?_,fun t ht=>?_,fun t ht hu=>?_⟩,h.len,fun n i h1 h2 h3=>?_,fun t ht hf=>?_,fun t ht=>?_,fun t ht=>?_,fun t ht=>?_,fun t ht=>?_,?_,fun k t hk=>?_,fun k t hk=>?_⟩
 ·unfold mo
  by_cases q:(n,i)=(N,j)
  ·rw[if_pos q]
   have q1:n=N:=congrArg Prod.fst q
   have q2:i=j:=congrArg Prod.snd q
   subst q1;subst q2
   constructor
   ·intro hs
    have hs:=gV hs
    subst hs
    exact⟨x,Iq hps,by omega,by rw[xfr,xar,gJ];rfl⟩
   ·rintro ⟨t,t1,t2,t3⟩
    rcases rj hps t1 with⟨t0,g1,rfl⟩|⟨g1,_⟩
    ·obtain⟨a1,a2,_⟩:=jJ (ps:=ps) (K:=tk.length) (p:=k) (t:=t0)
     rw[a1]at t2 t3;rw[a2]at t3
     have:=(hb.Pd n i k).2 ⟨t0,g1,t2,t3⟩
     rw[hfree]at this;cases this
    ·rw[g1]
  ·rw[if_neg q]
   constructor
   ·intro hs
    obtain⟨t,t1,t2,t3⟩:=(hb.Pd n i k).1 hs
    obtain⟨a1,a2,_⟩:=jJ (ps:=ps) (K:=tk.length) (p:=k) (t:=t)
    exact⟨_,Jz t1,by rw[a1];exact t2,by rw[a1,a2];exact t3⟩
   ·rintro ⟨t,t1,t2,t3⟩
    rcases rj hps t1 with⟨t0,g1,rfl⟩|⟨_,rfl⟩
    ·obtain⟨a1,a2,_⟩:=jJ (ps:=ps) (K:=tk.length) (p:=k) (t:=t0)
     rw[a1]at t2 t3;rw[a2]at t3
     exact(hb.Pd n i k).2 ⟨t0,g1,t2,t3⟩
    ·exfalso
     rw[xfr]at t2 t3;rw[xar]at t3
     have h4:=(aj.1 t3).1
     simp only[cu]at h4
     have h5:n=N:=by omega
     subst h5
     rw[gJ]at t3
     have h6:j=i:=gV t3
     subst h6
     exact q rfl
 ·rw[hN]
  rcases hmem ht with⟨t0,k,g1,rfl⟩|rfl
  ·obtain⟨a1,a2,_,_,_,a6,_⟩:=jJ (ps:=ps) (K:=tk.length) (p:=k) (t:=t0)
   rw[a2,a6];exact hb.pos t0 g1
  ·rw[xar,xup];exact⟨by simp,bA _⟩
 ·rw[hN]at hu
  rcases hmem ht with⟨t0,k,g1,rfl⟩|rfl
  ·obtain⟨a1,a2,_,a4,_,a6,_⟩:=jJ (ps:=ps) (K:=tk.length) (p:=k) (t:=t0)
   rw[a4];rw[a6]at hu;exact hb.en t0 g1 hu
  ·exact xen
 ·unfold mo
  by_cases q:(n,i)=(N,j)
  ·rw[if_pos q];exact⟨_,rfl⟩
  ·rw[if_neg q]
   refine h.Mm n i h1 h2 ?_
   rcases h3 with z|z|z
   ·exact .inl z
   ·rcases fV.1 z with y|y
    ·exact .inr (.inl y)
    ·subst y
     by_cases w:n+1<Ms.length
     ·exact .inl w
     ·exact absurd (by rw[show n=N by omega]) q
   ·exact .inr (.inr z)
 ·rcases hmem ht with⟨t0,k,g1,rfl⟩|rfl
  ·obtain⟨a1,a2,_⟩:=jJ (ps:=ps) (K:=tk.length) (p:=k) (t:=t0)
   rw[a2];rw[a1]at hf;exact zc (h.hd t0 g1 hf)
  ·rw[xar];exact mY _
 ·rcases hmem ht with⟨t0,k,g1,rfl⟩|rfl
  ·obtain⟨a1,a2,_⟩:=jJ (ps:=ps) (K:=tk.length) (p:=k) (t:=t0)
   rw[a1,a2];exact h.pM t0 g1
  ·intro r a ha
   rw[xar]at ha
   have h4:=(aj.1 ha).1
   simp only[cu]at h4
   have h5:r=0:=by omega
   subst h5
   have h6:j=a:=gV ha
   rw[xfr,Nat.add_zero, ←h6];exact hj
 ·rcases hmem ht with⟨t0,k,g1,rfl⟩|rfl
  ·obtain⟨a1,a2,a3,_⟩:=jJ (ps:=ps) (K:=tk.length) (p:=k) (t:=t0)
   rw[a1,a2,a3];exact h.bg t0 g1
  ·rw[xfr,xar,xbg]
   by_cases q:N=0
   ·rw[if_pos q];exact .inl ⟨q,rfl⟩
   ·rw[if_neg q]
    unfold xD at hn
    refine .inr ⟨by omega,rfl,?_⟩
    rcases of_decide_eq_true hn with y|y
    ·exact absurd y q
    ·exact y
 ·rcases hmem ht with⟨t0,k,g1,rfl⟩|rfl
  ·obtain⟨a1,a2,_⟩:=jJ (ps:=ps) (K:=tk.length) (p:=k) (t:=t0)
   rw[a1,a2];exact h.step t0 g1
  ·intro r a b ha hb'
   rw[xar]at hb'
   have h4:=(aj.1 hb').1
   simp at h4
 ·rcases hmem ht with⟨t0,k,g1,rfl⟩|rfl
  ·obtain⟨_,_,_,a4,_,a6,a7⟩:=jJ (ps:=ps) (K:=tk.length) (p:=k) (t:=t0)
   rw[a4,a6,a7];exact h.en t0 g1
  ·rw[xen,xup,hN,if_pos rfl];exact⟨rfl,by decide⟩
 ·refine be.2 fun a b ha hb' hab=>?_
  have ea:=rj hps (af ha)
  have eb:=rj hps (af hb')
  rcases ea with⟨t0,g1,g2⟩|⟨g1,_⟩
  ·obtain⟨a1,a2,_⟩:=jJ (ps:=ps) (K:=tk.length) (p:=a) (t:=t0)
   rw[g2,a1,a2]
   rcases eb with⟨t2,g3,g4⟩|⟨_,g4⟩
   ·obtain⟨b1,b2,_⟩:=jJ (ps:=ps) (K:=tk.length) (p:=b) (t:=t2)
    rw[g4,b1,b2]
    obtain⟨q1,rfl⟩:=aj.1 g1
    obtain⟨q2,rfl⟩:=aj.1 g3
    exact be.1 h.ord a b q1 q2 hab
   ·rw[g4,xfr,xar]
    have tm:=al g1
    have:=hfr t0 tm
    by_cases q:t0.fr=N
    ·exact .inr ⟨q,h.hd t0 tm (by omega)⟩
    ·exact .inl (by omega)
  ·rw[hlenA]at hb';omega
 ·rw[hlenA,fA,dI]
  rcases rj hps hk with⟨t0,g1,rfl⟩|⟨g1,rfl⟩
  ·have tm:=al g1
   obtain⟨_,_,_,_,a5,_,_⟩:=jJ (ps:=ps) (K:=tk.length) (p:=k) (t:=t0)
   rw[a5,h.pa k t0 g1,iN,hgx,ladj2,lx1 _ (hfr t0 tm)]
   simp only[bP,if_false,mL,c9]
   refine ia fun i hi=>?_
   rw[(hgd i (bf.1 hi)).1,ladj]
  ·rw[iN,hgx,lx2,decide_eq_false (fun z=>by omega)]
   simp only[bP,if_false,mL,c9]
   refine(xpa.trans hps0).trans ?_
   unfold ve Jb
   by_cases q:N=0
   ·rw[if_pos q]
    refine(ff.2 fun i hi=>?_).symm
    rw[lx2,decide_eq_false (fun z=>by omega)];decide
   ·rw[if_neg q]
    refine ia fun i hi=>?_
    rw[(hgd i (bf.1 hi)).1,ladj1,lx2]
    exact decide_eq_decide.2 ⟨fun z=>⟨by omega,z⟩,fun z=>z.2⟩
 ·rw[hlenA,fA,dI]
  rcases rj hps hk with⟨t0,g1,rfl⟩|⟨g1,rfl⟩
  ·have tm:=al g1
   have hkl:=(aj.1 g1).1
   rw[iN,hgx,ladj1,lx2]
   have e1:(br tk.length).filter (fun i=>tl E (yz ps tk.length k t0) ((oe (tk++[x]) ps tk.length).getD i zT))=t0.ch:=by
    rw[h.ch k t0 g1]
    refine ia fun i hi=>?_
    rw[(hgd i (bf.1 hi)).1,ladj]
   rw[e1]
   have e2:=hpsm k hkl
   rw[ov g1]at e2
   unfold yz
   by_cases q:k∈ps
   ·rw[if_pos q,decide_eq_true (e2.1 q)];rfl
   ·rw[if_neg q,decide_eq_false (fun z=>q (e2.2 z))];simp
  ·rw[iN,hgx,lx1 _ (by omega),xch]
   simp only[bP,if_false,mL,c9]
   refine(ff.2 fun i hi=>?_).symm
   obtain⟨g3,g4⟩:=hgd i (bf.1 hi)
   rw[g3,ladj2,lx1 _ (hfr _ g4)];decide
theorem j6.aiA (h:j6 E Ms j tk of) (hN:Ms.length=N+1) (hj:j<Ms.getD N 0) (hg:0<N→iq (Ms.getD (N-1) 0) (Ms.getD N 0) (E.getD N [])):j6 E Ms (j+1) (vd N (E.getD N []) (tk,of) j).1 (vd N (E.getD N []) (tk,of) j).2:=by
 unfold vd
 by_cases q:xD N (E.getD N []) j=true
 ·rw[if_pos q];exact h.born hN hj hg q
 ·rw[if_neg q];exact h.skip hN q
theorem j6.Gz (h:j6 E Ms 0 tk of) (hN:Ms.length=N+1) (hg:0<N→iq (Ms.getD (N-1) 0) (Ms.getD N 0) (E.getD N [])):∀k,k≤Ms.getD N 0→j6 E Ms k (kI N (E.getD N []) (tk,of) k).1 (kI N (E.getD N []) (tk,of) k).2
 |0,_=>h
 |k+1,hk=>(j6.Gz h hN hg k (by omega)).aiA hN (by omega) hg
theorem j6.done (h:j6 E Ms (Ms.getD N 0) tk of) (hN:Ms.length=N+1):tB E Ms tk of:=⟨by rw[hN];exact h⟩
theorem j6.parents (h:j6 E Ms j tk of) (hN:Ms.length=n+2) (hg:iq (Ms.getD n 0) (Ms.getD (n+1) 0) (E.getD (n+1) [])) {e:jS} (he:e∈E.getD (n+1) []) (hk:e.kd≠4):
  (∀i,i∈e.f→∃k,of (n,i)=some k∧k<tk.length)∧(e.f.map fun i=>(of (n,i)).getD 0).Nodup∧∀x,x∈(e.f.map fun i=>(of (n,i)).getD 0)↔x∈Jb tk (n+1) e.f:=by
 have hb:=h.base
 rw[hN]at hb
 have Mm:∀i,i∈e.f→∃k,of (n,i)=some k∧k<tk.length:=fun i hi=>by
  obtain⟨k,z⟩:=h.Mm n i (by omega) ((hg.fs e he).2 i hi) (.inl (by omega))
  exact⟨k,z,(h.base.lt z).2⟩
 have key:∀i k,i∈e.f→of (n,i)=some k→∃t,tk[k]? =some t∧t.up=n+1∧t.last=i:=fun i k hi hs=>by
  obtain⟨t,t1,t2,t3⟩:=(hb.Pd n i k).1 hs
  have tm:=al t1
  have hp:=hb.pos t tm
  have hl:=(aj.1 t3).1
  unfold jf.up at hp
  by_cases q:t.fr+t.ar.length=n+2
  ·exfalso
   obtain⟨b,hb'⟩:∃b,t.ar[n-t.fr+1]? =some b:=⟨_,af (by omega)⟩
   have hs:=h.step t tm _ _ _ t3 hb'
   rw[show t.fr+(n-t.fr)+1=n+1 by omega,hg.L6 he hi]at hs
   exact hk hs.1
  ·refine⟨t,t1,by unfold jf.up;omega,?_⟩
   rw[show n-t.fr=t.ar.length-1 by omega,tj hp.1]at t3
   exact gV t3
 refine⟨Mm,?_,fun x=>?_⟩
 ·refine gl.2 ((hg.fs e he).1.imp_of_mem fun {a b} ha hb' hab z=>?_)
  obtain⟨ka,h1,_⟩:=Mm a ha
  obtain⟨kb,h2,_⟩:=Mm b hb'
  rw[h1,h2]at z
  have z:ka=kb:=z
  subst z
  obtain⟨t,t1,_,t3⟩:=key a ka ha h1
  obtain⟨t',t4,_,t6⟩:=key b ka hb' h2
  rw[t1]at t4
  have:=gV t4
  subst this
  omega
 ·unfold Jb
  rw[bQ,bK,bf,decide_eq_true_eq]
  constructor
  ·rintro ⟨i,hi,rfl⟩
   obtain⟨k,h1,h2⟩:=Mm i hi
   obtain⟨t,t1,t2,t3⟩:=key i k hi h1
   rw[h1]
   refine⟨h2,?_⟩
   show(tk.getD k zT).up=n+1∧(tk.getD k zT).last∈e.f
   rw[ov t1]
   exact⟨t2,by rw[t3];exact hi⟩
  ·rintro ⟨h1,h2,h3⟩
   have e1:tk[x]? =some tk[x]:=af h1
   rw[ov e1]at h2 h3
   refine⟨_,h3,?_⟩
   have hp:=hb.pos tk[x] (fv h1)
   have:of (n,tk[x].last)=some x:=(hb.Pd n _ x).2 ⟨tk[x],e1,by unfold jf.up at h2;omega,by
    rw[show n-tk[x].fr=tk[x].ar.length-1 by unfold jf.up at h2;omega];exact tj hp.1⟩
   rw[this];rfl
end
section
variable {α:Type} [DecidableEq α] {κ:Nat→α} {n m:Nat}
theorem ye {e:jS} (h:e∈wC κ n m):∃k,k<n+m∧(∀j,j<k→κ j≠κ k)∧e.kd=lG e.f.length e.t.length∧e.f=(br n).filter (fun i=>decide (κ i=κ k))∧e.t=(br m).filter (fun j=>decide (κ (n+j)=κ k)):=by
 unfold wC HS at h
 rw[dG]at h
 obtain⟨k,hk,rfl⟩:=bQ.1 h
 obtain⟨h1,h2⟩:=lW.1 hk
 refine⟨k,h1,h2,rfl,?_,?_⟩
 ·show(br (min (n+m) n)).filter _=_
  rw[show min (n+m) n=n by omega]
 ·show(br (n+m-n)).filter _=_
  rw[show n+m-n=m by omega]
theorem Rr:iq n m (wC κ n m):=by
 refine⟨fun e he=>?_,fun e he=>?_,fun e he=>?_,?_,fun i hi=>?_,fun j hj=>?_⟩
 ·obtain⟨k,h1,h2,h3,h4,h5⟩:=ye he
  refine⟨h3,?_⟩
  by_cases q:k<n
  ·have:k∈e.f:=by rw[h4];exact bK.2 ⟨bf.2 q,by simp⟩
   have:=kJ this;omega
  ·have:k-n∈e.t:=by rw[h5];exact bK.2 ⟨bf.2 (by omega),by simp [show n+(k-n)=k by omega]⟩
   have:=kJ this;omega
 ·obtain⟨k,h1,h2,h3,h4,h5⟩:=ye he
  rw[h4]
  exact⟨sy,fun i hi=>bf.1 (bK.1 hi).1⟩
 ·obtain⟨k,h1,h2,h3,h4,h5⟩:=ye he
  rw[h5]
  exact⟨sy,fun i hi=>bf.1 (bK.1 hi).1⟩
 ·unfold wC HS
  rw[dG]
  refine gl.2 ((x6 (κ:=κ) (t:=n+m)).imp_of_mem fun {a b} ha hb hab=>?_)
  have hne:κ a≠κ b:=fun e=>hab (E7 ha hb e)
  refine⟨fun i h1 h2=>?_,fun j h1 h2=>?_⟩
  ·have h1:=(bK.1 h1).2
   have h2:=(bK.1 h2).2
   exact hne ((of_decide_eq_true h1).symm.trans (of_decide_eq_true h2))
  ·have h1:=(bK.1 h1).2
   have h2:=(bK.1 h2).2
   exact hne ((of_decide_eq_true h1).symm.trans (of_decide_eq_true h2))
 ·obtain⟨k,k1,k2,k3⟩:=IM κ i
  have hk:k∈jr κ (n+m):=lW.2 ⟨by omega,by unfold mV at k3;exact of_decide_eq_true k3⟩
  refine⟨{ Fw κ n (n+m) k with kd:=lG (Fw κ n (n+m) k).f.length (Fw κ n (n+m) k).t.length },?_,?_⟩
  ·unfold wC HS;rw[dG];exact bQ.2 ⟨k,hk,rfl⟩
  ·exact bK.2 ⟨bf.2 (by omega),decide_eq_true k2.symm⟩
 ·obtain⟨k,k1,k2,k3⟩:=IM κ (n+j)
  have hk:k∈jr κ (n+m):=lW.2 ⟨by omega,by unfold mV at k3;exact of_decide_eq_true k3⟩
  refine⟨{ Fw κ n (n+m) k with kd:=lG (Fw κ n (n+m) k).f.length (Fw κ n (n+m) k).t.length },?_,?_⟩
  ·unfold wC HS;rw[dG];exact bQ.2 ⟨k,hk,rfl⟩
  ·exact bK.2 ⟨bf.2 (by omega),decide_eq_true k2.symm⟩
end
theorem UN.I0 {W H r:Nat} {oa ob:List Int} {n m:Nat} {l:List jS} (h:UN W H r oa ob n m l):iq n m l:=by
 obtain⟨ld,_,rfl⟩:=h.ex
 exact Rr
end Go.Proofs.YtffbohecdocajaaGreat
namespace Go.SL
set_option linter.unusedVariables false
open Go.RowKit
section
variable {P:Program} {β:Bs} {env:Env} {L L':List cq}
variable {ty:TypeId} {pos:String} {aft:Array Edge} {dd:Option Nat}
theorem HO.VV {α:Type} {f:α→List Value} {m:List α} (i:Nat) (LF:cq→List cq) {K:Value→List cq→Prop} {x y:Operand} {T T' E z by_:Nat} {aT:Array TypeId} {zero:Value} {p q:Option Addr} {n2 cap c2:Nat} (hT:dF P T E) (hT':dF P T' E) (hE:jW P E z by_ zero) (hx:OV env x (.slice p 0 cap)) (hy:OV env y (.slice q n2 c2))
  (hi:L[i]? =some (own E z p cap [])) (hq:∀w,St β L w→Go.SL.Rows w z q (m.map f)) (hz:∀a,(f a).length=z) (h1:∀a,o5 (f a)=true) (ha0:aT[0]? =some T) (ha1:aT[1]? =some T') (hL:∀R:cq,L.set i R=LF R) (hn2:n2=m.length) (hs:(2*n2+768)*by_≤281474976710656)
  (k:∀p' cap',(m≠[]∨p≠none→p'≠none)→K (.slice p' n2 cap') (LF (own E z p' cap' (m.map f)))):HO P β env L ⟨dd,.call ⟨.builtin .append,#[x,y],aT⟩,ty,pos,aft,none⟩ K:=
 HO.aja (f:=f) (l:=[]) (m:=m) i LF hT hT' hE hx hy hi hq hz h1 ha0 ha1 hL rfl hn2 (by rw[Nat.zero_add];exact hs) (fun p' c' h=>by rw[Nat.zero_add];exact k p' c' h)
end
end Go.SL
namespace Go.Proofs.YtffbohecdocajaaGreat
open Go.SL Go.Cell
set_option linter.unusedVariables false
section
variable {E:List (List jS)} {Ms:List Nat} {tk:List jf} {of:Nat×Nat→Option Nat} {t s:jf} {k p c n i j:Nat}
structure Hj (E:List (List jS)) (Ms:List Nat):Prop where
 g:∀n,n+1<Ms.length→iq (Ms.getD n 0) (Ms.getD (n+1) 0) (E.getD (n+1) [])
theorem tB.pos (h:tB E Ms tk of) (ht:t∈tk):0<t.ar.length∧t.fr+t.ar.length≤Ms.length∧t.fr<Ms.length:=by
 have:=h.q.base.pos t ht
 unfold jf.up at this
 omega
theorem Pg {k:Nat} (h:tk[k]? =some t):tk.getD k zT=t:=ov h
theorem abp {k:Nat} (h:k<tk.length):∃t,tk[k]? =some t:=⟨_,af h⟩
inductive Rch (nx:Nat→List Nat) (a:Nat):Nat→Prop
 |base {b}:b∈nx a→Rch nx a b
 |step {b c}:Rch nx a b→c∈nx b→Rch nx a c
def nxP (tk:List jf) (k:Nat):List Nat:=(tk.getD k zT).pa
def nxC (tk:List jf) (k:Nat):List Nat:=(tk.getD k zT).ch
theorem Pc {k:Nat} (h:tk.length≤k):tk.getD k zT=zT:=by rw[av,aH h];rfl
theorem Bp {l:List Nat} (h:l.Pairwise (· < ·)):l.Nodup:=h.imp fun h=>Nat.ne_of_lt h
end
section
variable {nx:Nat→List Nat} {N a i j x:Nat} {out out0:List Bool} {gr:Bool}
structure FS (nx:Nat→List Nat) (N a:Nat) (out:List Bool):Prop where
 len:out.length=N
 st:out.getD a false=true
 mem:∀q,out.getD q false=true→q=a∨Rch nx a q
theorem Ce {l m:List Nat} (hl:l.Pairwise (· < ·)) (hm:m.Pairwise (· < ·)) (h:∀x,x∈l↔x∈m):l=m:=by
 have p:l.Perm m:=(List.perm_ext_iff_of_nodup (Bp hl) (Bp hm)).2 h
 exact p.eq_of_pairwise (fun a b _ _ h1 h2=>absurd h1 (by omega)) hl hm
end
end Go.Proofs.YtffbohecdocajaaGreat
namespace Go.SL
set_option linter.unusedVariables false
open Go.RowKit
structure ajd (es:List MapEntry) (S:ByteArray→Bool):Prop where
 zN:∀e,e∈es→∃n,e.key= .string n∧e.val= .bool true∧S n=true
 mem:∀n,S n=true→∃e,e∈es∧e.key= .string n
 A5:es.Pairwise fun a b=>a.key≠b.key
def uY (b:Nat) (S:ByteArray→Bool):cq:=⟨fun k=>k=b,fun w=>∃es clock,w.heap[b]? =some (.map es clock)∧ajd es.toList S,fun h ⟨es,c,h1,h2⟩=>⟨es,c,(h b rfl).trans h1,h2⟩⟩
theorem DC {a b:ByteArray} (h:Value.string a= .string b):a=b:=by simpa using h
theorem P0 (a:ByteArray):(a==a)=true:=by cases a;exact beq_self_eq_true (α:=Array UInt8) _
theorem ahN {a b:ByteArray} (h:a≠b):(a==b)=false:=by cases a;cases b;exact beq_false_of_ne (α:=Array UInt8) (fun e=>h (congrArg _ e))
theorem tC {n:ByteArray}:∀{es:List MapEntry} (i:Nat),(∀e,e∈es→∃m,e.key= .string m∧e.val= .bool true)→
  (∃j,kt .string (.string n) es i=some (some (j,.bool true))∧i≤j∧∃e,es[j-i]? =some e∧e.key= .string n)∨(kt .string (.string n) es i=some none∧∀e,e∈es→e.key≠ .string n)
 |[],i,_=>.inr ⟨rfl,by simp⟩
 |e::es,i,h=>by
  obtain⟨m,hm,hv⟩:=h e (by simp)
  simp only[kt,hm,Instr.sameNow,if_true]
  by_cases q:n=m
  ·subst q
   left
   rw[P0];skip
   exact⟨i,by rw[hv],bA _,e,by simp,hm⟩
  ·have:(n==m)=false:=ahN q
   rw[this]
   rcases tC (n:=n) (es:=es) (i+1) (fun e' he=>h e' (by simp [he])) with⟨j,h1,h2,e',h3,h4⟩|⟨h1,h2⟩
   ·left
    refine⟨j,h1,by omega,e',?_,h4⟩
    rw[show j-i=(j-(i+1))+1 by omega]
    simpa using h3
   ·right
    refine⟨h1,?_⟩
    intro e' he
    rcases List.mem_cons.1 he with rfl|he
    ·rw[hm];exact fun e=>q (DC e).symm
    ·exact h2 e' he
section
variable {P:Program} {ro:Option Nat} {β:Bs} {N:Nat} {ds:List Deferred} {env:Env} {L:List cq} {Q:Exit→Act→World→Prop}
variable {d:Option Nat} {ty:TypeId} {pos:String} {aft:Array Edge} {g:Option (Nat×Bool)}
def C0 (P:Program) (T:Nat):Prop:=∃K E,P.underlying T=some (.map K E)∧P.underlying K=some .string∧cj P E (.bool false)
theorem yw {K:TypeId} (hK:P.underlying K=some .string) (e:Bool) (n:Nat) (v:Value) (w:World):(mX e (n+1) K v).run P w= .ok () w:=by
 simp [mX,run_underlying hK]
theorem BH {T b:Nat} {S:ByteArray→Bool} {n:ByteArray} {w:World} (hT:C0 P T) (hi:(uY b S).inv w):(Instr.lookup T (.map (some b)) (.string n) false).run P w= .ok (.bool (S n)) w:=by
 obtain⟨K,E,hu,hK,hz⟩:=hT
 obtain⟨es,clock,hb,hs⟩:=hi
 have hobj:(getObj b).run P w= .ok (.map es clock) w:=by simp [getObj,Sem.run,hb]
 simp only[Instr.lookup,bz,run_underlying hu,bw,hobj,cG,yw hK,Instr.findKey,run_underlying hK]
 rcases tC (n:=n) (es:=es.toList) 0 (fun e he=>by obtain⟨m,h1,h2,_⟩:=hs.zN e he;exact⟨m,h1,h2⟩) with⟨j,h1,h2,e,h3,h4⟩|⟨h1,h2⟩
 ·rw[h1]
  have hm:e∈es.toList:=al h3
  obtain⟨m,g1,g2,g3⟩:=hs.zN e hm
  have:m=n:=DC (g1.symm.trans h4)
  subst this
  simp [g3]
 ·rw[h1]
  have:S n=false:=by
   cases q:S n
   ·rfl
   ·obtain⟨e,he,hk⟩:=hs.mem n q
    exact absurd hk (h2 e he)
  simp [mc hz,this]
theorem LO.lks {x y:Operand} {T b:Nat} {S:ByteArray→Bool} {n:ByteArray} (hT:C0 P T) (hx:OV env x (.map (some b))) (hy:OV env y (.string n)) (hi:∀w,St β L w→(uY b S).inv w):LO P β env L ⟨d,.lookup T x y false,ty,pos,aft,g⟩ (.bool (S n)):=
 .ee fun a w h hw=>⟨w,by
  have:=BH (n:=n) hT (hi w hw)
  skip
  simp [execOp,h x (by simp [az]) _ hx,h y (by simp [az]) _ hy,this],hw⟩
def BE (S:ByteArray→Bool) (n:ByteArray):ByteArray→Bool:=fun m=>decide (m=n)||S m
theorem xF {T b:Nat} {S:ByteArray→Bool} {n:ByteArray} {w:World} (hT:C0 P T) (i:Nat) (hw:St β L w) (hi:L[i]? =some (uY b S)):
  ∃w',(lq T (.map (some b)) (.string n) (.bool true)).run P w= .ok () w'∧St β (L.set i (uY b (BE S n))) w':=by
 obtain⟨K,E,hu,hK,hz⟩:=hT
 obtain⟨es,clock,hb,hs⟩:=hw.inv i _ hi
 have hobj:(getObj b).run P w= .ok (.map es clock) w:=by simp [getObj,Sem.run,hb]
 have hlt:i<L.length:=by
  rcases Nat.lt_or_ge i L.length with q|q
  ·exact q
  ·simp [aH q]at hi
 have hset:∀o,(setObj b o).run P w= .ok () (w.putObj b o):=fun o=>by simp [setObj,Sem.run,hb,World.putObj]
 
 have h1:St β (L.set i (de b (.map es clock))) w:=hw.conv i hi (fun k hk=>hk) hb
 have SR:∀es' clock',ajd es'.toList (BE S n)→St β (L.set i (uY b (BE S n))) (w.putObj b (.map es' clock')):=by
  intro es' clock' hse
  have hg:(L.set i (de b (.map es clock)))[i]? =some (de b (.map es clock)):=by simp [hlt]
  have h2:=h1.obj (o':=.map es' clock') i hg
  rw[List.set_set]at h2
  have hg2:(L.set i (de b (.map es' clock')))[i]? =some (de b (.map es' clock')):=by simp [hlt]
  have h3:=h2.conv i (r':=uY b (BE S n)) hg2 (fun k hk=>hk) ⟨es',clock',h2.inv i _ hg2,hse⟩
  rwa [List.set_set]at h3
 simp only[lq,bz,run_underlying hu,bw,hobj,yw hK,Instr.findKey,run_underlying hK]
 rcases tC (n:=n) (es:=es.toList) 0 (fun e he=>by obtain⟨m,h1,h2,_⟩:=hs.zN e he;exact⟨m,h1,h2⟩) with⟨j,h1',h2,e,h3,h4⟩|⟨h1',h2⟩
 ·rw[h1']
  simp only[Nat.sub_zero]at h3
  have hj:es[j]? =some e:=by simpa using h3
  have hjl:j<es.size:=(eo.1 hj).1
  have hme:es[j]=e:=(eo.1 hj).2
  obtain⟨m,g1,g2,g3⟩:=hs.zN e (al h3)
  have hmn:m=n:=DC (g1.symm.trans h4)
  subst hmn
  have hmod:(es.modify j fun e=>{ e with key:=.string m,val:=.bool true })=es:=by
   apply Array.ext
   ·simp
   ·intro k hk1 hk2
    rw[Array.getElem_modify]
    split
    ·rename_i q
     subst q
     rw[hme, ←g1, ←g2]
    ·rfl
  refine⟨w.putObj b (.map es clock),?_,SR es clock ?_⟩
  ·simp [hj,g1,Instr.keyThatStays,Instr.sameBits,P0]
   rw[show(es.modify j fun e=>{ key:=Value.string m,val:=Value.bool true,born:=e.born })=es from hmod,hset]
  ·refine⟨fun e' he'=>?_,fun k hk=>?_,hs.A5⟩
   ·obtain⟨a,b1,b2,b3⟩:=hs.zN e' he'
    exact⟨a,b1,b2,by simp [BE,b3]⟩
   ·simp only[BE,fj,decide_eq_true_eq]at hk
    rcases hk with rfl|hk
    ·exact hs.mem _ g3
    ·exact hs.mem k hk
 ·rw[h1']
  refine⟨_,hset _,SR (es.push { key:=.string n,val:=.bool true,born:=clock }) (clock+1) ?_⟩
  refine⟨fun e' he'=>?_,fun k hk=>?_,?_⟩
  ·simp only[jl,bZ,bT]at he'
   rcases he' with he'|rfl
   ·obtain⟨a,b1,b2,b3⟩:=hs.zN e' he'
    exact⟨a,b1,b2,by simp [BE,b3]⟩
   ·exact⟨n,rfl,rfl,by simp [BE]⟩
  ·simp only[BE,fj,decide_eq_true_eq]at hk
   by_cases q:k=n
   ·exact⟨{ key:=.string n,val:=.bool true,born:=clock },by simp,by rw[q]⟩
   ·obtain⟨e,he,hke⟩:=hs.mem k (by simpa [q]using hk)
    exact⟨e,by simp [he],hke⟩
  ·simp only[jl]
   rw[List.pairwise_append]
   refine⟨hs.A5,by simp,?_⟩
   intro a ha b hb
   simp at hb;subst hb
   exact h2 a ha
section
variable {K:Value→List cq→Prop} {dd:Option Nat}
theorem HO.acX {T:Nat} (k:∀b,K (.map (some b)) (uY b (fun _=>false)::L)):HO P β env L ⟨dd,.makeMap T none,ty,pos,aft,none⟩ K:=by
 intro a w h hw
 refine .inl ⟨_,w.alloc (.map #[] 0),_,_,?_,.inl rfl,k w.heap.size,?_⟩
 ·simp [execOp,run_makeMap]
 ·have h1:=hw.alloc (.map #[] 0)
  have:=h1.conv 0 (r':=uY w.heap.size (fun _=>false)) rfl (fun k hk=>hk) ⟨#[],0,h1.inv 0 _ rfl,by simp,by simp,by simp⟩
  simpa using this
theorem HO.mus (i:Nat) (LF:cq→List cq) {x y z:Operand} {T b:Nat} {S:ByteArray→Bool} {n:ByteArray} (hT:C0 P T) (hx:OV env x (.map (some b))) (hy:OV env y (.string n)) (hz:OV env z (.bool true)) (hi:L[i]? =some (uY b S)) (hL:∀R:cq,L.set i R=LF R)
  (k:K undef (LF (uY b (BE S n)))):HO P β env L ⟨dd,.mapUpdate T x y z,ty,pos,aft,none⟩ K:=by
 intro a w h hw
 obtain⟨w',h1,h2⟩:=xF (n:=n) hT i hw hi
 skip
 refine .inl ⟨.skip,w',undef,_,?_,.inr ⟨rfl,rfl⟩,k,by rw[←hL];exact h2⟩
 have ex:a.eval x= .map (some b):=by obtain⟨u,hu,e⟩:=hx;subst e;exact h x (by simp [az]) _ hu
 have ey:a.eval y= .string n:=by obtain⟨u,hu,e⟩:=hy;subst e;exact h y (by simp [az]) _ hu
 have ez:a.eval z= .bool true:=by obtain⟨u,hu,e⟩:=hz;subst e;exact h z (by simp [az]) _ hu
 simp [execOp,ex,ey,ez,h1]
end
end
end Go.SL
