/-
  The histories of areas: what a further map makes of them, in plain Lean.
  (and more)
-/
import Derived.Test.YtgemekpofpoopaaGreatKBOO02
open List renaming range→bF,getD_eq_getElem?_getD→aO,getElem?_append_left→aV,getElem?_append_right→bJ,length_append→aJ,mem_singleton→bW,getElem?_map→aI,mem_map→bN,mem_of_getElem?→al,getElem?_eq_some_iff→an,length_singleton→bu,pairwise_map→gk,getElem?_eq_getElem→aw,getElem_mem→gS,length_map→ak,filter_congr→gC,mem_range→a8,length_mapIdx→vr,getElem?_mapIdx→tK,mem_filter→bR,getElem?_eq_none→aQ,pairwise_iff_getElem→cj,range_succ→eZ,filter_append→dI,filter_cons→dj,filter_nil→jV,append_nil→ew,filter_eq_nil_iff→fZ,map_map→dV,length_pos_of_mem→j5,length_eq_zero_iff→lu,mem_append→bQ,ext_getElem?→cM,getElem?_set_ne→fm,set_set→jf,size_toArray→gA,mem_cons_of_mem→iP,mem_cons→dU,nodup_range→lF,mem_flatMap→oS,getElem?_set→eQ,length_set→eB,length_replicate→dF
open Nat renaming not_lt_zero→cQ,le_refl→cg,sub_self→gd,lt_irrefl→iJ,lt_succ_of_lt→vt,lt_succ_iff_lt_or_eq→cZ,zero_add→fF,lt_or_ge→bf,mul_le_mul_right→iA,add_mul→fQ
open Option.some renaming inj→eI
open Bool renaming and_eq_true→bD,false_eq_true→cA
open Go.SL renaming Rows→pT
open Go.Builtin renaming append_→lj,firstCells→gQ,lenOf→qT,nextslicecap→l4,zeroCells→fw
open Go.Question renaming cut→Cy
open Go.World renaming alloc→qU
open Classical renaming byContradiction→dx

set_option linter.unusedSimpArgs false
set_option maxRecDepth 20000
set_option maxHeartbeats 8000000
namespace Go.Proofs.YtgemekpofpoopaaGreat
open Go.SL Go.Cell
set_option linter.unusedVariables false
def zT:fo:=⟨0,0,[],0,[],[]⟩
def pM (N:Nat) (evs:List gF) (j:Nat):Bool:=decide (N=0∨(zE evs j).kd≠4)
def Yg (N:Nat) (evs:List gF) (ps:List Nat) (j:Nat):fo:=⟨if N=0 then 1 else(zE evs j).kd,N,[j],0,ps,[]⟩
def mE (tk:List fo) (ps:List Nat) (n:Nat):List fo:=tk.mapIdx fun p t=>if p∈ps then { t with ch:=t.ch++[n] } else t
def CV (tk:List fo) (N:Nat) (f:List Nat):List Nat:=(bF tk.length).filter fun p=>decide ((tk.getD p zT).up=N∧(tk.getD p zT).last∈f)
def sw (tk:List fo) (N:Nat) (evs:List gF) (j:Nat):List Nat:=if N=0 then[] else CV tk N (zE evs j).f
def me (evss:List (List gF)) (x y:fo):Bool:=decide (x.up=y.fr∧0<y.fr∧x.last∈(zE (evss.getD y.fr []) (y.ar.headD 0)).f)
structure iW (evss:List (List gF)) (ms:List Nat) (j:Nat) (tk:List fo) (of:Nat×Nat→Option Nat):Prop where
 base:KK ms.length tk of
 len:evss.length=ms.length
 Fb:∀n i,n<ms.length→i<ms.getD n 0→(n+1<ms.length∨i<j∨pM n (evss.getD n []) i=false)→∃k,of (n,i)=some k
 hd:∀t,t∈tk→t.fr+1=ms.length→t.ar.headD 0<j
 qE:∀t,t∈tk→∀(j a:Nat),t.ar[j]? =some a→a<ms.getD (t.fr+j) 0
 bg:∀t,t∈tk→(t.fr=0∧t.bg=1)∨(0<t.fr∧t.bg=(zE (evss.getD t.fr []) (t.ar.headD 0)).kd∧t.bg≠4)
 step:∀t,t∈tk→∀(j a b:Nat),t.ar[j]? =some a→t.ar[j+1]? =some b→(oJ (evss.getD (t.fr+j+1) []) a).kd=4∧(oJ (evss.getD (t.fr+j+1) []) a).t=[b]
 en:∀t,t∈tk→t.en=(if t.up=ms.length then 0 else(oJ (evss.getD t.up []) t.last).kd)∧t.en≠4
 ord:tk.Pairwise fun a b=>a.fr<b.fr∨a.fr=b.fr∧a.ar.headD 0<b.ar.headD 0
 pa:∀(k:Nat) (t:fo),tk[k]? =some t→t.pa=(bF tk.length).filter fun i=>me evss (tk.getD i zT) t
 ch:∀(k:Nat) (t:fo),tk[k]? =some t→t.ch=(bF tk.length).filter fun i=>me evss t (tk.getD i zT)
structure iF (evss:List (List gF)) (ms:List Nat) (tk:List fo) (of:Nat×Nat→Option Nat):Prop where
 q:iW evss ms (ms.getD (ms.length-1) 0) tk of
theorem iF.zero:iF [] [] [] (fun _=>none):=⟨⟨⟨fun n i k=>by simp,by simp,by simp⟩,rfl,fun n i h=>absurd h (cQ _),by simp,by simp,by simp,by simp,by simp,by simp,fun k t h=>by simp at h,fun k t h=>by simp at h⟩⟩
section
variable {evss:List (List gF)} {ms:List Nat} {evs:List gF} {N m j k:Nat} {tk:List fo} {of:Nat×Nat→Option Nat} {t:fo}
theorem pC {α:Type} {l:List α} {x d:α} {i:Nat} (h:i<l.length):(l++[x]).getD i d=l.getD i d:=by
 rw[aO,aO,aV h]
theorem ki {α:Type} {l:List α} {x d:α}:(l++[x]).getD l.length d=x:=by
 rw[aO,bJ (cg _),gd];rfl
theorem mQ {α:Type} {l:List α} {d x:α} {i:Nat} (h:l[i]? =some x):l.getD i d=x:=by rw[aO,h];rfl
theorem OJ {l:List Nat} {b:Nat} (h:0<l.length):(l++[b]).headD 0=l.headD 0:=by cases l with|nil=>simp at h|cons a l=>rfl
theorem It {l:List Nat} (h:0<l.length):l[0]? =some (l.headD 0):=by cases l with|nil=>simp at h|cons a l=>rfl
theorem jL (N:Nat) (evs:List gF) (t:fo):(t.up≠N∧jU N evs t=t)∨(t.up=N∧(oJ evs t.last).kd=4∧jU N evs t={ t with ar:=t.ar++[(oJ evs t.last).t.headD 0] })∨(t.up=N∧(oJ evs t.last).kd≠4∧jU N evs t={ t with en:=(oJ evs t.last).kd }):=by
 unfold jU NS
 by_cases h:t.up=N
 ·rw[if_pos h]
  by_cases k:(oJ evs t.last).kd=4
  ·rw[if_pos k];exact .inr (.inl ⟨h,k,rfl⟩)
  ·rw[if_neg k];exact .inr (.inr ⟨h,k,rfl⟩)
 ·rw[if_neg h];exact .inl ⟨h,rfl⟩
theorem mB:(jU N evs t).fr=t.fr∧(jU N evs t).bg=t.bg∧(jU N evs t).pa=t.pa∧(jU N evs t).ch=t.ch:=by
 rcases jL N evs t with⟨_,e⟩|⟨_,_,e⟩|⟨_,_,e⟩<;>rw[e]<;>exact⟨rfl,rfl,rfl,rfl⟩
theorem uP (h:0<t.ar.length):(jU N evs t).ar.headD 0=t.ar.headD 0:=by
 rcases jL N evs t with⟨_,e⟩|⟨_,_,e⟩|⟨_,_,e⟩<;>rw[e]
 exact OJ h
theorem iW.first (h:iF [] [] tk of):iW [[]] [m] 0 tk of:=by
 have hq:=h.q
 have e:tk=[]:=by
  cases tk with
  |nil=>rfl
  |cons t l=>have z:=hq.base.pos t (by simp);unfold fo.up at z;rw[List.length_nil]at z;omega
 subst e
 have ho:∀n i,of (n,i)=none:=fun n i=>by
  cases z:of (n,i) with
  |none=>rfl
  |some k=>have:=(hq.base.lt z).1;simp at this
 exact⟨⟨fun n i k=>by rw[ho];simp,by simp,by simp⟩,rfl,fun n i h1 h2 h3=>by
  have h1:n=0:=by simpa using h1
  subst h1
  rcases h3 with z|z|z
  ·simp at z
  ·omega
  ·simp [pM]at z,by simp,by simp,by simp,by simp,by simp,by simp,fun k t h=>by simp at h,fun k t h=>by simp at h⟩
theorem iW.change (h:iF evss ms tk of) (hN:ms.length=N+1) (hg:iq (ms.getD N 0) m evs):iW (evss++[evs]) (ms++[m]) 0 (tk.map (jU (N+1) evs)) (r6 N evs of):=by
 have hq:=h.q
 have hb:=hq.base
 rw[hN]at hb
 have hel:evss.length=N+1:=by rw[hq.len,hN]
 have Zn:∀n,n<N+1→(evss++[evs]).getD n []=evss.getD n []:=fun n hn=>pC (by omega)
 have hE2:(evss++[evs]).getD (N+1) []=evs:=by rw[←hel];exact ki
 have hM1:∀n,n<N+1→(ms++[m]).getD n 0=ms.getD n 0:=fun n hn=>pC (by omega)
 have hM2:(ms++[m]).getD (N+1) 0=m:=by rw[←hN];exact ki
 have hln:(ms++[m]).length=N+2:=by rw[aJ,hN];rfl
 have hlast:∀t,t∈tk→t.up=N+1→t.last<ms.getD N 0:=fun t ht hu=>by
  have h1:=hq.qE t ht _ _ (qe (hb.pos t ht).1)
  have h2:=(hb.pos t ht).1
  unfold fo.up at hu
  rwa [show t.fr+(t.ar.length-1)=N by omega]at h1
 have hkept:∀t,t∈tk→t.up=N+1→(oJ evs t.last).kd=4→oJ evs t.last∈evs∧(oJ evs t.last).f=[t.last]∧(oJ evs t.last).t=[(oJ evs t.last).t.headD 0]∧(oJ evs t.last).t.headD 0<m:=fun t ht hu hk=>by
  obtain⟨h1,h2⟩:=hg.BY (hlast t ht hu)
  obtain⟨h3,h4⟩:=hg.kept h1 hk
  refine⟨h1,?_,h4,(hg.ts _ h1).2 _ (by rw[h4];simp)⟩
  have h5:t.last∈[(oJ evs t.last).f.headD 0]:=by rw[←h3];exact h2
  exact h3.trans (congrArg (fun x=>[x]) (bW.1 h5).symm)
 have hget:∀{k t},(tk.map (jU (N+1) evs))[k]? =some t→∃t0,tk[k]? =some t0∧t=jU (N+1) evs t0:=fun {k t} hk=>by
  rw[aI]at hk
  cases z:tk[k]? with
  |none=>rw[z]at hk;cases hk
  |some t0=>rw[z]at hk;exact⟨t0,z,(eI hk).symm⟩
 have hmem:∀{t},t∈tk.map (jU (N+1) evs)→∃t0,t0∈tk∧t=jU (N+1) evs t0:=fun {t} ht=>by
  obtain⟨t0,h1,h2⟩:=bN.1 ht;exact⟨t0,h1,h2.symm⟩
 refine⟨⟨fun n i k=>?_,fun t ht=>?_,fun t ht hu=>?_⟩,by rw[aJ,hln,hel];rfl,fun n i hn hi hc=>?_,fun t ht hf=>?_,fun t ht=>?_,fun t ht=>?_,fun t ht=>?_,fun t ht=>?_,?_,fun k t hk=>?_,fun k t hk=>?_⟩
 ·
  unfold r6
  by_cases q:n=N+1
  ·subst q
   simp only[if_true]
   constructor
   ·intro hs
    obtain⟨e,he1,he2⟩:=Option.bind_eq_some_iff.1 hs
    have hem:=List.mem_of_find?_eq_some he1
    have hp:=List.find?_some he1
    simp only[bD,decide_eq_true_eq]at hp
    obtain⟨hk3,hk4⟩:=hg.kept hem hp.1
    obtain⟨t,t1,t2,t3⟩:=hb.at he2
    have hbe:oJ evs t.last=e:=hg.E6 hem (by rw[t3,hk3];simp)
    have hbi:e.t.headD 0=i:=by have:=hp.2;rw[hk4]at this;exact(bW.1 this).symm
    refine⟨jU (N+1) evs t,by rw[aI,t1];rfl,?_,?_⟩
    ·rw[mB.1];unfold fo.up at t2;omega
    ·rcases jL (N+1) evs t with⟨z,_⟩|⟨_,_,z⟩|⟨_,z,_⟩
     ·exact absurd t2 z
     ·rw[z,hbe,hbi]
      show(t.ar++[i])[N+1-t.fr]? =some i
      rw[bJ (by unfold fo.up at t2;omega),show N+1-t.fr-t.ar.length=0 by unfold fo.up at t2;omega];rfl
     ·rw[hbe]at z;exact absurd hp.1 z
   ·rintro ⟨t,h1,h2,h3⟩
    obtain⟨t0,h4,rfl⟩:=hget h1
    have hp:=hb.pos t0 (al h4)
    have h5:=(an.1 h3).1
    rw[mB.1]at h2 h3 h5
    rcases jL (N+1) evs t0 with⟨z1,z⟩|⟨z1,z2,z⟩|⟨z1,z2,z⟩
    ·rw[z]at h5;unfold fo.up at hp;omega
    ·rw[z]at h3
     have h3:(t0.ar++[(oJ evs t0.last).t.headD 0])[N+1-t0.fr]? =some i:=h3
     rw[bJ (by unfold fo.up at z1;omega),show N+1-t0.fr-t0.ar.length=0 by unfold fo.up at z1;omega]at h3
     have h3:(oJ evs t0.last).t.headD 0=i:=eI h3
     obtain⟨k1,k2,k3,k4⟩:=hkept t0 (al h4) z1 z2
     rw[tx (e:=oJ evs t0.last) k1 (by rw[z2,k3,h3];simp) (fun a ha hp=>by
      simp only[bD,decide_eq_true_eq]at hp
      exact hg.Po ha k1 hp.2 (by rw[k3,h3];simp))]
     show of (N,(oJ evs t0.last).f.headD 0)=some k
     rw[k2]
     show of (N,t0.last)=some k
     refine(hb.ES N t0.last k).2 ⟨t0,h4,by unfold fo.up at z1;omega,?_⟩
     rw[show N-t0.fr=t0.ar.length-1 by unfold fo.up at z1;omega]
     exact qe hp.1
    ·rw[z]at h5
     have h5:N+1-t0.fr<t0.ar.length:=h5
     unfold fo.up at z1;omega
  ·rw[if_neg q]
   constructor
   ·intro hs
    have hlt:=(hb.lt hs).1
    obtain⟨t,h1,h2,h3⟩:=(hb.ES n i k).1 hs
    refine⟨jU (N+1) evs t,by rw[aI,h1];rfl,by rw[mB.1];exact h2,?_⟩
    rw[mB.1]
    rcases jL (N+1) evs t with⟨_,z⟩|⟨_,_,z⟩|⟨_,_,z⟩<;>rw[z]
    ·exact h3
    ·show(t.ar++_)[n-t.fr]? =some i
     rw[aV (an.1 h3).1];exact h3
    ·exact h3
   ·rintro ⟨t,h1,h2,h3⟩
    obtain⟨t0,h4,rfl⟩:=hget h1
    rw[mB.1]at h2 h3
    refine(hb.ES n i k).2 ⟨t0,h4,h2,?_⟩
    rcases jL (N+1) evs t0 with⟨_,z⟩|⟨z1,_,z⟩|⟨_,_,z⟩<;>rw[z]at h3
    ·exact h3
    ·have h3:(t0.ar++[(oJ evs t0.last).t.headD 0])[n-t0.fr]? =some i:=h3
     have h5:=(an.1 h3).1
     rw[aJ]at h5
     simp only[bu]at h5
     unfold fo.up at z1
     rwa [aV (by omega)]at h3
    ·exact h3
 ·obtain⟨t0,h1,rfl⟩:=hmem ht
  have hp:=hb.pos t0 h1
  rw[hln]
  rcases jL (N+1) evs t0 with⟨_,z⟩|⟨z1,_,z⟩|⟨_,_,z⟩<;>rw[z]
  ·exact⟨hp.1,by omega⟩
  ·refine⟨by show 0<(t0.ar++_).length;rw[aJ];omega,?_⟩
   show t0.fr+(t0.ar++_).length≤N+2
   unfold fo.up at z1;rw[aJ,bu];omega
  ·exact⟨hp.1,by show t0.up≤N+2;omega⟩
 ·obtain⟨t0,h1,rfl⟩:=hmem ht
  have hp:=hb.pos t0 h1
  rw[hln]at hu
  rcases jL (N+1) evs t0 with⟨_,z⟩|⟨z1,_,z⟩|⟨_,_,z⟩<;>rw[z]at hu ⊢
  ·omega
  ·exact hb.en t0 h1 z1
  ·have hu:t0.up=N+2:=hu
   omega
 ·rw[hln]at hn hc
  by_cases q:n=N+1
  ·subst q
   rw[hM2]at hi
   rcases hc with z|z|z
   ·omega
   ·omega
   ·rw[hE2]at z
    unfold pM at z
    have z:(zE evs i).kd=4:=by simpa using z
    obtain⟨h1,h2⟩:=hg.Sv hi
    obtain⟨h3,h4⟩:=hg.kept h1 z
    have h5:=(hg.fs _ h1).2 ((zE evs i).f.headD 0) (by rw[h3];simp)
    obtain⟨k,hk⟩:=hq.Fb N _ (by omega) h5 (.inr (.inl (by rw[hN];exact h5)))
    refine⟨k,?_⟩
    unfold r6
    simp only[if_true]
    rw[tx (e:=zE evs i) h1 (by simp [z,h2]) (fun a ha hp=>by
     simp only[bD,decide_eq_true_eq]at hp
     exact hg.Po ha h1 hp.2 h2)]
    exact hk
  ·rw[hM1 n (by omega)]at hi
   obtain⟨k,hk⟩:=hq.Fb n i (by omega) hi (by
    rw[hN]
    by_cases y:n+1<N+1
    ·exact .inl y
    ·have:n=N:=by omega
     subst this
     exact .inr (.inl hi))
   refine⟨k,?_⟩
   unfold r6;rw[if_neg q];exact hk
 ·obtain⟨t0,h1,rfl⟩:=hmem ht
  rw[hln,mB.1]at hf
  have hp:=hb.pos t0 h1
  unfold fo.up at hp;omega
 ·obtain⟨t0,h1,rfl⟩:=hmem ht
  intro j a hj
  have hp:=hb.pos t0 h1
  have RG:∀j a,t0.ar[j]? =some a→a<(ms++[m]).getD (t0.fr+j) 0:=fun j a hj=>by
   have:=(an.1 hj).1
   unfold fo.up at hp
   rw[hM1 _ (by omega)];exact hq.qE t0 h1 j a hj
  rw[mB.1]
  rcases jL (N+1) evs t0 with⟨_,z⟩|⟨z1,z2,z⟩|⟨_,_,z⟩<;>rw[z]at hj
  ·exact RG j a hj
  ·have hj:(t0.ar++[(oJ evs t0.last).t.headD 0])[j]? =some a:=hj
   by_cases y:j<t0.ar.length
   ·rw[aV y]at hj;exact RG j a hj
   ·have h5:=(an.1 hj).1
    rw[aJ,bu]at h5
    rw[bJ (by omega),show j-t0.ar.length=0 by omega]at hj
    have hj:(oJ evs t0.last).t.headD 0=a:=eI hj
    unfold fo.up at z1
    rw[show t0.fr+j=N+1 by omega,hM2, ←hj]
    exact(hkept t0 h1 z1 z2).2.2.2
  ·exact RG j a hj
 ·obtain⟨t0,h1,rfl⟩:=hmem ht
  have hp:=hb.pos t0 h1
  rw[mB.1,mB.2.1,uP hp.1]
  unfold fo.up at hp
  rw[Zn _ (by omega)]
  exact hq.bg t0 h1
 ·obtain⟨t0,h1,rfl⟩:=hmem ht
  intro j a b ha hb'
  have hp:=hb.pos t0 h1
  have RG:∀j a b,t0.ar[j]? =some a→t0.ar[j+1]? =some b→(oJ ((evss++[evs]).getD (t0.fr+j+1) []) a).kd=4∧(oJ ((evss++[evs]).getD (t0.fr+j+1) []) a).t=[b]:=fun j a b ha hb'=>by
   have:=(an.1 hb').1
   unfold fo.up at hp
   rw[Zn _ (by omega)];exact hq.step t0 h1 j a b ha hb'
  rw[mB.1]
  rcases jL (N+1) evs t0 with⟨_,z⟩|⟨z1,z2,z⟩|⟨_,_,z⟩<;>rw[z]at ha hb'
  ·exact RG j a b ha hb'
  ·have ha:(t0.ar++[(oJ evs t0.last).t.headD 0])[j]? =some a:=ha
   have hb':(t0.ar++[(oJ evs t0.last).t.headD 0])[j+1]? =some b:=hb'
   by_cases y:j+1<t0.ar.length
   ·rw[aV (by omega)]at ha hb';exact RG j a b ha hb'
   ·have h5:=(an.1 hb').1
    rw[aJ,bu]at h5
    rw[bJ (by omega),show j+1-t0.ar.length=0 by omega]at hb'
    rw[aV (by omega),show j=t0.ar.length-1 by omega,qe hp.1]at ha
    have hb':(oJ evs t0.last).t.headD 0=b:=eI hb'
    have ha:t0.last=a:=eI ha
    obtain⟨k1,k2,k3,k4⟩:=hkept t0 h1 z1 z2
    unfold fo.up at z1
    rw[show t0.fr+j+1=N+1 by omega,hE2, ←ha, ←hb']
    exact⟨z2,k3⟩
  ·exact RG j a b ha hb'
 ·obtain⟨t0,h1,rfl⟩:=hmem ht
  have hp:=hb.pos t0 h1
  obtain⟨e1,e2⟩:=hq.en t0 h1
  rw[hN]at e1
  rw[hln]
  rcases jL (N+1) evs t0 with⟨z1,z⟩|⟨z1,z2,z⟩|⟨z1,z2,z⟩<;>rw[z]
  ·rw[if_neg z1]at e1
   rw[if_neg (by omega),Zn _ (by omega)]
   exact⟨e1,e2⟩
  ·rw[if_pos z1]at e1
   have:({ t0 with ar:=t0.ar++[(oJ evs t0.last).t.headD 0] }:fo).up=N+2:=by
    show t0.fr+(t0.ar++_).length=_
    unfold fo.up at z1;rw[aJ,bu];omega
   rw[if_pos this];exact⟨e1,e2⟩
  ·have:({ t0 with en:=(oJ evs t0.last).kd }:fo).up=N+1:=z1
   rw[if_neg (by omega),this,hE2]
   exact⟨rfl,z2⟩
 ·refine gk.2 (hq.ord.imp_of_mem fun {a b} ha hb' hab=>?_)
  rw[mB.1,mB.1,uP (hb.pos a ha).1,uP (hb.pos b hb').1];exact hab
 all_goals
  obtain⟨t0,h4,rfl⟩:=hget hk
  have h1:=al h4
  have hln1:∀x y,x∈tk→y∈tk→me (evss++[evs]) (jU (N+1) evs x) (jU (N+1) evs y)=me evss x y:=fun x y hx hy=>by
   have px:=hb.pos x hx
   have py:=hb.pos y hy
   unfold me
   rw[mB.1,uP py.1]
   have hy2:y.fr<N+1:=by unfold fo.up at py;omega
   rw[Zn _ hy2]
   refine decide_eq_decide.2 ?_
   rcases jL (N+1) evs x with⟨_,z⟩|⟨z1,_,z⟩|⟨z1,_,z⟩<;>rw[z]
   ·have:({ x with ar:=x.ar++[(oJ evs x.last).t.headD 0] }:fo).up=N+2:=by
     show x.fr+(x.ar++_).length=_
     unfold fo.up at z1;rw[aJ,bu];omega
    constructor
    ·rintro ⟨c,_⟩;omega
    ·rintro ⟨c,_⟩;omega
   ·exact Iff.rfl
  have hgd:∀i,i<tk.length→(tk.map (jU (N+1) evs)).getD i zT=jU (N+1) evs (tk.getD i zT)∧tk.getD i zT∈tk:=fun i hi=>by
   have e:tk[i]? =some tk[i]:=aw hi
   rw[mQ (x:=jU (N+1) evs tk[i]) (by rw[aI,e];rfl),mQ e]
   exact⟨rfl,gS hi⟩
 ·rw[mB.2.2.1,hq.pa k t0 h4,ak]
  refine gC fun i hi=>?_
  obtain⟨g1,g2⟩:=hgd i (a8.1 hi)
  rw[g1,hln1 _ _ g2 h1]
 ·rw[mB.2.2.2,hq.ch k t0 h4,ak]
  refine gC fun i hi=>?_
  obtain⟨g1,g2⟩:=hgd i (a8.1 hi)
  rw[g1,hln1 _ _ h1 g2]
end
section
variable {E:List (List gF)} {Ms:List Nat} {N j k n:Nat} {tk:List fo} {of:Nat×Nat→Option Nat} {t x:fo} {ps:List Nat}
def u5 (ps:List Nat) (K p:Nat) (t:fo):fo:=if p∈ps then { t with ch:=t.ch++[K] } else t
theorem jd {K p:Nat}:(u5 ps K p t).fr=t.fr∧(u5 ps K p t).ar=t.ar∧(u5 ps K p t).bg=t.bg∧(u5 ps K p t).en=t.en∧(u5 ps K p t).pa=t.pa∧(u5 ps K p t).up=t.up∧(u5 ps K p t).last=t.last:=by
 unfold u5;split<;>exact⟨rfl,rfl,rfl,rfl,rfl,rfl,rfl⟩
theorem KF {l:List fo} {n:Nat}:(mE l ps n).length=l.length:=by unfold mE;rw[vr]
theorem nB {l:List fo} {n:Nat}:(mE l ps n)[k]? =(l[k]?).map (u5 ps n k):=by unfold mE u5;rw[tK]
theorem OG {evs:List gF} (h:k∈sw tk N evs j):k<tk.length:=by
 unfold sw CV at h
 split at h
 ·simp at h
 ·exact a8.1 (bR.1 h).1
theorem pP (hps:∀p,p∈ps→p<tk.length) (h:(mE (tk++[x]) ps tk.length)[k]? =some t):(∃t0,tk[k]? =some t0∧t=u5 ps tk.length k t0)∨(k=tk.length∧t=x):=by
 rw[nB]at h
 by_cases q:k<tk.length
 ·rw[aV q,aw q]at h
  exact .inl ⟨tk[k],aw q,(eI h).symm⟩
 ·by_cases z:k=tk.length
  ·subst z
   rw[bJ (cg _),gd]at h
   refine .inr ⟨rfl,?_⟩
   have h:=(eI h).symm
   rw[h];unfold u5;rw[if_neg fun y=>absurd (hps _ y) (iJ _)]
  ·rw[aQ (by rw[aJ,bu];omega)]at h;cases h
theorem Ea (h:tk[k]? =some t):(mE (tk++[x]) ps tk.length)[k]? =some (u5 ps tk.length k t):=by
 rw[nB,aV (an.1 h).1,h];rfl
theorem Dk (hps:∀p,p∈ps→p<tk.length):(mE (tk++[x]) ps tk.length)[tk.length]? =some x:=by
 rw[nB,bJ (cg _),gd]
 show some (u5 ps tk.length tk.length x)=_
 unfold u5;rw[if_neg fun y=>absurd (hps _ y) (iJ _)]
def sy (N:Nat) (evs:List gF) (s:List fo×(Nat×Nat→Option Nat)) (j:Nat):List fo×(Nat×Nat→Option Nat):=
 if pM N evs j=true then(mE (s.1++[Yg N evs (sw s.1 N evs j) j]) (sw s.1 N evs j) s.1.length,kB s.2 (N,j) s.1.length) else s
def ib (N:Nat) (evs:List gF) (s:List fo×(Nat×Nat→Option Nat)):Nat→List fo×(Nat×Nat→Option Nat)
 |0=>s
 |k+1=>sy N evs (ib N evs s k) k
theorem iW.free (h:iW E Ms j tk of) (hN:Ms.length=N+1) (hg:0<N→iq (Ms.getD (N-1) 0) (Ms.getD N 0) (E.getD N [])) (hn:pM N (E.getD N []) j=true):of (N,j)=none:=by
 cases z:of (N,j) with
 |none=>rfl
 |some k=>
  obtain⟨t,t1,t2,t3⟩:=(h.base.ES N j k).1 z
  have tm:=al t1
  exfalso
  by_cases q:t.fr=N
  ·have h1:=h.hd t tm (by omega)
   rw[q,gd]at t3
   have:=It (h.base.pos t tm).1
   rw[t3]at this
   have:=eI this
   omega
  ·obtain⟨a,ha⟩:∃a,t.ar[N-t.fr-1]? =some a:=⟨_,aw (by have:=(an.1 t3).1;omega)⟩
   have hs:=h.step t tm (N-t.fr-1) a j ha (by rw[show N-t.fr-1+1=N-t.fr by omega];exact t3)
   rw[show t.fr+(N-t.fr-1)+1=N by omega]at hs
   have hr:=h.qE t tm _ _ ha
   rw[show t.fr+(N-t.fr-1)=N-1 by omega]at hr
   have hg:=hg (by omega)
   obtain⟨g1,g2⟩:=hg.BY hr
   have hb:zE (E.getD N []) j=oJ (E.getD N []) a:=hg.Fg g1 (by rw[hs.2];simp)
   unfold pM at hn
   have hn:=of_decide_eq_true hn
   rw[hb]at hn
   rcases hn with y|y
   ·omega
   ·exact y hs.1
theorem iW.skip (h:iW E Ms j tk of) (hN:Ms.length=N+1) (hn:¬pM N (E.getD N []) j=true):iW E Ms (j+1) tk of:=by
 refine⟨h.base,h.len,fun n i h1 h2 h3=>h.Fb n i h1 h2 ?_,fun t ht hf=>vt (h.hd t ht hf),h.qE,h.bg,h.step,h.en,h.ord,h.pa,h.ch⟩
 rcases h3 with z|z|z
 ·exact .inl z
 ·rcases cZ.1 z with y|y
  ·exact .inr (.inl y)
  ·subst y
   by_cases q:n+1<Ms.length
   ·exact .inl q
   ·have:n=N:=by omega
    subst this
    exact .inr (.inr (by simpa using hn))
 ·exact .inr (.inr z)
theorem iW.born (h:iW E Ms j tk of) (hN:Ms.length=N+1) (hj:j<Ms.getD N 0) (hg:0<N→iq (Ms.getD (N-1) 0) (Ms.getD N 0) (E.getD N [])) (hn:pM N (E.getD N []) j=true):
  iW E Ms (j+1) (mE (tk++[Yg N (E.getD N []) (sw tk N (E.getD N []) j) j]) (sw tk N (E.getD N []) j) tk.length) (kB of (N,j) tk.length):=by
 have hfree:=h.free hN hg hn
 obtain⟨ps,hps0⟩:∃ps,ps=sw tk N (E.getD N []) j:=⟨_,rfl⟩
 rw[←hps0]
 have hps:∀p,p∈ps→p<tk.length:=fun p hp=>OG (hps0 ▸ hp)
 obtain⟨x,hx⟩:∃x,x=Yg N (E.getD N []) ps j:=⟨_,rfl⟩
 rw[←hx]
 have xfr:x.fr=N:=by rw[hx];rfl
 have xar:x.ar=[j]:=by rw[hx];rfl
 have xen:x.en=0:=by rw[hx];rfl
 have xpa:x.pa=ps:=by rw[hx];rfl
 have xch:x.ch=[]:=by rw[hx];rfl
 have xup:x.up=N+1:=by unfold fo.up;rw[xfr,xar];rfl
 have xbg:x.bg=if N=0 then 1 else(zE (E.getD N []) j).kd:=by rw[hx];rfl
 have hb:=h.base
 rw[hN]at hb
 have hfr:∀t,t∈tk→t.fr≤N:=fun t ht=>by have:=hb.pos t ht;unfold fo.up at this;omega
 have hmem:∀{t},t∈mE (tk++[x]) ps tk.length→(∃t0 k,t0∈tk∧t=u5 ps tk.length k t0)∨t=x:=fun {t} ht=>by
  obtain⟨k,hk⟩:=List.mem_iff_getElem?.1 ht
  rcases pP hps hk with⟨t0,h1,h2⟩|⟨_,h2⟩
  ·exact .inl ⟨t0,k,al h1,h2⟩
  ·exact .inr h2
 have hlenA:(mE (tk++[x]) ps tk.length).length=tk.length+1:=by rw[KF,aJ];rfl
 have hgd:∀i,i<tk.length→(mE (tk++[x]) ps tk.length).getD i zT=u5 ps tk.length i (tk.getD i zT)∧tk.getD i zT∈tk:=fun i hi=>by
  have e:tk[i]? =some tk[i]:=aw hi
  rw[mQ (Ea e),mQ e];exact⟨rfl,gS hi⟩
 have hgx:(mE (tk++[x]) ps tk.length).getD tk.length zT=x:=mQ (Dk hps)
 have ladj:∀a b K p r,me E (u5 ps K p a) (u5 ps K r b)=me E a b:=fun a b K p r=>by
  unfold me
  obtain⟨a1,a2,_,_,_,a6,a7⟩:=jd (ps:=ps) (K:=K) (p:=p) (t:=a)
  obtain⟨b1,b2,_,_,_,_,_⟩:=jd (ps:=ps) (K:=K) (p:=r) (t:=b)
  rw[a6,a7,b1,b2]
 have ladj2:∀a b K r,me E a (u5 ps K r b)=me E a b:=fun a b K r=>by
  unfold me
  obtain⟨b1,b2,_,_,_,_,_⟩:=jd (ps:=ps) (K:=K) (p:=r) (t:=b)
  rw[b1,b2]
 have ladj1:∀a b K p,me E (u5 ps K p a) b=me E a b:=fun a b K p=>by
  unfold me
  obtain⟨a1,a2,_,_,_,a6,a7⟩:=jd (ps:=ps) (K:=K) (p:=p) (t:=a)
  rw[a6,a7]
 have lx1:∀t,t.fr≤N→me E x t=false:=fun t ht=>by
  unfold me;rw[xup];exact decide_eq_false fun z=>by omega
 have lx2:∀t,me E t x=decide (0<N∧t.up=N∧t.last∈(zE (E.getD N []) j).f):=fun t=>by
  unfold me;rw[xfr,xar]
  exact decide_eq_decide.2 ⟨fun⟨a,b,c⟩=>⟨b,a,c⟩,fun⟨a,b,c⟩=>⟨b,a,c⟩⟩
 have hpsm:∀p,p<tk.length→(p∈ps↔(0<N∧(tk.getD p zT).up=N∧(tk.getD p zT).last∈(zE (E.getD N []) j).f)):=fun p hp=>by
  rw[hps0];unfold sw CV
  split
  ·rename_i q;subst q;simp
  ·rename_i q
   rw[bR,a8,decide_eq_true_eq]
   exact⟨fun⟨_,a⟩=>⟨by omega,a⟩,fun⟨_,a⟩=>⟨hp,a⟩⟩
 refine⟨⟨fun n i k=>?_,fun t ht=>?_,fun t ht hu=>?_⟩,h.len,fun n i h1 h2 h3=>?_,fun t ht hf=>?_,fun t ht=>?_,fun t ht=>?_,fun t ht=>?_,fun t ht=>?_,?_,fun k t hk=>?_,fun k t hk=>?_⟩
 ·unfold kB
  by_cases q:(n,i)=(N,j)
  ·rw[if_pos q]
   have q1:n=N:=congrArg Prod.fst q
   have q2:i=j:=congrArg Prod.snd q
   subst q1;subst q2
   constructor
   ·intro hs
    have hs:=eI hs
    subst hs
    exact⟨x,Dk hps,by omega,by rw[xfr,xar,gd];rfl⟩
   ·rintro ⟨t,t1,t2,t3⟩
    rcases pP hps t1 with⟨t0,g1,rfl⟩|⟨g1,_⟩
    ·obtain⟨a1,a2,_⟩:=jd (ps:=ps) (K:=tk.length) (p:=k) (t:=t0)
     rw[a1]at t2 t3;rw[a2]at t3
     have:=(hb.ES n i k).2 ⟨t0,g1,t2,t3⟩
     rw[hfree]at this;cases this
    ·rw[g1]
  ·rw[if_neg q]
   constructor
   ·intro hs
    obtain⟨t,t1,t2,t3⟩:=(hb.ES n i k).1 hs
    obtain⟨a1,a2,_⟩:=jd (ps:=ps) (K:=tk.length) (p:=k) (t:=t)
    exact⟨_,Ea t1,by rw[a1];exact t2,by rw[a1,a2];exact t3⟩
   ·rintro ⟨t,t1,t2,t3⟩
    rcases pP hps t1 with⟨t0,g1,rfl⟩|⟨_,rfl⟩
    ·obtain⟨a1,a2,_⟩:=jd (ps:=ps) (K:=tk.length) (p:=k) (t:=t0)
     rw[a1]at t2 t3;rw[a2]at t3
     exact(hb.ES n i k).2 ⟨t0,g1,t2,t3⟩
    ·exfalso
     rw[xfr]at t2 t3;rw[xar]at t3
     have h4:=(an.1 t3).1
     simp only[bu]at h4
     have h5:n=N:=by omega
     subst h5
     rw[gd]at t3
     have h6:j=i:=eI t3
     subst h6
     exact q rfl
 ·rw[hN]
  rcases hmem ht with⟨t0,k,g1,rfl⟩|rfl
  ·obtain⟨a1,a2,_,_,_,a6,_⟩:=jd (ps:=ps) (K:=tk.length) (p:=k) (t:=t0)
   rw[a2,a6];exact hb.pos t0 g1
  ·rw[xar,xup];exact⟨by simp,cg _⟩
 ·rw[hN]at hu
  rcases hmem ht with⟨t0,k,g1,rfl⟩|rfl
  ·obtain⟨a1,a2,_,a4,_,a6,_⟩:=jd (ps:=ps) (K:=tk.length) (p:=k) (t:=t0)
   rw[a4];rw[a6]at hu;exact hb.en t0 g1 hu
  ·exact xen
 ·unfold kB
  by_cases q:(n,i)=(N,j)
  ·rw[if_pos q];exact⟨_,rfl⟩
  ·rw[if_neg q]
   refine h.Fb n i h1 h2 ?_
   rcases h3 with z|z|z
   ·exact .inl z
   ·rcases cZ.1 z with y|y
    ·exact .inr (.inl y)
    ·subst y
     by_cases w:n+1<Ms.length
     ·exact .inl w
     ·exact absurd (by rw[show n=N by omega]) q
   ·exact .inr (.inr z)
 ·rcases hmem ht with⟨t0,k,g1,rfl⟩|rfl
  ·obtain⟨a1,a2,_⟩:=jd (ps:=ps) (K:=tk.length) (p:=k) (t:=t0)
   rw[a2];rw[a1]at hf;exact vt (h.hd t0 g1 hf)
  ·rw[xar];exact Nat.lt_succ_self _
 ·rcases hmem ht with⟨t0,k,g1,rfl⟩|rfl
  ·obtain⟨a1,a2,_⟩:=jd (ps:=ps) (K:=tk.length) (p:=k) (t:=t0)
   rw[a1,a2];exact h.qE t0 g1
  ·intro r a ha
   rw[xar]at ha
   have h4:=(an.1 ha).1
   simp only[bu]at h4
   have h5:r=0:=by omega
   subst h5
   have h6:j=a:=eI ha
   rw[xfr,Nat.add_zero, ←h6];exact hj
 ·rcases hmem ht with⟨t0,k,g1,rfl⟩|rfl
  ·obtain⟨a1,a2,a3,_⟩:=jd (ps:=ps) (K:=tk.length) (p:=k) (t:=t0)
   rw[a1,a2,a3];exact h.bg t0 g1
  ·rw[xfr,xar,xbg]
   by_cases q:N=0
   ·rw[if_pos q];exact .inl ⟨q,rfl⟩
   ·rw[if_neg q]
    unfold pM at hn
    refine .inr ⟨by omega,rfl,?_⟩
    rcases of_decide_eq_true hn with y|y
    ·exact absurd y q
    ·exact y
 ·rcases hmem ht with⟨t0,k,g1,rfl⟩|rfl
  ·obtain⟨a1,a2,_⟩:=jd (ps:=ps) (K:=tk.length) (p:=k) (t:=t0)
   rw[a1,a2];exact h.step t0 g1
  ·intro r a b ha hb'
   rw[xar]at hb'
   have h4:=(an.1 hb').1
   simp at h4
 ·rcases hmem ht with⟨t0,k,g1,rfl⟩|rfl
  ·obtain⟨_,_,_,a4,_,a6,a7⟩:=jd (ps:=ps) (K:=tk.length) (p:=k) (t:=t0)
   rw[a4,a6,a7];exact h.en t0 g1
  ·rw[xen,xup,hN,if_pos rfl];exact⟨rfl,by decide⟩
 ·refine cj.2 fun a b ha hb' hab=>?_
  have ea:=pP hps (aw ha)
  have eb:=pP hps (aw hb')
  rcases ea with⟨t0,g1,g2⟩|⟨g1,_⟩
  ·obtain⟨a1,a2,_⟩:=jd (ps:=ps) (K:=tk.length) (p:=a) (t:=t0)
   rw[g2,a1,a2]
   rcases eb with⟨t2,g3,g4⟩|⟨_,g4⟩
   ·obtain⟨b1,b2,_⟩:=jd (ps:=ps) (K:=tk.length) (p:=b) (t:=t2)
    rw[g4,b1,b2]
    obtain⟨q1,rfl⟩:=an.1 g1
    obtain⟨q2,rfl⟩:=an.1 g3
    exact cj.1 h.ord a b q1 q2 hab
   ·rw[g4,xfr,xar]
    have tm:=al g1
    have:=hfr t0 tm
    by_cases q:t0.fr=N
    ·exact .inr ⟨q,h.hd t0 tm (by omega)⟩
    ·exact .inl (by omega)
  ·rw[hlenA]at hb';omega
 ·rw[hlenA,eZ,dI]
  rcases pP hps hk with⟨t0,g1,rfl⟩|⟨g1,rfl⟩
  ·have tm:=al g1
   obtain⟨_,_,_,_,a5,_,_⟩:=jd (ps:=ps) (K:=tk.length) (p:=k) (t:=t0)
   rw[a5,h.pa k t0 g1,dj,hgx,ladj2,lx1 _ (hfr t0 tm)]
   simp only[cA,if_false,jV,ew]
   refine gC fun i hi=>?_
   rw[(hgd i (a8.1 hi)).1,ladj]
  ·rw[dj,hgx,lx2,decide_eq_false (fun z=>by omega)]
   simp only[cA,if_false,jV,ew]
   refine(xpa.trans hps0).trans ?_
   unfold sw CV
   by_cases q:N=0
   ·rw[if_pos q]
    refine(fZ.2 fun i hi=>?_).symm
    rw[lx2,decide_eq_false (fun z=>by omega)];decide
   ·rw[if_neg q]
    refine gC fun i hi=>?_
    rw[(hgd i (a8.1 hi)).1,ladj1,lx2]
    exact decide_eq_decide.2 ⟨fun z=>⟨by omega,z⟩,fun z=>z.2⟩
 ·rw[hlenA,eZ,dI]
  rcases pP hps hk with⟨t0,g1,rfl⟩|⟨g1,rfl⟩
  ·have tm:=al g1
   have hkl:=(an.1 g1).1
   rw[dj,hgx,ladj1,lx2]
   have e1:(bF tk.length).filter (fun i=>me E (u5 ps tk.length k t0) ((mE (tk++[x]) ps tk.length).getD i zT))=t0.ch:=by
    rw[h.ch k t0 g1]
    refine gC fun i hi=>?_
    rw[(hgd i (a8.1 hi)).1,ladj]
   rw[e1]
   have e2:=hpsm k hkl
   rw[mQ g1]at e2
   unfold u5
   by_cases q:k∈ps
   ·rw[if_pos q,decide_eq_true (e2.1 q)];rfl
   ·rw[if_neg q,decide_eq_false (fun z=>q (e2.2 z))];simp
  ·rw[dj,hgx,lx1 _ (by omega),xch]
   simp only[cA,if_false,jV,ew]
   refine(fZ.2 fun i hi=>?_).symm
   obtain⟨g3,g4⟩:=hgd i (a8.1 hi)
   rw[g3,ladj2,lx1 _ (hfr _ g4)];decide
theorem iW.Zl (h:iW E Ms j tk of) (hN:Ms.length=N+1) (hj:j<Ms.getD N 0) (hg:0<N→iq (Ms.getD (N-1) 0) (Ms.getD N 0) (E.getD N [])):iW E Ms (j+1) (sy N (E.getD N []) (tk,of) j).1 (sy N (E.getD N []) (tk,of) j).2:=by
 unfold sy
 by_cases q:pM N (E.getD N []) j=true
 ·rw[if_pos q];exact h.born hN hj hg q
 ·rw[if_neg q];exact h.skip hN q
theorem iW.zp (h:iW E Ms 0 tk of) (hN:Ms.length=N+1) (hg:0<N→iq (Ms.getD (N-1) 0) (Ms.getD N 0) (E.getD N [])):∀k,k≤Ms.getD N 0→iW E Ms k (ib N (E.getD N []) (tk,of) k).1 (ib N (E.getD N []) (tk,of) k).2
 |0,_=>h
 |k+1,hk=>(iW.zp h hN hg k (by omega)).Zl hN (by omega) hg
theorem iW.done (h:iW E Ms (Ms.getD N 0) tk of) (hN:Ms.length=N+1):iF E Ms tk of:=⟨by rw[hN];exact h⟩
theorem iW.parents (h:iW E Ms j tk of) (hN:Ms.length=n+2) (hg:iq (Ms.getD n 0) (Ms.getD (n+1) 0) (E.getD (n+1) [])) {e:gF} (he:e∈E.getD (n+1) []) (hk:e.kd≠4):
  (∀i,i∈e.f→∃k,of (n,i)=some k∧k<tk.length)∧(e.f.map fun i=>(of (n,i)).getD 0).Nodup∧∀x,x∈(e.f.map fun i=>(of (n,i)).getD 0)↔x∈CV tk (n+1) e.f:=by
 have hb:=h.base
 rw[hN]at hb
 have Fb:∀i,i∈e.f→∃k,of (n,i)=some k∧k<tk.length:=fun i hi=>by
  obtain⟨k,z⟩:=h.Fb n i (by omega) ((hg.fs e he).2 i hi) (.inl (by omega))
  exact⟨k,z,(h.base.lt z).2⟩
 have key:∀i k,i∈e.f→of (n,i)=some k→∃t,tk[k]? =some t∧t.up=n+1∧t.last=i:=fun i k hi hs=>by
  obtain⟨t,t1,t2,t3⟩:=(hb.ES n i k).1 hs
  have tm:=al t1
  have hp:=hb.pos t tm
  have hl:=(an.1 t3).1
  unfold fo.up at hp
  by_cases q:t.fr+t.ar.length=n+2
  ·exfalso
   obtain⟨b,hb'⟩:∃b,t.ar[n-t.fr+1]? =some b:=⟨_,aw (by omega)⟩
   have hs:=h.step t tm _ _ _ t3 hb'
   rw[show t.fr+(n-t.fr)+1=n+1 by omega,hg.E6 he hi]at hs
   exact hk hs.1
  ·refine⟨t,t1,by unfold fo.up;omega,?_⟩
   rw[show n-t.fr=t.ar.length-1 by omega,qe hp.1]at t3
   exact eI t3
 refine⟨Fb,?_,fun x=>?_⟩
 ·refine gk.2 ((hg.fs e he).1.imp_of_mem fun {a b} ha hb' hab z=>?_)
  obtain⟨ka,h1,_⟩:=Fb a ha
  obtain⟨kb,h2,_⟩:=Fb b hb'
  rw[h1,h2]at z
  have z:ka=kb:=z
  subst z
  obtain⟨t,t1,_,t3⟩:=key a ka ha h1
  obtain⟨t',t4,_,t6⟩:=key b ka hb' h2
  rw[t1]at t4
  have:=eI t4
  subst this
  omega
 ·unfold CV
  rw[bN,bR,a8,decide_eq_true_eq]
  constructor
  ·rintro ⟨i,hi,rfl⟩
   obtain⟨k,h1,h2⟩:=Fb i hi
   obtain⟨t,t1,t2,t3⟩:=key i k hi h1
   rw[h1]
   refine⟨h2,?_⟩
   show(tk.getD k zT).up=n+1∧(tk.getD k zT).last∈e.f
   rw[mQ t1]
   exact⟨t2,by rw[t3];exact hi⟩
  ·rintro ⟨h1,h2,h3⟩
   have e1:tk[x]? =some tk[x]:=aw h1
   rw[mQ e1]at h2 h3
   refine⟨_,h3,?_⟩
   have hp:=hb.pos tk[x] (gS h1)
   have:of (n,tk[x].last)=some x:=(hb.ES n _ x).2 ⟨tk[x],e1,by unfold fo.up at h2;omega,by
    rw[show n-tk[x].fr=tk[x].ar.length-1 by unfold fo.up at h2;omega];exact qe hp.1⟩
   rw[this];rfl
end
section
variable {α:Type} [DecidableEq α] {κ:Nat→α} {n m:Nat}
theorem ze {e:gF} (h:e∈uc κ n m):∃k,k<n+m∧(∀j,j<k→κ j≠κ k)∧e.kd=iR e.f.length e.t.length∧e.f=(bF n).filter (fun i=>decide (κ i=κ k))∧e.t=(bF m).filter (fun j=>decide (κ (n+j)=κ k)):=by
 unfold uc BP at h
 rw[dV]at h
 obtain⟨k,hk,rfl⟩:=bN.1 h
 obtain⟨h1,h2⟩:=jS.1 hk
 refine⟨k,h1,h2,rfl,?_,?_⟩
 ·show(bF (min (n+m) n)).filter _=_
  rw[show min (n+m) n=n by omega]
 ·show(bF (n+m-n)).filter _=_
  rw[show n+m-n=m by omega]
theorem Kw:iq n m (uc κ n m):=by
 refine⟨fun e he=>?_,fun e he=>?_,fun e he=>?_,?_,fun i hi=>?_,fun j hj=>?_⟩
 ·obtain⟨k,h1,h2,h3,h4,h5⟩:=ze he
  refine⟨h3,?_⟩
  by_cases q:k<n
  ·have:k∈e.f:=by rw[h4];exact bR.2 ⟨a8.2 q,by simp⟩
   have:=j5 this;omega
  ·have:k-n∈e.t:=by rw[h5];exact bR.2 ⟨a8.2 (by omega),by simp [show n+(k-n)=k by omega]⟩
   have:=j5 this;omega
 ·obtain⟨k,h1,h2,h3,h4,h5⟩:=ze he
  rw[h4]
  exact⟨oh,fun i hi=>a8.1 (bR.1 hi).1⟩
 ·obtain⟨k,h1,h2,h3,h4,h5⟩:=ze he
  rw[h5]
  exact⟨oh,fun i hi=>a8.1 (bR.1 hi).1⟩
 ·unfold uc BP
  rw[dV]
  refine gk.2 ((u4 (κ:=κ) (t:=n+m)).imp_of_mem fun {a b} ha hb hab=>?_)
  have hne:κ a≠κ b:=fun e=>hab (Bl ha hb e)
  refine⟨fun i h1 h2=>?_,fun j h1 h2=>?_⟩
  ·have h1:=(bR.1 h1).2
   have h2:=(bR.1 h2).2
   exact hne ((of_decide_eq_true h1).symm.trans (of_decide_eq_true h2))
  ·have h1:=(bR.1 h1).2
   have h2:=(bR.1 h2).2
   exact hne ((of_decide_eq_true h1).symm.trans (of_decide_eq_true h2))
 ·obtain⟨k,k1,k2,k3⟩:=zc κ i
  have hk:k∈gE κ (n+m):=jS.2 ⟨by omega,by unfold iT at k3;exact of_decide_eq_true k3⟩
  refine⟨{ rU κ n (n+m) k with kd:=iR (rU κ n (n+m) k).f.length (rU κ n (n+m) k).t.length },?_,?_⟩
  ·unfold uc BP;rw[dV];exact bN.2 ⟨k,hk,rfl⟩
  ·exact bR.2 ⟨a8.2 (by omega),decide_eq_true k2.symm⟩
 ·obtain⟨k,k1,k2,k3⟩:=zc κ (n+j)
  have hk:k∈gE κ (n+m):=jS.2 ⟨by omega,by unfold iT at k3;exact of_decide_eq_true k3⟩
  refine⟨{ rU κ n (n+m) k with kd:=iR (rU κ n (n+m) k).f.length (rU κ n (n+m) k).t.length },?_,?_⟩
  ·unfold uc BP;rw[dV];exact bN.2 ⟨k,hk,rfl⟩
  ·exact bR.2 ⟨a8.2 (by omega),decide_eq_true k2.symm⟩
end
theorem Oo.Kf {W H r:Nat} {oa ob:List Int} {n m:Nat} {l:List gF} (h:Oo W H r oa ob n m l):iq n m l:=by
 obtain⟨ld,_,rfl⟩:=h.ex
 exact Kw
end Go.Proofs.YtgemekpofpoopaaGreat
namespace Go.SL
set_option linter.unusedVariables false
open Go.RowKit
section
variable {P:Program} {β:Bs} {env:Env} {L L':List dg}
variable {ty:TypeId} {pos:String} {aft:Array Edge} {dd:Option Nat}
theorem HO.TB {α:Type} {f:α→List Value} {m:List α} (i:Nat) (LF:dg→List dg) {K:Value→List dg→Prop} {x y:Operand} {T T' E z by_:Nat} {aT:Array TypeId} {zero:Value} {p q:Option Addr} {n2 cap c2:Nat} (hT:ee P T E) (hT':ee P T' E) (hE:j6 P E z by_ zero) (hx:OV env x (.slice p 0 cap)) (hy:OV env y (.slice q n2 c2))
  (hi:L[i]? =some (own E z p cap [])) (hq:∀w,St β L w→pT w z q (m.map f)) (hz:∀a,(f a).length=z) (h1:∀a,mU (f a)=true) (ha0:aT[0]? =some T) (ha1:aT[1]? =some T') (hL:∀R:dg,L.set i R=LF R) (hn2:n2=m.length) (hs:(2*n2+768)*by_≤281474976710656)
  (k:∀p' cap',(m≠[]∨p≠none→p'≠none)→K (.slice p' n2 cap') (LF (own E z p' cap' (m.map f)))):HO P β env L ⟨dd,.call ⟨.builtin .append,#[x,y],aT⟩,ty,pos,aft,none⟩ K:=
 HO.acr (f:=f) (l:=[]) (m:=m) i LF hT hT' hE hx hy hi hq hz h1 ha0 ha1 hL rfl hn2 (by rw[fF];exact hs) (fun p' c' h=>by rw[fF];exact k p' c' h)
end
end Go.SL
namespace Go.SL
set_option linter.unusedVariables false
set_option linter.unusedSimpArgs false
open Go.RowKit
section
variable {P:Program} {ro:Option Nat} {β:Bs} {N:Nat} {ds:List Deferred} {env:Env} {L:List dg} {Q:Exit→Act→World→Prop}
variable {ty:TypeId} {pos:String} {aft:Array Edge}
def qx (E z:Nat) (p:Option Addr) (cap:Nat) (rows:List (List Value)):dg where
 fp:=fun k=>p≠none∧k=pb p
 inv:=fun w=>rows.length≤cap∧(∀r∈rows,r.length=z)∧(p=none→rows=[]∧cap=0)∧(∀a,p=some a→a.spot=none∧∃C pre spare,w.heap[a.block]? =some (.cells C E (0,0))∧pre.length=a.off∧C.toList=pre++rows.flatten++spare∧a.off+cap*z≤C.size)
 loc:=fun {w w'} h ⟨h1,h2,h3,h4⟩=>⟨h1,h2,h3,fun a ha=>by
  obtain⟨g1,C,pre,s,g3,g4⟩:=h4 a ha
  refine⟨g1,C,pre,s,?_,g4⟩
  rw[h a.block ⟨by rw[ha];simp,by rw[ha];rfl⟩];exact g3⟩
theorem VY {a:Addr} (h2:a.spot=none) (n:Nat):a.add n=⟨a.block,a.off+n,none⟩:=by
 obtain⟨b,o,s⟩:=a
 simp only at h2
 subst h2
 unfold Addr.add;split<;>simp_all
theorem AU {w:World} (hw:St β L w) (i:Nat) {E z:Nat} {p:Option Addr} {cap:Nat} {rows:List (List Value)} (hi:L[i]? =some (qx E z p cap rows)):pT w z p rows:=by
 obtain⟨h1,h2,h3,h4⟩:=hw.inv i _ hi
 refine⟨?_,fun hp=>(h3 hp).1,fun _ a ha=>(h4 a ha).1⟩
 intro j r hr k v hv
 cases p with
 |none=>rw[(h3 rfl).1]at hr;simp at hr
 |some a=>
  obtain⟨g2,C,pre,s,g3,g1,g4,g5⟩:=h4 a rfl
  have hadd:(⟨pb (some a),po (some a)+j*z,none⟩:Addr).add k=⟨a.block,a.off+(j*z+k),none⟩:=by
   unfold Addr.add pb po;split<;>simp_all<;>omega
  rw[hadd]
  simp only[World.cell?,g3,Option.isSome_none,cA,if_false]
  have hfr:=oo h2 hr hv
  have hlt:j*z+k<rows.flatten.length:=by
   rcases bf (j*z+k) rows.flatten.length with q|q
   ·exact q
   ·rw[aQ q]at hfr;cases hfr
  have:C.toList[a.off+(j*z+k)]? =some v:=by
   rw[g4,aV (by rw[aJ];omega),bJ (by omega),show a.off+(j*z+k)-pre.length=j*z+k by omega]
   exact hfr
  simpa using this
theorem St.toO {w:World} (hw:St β L w) (i:Nat) {E z cap:Nat} {p:Option Addr} {rows:List (List Value)} (hi:L[i]? =some (own E z p cap rows)):St β (L.set i (qx E z p cap rows)) w:=by
 obtain⟨h1,h2,h3,h4⟩:=hw.inv i _ hi
 exact hw.conv i hi (fun k hk=>hk) ⟨h1,h2,h3,fun a ha=>by
  obtain⟨g1,g2,C,s,g3,g4,g5⟩:=h4 a ha
  exact⟨g2,C,[],s,g3,by rw[g1];rfl,by simpa using g4,by omega⟩⟩
theorem St.ZG {w:World} (hw:St β L w) (i:Nat) {E z cap:Nat} {p:Option Addr} {r:List Value} {rows:List (List Value)} (hi:L[i]? =some (qx E z p cap (r::rows))):St β (L.set i (qx E z (qy p cap 1 z) (cap-1) rows)) w:=by
 obtain⟨h1,h2,h3,h4⟩:=hw.inv i _ hi
 have hr:r.length=z:=h2 r (by simp)
 have h2':∀r∈rows,r.length=z:=fun r hr=>h2 r (by simp [hr])
 simp only[List.length_cons]at h1
 cases p with
 |none=>exact absurd (h3 rfl).1 (by simp)
 |some a=>
  obtain⟨g2,C,pre,s,g3,g1,g4,g5⟩:=h4 a rfl
  unfold qy
  by_cases q:cap=1
  ·have e:rows=[]:=lu.1 (by omega)
   subst e
   rw[if_pos q]
   exact hw.conv i hi (fun k hk=>hk) ⟨by simp,by simp,fun z=>(by cases z),fun b hb=>by
    cases hb
    exact⟨g2,C,pre,r++s,g3,g1,by rw[g4];simp,by rw[q];omega⟩⟩
  ·rw[if_neg q]
   refine hw.conv i hi (fun k hk=>⟨by simp,?_⟩) ⟨by omega,h2',fun z=>(by cases z),fun b hb=>?_⟩
   ·have:=hk.2
    rw[this]
    show(a.add (1*z)).block=a.block
    rw[VY g2]
   ·have hb:a.add (1*z)=b:=eI hb
    rw[VY g2]at hb
    subst hb
    refine⟨rfl,C,pre++r,s,g3,by show(pre++r).length=a.off+1*z;rw[aJ,hr,g1];omega,by rw[g4];simp,?_⟩
    have:(cap-1)*z+z=cap*z:=by rw[←Nat.succ_mul,show(cap-1).succ=cap by omega]
    show a.off+1*z+(cap-1)*z≤C.size
    omega
theorem Eg {w:World} (hw:St β L w) (i:Nat) {T T' ty E z by_:Nat} {zero:Value} {p q:Option Addr} {cap c2:Nat} {rows rs:List (List Value)} (hT:ee P T E) (hT':ee P T' E) (hE:j6 P E z by_ zero)
  (hi:L[i]? =some (qx E z p cap rows)) (hq:pT w z q rs) (hr:∀r∈rs,r.length=z) (h1:∀r∈rs,mU r=true) (hn:(2*(rows.length+rs.length)+768)*by_≤281474976710656) {aT:Array TypeId} (ha0:aT[0]? =some T) (ha1:aT[1]? =some T'):
  ∃p' cap' w',(lj aT ty #[.slice p rows.length cap,.slice q rs.length c2]).run P w= .ok (.slice p' (rows.length+rs.length) cap') w'∧St β (L.set i (qx E z p' cap' (rows++rs))) w'∧(rs≠[]→p'≠none)∧(p≠none→p'≠none):=by
 obtain⟨hz,hby,hze,hzz,hb0⟩:=hE
 obtain⟨o1,o2,o3,o4⟩:=hw.inv i _ hi
 obtain⟨ti,hti,htb⟩:=v8 hby w
 have hnew:(gQ z rs.length (.slice q rs.length c2)).run P w= .ok rs.flatten.toArray w:=nA hq hr
 have hhas:∀r'∈rows++rs,r'.length=z:=by
  intro r' hr'
  rcases bQ.1 hr' with q|q
  ·exact o2 r' q
  ·exact hr r' q
 have hu':(underlying T').run P w= .ok (.slice E) w:=run_underlying hT' w
 have hu:(underlying T).run P w= .ok (.slice E) w:=run_underlying hT w
 have hone:∀u∈rs.flatten,u.oneCell'=true:=by
  intro u hu
  obtain⟨r,hr',hu'⟩:=List.mem_flatten.1 hu
  exact ou (h1 r hr') u hu'
 have hni:¬((rows.length+rs.length:Nat):Int)>IntKind.i64.max:=by
  have:rows.length+rs.length≤281474976710656:=by
   have:(2*(rows.length+rs.length)+768)*1≤(2*(rows.length+rs.length)+768)*by_:=Nat.mul_le_mul_left _ hb0
   omega
  have hm:IntKind.i64.max=9223372036854775807:=rfl
  rw[hm]
  omega
 have hlt:i<L.length:=by
  rcases bf i L.length with h'|h'
  ·exact h'
  ·simp [aQ h']at hi
 have hfl:=kt o2
 have hfl2:=kt hr
 by_cases hc:rows.length+rs.length≤cap
 ·
  cases p with
  |none=>
   have h3:=o3 rfl
   have e1:rows=[]:=h3.1
   have e2:rs=[]:=by
    have:rs.length=0:=by omega
    exact lu.1 this
   subst e1;subst e2
   have e3:cap=0:=h3.2
   subst e3
   refine⟨none,0,w,?_,?_,by simp,by simp⟩
   ·have:(gQ z 0 (.slice q 0 c2)).run P w= .ok #[] w:=by simpa using hnew
    simp [lj,ha0,ha1,hu,hu',iz hz,qT,this]
   ·have e:L.set i (qx E z none 0 ([]++[]))=L:=by
     have e0:qx E z none 0 ([]++[])=qx E z none 0 []:=rfl
     rw[e0]
     refine cM fun k=>?_
     by_cases ek:k=i
     ·subst ek;rw[List.getElem?_set_self hlt,hi]
     ·rw[fm (Ne.symm ek)]
    rw[e];exact hw
  |some a=>
   obtain⟨g2,C,pre,spare,g3,g1,g4,g5⟩:=o4 a rfl
   have hadd:a.add (rows.length*z)=⟨a.block,a.off+rows.length*z,none⟩:=VY g2 _
   have hfit:a.off+rows.length*z+rs.flatten.length≤C.size:=by
    rw[hfl2]
    have:=iA z hc
    rw[fQ]at this;omega
   have hst:=run_storeCells_at P a.block (a.off+rows.length*z) E rs.flatten 0 C w g3 (by simpa using hfit) hone
   simp only[Nat.add_zero]at hst
   refine⟨some a,cap,w.setRow a.block (C.toList.take (a.off+rows.length*z)++rs.flatten++C.toList.drop (a.off+rows.length*z+rs.flatten.length)).toArray,?_,?_,by simp,by simp⟩
   ·simp only[lj,ha0,ha1,Sem.run_bind,List.getElem?_toArray,List.getElem?_cons_zero,List.getElem?_cons_succ,hu,hu',iz hz,qT,Result.andThen_ok,Sem.run_pure,cA,if_false,Bool.not_false,if_true,hc,hnew,hadd,hst]
   ·have hw1:=hw.conv i (r':=gq a.block (.cells C E)) hi (fun k hk=>⟨by simp,hk⟩) g3
    have hi1:(L.set i (gq a.block (.cells C E)))[i]? =some (gq a.block (.cells C E)):=by simp [hlt]
    have hw2:=hw1.setRow (C':=(C.toList.take (a.off+rows.length*z)++rs.flatten++C.toList.drop (a.off+rows.length*z+rs.flatten.length)).toArray) hi1
    rw[jf]at hw2
    have hi2:(L.set i (gq a.block (.cells (C.toList.take (a.off+rows.length*z)++rs.flatten++C.toList.drop (a.off+rows.length*z+rs.flatten.length)).toArray E)))[i]? =some (gq a.block (.cells (C.toList.take (a.off+rows.length*z)++rs.flatten++C.toList.drop (a.off+rows.length*z+rs.flatten.length)).toArray E)):=by simp [hlt]
    have hfin:(qx E z (some a) cap (rows++rs)).inv (w.setRow a.block (C.toList.take (a.off+rows.length*z)++rs.flatten++C.toList.drop (a.off+rows.length*z+rs.flatten.length)).toArray):=by
     refine⟨by simp;omega,hhas,fun h=>(by cases h),fun a' ha'=>?_⟩
     cases ha'
     refine⟨g2,_,pre,C.toList.drop (a.off+rows.length*z+rs.flatten.length),hw2.inv i _ hi2,g1,?_,?_⟩
     ·have:C.toList.take (a.off+rows.length*z)=pre++rows.flatten:=by rw[g4,List.take_append_of_le_length (by rw[aJ];omega),List.take_of_length_le (by rw[aJ];omega)]
      simp [this]
     ·have:=hfit
      simp only[gA,aJ,List.length_take,List.length_drop,Array.length_toList]
      omega
    have hw3:=hw2.conv (r':=qx E z (some a) cap (rows++rs)) i hi2 (fun k hk=>hk.2) hfin
    rwa [jf]at hw3
 ·
  have hcap:¬rows.length+rs.length≤cap:=hc
  have hncap:¬(l4 (rows.length+rs.length) cap*ti.bytes>2 ^ 48):=by
   have h2:=yR (need:=rows.length+rs.length) (cap:=cap) (by omega)
   have h3:=iA by_ h2
   rw[htb];omega
  generalize hcc:Cy (.appendCap (rows.length+rs.length) cap E) (w.tape w.drawn (.appendCap (rows.length+rs.length) cap E))=cap'
  have hge:rows.length+rs.length≤cap':=by rw[←hcc];simp [Cy]
  have hrows:pT w z p rows:=AU hw i hi
  have hold:(gQ z rows.length (.slice p rows.length cap)).run P w.drew= .ok rows.flatten.toArray w.drew:=nA (tl hrows) o2
  have hnew':(gQ z rs.length (.slice q rs.length c2)).run P w.drew= .ok rs.flatten.toArray w.drew:=nA (tl hq) hr
  have hti':(typeInfo E).run P w.drew= .ok ti w.drew:=by
   cases hq:P.info? E with
   |none=>simp [typeInfo,hq]at hti
   |some i=>simp [typeInfo,hq]at hti ⊢;exact hti
  refine⟨some ⟨w.heap.size,0,none⟩,cap',(qU w.drew (.cells (rows.flatten.toArray++rs.flatten.toArray++fw zero.cells (cap'-(rows.length+rs.length))) E)),?_,?_,by simp,by simp⟩
  ·have hb1:ti.bytes≠0:=by omega
   have hncap':¬(281474976710656<l4 (rows.length+rs.length) cap*ti.bytes):=by omega
   simp [lj,ha0,ha1,hu,hu',iz hz,qT,hcap,hti,hb1,hncap',Question.forced,hcc,hti',hold,hnew',ot hze,newRow]
   congr 2
   apply Array.ext'
   simp
  ·have hw':=(hw.drew (w.drawn+1):St β L w.drew).alloc (.cells (rows.flatten.toArray++rs.flatten.toArray++fw zero.cells (cap'-(rows.length+rs.length))) E)
   have hm:St β (L.set i (gq w.heap.size (.cells (rows.flatten.toArray++rs.flatten.toArray++fw zero.cells (cap'-(rows.length+rs.length))) E))) (qU w.drew (.cells (rows.flatten.toArray++rs.flatten.toArray++fw zero.cells (cap'-(rows.length+rs.length))) E)):=by
    refine hw'.map (fun k=>if k=i then 0 else k+1) ?_ ?_
    ·intro a b hab _ _
     by_cases e1:a=i<;>by_cases e2:b=i<;>simp [e1,e2]<;>omega
    ·intro k s hs
     right
     by_cases e:k=i
     ·subst e;simp [hlt]at hs;simp [hs]
     ·rw[fm (Ne.symm e)]at hs
      simp [e,hs]
   have hi2:(L.set i (gq w.heap.size (.cells (rows.flatten.toArray++rs.flatten.toArray++fw zero.cells (cap'-(rows.length+rs.length))) E)))[i]? =some (gq w.heap.size (.cells (rows.flatten.toArray++rs.flatten.toArray++fw zero.cells (cap'-(rows.length+rs.length))) E)):=by simp [hlt]
   have hfin:(qx E z (some ⟨w.heap.size,0,none⟩) cap' (rows++rs)).inv (qU w.drew (.cells (rows.flatten.toArray++rs.flatten.toArray++fw zero.cells (cap'-(rows.length+rs.length))) E)):=by
    refine⟨by simp;omega,hhas,fun h=>(by cases h),fun a' ha'=>?_⟩
    cases ha'
    refine⟨rfl,_,[],(fw zero.cells (cap'-(rows.length+rs.length))).toList,hm.inv i _ hi2,rfl,by simp,?_⟩
    refine Nat.le_of_eq (Eq.symm ?_)
    rw[fF]
    simp only[Array.size_append,gA,hfl,hfl2,si,hzz]
    rw[←fQ, ←fQ]
    congr 1;omega
   have:=hm.conv (r':=qx E z (some ⟨w.heap.size,0,none⟩) cap' (rows++rs)) i hi2 (fun k hk=>hk.2) hfin
   rwa [jf]at this
variable {dd:Option Nat}
theorem HO.ab3 {α:Type} {f:α→List Value} {l m:List α} (i:Nat) (LF:dg→List dg) {K:Value→List dg→Prop} {x y:Operand} {T T' E z by_:Nat} {aT:Array TypeId} {zero:Value} {p q:Option Addr} {n n2 cap c2:Nat} (hT:ee P T E) (hT':ee P T' E) (hE:j6 P E z by_ zero) (hx:OV env x (.slice p n cap)) (hy:OV env y (.slice q n2 c2))
  (hi:L[i]? =some (qx E z p cap (l.map f))) (hq:∀w,St β L w→pT w z q (m.map f)) (hz:∀a,(f a).length=z) (h1:∀a,mU (f a)=true) (ha0:aT[0]? =some T) (ha1:aT[1]? =some T') (hL:∀R:dg,L.set i R=LF R) (hn:n=l.length) (hn2:n2=m.length) (hs:(2*(n+n2)+768)*by_≤281474976710656)
  (k:∀p' cap',(m≠[]∨p≠none→p'≠none)→K (.slice p' (n+n2) cap') (LF (qx E z p' cap' ((l++m).map f)))):HO P β env L ⟨dd,.call ⟨.builtin .append,#[x,y],aT⟩,ty,pos,aft,none⟩ K:=by
 intro a w h hw
 subst hn;subst hn2
 obtain⟨p',cap',w',h2,h3,h4,h5⟩:=Eg (ty:=ty) (c2:=c2) hw i hT hT' hE hi (hq w hw) (by intro r hr;obtain⟨b,_,rfl⟩:=bN.1 hr;exact hz b) (by intro r hr;obtain⟨b,_,rfl⟩:=bN.1 hr;exact h1 b) (by simpa using hs) ha0 ha1
 refine .inl ⟨_,w',_,_,?_,.inl rfl,k p' cap' (fun q=>q.elim (fun e=>h4 (by simpa using e)) h5),?_⟩
 ·have ex:a.eval x= .slice p l.length cap:=by obtain⟨u,hu,e⟩:=hx;subst e;exact h x (by simp [Op.operands,Call.operands]) _ hu
  have ey:a.eval y= .slice q m.length c2:=by obtain⟨u,hu,e⟩:=hy;subst e;exact h y (by simp [Op.operands,Call.operands]) _ hu
  simp only[ak]at h2
  simp [execOp,resolve,invoke,builtin,ex,ey,h2]
 ·rw[List.map_append, ←hL];exact h3
end
end Go.SL
namespace Go.Proofs.YtgemekpofpoopaaGreat
open Go.SL Go.Cell
set_option linter.unusedVariables false
section
variable {E:List (List gF)} {Ms:List Nat} {tk:List fo} {of:Nat×Nat→Option Nat} {t s:fo} {k p c n i j:Nat}
structure re (E:List (List gF)) (Ms:List Nat):Prop where
 g:∀n,n+1<Ms.length→iq (Ms.getD n 0) (Ms.getD (n+1) 0) (E.getD (n+1) [])
theorem iF.pos (h:iF E Ms tk of) (ht:t∈tk):0<t.ar.length∧t.fr+t.ar.length≤Ms.length∧t.fr<Ms.length:=by
 have:=h.q.base.pos t ht
 unfold fo.up at this
 omega
theorem iF.head (h:iF E Ms tk of) (ht:t∈tk):t.ar[0]? =some (t.ar.headD 0)∧t.ar.headD 0<Ms.getD t.fr 0:=by
 have h1:=It (h.pos ht).1
 exact⟨h1,h.q.qE t ht 0 _ h1⟩
theorem iF.all (h:iF E Ms tk of) (hn:n<Ms.length) (hi:i<Ms.getD n 0):∃k t,of (n,i)=some k∧tk[k]? =some t∧t.fr≤n∧t.ar[n-t.fr]? =some i:=by
 obtain⟨k,hk⟩:=h.q.Fb n i hn hi (by
  by_cases e:n+1<Ms.length
  ·exact .inl e
  ·have:n=Ms.length-1:=by omega
   subst this;exact .inr (.inl hi))
 obtain⟨t,h1,h2,h3⟩:=(h.q.base.ES n i k).1 hk
 exact⟨k,t,hk,h1,h2,h3⟩
theorem iF.at_ (h:iF E Ms tk of) (ht:tk[k]? =some t) {a:Nat} (ha:t.ar[j]? =some a):of (t.fr+j,a)=some k∧t.fr+j<Ms.length∧a<Ms.getD (t.fr+j) 0:=by
 have hm:=al ht
 have h1:=(an.1 ha).1
 have h2:=h.pos hm
 exact⟨(h.q.base.ES _ _ _).2 ⟨t,ht,by omega,by rw[show t.fr+j-t.fr=j by omega];exact ha⟩,by omega,h.q.qE t hm j a ha⟩
theorem nv {k:Nat} (h:tk[k]? =some t):tk.getD k zT=t:=mQ h
theorem rl {k:Nat} (h:tk[k]? =some t):k<tk.length:=(an.1 h).1
theorem vc {k:Nat} (h:k<tk.length):∃t,tk[k]? =some t:=⟨_,aw h⟩
theorem Nc (h:iF E Ms tk of) (ht:tk[k]? =some t):p∈t.pa↔∃s,tk[p]? =some s∧me E s t=true:=by
 rw[h.q.pa k t ht,bR,a8]
 constructor
 ·rintro ⟨h1,h2⟩
  obtain⟨s,hs⟩:=vc h1
  exact⟨s,hs,by rw[nv hs]at h2;exact h2⟩
 ·rintro ⟨s,hs,h2⟩
  exact⟨rl hs,by rw[nv hs];exact h2⟩
theorem OQ (h:iF E Ms tk of) (ht:tk[k]? =some t):c∈t.ch↔∃s,tk[c]? =some s∧me E t s=true:=by
 rw[h.q.ch k t ht,bR,a8]
 constructor
 ·rintro ⟨h1,h2⟩
  obtain⟨s,hs⟩:=vc h1
  exact⟨s,hs,by rw[nv hs]at h2;exact h2⟩
 ·rintro ⟨s,hs,h2⟩
  exact⟨rl hs,by rw[nv hs];exact h2⟩
theorem ID {x y:fo}:me E x y=true↔x.up=y.fr∧0<y.fr∧x.last∈(zE (E.getD y.fr []) (y.ar.headD 0)).f:=by unfold me;rw[decide_eq_true_eq]
theorem FV (h:iF E Ms tk of) (hs:tk[p]? =some s) (ht:tk[k]? =some t) (hl:me E s t=true):p<k:=by
 have h1:=(ID.1 hl).1
 have h2:=h.pos (al hs)
 have h3:=h.pos (al ht)
 unfold fo.up at h1
 obtain⟨g1,e1⟩:=an.1 hs
 obtain⟨g2,e2⟩:=an.1 ht
 refine dx fun q=>?_
 rcases Nat.lt_or_eq_of_le (Nat.not_lt.1 q) with z|z
 ·have:=cj.1 h.q.ord k p g2 g1 z
  rw[e1,e2]at this
  omega
 ·subst z
  rw[hs]at ht
  have:=eI ht
  subst this;omega
theorem Oj (h:iF E Ms tk of) (ht:tk[k]? =some t) (hp:p∈t.pa):p<k∧∃s,tk[p]? =some s∧k∈s.ch∧s.fr+s.ar.length=t.fr:=by
 obtain⟨s,hs,hl⟩:=(Nc h ht).1 hp
 exact⟨FV h hs ht hl,s,hs,(OQ h hs).2 ⟨t,ht,hl⟩,(ID.1 hl).1⟩
theorem Nh (h:iF E Ms tk of) (ht:tk[k]? =some t) (hc:c∈t.ch):k<c∧∃s,tk[c]? =some s∧k∈s.pa:=by
 obtain⟨s,hs,hl⟩:=(OQ h ht).1 hc
 exact⟨FV h ht hs hl,s,hs,(Nc h hs).2 ⟨t,ht,hl⟩⟩
inductive Ak (nx:Nat→List Nat) (a:Nat):Nat→Prop
 |base {b}:b∈nx a→Ak nx a b
 |step {b c}:Ak nx a b→c∈nx b→Ak nx a c
theorem Ak.cons {nx:Nat→List Nat} {a b c:Nat} (h:b∈nx a) (k:Ak nx b c):Ak nx a c:=by
 induction k with
 |base h2=>exact .step (.base h) h2
 |step _ h2 ih=>exact .step ih h2
def CO (tk:List fo) (k:Nat):List Nat:=(tk.getD k zT).pa
def B2 (tk:List fo) (k:Nat):List Nat:=(tk.getD k zT).ch
theorem x7 {k:Nat} (h:tk.length≤k):tk.getD k zT=zT:=by rw[aO,aQ h];rfl
theorem Ce (h:iF E Ms tk of) (hp:p∈CO tk k):p<k∧k<tk.length∧k∈B2 tk p:=by
 by_cases hk:k<tk.length
 ·obtain⟨t,ht⟩:=vc hk
  unfold CO at hp
  rw[nv ht]at hp
  obtain⟨h1,s,hs,h2,_⟩:=Oj h ht hp
  exact⟨h1,hk,by unfold B2;rw[nv hs];exact h2⟩
 ·unfold CO at hp;rw[x7 (by omega)]at hp;cases hp
theorem BM (h:iF E Ms tk of) (hp:c∈B2 tk k):k<c∧c<tk.length∧k∈CO tk c:=by
 by_cases hk:k<tk.length
 ·obtain⟨t,ht⟩:=vc hk
  unfold B2 at hp
  rw[nv ht]at hp
  obtain⟨h1,s,hs,h2⟩:=Nh h ht hp
  exact⟨h1,rl hs,by unfold CO;rw[nv hs];exact h2⟩
 ·unfold B2 at hp;rw[x7 (by omega)]at hp;cases hp
theorem Ij (h:iF E Ms tk of) (hr:Ak (CO tk) k p):p<k∧Ak (B2 tk) p k:=by
 induction hr with
 |base h1=>have:=Ce h h1;exact⟨this.1,.base this.2.2⟩
 |step _ h1 ih=>have:=Ce h h1;exact⟨by omega,.cons this.2.2 ih.2⟩
theorem Bk (h:iF E Ms tk of) (hr:Ak (B2 tk) k c):k<c∧c<tk.length:=by
 induction hr with
 |base h1=>have:=BM h h1;exact⟨this.1,this.2.1⟩
 |step _ h1 ih=>have:=BM h h1;exact⟨by omega,this.2.1⟩
structure RL (nx:Nat→List Nat) (n a:Nat) (met:Nat→Bool) (todo:List Nat):Prop where
 m:∀x,met x=true→Ak nx a x
 t:∀x,x∈todo→Ak nx a x
 a:∀x,x∈nx a→met x=true∨x∈todo
 c:∀x,met x=true→∀y,y∈nx x→met y=true∨y∈todo
def LZ (nx:Nat→List Nat) (n:Nat) (met:Nat→Bool):Nat:=(((bF n).filter fun k=> !met k).map fun k=>(nx k).length).sum
def ve (met:Nat→Bool) (x:Nat):Nat→Bool:=fun y=>decide (x=y)||met y
theorem RL.zero {nx:Nat→List Nat} {n a:Nat}:RL nx n a (fun _=>false) (nx a):=⟨fun x h=>(by cases h),fun x h=>.base h,fun x h=>.inr h,fun x h=>(by cases h)⟩
theorem RL.RG {nx:Nat→List Nat} {n a x:Nat} {met:Nat→Bool} {todo:List Nat} (h:RL nx n a met (x::todo)) (hx:met x=true):RL nx n a met todo:=by
 refine⟨h.m,fun y hy=>h.t y (iP _ hy),fun y hy=>?_,fun y hy z hz=>?_⟩
 ·rcases h.a y hy with q|q
  ·exact .inl q
  ·rcases dU.1 q with rfl|q
   ·exact .inl hx
   ·exact .inr q
 ·rcases h.c y hy z hz with q|q
  ·exact .inl q
  ·rcases dU.1 q with rfl|q
   ·exact .inl hx
   ·exact .inr q
theorem RL.new {nx:Nat→List Nat} {n a x:Nat} {met:Nat→Bool} {todo:List Nat} (h:RL nx n a met (x::todo)):RL nx n a (ve met x) (todo++nx x):=by
 have hx:=h.t x (List.mem_cons_self)
 have key:∀y,met y=true∨y∈x::todo→ve met x y=true∨y∈todo++nx x:=fun y q=>by
  unfold ve
  rcases q with q|q
  ·exact .inl (by rw[q];simp)
  ·rcases dU.1 q with rfl|q
   ·exact .inl (by simp)
   ·exact .inr (List.mem_append_left _ q)
 refine⟨fun y hy=>?_,fun y hy=>?_,fun y hy=>key y (h.a y hy),fun y hy z hz=>?_⟩
 ·unfold ve at hy
  by_cases e:x=y
  ·subst e;exact hx
  ·rw[decide_eq_false e]at hy;exact h.m y (by simpa using hy)
 ·rcases bQ.1 hy with q|q
  ·exact h.t y (iP _ q)
  ·exact .step hx q
 ·unfold ve at hy
  by_cases e:x=y
  ·subst e;exact .inr (List.mem_append_right _ hz)
  ·rw[decide_eq_false e]at hy;exact key z (h.c y (by simpa using hy) z hz)
theorem A3 {n x:Nat} {f:Nat→Nat} {met:Nat→Bool} (hm:met x=false):∀{l:List Nat},l.Nodup→x∈l→((l.filter fun k=> !met k).map f).sum=f x+((l.filter fun k=> !(ve met x k)).map f).sum
  |[],_,h=>by cases h
  |y::l,hn,h=>by
    obtain⟨h1,h2⟩:=List.nodup_cons.1 hn
    by_cases e:x=y
    · subst e
      have hsame:(l.filter fun k=> !(ve met x k))=l.filter fun k=> !met k:=gC fun z hz=>by
        unfold ve
        rw[decide_eq_false (show ¬x=z from fun q=>h1 (by rw[q];exact hz))];simp
      rw[dj,if_pos (by rw[hm];rfl),dj,if_neg (by unfold ve;simp),hsame]
      simp
    · have hxl:x∈l:=by
        rcases dU.1 h with z|z
        · exact absurd z e
        · exact z
      have ih:=A3 (n:=n) (f:=f) hm h2 hxl
      have hy:ve met x y=met y:=by unfold ve;rw[decide_eq_false e];simp
      rw[dj,dj,hy]
      split
      · rw[List.map_cons,List.map_cons,List.sum_cons,List.sum_cons,ih];omega
      · exact ih
theorem Wb {nx:Nat→List Nat} {n x:Nat} {met:Nat→Bool} (hx:x<n) (hm:met x=false):LZ nx n met=(nx x).length+LZ nx n (ve met x):=by
 unfold LZ
 exact A3 (n:=n) (f:=fun k=>(nx k).length) hm lF (a8.2 hx)
theorem RL.done {nx:Nat→List Nat} {n a x:Nat} {met:Nat→Bool} (h:RL nx n a met []):met x=true↔Ak nx a x:=by
  refine⟨h.m x,fun hr=>?_⟩
  induction hr with
  |base h1=>
      rcases h.a _ h1 with q|q
      · exact q
      · cases q
  |step _ h1 ih=>
      rcases h.c _ ih _ h1 with q|q
      · exact q
      · cases q
theorem sF {l:List Nat} (h:l.Pairwise (· < ·)):l.Nodup:=h.imp fun h=>Nat.ne_of_lt h
def WR (Ms:List Nat):List (Int×Int):=(bF Ms.length).flatMap fun n=>(bF (Ms.getD n 0)).map fun i:Nat=>((n:Int),(i:Int))
theorem R5:(WR Ms).length=Ms.sum:=by
 unfold WR
 rw[List.length_flatMap]
 have:∀l:List Nat,((bF l.length).map fun n=>((bF (l.getD n 0)).map fun i:Nat=>((n:Int),(i:Int))).length).sum=l.sum:=fun l=>by
  have e:(bF l.length).map (fun n=>((bF (l.getD n 0)).map fun i:Nat=>((n:Int),(i:Int))).length)=l:=by
   refine cM fun k=>?_
   rw[aI]
   by_cases hk:k<l.length
   ·rw[List.getElem?_range hk,aw hk]
    simp [aO,hk]
   ·rw[aQ (by simpa using hk),aQ (by omega)];rfl
  rw[e]
 exact this Ms
theorem RF {a:Int×Int}:a∈WR Ms↔∃n i:Nat,n<Ms.length∧i<Ms.getD n 0∧a=((n:Int),(i:Int)):=by
 unfold WR
 rw[oS]
 constructor
 ·rintro ⟨n,hn,hx⟩
  obtain⟨i,hi,rfl⟩:=bN.1 hx
  exact⟨n,i,a8.1 hn,a8.1 hi,rfl⟩
 ·rintro ⟨n,i,hn,hi,rfl⟩
  exact⟨n,a8.2 hn,bN.2 ⟨i,a8.2 hi,rfl⟩⟩
theorem wW {α β:Type} {f:α→List β}:∀{l:List α},(∀a,a∈l→(f a).Nodup)→l.Pairwise (fun a b=>∀x,x∈f a→x∉f b)→(l.flatMap f).Nodup
 |[],_,_=>by simp
 |a::l,h1,h2=>by
  obtain⟨h3,h4⟩:=List.pairwise_cons.1 h2
  rw[List.flatMap_cons]
  refine List.nodup_append.2 ⟨h1 a (by simp),wW (fun b hb=>h1 b (by simp [hb])) h4,fun x hx y hy e=>?_⟩
  subst e
  obtain⟨b,hb,hxb⟩:=oS.1 hy
  exact h3 b hb x hx hxb
theorem KY:(WR Ms).Nodup:=by
 refine wW (fun n _=>?_) (lF.imp fun {a b} (hab:a≠b) x hx hy=>?_)
 ·refine List.Pairwise.map _ (fun a b (hab:a≠b) e=>hab ?_) lF
  have:=congrArg Prod.snd e
  have:(a:Int)=(b:Int):=this
  omega
 ·obtain⟨i,_,rfl⟩:=bN.1 hx
  obtain⟨j,_,e⟩:=bN.1 hy
  have:=congrArg Prod.fst e
  have:(b:Int)=(a:Int):=this
  exact hab (by omega)
end
section
variable {E:List (List gF)} {Ms:List Nat} {tk:List fo} {of:Nat×Nat→Option Nat} {t s:fo} {k p c n i j:Nat}
theorem WU (h:iF E Ms tk of) (hG:re E Ms) (hn:n<Ms.length) (hi:i<Ms.getD n 0) (hb:pM n (E.getD n []) i=true):∃(k:Nat) (t:fo),tk[k]? =some t∧t.fr=n∧t.ar.headD 0=i:=by
 obtain⟨k,t,ho,ht,hle,ha⟩:=h.all hn hi
 have hm:=al ht
 rcases bf t.fr n with hlt|hge
 ·exfalso
  have hj:=(an.1 ha).1
  obtain⟨a,haa⟩:∃a,t.ar[n-1-t.fr]? =some a:=⟨_,aw (by omega)⟩
  have hr:=h.q.qE t hm _ _ haa
  have hs:=h.q.step t hm (n-1-t.fr) a i haa (by rw[show n-1-t.fr+1=n-t.fr by omega];exact ha)
  rw[show t.fr+(n-1-t.fr)+1=n by omega]at hs
  rw[show t.fr+(n-1-t.fr)=n-1 by omega]at hr
  have hg:=hG.g (n-1) (by omega)
  rw[show n-1+1=n by omega]at hg
  have hm2:=hg.BY hr
  have he:=hg.Fg (j:=i) hm2.1 (by rw[hs.2];exact bW.2 rfl)
  have hb2:=of_decide_eq_true hb
  rcases hb2 with z|z
  ·omega
  ·rw[he]at z;exact z hs.1
 ·have e:t.fr=n:=by omega
  refine⟨k,t,ht,e,?_⟩
  rw[e,gd]at ha
  have:=(h.head hm).1
  rw[ha]at this
  exact(eI this).symm
theorem Wh (h:iF E Ms tk of) (ht:t∈tk):pM t.fr (E.getD t.fr []) (t.ar.headD 0)=true:=by
 refine decide_eq_true ?_
 rcases h.q.bg t ht with z|z
 ·exact .inl z.1
 ·exact .inr (by rw[←z.2.1];exact z.2.2)
def qM (t:fo) (n i:Nat):Prop:=t.fr<n∨t.fr=n∧t.ar.headD 0<i
structure ET (tk:List fo) (n i k:Nat):Prop where
 le:k≤tk.length
 lo:∀(p:Nat) (t:fo),p<k→tk[p]? =some t→qM t n i
 hi:∀(p:Nat) (t:fo),k≤p→tk[p]? =some t→¬qM t n i
theorem ET.zero:ET tk 0 0 0:=⟨Nat.zero_le _,fun p t hp=>absurd hp (cQ _),fun p t _ _ z=>by unfold qM at z;omega⟩
theorem ET.skip (d:ET tk n i k) (h:iF E Ms tk of) (hb:¬pM n (E.getD n []) i=true):ET tk n (i+1) k:=by
 refine⟨d.le,fun p t hp ht=>?_,fun p t hp ht z=>?_⟩
 ·have:=d.lo p t hp ht;unfold qM at*;omega
 ·have h1:=d.hi p t hp ht
  unfold qM at*
  have e:t.fr=n∧t.ar.headD 0=i:=by omega
  have:=Wh h (al ht)
  rw[e.1,e.2]at this
  exact hb this
theorem ET.take (d:ET tk n i k) (h:iF E Ms tk of) (hG:re E Ms) (hn:n<Ms.length) (hi:i<Ms.getD n 0) (hb:pM n (E.getD n []) i=true):∃t,tk[k]? =some t∧t.fr=n∧t.ar.headD 0=i∧ET tk n (i+1) (k+1):=by
 obtain⟨q,t,ht,e1,e2⟩:=WU h hG hn hi hb
 have hql:=rl ht
 have hkq:k≤q:=by
  refine dx fun z=>?_
  have:=d.lo q t (by omega) ht
  unfold qM at this;omega
 have hord:=cj.1 h.q.ord
 have hqk:q=k:=by
  refine dx fun z=>?_
  obtain⟨s,hs⟩:=vc (tk:=tk) (k:=k) (by omega)
  have h1:=d.hi k s (cg _) hs
  obtain⟨g1,f1⟩:=an.1 hs
  obtain⟨g2,f2⟩:=an.1 ht
  have h2:=hord k q g1 g2 (by omega)
  rw[f1,f2]at h2
  unfold qM at h1;omega
 subst hqk
 refine⟨t,ht,e1,e2,⟨by omega,fun p s hp hs=>?_,fun p s hp hs z=>?_⟩⟩
 ·rcases cZ.1 hp with z|z
  ·have:=d.lo p s z hs;unfold qM at*;omega
  ·subst z;rw[ht]at hs;have:=eI hs;subst this;unfold qM;omega
 ·obtain⟨g1,f1⟩:=an.1 ht
  obtain⟨g2,f2⟩:=an.1 hs
  have h2:=hord q p g1 g2 (by omega)
  rw[f1,f2]at h2
  unfold qM at z;omega
theorem ET.next (d:ET tk n (Ms.getD n 0) k) (h:iF E Ms tk of):ET tk (n+1) 0 k:=by
 refine⟨d.le,fun p t hp ht=>?_,fun p t hp ht z=>?_⟩
 ·have:=d.lo p t hp ht;unfold qM at*;omega
 ·have h1:=d.hi p t hp ht
  have h2:=(h.head (al ht)).2
  unfold qM at*
  have e:t.fr=n:=by omega
  rw[e]at h2;omega
theorem ET.done (d:ET tk Ms.length 0 k) (h:iF E Ms tk of):k=tk.length:=by
 have:=d.le
 refine dx fun z=>?_
 obtain⟨s,hs⟩:=vc (tk:=tk) (k:=k) (by omega)
 have h1:=d.hi k s (cg _) hs
 have h2:=h.pos (al hs)
 unfold qM at h1;omega
def zw (t:fo):fo:={ t with pa:=[],ch:=[] }
def I0 (E:List (List gF)) (tk:List fo) (i k p:Nat) (t:fo):List Nat:=
 if p<i then(bF tk.length).filter (fun q=>me E t (tk.getD q zT)) else if p=i then(bF k).filter (fun q=>me E t (tk.getD q zT)) else[]
def IV (E:List (List gF)) (tk:List fo) (i k p:Nat) (t:fo):List Nat:=
 (bF (if p<k then i+1 else i)).filter fun q=>me E (tk.getD q zT) t
def CZ (E:List (List gF)) (tk:List fo) (i k p:Nat) (t:fo):fo:={ t with pa:=IV E tk i k p t,ch:=I0 E tk i k p t }
def EN (E:List (List gF)) (tk:List fo) (i k:Nat):List fo:=tk.mapIdx (CZ E tk i k)
theorem BT:(EN E tk i k).length=tk.length:=by unfold EN;rw[vr]
theorem o9:(EN E tk i k)[p]? =(tk[p]?).map (CZ E tk i k p):=by unfold EN;rw[tK]
theorem N5:EN E tk 0 0=tk.map zw:=by
 refine cM fun p=>?_
 rw[o9,aI]
 congr 1
 funext t
 unfold CZ zw I0 IV
 rw[if_neg (cQ _),if_neg (cQ _)]
 split<;>simp
theorem Rr:EN E tk i tk.length=EN E tk (i+1) 0:=by
 refine cM fun p=>?_
 rw[o9,o9]
 cases hp:tk[p]? with
 |none=>rfl
 |some t=>
  have hl:=rl hp
  show some _=some _
  congr 1
  unfold CZ
  congr 1
  ·unfold IV;rw[if_pos hl,if_neg (cQ _)]
  ·unfold I0
   by_cases e1:p<i
   ·rw[if_pos e1,if_pos (by omega)]
   ·rw[if_neg e1]
    by_cases e2:p=i
    ·rw[if_pos e2,if_pos (by omega)]
    ·rw[if_neg e2,if_neg (by omega)]
     by_cases e3:p=i+1
     ·rw[if_pos e3];rfl
     ·rw[if_neg e3]
theorem Ps (h:iF E Ms tk of):EN E tk tk.length 0=tk:=by
 refine cM fun p=>?_
 rw[o9]
 cases hp:tk[p]? with
 |none=>rfl
 |some t=>
  have hl:=rl hp
  show some _=some _
  congr 1
  unfold CZ IV I0
  rw[if_neg (cQ _),if_pos hl, ←h.q.pa p t hp, ←h.q.ch p t hp]
theorem tz {P:Nat→Bool} {n:Nat}:(bF (n+1)).filter P=(bF n).filter P++(if P n then[n] else[]):=by
 rw[eZ,dI]
 congr 1
 cases h:P n with
 |true=>rw[List.filter_cons_of_pos h];rfl
 |false=>rw[List.filter_cons_of_neg (by rw[h];decide)];rfl
theorem Wy (hi:tk[i]? =some s) (hk:tk[k]? =some t) (hl:¬me E s t=true):EN E tk i (k+1)=EN E tk i k:=by
 refine cM fun p=>?_
 rw[o9,o9]
 cases hp:tk[p]? with
 |none=>rfl
 |some u=>
  show some _=some _
  congr 1
  unfold CZ
  congr 1
  ·unfold IV
   by_cases e:p<k
   ·rw[if_pos e,if_pos (by omega)]
   ·rw[if_neg e]
    by_cases e2:p=k
    ·subst e2
     rw[hk]at hp
     have:=eI hp
     subst this
     rw[if_pos (by omega),tz,nv hi,if_neg hl,ew]
    ·rw[if_neg (by omega)]
  ·unfold I0
   by_cases e:p<i
   ·rw[if_pos e,if_pos e]
   ·rw[if_neg e,if_neg e]
    by_cases e2:p=i
    ·subst e2
     rw[hi]at hp
     have:=eI hp
     subst this
     rw[if_pos rfl,if_pos rfl,tz,nv hk,if_neg hl,ew]
    ·rw[if_neg e2,if_neg e2]
theorem No {b:Int} {f:Nat} {a:List Nat} {e:Int} {p p' c c':List Nat} (hp:p=p') (hc:c=c'):(⟨b,f,a,e,p,c⟩:fo)=⟨b,f,a,e,p',c'⟩:=by rw[hp,hc]
theorem Sk (hi:tk[i]? =some s) (hk:tk[k]? =some t) (hik:i≠k) (hl:me E s t=true):
  ((EN E tk i k).set i { CZ E tk i k i s with ch:=(CZ E tk i k i s).ch++[k] }).set k { CZ E tk i k k t with pa:=(CZ E tk i k k t).pa++[i] }=EN E tk i (k+1):=by
 refine cM fun p=>?_
 rw[eQ,eQ,eB,BT,o9,o9]
 by_cases e:k=p
 ·subst e
  rw[if_pos rfl,if_pos (rl hk),hk]
  show some _=some _
  congr 1
  unfold CZ
  refine No ?_ ?_
  ·show IV E tk i k k t++[i]=IV E tk i (k+1) k t
   unfold IV
   rw[if_neg (iJ _),if_pos (by omega),tz,nv hi,if_pos hl]
  ·show I0 E tk i k k t=I0 E tk i (k+1) k t
   unfold I0
   by_cases e:k<i
   ·rw[if_pos e,if_pos e]
   ·rw[if_neg e,if_neg e,if_neg (fun z=>hik z.symm),if_neg (fun z=>hik z.symm)]
 ·rw[if_neg e]
  by_cases e2:i=p
  ·subst e2
   rw[if_pos rfl,if_pos (rl hi),hi]
   show some _=some _
   congr 1
   unfold CZ
   refine No ?_ ?_
   ·show IV E tk i k i s=IV E tk i (k+1) i s
    unfold IV
    by_cases e3:i<k
    ·rw[if_pos e3,if_pos (by omega)]
    ·rw[if_neg e3,if_neg (by omega)]
   ·show I0 E tk i k i s++[k]=I0 E tk i (k+1) i s
    unfold I0
    rw[if_neg (iJ _),if_pos rfl,if_neg (iJ _),if_pos rfl,tz,nv hk,if_pos hl]
  ·rw[if_neg e2]
   cases hp:tk[p]? with
   |none=>rfl
   |some u=>
    show some _=some _
    congr 1
    unfold CZ
    congr 1
    ·unfold IV
     by_cases e3:p<k
     ·rw[if_pos e3,if_pos (by omega)]
     ·rw[if_neg e3,if_neg (by omega)]
    ·unfold I0
     by_cases e3:p<i
     ·rw[if_pos e3,if_pos e3]
     ·rw[if_neg e3,if_neg e3,if_neg (fun z=>e2 z.symm),if_neg (fun z=>e2 z.symm)]
theorem Zz (h:iF E Ms tk of) (ht:t∈tk) {a:Nat} (ha:t.ar[j]? =some a):(j+1<t.ar.length→t.fr+j+1<E.length∧(oJ (E.getD (t.fr+j+1) []) a).kd=4∧∃b,t.ar[j+1]? =some b∧(oJ (E.getD (t.fr+j+1) []) a).t=[b])∧(j+1=t.ar.length→(if E.length≤t.fr+j+1 then(0:Int) else(oJ (E.getD (t.fr+j+1) []) a).kd)=t.en∧t.en≠4):=by
 have hp:=h.pos ht
 have hE:=h.q.len
 refine⟨fun hj=>?_,fun hj=>?_⟩
 ·obtain⟨b,hb⟩:∃b,t.ar[j+1]? =some b:=⟨_,aw hj⟩
  have:=h.q.step t ht j a b ha hb
  exact⟨by omega,this.1,b,hb,this.2⟩
 ·have h1:=h.q.en t ht
  have e:t.up=t.fr+j+1:=by unfold fo.up;omega
  have hl:t.last=a:=by
   have:=qe hp.1
   rw[show t.ar.length-1=j by omega,ha]at this
   exact(eI this).symm
  refine⟨?_,h1.2⟩
  rw[h1.1,e,hl]
  by_cases q:t.fr+j+1=Ms.length
  ·rw[if_pos (by omega),if_pos q]
  ·rw[if_neg (by omega),if_neg q]
end
section
variable {nx:Nat→List Nat} {N a i j x:Nat} {out out0:List Bool} {gr:Bool}
theorem sx {l:List Bool} {x q:Nat} {v:Bool} (hx:x<l.length):(l.set x v).getD q false=if x=q then v else l.getD q false:=by
 rw[aO,aO,eQ]
 by_cases e:x=q
 ·rw[if_pos e,if_pos e,if_pos hx];rfl
 ·rw[if_neg e,if_neg e]
theorem getD_lt {l:List Bool} {q:Nat} (h:l.getD q false=true):q<l.length:=by
 refine dx fun z=>?_
 rw[aO,aQ (by omega)]at h
 cases h
structure FS (nx:Nat→List Nat) (N a:Nat) (out:List Bool):Prop where
 len:out.length=N
 st:out.getD a false=true
 mem:∀q,out.getD q false=true→q=a∨Ak nx a q
structure FR (nx:Nat→List Nat) (N a:Nat) (out0:List Bool) (i j:Nat) (out:List Bool) (gr:Bool):Prop where
 fs:FS nx N a out
 lt:gr=true→kI out<kI out0
 le:kI out≤kI out0
 cl:gr=false→∀p,p<i→out.getD p false=true→∀y,y∈nx p→out.getD y false=true
 pt:gr=false→out.getD i false=true→∀y,y∈(nx i).take j→out.getD y false=true
theorem FS.zero (ha:a<N):FS nx N a ((List.replicate N false).set a true):=by
 refine⟨by rw[eB,dF],?_,fun q hq=>?_⟩
 ·rw[sx (by rw[dF];exact ha),if_pos rfl]
 ·rw[sx (by rw[dF];exact ha)]at hq
  by_cases e:a=q
  ·exact .inl e.symm
  ·rw[if_neg e]at hq
   have hl:=getD_lt hq
   rw[dF]at hl
   rw[aO,List.getElem?_replicate,if_pos hl]at hq
   cases hq
theorem FR.zero (h:FS nx N a out):FR nx N a out 0 0 out false:=
 ⟨h,fun z=>(by cases z),cg _,fun _ p hp=>absurd hp (cQ _),fun _ _ y hy=>(by rw[List.take_zero]at hy;cases hy)⟩
theorem FR.no (h:FR nx N a out0 i j out gr) (hx:(nx i)[j]? =some x) (hn:¬(out.getD i false=true∧out.getD x false=false)):FR nx N a out0 i (j+1) out gr:=by
 refine⟨h.fs,h.lt,h.le,h.cl,fun g hi y hy=>?_⟩
 obtain⟨hk,e⟩:=an.1 hx
 rw[List.take_succ_eq_append_getElem hk,e]at hy
 rcases bQ.1 hy with z|z
 ·exact h.pt g hi y z
 ·have:=bW.1 z
  subst this
  cases hv:out.getD y false with
  |true=>rfl
  |false=>exact absurd ⟨hi,hv⟩ hn
theorem FR.yes (h:FR nx N a out0 i j out gr) (hx:(nx i)[j]? =some x) (hxN:x<N) (hi:out.getD i false=true) (hv:out.getD x false=false):FR nx N a out0 i (j+1) (out.set x true) true:=by
 have hl:x<out.length:=by rw[h.fs.len];exact hxN
 have hm:=al hx
 have hc:=qD hl hv
 have hle:=h.le
 refine⟨⟨by rw[eB];exact h.fs.len,?_,fun q hq=>?_⟩,fun _=>by omega,by omega,fun z=>(by cases z),fun z=>(by cases z)⟩
 ·rw[sx hl];split
  ·rfl
  ·exact h.fs.st
 ·rw[sx hl]at hq
  by_cases e:x=q
  ·subst e
   rcases h.fs.mem i hi with z|z
   ·subst z;exact .inr (.base hm)
   ·exact .inr (.step z hm)
  ·rw[if_neg e]at hq;exact h.fs.mem q hq
theorem FR.next (h:FR nx N a out0 i (nx i).length out gr):FR nx N a out0 (i+1) 0 out gr:=by
 refine⟨h.fs,h.lt,h.le,fun g p hp hv y hy=>?_,fun _ _ y hy=>by rw[List.take_zero]at hy;cases hy⟩
 rcases cZ.1 hp with z|z
 ·exact h.cl g p z hv y hy
 ·subst z
  have:=h.pt g hv y
  rw[List.take_length]at this
  exact this hy
def FE (nx:Nat→List Nat) (a:Nat) (out:List Bool):Prop:=∀q,out.getD q false=true↔q=a∨Ak nx a q
theorem FR.fin (h:FR nx N a out0 N 0 out false):FE nx a out:=by
 have key:∀q,Ak nx a q→out.getD q false=true:=fun q hr=>by
  induction hr with
  |base h1=>exact h.cl rfl a (by have:=getD_lt h.fs.st;rw[h.fs.len]at this;exact this) h.fs.st _ h1
  |step _ h1 ih=>exact h.cl rfl _ (by have:=getD_lt ih;rw[h.fs.len]at this;exact this) ih _ h1
 refine fun q=>⟨h.fs.mem q,fun z=>?_⟩
 rcases z with z|z
 ·subst z;exact h.fs.st
 ·exact key q z
theorem T8 {out2:List Bool} {gr2:Bool} (h:FR nx N a out i j out2 gr2) (hg:gr=true):2*kI out2+gr2.toNat<2*kI out+gr.toNat:=by
 have h1:=h.le;have h2:=h.lt
 subst hg
 cases gr2 with
 |false=>show 2*kI out2+0<2*kI out+1;omega
 |true=>have:=h2 rfl;show 2*kI out2+1<2*kI out+1;omega
theorem La {b:List Bool}:(qd b).Pairwise (· < ·):=by
 unfold qd nH;exact List.pairwise_lt_range.filter _
theorem J9 {b:List Bool} {x:Nat}:x∈qd b↔b.getD x false=true:=by
 unfold qd nH
 rw[bR,a8]
 exact⟨fun h=>h.2,fun h=>⟨getD_lt h,h⟩⟩
theorem IQ (h:FE nx a out) (hl:a<out.length) (ha:¬Ak nx a a):(qd (out.set a false)).Pairwise (· < ·)∧∀x,x∈qd (out.set a false)↔Ak nx a x:=by
 refine⟨La,fun x=>?_⟩
 rw[J9,sx hl]
 by_cases e:a=x
 ·subst e;rw[if_pos rfl];exact⟨fun z=>(by cases z),fun z=>absurd z ha⟩
 ·rw[if_neg e,h x]
  exact⟨fun z=>z.resolve_left (fun y=>e y.symm),.inr⟩
theorem rv {l m:List Nat} (hl:l.Pairwise (· < ·)) (hm:m.Pairwise (· < ·)) (h:∀x,x∈l↔x∈m):l=m:=by
 have p:l.Perm m:=(List.perm_ext_iff_of_nodup (sF hl) (sF hm)).2 h
 exact p.eq_of_pairwise (fun a b _ _ h1 h2=>absurd h1 (by omega)) hl hm
end
end Go.Proofs.YtgemekpofpoopaaGreat
