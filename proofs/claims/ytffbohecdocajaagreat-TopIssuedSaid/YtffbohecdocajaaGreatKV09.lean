/-
  Events, by the program.
  (and more)
-/
import Derived.Test.YtffbohecdocajaaGreatKV08
open Go.Proofs.Tryz renaming prog→ae,underlying351→oJ,underlying345→jd,underlying341→si,underlying356→oK,underlying3→cM,underlying200→zp,underlying204→k7,underlying343→zq,underlying342→zt,func136→By,func63→xV
open Go.SL.ed renaming mk→ju
open Go.Proofs.YtffbohecdocajaaGreat.dQ renaming m→dZ,z→zm,cells→gD,tR→nw,fR→nA
open List renaming getElem?_eq_getElem→af,ext_getElem?→cO,getElem?_map→aw,getElem?_modify→j9,getElem?_set→fe,getElem?_eq_some_iff→aj,length_map→aq,length_filter_le→cH,length→fT,mem_map_of_mem→bE,mem_map→bQ,mem_of_getElem?→al,mem_append→bZ,mem_singleton→bT,map_append→bj,append_assoc→dp,take_succ_eq_append_getElem→cT,getElem?_append_right→aY,map_map→dG,mem_filter→bK,mem_range→bf,length_pos_of_mem→kJ,map_set→gR,length_set→ja,getElem?_append_left→aJ,length_append→aZ,length_singleton→cu,take_length→du,find?_eq_none→iz,mem_iff_getElem→cC,length_take→dt,pairwise_iff_getElem→be,pairwise_map→gl,getElem_take→ng,find?_cons→D6,range→br,length_cons→gh,pairwise_flatten→vK,mem_flatten→nI,foldl_append→kB
open Nat renaming le_trans→eL,zero_le→bG,le_refl→bA,le_of_ble_eq_true→bh,ne_of_lt→jH,lt_succ_iff_lt_or_eq→fV
open Go.SL.St renaming bS→fH,fz→l4,inv→dL,lZ→iB
open List.Perm renaming swap→qd
open Go.Value renaming slice→mn,int→bX
open Go.SL.VO renaming h→aD,h0→bU,l→ah,nil→aI
open Go.SL.HO renaming box→cf,lo→aO,alloc→bI,st→bl,pS→jh,bs→fu,kT→dM,Yc→tX,fP→cz
open Go.SL.LO renaming bd→dC,len→bW,lA→cw,ld→aB,fa→aE,sub→dv,fg→aM,nc→bH,wy→gp,call→bD,mv→bJ,gt→iX,qh→dO,eq→fN
open Go.SL.VC renaming seq→ak,block→aG,perm→ik,eP→bY,cond→ay,skip→aC,exit→ca,dU→aF,draw→eH,res→oH,gu→cP,ret→aP
open Go.SL.VE renaming aN→ag,cb→aL,l8→cD,cX→bn,gL→bB,res→dh,cJ→a8
open Go.Proofs.YtffbohecdocajaaGreat.RO renaming tu→gB
open Go.SL.LL renaming l→aV,nil→ft
open Go.Proofs.YtffbohecdocajaaGreat.LO renaming eqv→dy
open Go.SL.LX renaming l→aA,s→cn,nil→dw
open Go.SL.HX renaming s→au,h0→eW,nil→dS,h→fQ
open Int renaming natCast_nonneg→dD
open Classical renaming not_not→cL
open Go.Ending renaming returned→cW
open Option renaming isSome_iff_ne_none→ug

set_option linter.unusedSimpArgs false
set_option maxRecDepth 20000
set_option maxHeartbeats 8000000
namespace Go.Proofs.YtffbohecdocajaaGreat
open Go.SL Go.Proofs Go.qO Go.Cell
set_option linter.unusedVariables false
theorem ak0:ef ae 200:=⟨_,Tryz.func200,by decide,rfl⟩
theorem ani:ed ae 442 [(0,1)] [.map none]:=ju fun _=>by kernel_rfl
theorem aml:cj ae 442 (.agg #[.map none]):=by unfold cj;kernel_rfl
theorem alr:(ae.info? 442).map (·.size)=some 1:=by kernel_rfl
theorem YN:ed ae 445 [(0,1),(1,1)] [.bool false,.int .i64 0]:=ju fun _=>by kernel_rfl
theorem alX:cj ae 446 (.map none):=by unfold cj;kernel_rfl
theorem ann:(ae.info? 446).map (·.size)=some 1:=by kernel_rfl
theorem alc:cj ae 197 (.slice none 0 0):=by unfold cj;kernel_rfl
theorem Ay:bV ae 351 1 1:=⟨_,_,oJ,rfl,rfl,0,by kernel_rfl⟩
theorem zV:bV ae 351 2 2:=⟨_,_,oJ,rfl,rfl,0,by kernel_rfl⟩
theorem Wp:jX ae 351 3:=⟨⟨_,oJ,rfl⟩,by kernel_rfl⟩
theorem al0:ef ae 203:=⟨_,Tryz.func203,by decide,rfl⟩
theorem Av:bV ae 351 0 0:=⟨_,_,oJ,rfl,rfl,0,by kernel_rfl⟩
theorem ZC {A:Nd→Option Nat} {q:Nd} {l:List dQ}:(mA A q l).map dZ=if(A q).isSome=true then l.map dZ else l.map dZ++[⟨0,[],[]⟩]:=by unfold mA;split<;>simp [zm,dZ]
theorem Fe {A:Nd→Option Nat} {q:Nd} {l:List dQ} (h:∀p,A q=some p→p<l.length):∃e,(mA A q l)[oy A q l.length]? =some e:=by
 unfold mA oy
 cases hq:A q with
 |some p=>simp only[Option.isSome_some,if_true,Option.getD_some];exact⟨_,af (h p hq)⟩
 |none=>simp only[Option.isSome_none,Bool.false_eq_true,if_false,Option.getD_none];exact⟨zm,by simp⟩
theorem YS {l:List dQ} {k n t:Nat} {e e':dQ} (h:l[k]? =some e) (he:e'.m=wO n t e.m):(l.set k e').map dZ=(l.map dZ).modify k (wO n t):=by
 refine cO fun i=>?_
 rw[aw,j9,aw,fe]
 by_cases q:k=i
 ·subst q
  obtain⟨hl,_⟩:=aj.1 h
  rw[if_pos rfl,if_pos hl,h]
  simp [he]
 ·rw[if_neg q];cases l[i]? <;>simp [q]
theorem Pu {κ:Nat→Nd} {n t:Nat} {A:Nd→Option Nat} {l:List dQ} {e e':dQ} (h:KI κ n t A (l.map dZ)) (hg:(mA A (κ t) l)[oy A (κ t) l.length]? =some e) (he:e'.m=wO n t e.m):
  KI κ n (t+1) (wJ A (κ t) l.length) (((mA A (κ t) l).set (oy A (κ t) l.length) e').map dZ):=by
 rw[YS hg he,ZC]
 have:=h.step
 rw[aq]at this
 exact this
theorem Mz {κ:Nat→Nd} {t:Nat}:(jr κ t).length≤t:=by unfold jr;refine eL (cH _ _) ?_;simp
theorem MJ {κ:Nat→Nd} {n t:Nat} {A:Nd→Option Nat} {l:List dQ} (h:KI κ n t A (l.map dZ)):l.length≤t:=by
 have:=congrArg fT h.l
 rw[aq]at this
 rw[this];unfold HS;rw[aq];exact Mz
theorem P8 {κ:Nat→Nd} {n t:Nat} {A:Nd→Option Nat} {l:List dQ} (h:KI κ n t A (l.map dZ)) {q:Nd} {p:Nat} (hp:A q=some p):p<l.length:=by have:=h.lt hp;rwa [aq]at this
theorem X9 {κ:Nat→Nd} {n t k:Nat}:(Fw κ n t k).f.length≤t∧(Fw κ n t k).t.length≤t:=by
 unfold Fw;constructor
 ·refine eL (cH _ _) ?_;simp;omega
 ·refine eL (cH _ _) ?_;simp
theorem M6 {κ:Nat→Nd} {n t:Nat} {A:Nd→Option Nat} {l:List dQ} (h:KI κ n t A (l.map dZ)) {q:Nd} {k:Nat} {e:dQ} (he:(mA A q l)[k]? =some e):e.f.length≤t∧e.t.length≤t:=by
 have key:∀e,e∈l→e.f.length≤t∧e.t.length≤t:=fun e he=>by
  have h1:e.m∈HS κ n t:=by rw[←h.l];exact bE he
  obtain⟨k,_,hk⟩:=bQ.1 h1
  have h2:=X9 (κ:=κ) (n:=n) (t:=t) (k:=k)
  rw[hk]at h2;exact h2
 have h1:=al he
 unfold mA at h1
 split at h1
 ·exact key e h1
 ·rcases bZ.1 h1 with g|g
  ·exact key e g
  ·have:=bT.1 g;subst this;simp [zm]
theorem abT {β:Bs} {L:List cq} {w:World} {f:dQ→cq} (hf:f zm=own 3 1 none 0 []) (A:Nd→Option Nat) (q:Nd) (l:List dQ) (h:St β (bS (l.map f)::L) w):St β (bS ((mA A q l).map f)::L) w:=by
 unfold mA
 split
 ·exact h
 ·refine fH ?_
  rw[bj,List.map_singleton,hf]
  refine((St.uQ h).fX 3 1).perm ?_
  rw[dp]
  exact(List.perm_middle (l₁:=l.map f) (l₂:=L) (a:=own 3 1 none 0 [])).symm
def Hk (e:dQ):dQ:={ e with kd:=lG e.f.length e.t.length }
def uh (l:List dQ) (k:Nat):List dQ:=(l.take k).map Hk++l.drop k
theorem FX {l:List dQ}:uh l l.length=l.map Hk:=by unfold uh;simp
theorem Fg {l:List dQ} {k:Nat}:(uh l k).length=l.length:=by unfold uh;simp;omega
theorem Q3 {l:List dQ} {k:Nat} {e:dQ} (h:l[k]? =some e):(uh l k).set k (Hk e)=uh l (k+1):=by
 obtain⟨hk,rfl⟩:=aj.1 h
 unfold uh
 rw[List.set_append,if_neg (by simp;omega),cT hk,bj,dp]
 congr 1
 rw[List.drop_eq_getElem_cons hk,show k-(List.map Hk (List.take k l)).length=0 by simp;omega]
 rfl
theorem FZ {l:List dQ} {k:Nat} {e:dQ} (h:l[k]? =some e):(uh l k)[k]? =some e:=by
 obtain⟨hk,rfl⟩:=aj.1 h
 unfold uh
 rw[aY (by simp;omega)]
 simp [Nat.min_eq_left (Nat.le_of_lt hk)]
theorem OU {l:List dQ} {k:Nat} {f:dQ→cq} (hf:∀e,f (Hk e)=f e):(uh l k).map f=l.map f:=by
 unfold uh
 rw[bj,dG]
 have:(f∘Hk)=f:=funext hf
 rw[this, ←bj,List.take_append_drop]
theorem TN {κ:Nat→Nd} {n m:Nat} {A:Nd→Option Nat} {l:List dQ} (h:KI κ n (n+m) A (l.map dZ)):(l.map Hk).map dZ=wC κ n m:=by
 unfold wC
 rw[←h.l,dG,dG]
 rfl
theorem adf {κ:Nat→Nd} {n m:Nat} {A:Nd→Option Nat} {l:List dQ} (h:KI κ n (n+m) A (l.map dZ)) {e:dQ} (he:e∈l):0<e.f.length+e.t.length:=by
 have h1:e.m∈HS κ n (n+m):=by rw[←h.l];exact bE he
 obtain⟨k,hk,hk2⟩:=bQ.1 h1
 have hk:=(lW.1 hk).1
 have e1:e.f=(Fw κ n (n+m) k).f:=congrArg jS.f hk2.symm
 have e2:e.t=(Fw κ n (n+m) k).t:=congrArg jS.t hk2.symm
 by_cases q:k<n
 ·have:k∈e.f:=by rw[e1];unfold Fw;exact bK.2 ⟨bf.2 (by omega),by simp⟩
  have:=kJ this;omega
 ·have:k-n∈e.t:=by rw[e2];unfold Fw;exact bK.2 ⟨bf.2 (by omega),by simp [show n+(k-n)=k by omega]⟩
  have:=kJ this;omega
theorem Wr {β:Bs} {L:List cq} {w:World} {f1 f2:dQ→cq} (h1:f1 zm=own 3 1 none 0 []) (h2:f2 zm=own 3 1 none 0 []) (A:Nd→Option Nat) (q:Nd) (l:List dQ) (h:St β (bS (l.map f1)::bS (l.map f2)::L) w):St β (bS ((mA A q l).map f1)::bS ((mA A q l).map f2)::L) w:=
 (abT h2 A q l ((abT h1 A q l h).perm (qd _ _ _))).perm (qd _ _ _)
theorem YK {l:List dQ} {ix c:Nat} {p:Option Addr} {e:dQ} {t:Nat}:(l.map gD).set ix ((gD e).take 1++[.slice p (e.f++[t]).length c]++(gD e).drop (1+[mn p (e.f++[t]).length c].length))=(l.set ix { e with fp:=p,fc:=c,f:=e.f++[t] }).map gD:=by
 rw[gR]
 rfl
theorem XS {l:List dQ} {ix c:Nat} {p:Option Addr} {e:dQ} {t:Nat}:(l.map gD).set ix ((gD e).take 2++[.slice p (e.t++[t]).length c]++(gD e).drop (2+[mn p (e.t++[t]).length c].length))=(l.set ix { e with tp:=p,tc:=c,t:=e.t++[t] }).map gD:=by
 rw[gR]
 rfl
theorem Yf {l:List dQ} {ix:Nat} {e:dQ}:(l.map gD).set ix ((gD e).take 0++[.int .i64 (lG e.f.length e.t.length)]++(gD e).drop (0+[bX .i64 (lG e.f.length e.t.length)].length))=(l.set ix (Hk e)).map gD:=by
 rw[gR]
 rfl
theorem Vy {l:List dQ} {ix c:Nat} {p:Option Addr} {e:dQ} {f:List Nat} (h:l[ix]? =some e):(l.set ix { e with fp:=p,fc:=c,f:=f }).map nw=l.map nw:=by
 refine cO fun i=>?_
 rw[aw,fe,aw]
 by_cases q:ix=i
 ·subst q;rw[if_pos rfl,if_pos (aj.1 h).1,h];rfl
 ·rw[if_neg q]
theorem Wc {l:List dQ} {ix c:Nat} {p:Option Addr} {e:dQ} {t:List Nat} (h:l[ix]? =some e):(l.set ix { e with tp:=p,tc:=c,t:=t }).map nA=l.map nA:=by
 refine cO fun i=>?_
 rw[aw,fe,aw]
 by_cases q:ix=i
 ·subst q;rw[if_pos rfl,if_pos (aj.1 h).1,h];rfl
 ·rw[if_neg q]
theorem adZ (M:Nd→Option Nd) (ld:Nd→Nd) (x y:Nd) (b:Nat) (w:World) (hh:Has w [kM nV nV b M]) (hF:O2 M ld):
 Calls ae 200 #[.agg #[.map (some b)],nV x,nV y] w fun e w'=>∃u:Unit,True∧e= .returned (.tuple #[])∧St ⟨w,lu [kM nV nV b M]⟩ [kM nV nV b (Bn M ld x y)] w':=(adN M ld x y b w hh hF).mono fun e w' h=>⟨(),trivial,h⟩
theorem vu {g:cU} (hg:cF g) {v u:Nat} (hv:v<gH g) (hu:u<gW g):∃q:Nat,(v:Int)*g.wide+(u:Int)=q∧q<gW g*gH g∧v*gW g+u=q:=by
 obtain⟨e1,e2,_⟩:=ME hg
 refine⟨v*gW g+u,by rw[←e1];push_cast;rfl,?_,rfl⟩
 have:=xE hu hv
 rw[Nat.mul_comm]at this;exact this
structure EvY where
 l:List dQ
 p:Option Addr
 c:Nat
def EvY.R (y:EvY):List cq:=[own 351 3 y.p y.c (y.l.map gD),bS (y.l.map nA),bS (y.l.map nw)]
theorem V8 (g:cU) (ya yb:qZ) (ofa ofb:List Int) (r:Nat) (w:World) (hg:cF g) (ha:Ex w ya ofa) (hb:Ex w yb ofb) (hla:ofa.length=gW g*gH g) (hlb:ofb.length=gW g*gH g) (hna:ya.l.length≤gW g*gH g) (hnb:yb.l.length≤gW g*gH g) (hr:r≤8):
 Calls ae 134 #[ZO g ya,ZO g yb,.int .i64 (r:Int)] w fun e w'=>∃y:EvY,UN (gW g) (gH g) r ofa ofb ya.l.length yb.l.length (y.l.map dZ)∧e= .returned (.slice y.p y.l.length y.c)∧St (bs w) y.R w':=by
 have har:=qN hg
 obtain⟨hW,hH,hW1,hW2,hH1,hH2⟩:=ME hg
 have hsa:nu ya.po (gW g*gH g):=by have z:=ha.of.sm;rw[hla]at z;exact z
 have hsb:nu yb.po (gW g*gH g):=by have z:=hb.of.sm;rw[hlb]at z;exact z
 obtain⟨n_,hn_⟩:∃n,n=ya.l.length:=⟨_,rfl⟩
 obtain⟨m_,hm_⟩:∃n,n=yb.l.length:=⟨_,rfl⟩
 refine enter (vs:=[_,_,_]) (env:=[(0,_),(1,_),(2,_)]) Tryz.func134 rfl rfl rfl rfl ?_
 refine VC.q (aD rfl<|cf (C:=#[_,_,_,_,_,_,_]) rfl rfl fun b1=>aD rfl<|cf (C:=#[_,_,_,_,_,_,_]) rfl rfl fun b2=>VO.a rfl<|VO.n<|VC.q (aD rfl<|HO.Dy nV nV fun b3=>aD rfl<|aO (dC (ps:=[(_,_)]) (vs:=[(_,_)]) (C:=[_]) ani ⟨(.r rfl),trivial⟩ rfl ⟨_,[_],[_],rfl,rfl,rfl,rfl,rfl⟩)<|aD rfl<|bI (C:=#[_]) aml rfl fun b4=>bU<|bl 0 (vs:=[_]) (C':=[_]) (L':=[_,_,_,_]) alr rfl rfl rfl rfl rfl rfl rfl rfl<|VO.n<|ak ?_))
 refine VC.q (VO.f (r:=6) Mq rfl<|VO.c 3 ij rfl rfl ⟨_,rfl⟩ rfl<|ah (bW ei (.r rfl) rfl) rfl<|VO.m rfl<|VO.n<|aG<|ik [1,0,2,3] rfl<|bY (α:=Nat×(Nd→Option Nd)) 1 (fun gx=>[(29,.int .i64 (gx.1:Nat))]) [(2,_),(3,_),(4,_),(7,_),(27,_),(28,_)] (fun gx=>[kM nV nV b3 gx.2]) (fun gx=>gx.1≤gW g*gH g∧nr (Jw (gW g) (gH g) r ofa ofb gx.1 0 0) gx.2) (fun gx=>gW g*gH g-gx.1) (0,(fun _=>none)) (by exact⟨bG _,nr.zero⟩) (.c4 rfl rfl rfl rfl (.cons rfl (.cons rfl (.cons rfl .nil)))) (fun _ h=>h) ?_)
 rintro ⟨p,M⟩ ⟨hp,hG⟩
 show VC _ _ _ _ _ ([(29,.int .i64 (p:Nat))]++_) ([kM nV nV b3 M]++_) _ _
 dsimp only at hp hG
 refine VC.q (VO.t rfl<|VO.n<|ak<|ay rfl (fun h30=>?_) (fun h30=>?_))
 ·
  refine aC (ag<|ak<|aG<|VC.q (VO.m rfl<|ah (cw ei N3 hsa (.r rfl) (.r rfl) rfl (by omega)) rfl<|ah (aB O3 (.r rfl) (fun w hw=>bq (off:=0) ((fun w3 h3=>gB (ha.of.keep w3 h3) (Gs (n:=p) (by omega))) w hw) ⟨_,rfl⟩)) rfl<|VO.a rfl<|VO.a rfl<|VO.n<|ak ?_))
  refine VC.q (VO.m rfl<|VO.t rfl<|VO.n<|ay rfl (fun h35=>?_) (fun h35=>?_))
  ·
   refine ca (aL (cD (ag<|aF (VO.p rfl rfl (by omega) (by omega) rfl<|VO.m rfl<|aI<|bn fun a w ha hw=>⟨(p+1,M),⟨by dsimp only;omega,hG.skip h35⟩,(by dsimp only;omega),ha.sub (.c4 rfl rfl rfl rfl (.cons rfl (.cons rfl (.cons rfl .nil)))),hw⟩))))
  ·
   have hpd:=Et hg (p:=p) (by omega)
   have hpr:p%gW g<gW g:=Nat.mod_lt _ (by omega)
   have hpy:p / gW g<gH g:=w8 (by omega)
   refine aC (ag<|ak<|eH mixed (LL.m rfl<|aV (aE (r:=0) sq (.r rfl) rfl) rfl<|aV (aE (r:=3) jD (.r rfl) rfl) rfl<|aV (aB O3 (.r rfl) (ax 3 rfl ⟨_,rfl⟩)) rfl<|aV (dy (LO.rem (.r rfl) (.r rfl) (by omega)) (congrArg (bX .i64) (Ik hg p))) rfl<|LL.m rfl<|aV (aE (r:=0) sq (.r rfl) rfl) rfl<|aV (aE (r:=3) jD (.r rfl) rfl) rfl<|aV (aB O3 (.r rfl) (ax 3 rfl ⟨_,rfl⟩)) rfl<|aV (dy (LO.quo (.r rfl) (.r rfl) (by omega) (wi (by rw[rf hg];have:=Et hg (p:=p) (by omega);omega) (by rw[rf hg];have:=Et hg (p:=p) (by omega);omega))) (congrArg (bX .i64) (rf hg p))) rfl<|aV (LO.as (.r rfl)) rfl<|aV (LO.as (.r rfl)) rfl<|ft) (by kernel_rfl)<|ag<|VC.q (VO.m rfl<|VO.m rfl<|ah (dv (.r rfl) (.r rfl) (wi (by omega) (by omega))) rfl<|ah (LO.max (.r rfl) (.r rfl)) rfl<|VO.a rfl<|VO.n ?_))
   refine aG<|bY (α:=Nat×(Nd→Option Nd)) 1 (fun gx=>[(12,.int .i64 (gx.1:Nat))]) [(2,_),(3,_),(4,_),(7,_),(9,_),(10,_),(11,_),(27,_),(28,_),(29,_)] (fun gx=>[kM nV nV b3 gx.2]) (fun gx=>p / gW g-r≤gx.1∧nr (Jw (gW g) (gH g) r ofa ofb p gx.1 0) gx.2) (fun gx=>gH g-gx.1) ((p / gW g-r),M) (by exact⟨bA _,hG.row⟩) (.cons (congrArg (fun z:Int=>some (bX .i64 z)) (show max (0:Int) (((p / gW g:Nat):Int)-(r:Int))=((p / gW g-r:Nat):Int) by omega)) (.c4 rfl rfl rfl rfl (.c4 rfl rfl rfl rfl (.cons rfl (.cons rfl .nil))))) (fun _ h=>h) ?_
   rintro ⟨v,M2⟩ ⟨hv,hG2⟩
   show VC _ _ _ _ _ ([(12,.int .i64 (v:Nat))]++_) ([kM nV nV b3 M2]++_) _ _
   dsimp only at hv hG2
   refine ak<|VC.q (VO.m rfl<|VO.f (r:=0) sq rfl<|VO.f (r:=4) qH rfl<|VO.c 3 O3 rfl rfl ⟨_,rfl⟩ rfl<|ah (dv (.r rfl) (.r rfl) (wi (by omega) (by omega))) rfl<|VO.m rfl<|VO.m rfl<|VO.p rfl rfl (by omega) (by omega) rfl<|ah (LO.min (.r rfl) (.r rfl)) rfl<|ah (LO.le (.r rfl) (.r rfl)) rfl<|VO.n<|ay rfl (fun h59=>?_) (fun h59=>?_))
   ·
    refine aC (ag<|ak<|aG<|VC.q (VO.m rfl<|VO.m rfl<|ah (dv (.r rfl) (.r rfl) (wi (by omega) (by omega))) rfl<|ah (LO.max (.r rfl) (.r rfl)) rfl<|VO.a rfl<|VO.n<|aG ?_))
    refine bY (α:=Nat×(Nd→Option Nd)) 1 (fun gx=>[(13,.int .i64 (gx.1:Nat))]) [(2,_),(3,_),(4,_),(7,_),(9,_),(10,_),(11,_),(12,_),(27,_),(28,_),(29,_)] (fun gx=>[kM nV nV b3 gx.2]) (fun gx=>p%gW g-r≤gx.1∧nr (Jw (gW g) (gH g) r ofa ofb p v gx.1) gx.2) (fun gx=>gW g-gx.1) ((p%gW g-r),M2) (by exact⟨bA _,hG2.col⟩) (.cons (congrArg (fun z:Int=>some (bX .i64 z)) (show max (0:Int) (((p%gW g:Nat):Int)-(r:Int))=((p%gW g-r:Nat):Int) by omega)) (.c4 rfl rfl rfl rfl (.c4 rfl rfl rfl rfl (.cons rfl (.cons rfl (.cons rfl .nil)))))) (fun _ h=>h) ?_
    rintro ⟨u,M3⟩ ⟨hu,hG3⟩
    show VC _ _ _ _ _ ([(13,.int .i64 (u:Nat))]++_) ([kM nV nV b3 M3]++_) _ _
    dsimp only at hu hG3
    refine ak<|VC.q (VO.m rfl<|VO.f (r:=0) sq rfl<|VO.f (r:=3) jD rfl<|VO.c 3 O3 rfl rfl ⟨_,rfl⟩ rfl<|ah (dv (.r rfl) (.r rfl) (wi (by omega) (by omega))) rfl<|VO.m rfl<|VO.m rfl<|VO.p rfl rfl (by omega) (by omega) rfl<|ah (LO.min (.r rfl) (.r rfl)) rfl<|ah (LO.le (.r rfl) (.r rfl)) rfl<|VO.n<|ay rfl (fun h75=>?_) (fun h75=>?_))
    ·
     obtain⟨q,hq1,hq2,hq3⟩:=vu hg (v:=v) (u:=u) (by omega) (by omega)
     subst hq3
     refine aC (ag<|ak<|aG<|VC.q (VO.f (r:=6) Mq rfl<|VO.c 2 ij rfl rfl ⟨_,rfl⟩ rfl<|VO.m rfl<|VO.f (r:=0) sq rfl<|VO.f (r:=3) jD rfl<|VO.c 3 O3 rfl rfl ⟨_,rfl⟩ rfl<|ah (LO.mul (.r rfl) (.r rfl) (wi (by omega) (by omega))) rfl<|VO.m rfl<|ah (dy (LO.add (.r rfl) (.r rfl) (wi (by omega) (by omega))) (congrArg (bX .i64) hq1)) rfl<|ah (cw ei N3 hsb (.r rfl) (.r rfl) rfl hq2) rfl<|ah (aB O3 (.r rfl) (fun w hw=>bq (off:=0) ((fun w3 h3=>gB (hb.of.keep w3 h3) (Gs (n:=v*gW g+u) (by omega))) w hw) ⟨_,rfl⟩)) rfl<|VO.a rfl<|VO.n<|ak ?_))
     refine aF (VO.m rfl<|ah (LO.ge (.r rfl) (.r rfl)) rfl<|VO.n<|ay rfl (fun h90=>?_) (fun h90=>?_))
     ·
      obtain⟨ld,hF,hld⟩:=hG3.ex
      refine aF (ah (aM (vs:=[_]) Zb (.r rfl) (ax 1 rfl ⟨_,rfl⟩) rfl) rfl<|VO.m rfl<|ah (dC (ps:=[(_,_),(_,_)]) (vs:=[(_,_),(_,_)]) (C:=[_,_]) YN ⟨(.r rfl),(.r rfl),trivial⟩ rfl ⟨_,[_],[_,_],rfl,rfl,rfl,rfl,⟨_,[_],[_,_],rfl,rfl,rfl,rfl,rfl⟩⟩) rfl<|VO.m rfl<|ah (dC (ps:=[(_,_),(_,_)]) (vs:=[(_,_),(_,_)]) (C:=[_,_]) YN ⟨(.r rfl),(.r rfl),trivial⟩ rfl ⟨_,[_],[_,_],rfl,rfl,rfl,rfl,⟨_,[_],[_,_],rfl,rfl,rfl,rfl,rfl⟩⟩) rfl<|aD rfl<|jh (first:=[]) (cap:=[]) (xs:=[_,_,_]) (vs:=[_,_,_]) [_] [_,_,_] (bM (L1:=[_]++[_,_,_]) [0,1,2,3] rfl rfl) (.r rfl) ak0 ⟨(.r rfl),(.r rfl),(.r rfl),trivial⟩ (fun w hw hh=>adZ M3 ld (false,ofa.getD p (-1)) (true,ofb.getD (v*gW g+u) (-1)) _ w hh hF) fun _u _=>aI<|bB (ag<|aF (VO.m rfl<|VO.p rfl rfl (by omega) (by omega) rfl<|VO.a rfl<|aI<|bn fun a w ha hw=>⟨(u+1,Bn M3 ld (false,ofa.getD p (-1)) (true,ofb.getD (v*gW g+u) (-1))),⟨by dsimp only;omega,nr.join hF hld (by omega) (by omega) (by omega) (by omega) (by omega)⟩,(by dsimp only;omega),ha.sub (.c4 rfl rfl rfl rfl (.c4 rfl rfl rfl rfl (.c4 rfl rfl rfl rfl .nil))),hw⟩)))
     ·
      refine aC (bB (ag<|aF (VO.m rfl<|VO.p rfl rfl (by omega) (by omega) rfl<|VO.a rfl<|aI<|bn fun a w ha hw=>⟨(u+1,M3),⟨by dsimp only;omega,hG3.none_ (by omega)⟩,(by dsimp only;omega),ha.sub (.c4 rfl rfl rfl rfl (.c4 rfl rfl rfl rfl (.c4 rfl rfl rfl rfl .nil))),hw⟩)))
    ·
     refine ca (aL (aL (cD (bB (ag<|aF (VO.m rfl<|VO.p rfl rfl (by omega) (by omega) rfl<|VO.a rfl<|aI<|bn fun a w ha hw=>⟨(v+1,M3),⟨by dsimp only;omega,hG3.adU (by omega)⟩,(by dsimp only;omega),ha.sub (.c4 rfl rfl rfl rfl (.c4 rfl rfl rfl rfl (.cons rfl (.cons rfl (.cons rfl .nil))))),hw⟩))))))
   ·
    refine ca (aL (aL (cD (bB (ag<|aF (VO.p rfl rfl (by omega) (by omega) rfl<|VO.m rfl<|aI<|bn fun a w ha hw=>⟨(p+1,M2),⟨by dsimp only;omega,hG2.adk (by omega)⟩,(by dsimp only;omega),ha.sub (.c4 rfl rfl rfl rfl (.cons rfl (.cons rfl (.cons rfl .nil)))),hw⟩))))))
 ·
  have hpe:p=gW g*gH g:=by omega
  subst hpe
  refine ca (aL (aL (cD (ag<|ak ?_))))
  obtain⟨ld,hF,hld⟩:=hG.all.ex
  refine VC.tn fun w1 hst1=>?_
  have hxa:fk w1 ⟨b1,0,none⟩ [.int .i64 g.x,.int .i64 g.y,.int .i64 g.size,.int .i64 g.wide,.int .i64 g.high,.slice ya.p ya.l.length ya.c,.slice ya.po (gW g*gH g) ya.co]:=iE (hst1.inv 3 _ rfl)
  have hxb:fk w1 ⟨b2,0,none⟩ [.int .i64 g.x,.int .i64 g.y,.int .i64 g.size,.int .i64 g.wide,.int .i64 g.high,.slice yb.p yb.l.length yb.c,.slice yb.po (gW g*gH g) yb.co]:=iE (hst1.inv 2 _ rfl)
  have hgb:fk w1 ⟨b4,0,none⟩ [.map (some b3)]:=iE (hst1.inv 1 _ rfl)
  have hGM:(kM nV nV b3 M).inv w1:=hst1.inv 0 _ rfl
  refine aF (aD rfl<|HO.Dy nV Ey fun b7=>aD rfl<|bI (C:=#[_]) alX rfl fun b8=>bU<|bl 0 (vs:=[_]) (C':=[_]) (L':=[_,_]) ann rfl rfl rfl rfl rfl rfl rfl rfl<|VO.n<|VC.q (aD rfl<|bI (C:=#[_]) alc rfl fun b10=>VO.n<|VC.q (aD rfl<|aO (LO.mf (cap:=[_,_,_]) ⟨(.r rfl),(.r rfl),(.r rfl),trivial⟩)<|aD rfl<|aO (LO.as (.r rfl))<|aI ?_)))
  refine ag<|ak<|VC.q (VO.f (r:=5) Cm rfl<|ah (aB TO (.r rfl) (aW (aU (off:=5) hxa ⟨_,rfl⟩))) rfl<|ah (bW BC (.r rfl) rfl) rfl<|VO.m rfl<|VO.n<|aG<|ik [2,0,1] rfl ?_)
  refine bY (α:=Nat×(Nd→Option Nat)×(List dQ)×(Option Addr)×Nat) 2 (fun gx=>[(103,.int .i64 (gx.1:Nat))]) [(4,_),(16,_),(17,_),(102,_)] (fun gx=>[kM nV Ey b7 gx.2.1,de b10 (.cells #[.slice gx.2.2.2.1 gx.2.2.1.length gx.2.2.2.2] 197),own 351 3 gx.2.2.2.1 gx.2.2.2.2 (gx.2.2.1.map gD),bS (gx.2.2.1.map nA),bS (gx.2.2.1.map nw)]) (fun gx=>gx.1≤n_∧KI (fun t=>ld (yK n_ t)) n_ gx.1 gx.2.1 (gx.2.2.1.map dZ)) (fun gx=>n_-gx.1) (0,(fun _=>none),[],none,0) (by exact⟨bG _,KI.zero⟩) (.c4 rfl rfl rfl rfl (.cons rfl .nil)) (fun _ h=>(((fH (Rs:=[]) (fH (Rs:=[]) h)).fX 351 3)).fO [3,4,0,1,2,5] rfl) ?_
  rintro ⟨i,A,l,po,co⟩ ⟨hi,hK⟩
  show VC _ _ _ _ _ ([(103,.int .i64 (i:Nat))]++_) ([kM nV Ey b7 A,de b10 (.cells #[.slice po l.length co] 197),own 351 3 po co (l.map gD),bS (l.map nA),bS (l.map nw)]++_) _ _
  dsimp only at hi hK
  refine VC.q (VO.t rfl<|VO.n<|ak<|ay rfl (fun h104=>?_) (fun h104=>?_))
  ·
   have hin:i<n_:=by omega
   have hki:=MJ hK
   refine aC (ag<|ak<|aG<|VC.q (VO.m rfl<|VO.a rfl<|VO.n<|ak ?_))
   refine aF (VO.m rfl<|VO.m rfl<|ah (dC (ps:=[(_,_),(_,_)]) (vs:=[(_,_),(_,_)]) (C:=[_,_]) YN ⟨(.r rfl),(.r rfl),trivial⟩ rfl ⟨_,[_],[_,_],rfl,rfl,rfl,rfl,⟨_,[_],[_,_],rfl,rfl,rfl,rfl,rfl⟩⟩) rfl<|aD rfl<|jh (first:=[]) (cap:=[_,_,_]) (xs:=[_]) (vs:=[_]) [_,_,_] [_,_,_] (bM (L1:=[_,_,_]++[_,_,_]) [0,1,2,3,4,5] rfl rfl) (.r rfl) ahu ⟨(.r rfl),trivial⟩ (fun w hw hh=>TZ M ld (false,(i:Int)) b3 b4 b7 b8 b10 A l po co w hh (fun hs=>⟨aW hgb _ (l4 (R:=wV b7 A b10 po co l) (rest:=[_,_,_]) (bM [0,1,2,3,4,5] rfl rfl _ hw) hs),sQ hGM _ (l4 (R:=wV b7 A b10 po co l) (rest:=[_,_,_]) (bM [0,1,2,3,4,5] rfl rfl _ hw) hs),iE (dL (iB (l4 (R:=wV b7 A b10 po co l) (rest:=[_,_,_]) (bM [0,1,2,3,4,5] rfl rfl _ hw) hs)) 2 _ rfl)⟩) hF (fun p hp=>P8 hK hp) (by omega)) fun y1 _=>aD rfl<|aO (LO.as (.r rfl))<|aI ?_)
   rw[←Wo hin]
   obtain⟨e,heg⟩:=Fe (A:=A) (q:=ld (yK n_ i)) (l:=l) (fun p hp=>P8 hK hp)
   refine ag<|oH (L':=nA e::bS (((mA A (ld (yK n_ (i))) l).eraseIdx (oy A (ld (yK n_ (i))) l.length)).map nA)::bS ((mA A (ld (yK n_ (i))) l).map nw)::[_,_,_,_]) (fun w hw=>St.yD (f:=nA) (Wr rfl rfl A (ld (yK n_ (i))) l (bM [3,4,0,1,2,5] rfl rfl w hw)) heg) ?_
   show VC _ _ _ _ _ _ (own 3 1 e.fp e.fc (e.f.map nC)::_) _ _
   refine aF (VO.m rfl<|VO.m rfl<|ah (bH (.r rfl)) rfl<|VO.f Ay rfl<|ah (aB ij (.r rfl) (fun w hw=>bq (off:=1) (gN hw 5 rfl heg) ⟨_,rfl⟩)) rfl<|VO.m rfl<|aD rfl<|fu (ps:=[(_,_)]) (vs:=[(_,_)]) (Z:=[_]) (C:=[_]) ei Z3 N3 ⟨(.r rfl),trivial⟩ rfl rfl rfl rfl ⟨_,[_],[_],rfl,rfl,rfl,rfl,rfl⟩ fun b19=>aD rfl<|dM (i) 1 0 (fun R=>[_,R,_,_,_,_,_,_]) ei ei I3 (.r rfl) (.r rfl) rfl rfl rfl rfl rfl rfl rfl (fun _=>rfl) rfl (by have:=M6 hK heg;omega) fun p7 c7=>ah (bH (.r rfl)) rfl<|VO.f Ay rfl<|bU<|tX 6 (fun R=>[_,_,_,_,_,_,R,_]) (o:=1) (vs:=[_]) qo (.r rfl) (.r rfl) rfl (tF heg) rfl rfl (bh rfl) rfl (fun _=>rfl)<|aI ?_)
   rw[YK]
   refine bB (ag<|aF (VO.p rfl rfl (by omega) (by omega) rfl<|VO.m rfl<|aI<|bn fun a w ha hw=>⟨(i+1,wJ A (ld (yK n_ (i))) l.length,(mA A (ld (yK n_ (i))) l).set (oy A (ld (yK n_ (i))) l.length) { e with fp:=p7,fc:=c7,f:=e.f++[i] },y1.p,y1.c),⟨by dsimp only;omega,Pu hK heg (by unfold wO;rw[if_pos hin];rfl)⟩,(by dsimp only;omega),ha.sub (.c4 rfl rfl rfl rfl (.cons rfl .nil)),(by dsimp only;rw[ja,Vy heg];exact bM (L1:=[_,_,_,_,_,_]) [1,2,3,0,4,5] rfl rfl _ (St.sO (f:=nA) (a:={ e with fp:=p7,fc:=c7,f:=e.f++[i] }) (i:=(oy A (ld (yK n_ (i))) l.length)) (bM (L1:=nA ({ e with fp:=p7,fc:=c7,f:=e.f++[i] })::[_,_,_,_,_,_]) [1,2,4,5,6,3,7] rfl rfl _ hw) (aj.1 heg).1))⟩))
  ·
   have hie:i=n_:=by omega
   rw[hie]at hK
   refine ca (aL (aL (cD (ag<|ak<|VC.q (VO.f (r:=5) Cm rfl<|ah (aB TO (.r rfl) (aW (aU (off:=5) hxb ⟨_,rfl⟩))) rfl<|ah (bW BC (.r rfl) rfl) rfl<|VO.m rfl<|VO.n<|aG<|bY (α:=Nat×(Nd→Option Nat)×(List dQ)×(Option Addr)×Nat) 5 (fun gx=>[(124,.int .i64 (gx.1:Nat))]) [(16,_),(17,_),(123,_)] (fun gx=>[kM nV Ey b7 gx.2.1,de b10 (.cells #[.slice gx.2.2.2.1 gx.2.2.1.length gx.2.2.2.2] 197),own 351 3 gx.2.2.2.1 gx.2.2.2.2 (gx.2.2.1.map gD),bS (gx.2.2.1.map nA),bS (gx.2.2.1.map nw)]) (fun gx=>gx.1≤m_∧KI (fun t=>ld (yK n_ t)) n_ (n_+gx.1) gx.2.1 (gx.2.2.1.map dZ)) (fun gx=>m_-gx.1) (0,A,l,po,co) (by exact⟨bG _,hK⟩) (.c4 rfl rfl rfl rfl .nil) (fun _ h=>h) ?_)))))
   rintro ⟨j,A,l,po,co⟩ ⟨hj,hK⟩
   show VC _ _ _ _ _ ([(124,.int .i64 (j:Nat))]++_) ([kM nV Ey b7 A,de b10 (.cells #[.slice po l.length co] 197),own 351 3 po co (l.map gD),bS (l.map nA),bS (l.map nw)]++_) _ _
   dsimp only at hj hK
   refine VC.q (VO.t rfl<|VO.n<|ak<|ay rfl (fun h125=>?_) (fun h125=>?_))
   ·
    have hki:=MJ hK
    refine aC (ag<|ak<|aG<|VC.q (VO.m rfl<|VO.a rfl<|VO.n<|ak ?_))
    refine aF (VO.m rfl<|VO.m rfl<|ah (dC (ps:=[(_,_),(_,_)]) (vs:=[(_,_),(_,_)]) (C:=[_,_]) YN ⟨(.r rfl),(.r rfl),trivial⟩ rfl ⟨_,[_],[_,_],rfl,rfl,rfl,rfl,⟨_,[_],[_,_],rfl,rfl,rfl,rfl,rfl⟩⟩) rfl<|aD rfl<|jh (first:=[]) (cap:=[_,_,_]) (xs:=[_]) (vs:=[_]) [_,_,_] [_,_,_] (bM (L1:=[_,_,_]++[_,_,_]) [0,1,2,3,4,5] rfl rfl) (.r rfl) ahu ⟨(.r rfl),trivial⟩ (fun w hw hh=>TZ M ld (true,(j:Int)) b3 b4 b7 b8 b10 A l po co w hh (fun hs=>⟨aW hgb _ (l4 (R:=wV b7 A b10 po co l) (rest:=[_,_,_]) (bM [0,1,2,3,4,5] rfl rfl _ hw) hs),sQ hGM _ (l4 (R:=wV b7 A b10 po co l) (rest:=[_,_,_]) (bM [0,1,2,3,4,5] rfl rfl _ hw) hs),iE (dL (iB (l4 (R:=wV b7 A b10 po co l) (rest:=[_,_,_]) (bM [0,1,2,3,4,5] rfl rfl _ hw) hs)) 2 _ rfl)⟩) hF (fun p hp=>P8 hK hp) (by omega)) fun y1 _=>aD rfl<|aO (LO.as (.r rfl))<|aI ?_)
    rw[←TD (n:=n_)]
    obtain⟨e,heg⟩:=Fe (A:=A) (q:=ld (yK n_ (n_+j))) (l:=l) (fun p hp=>P8 hK hp)
    refine ag<|oH (L':=nw e::bS (((mA A (ld (yK n_ (n_+j))) l).eraseIdx (oy A (ld (yK n_ (n_+j))) l.length)).map nw)::bS ((mA A (ld (yK n_ (n_+j))) l).map nA)::[_,_,_,_]) (fun w hw=>St.yD (f:=nw) (Wr rfl rfl A (ld (yK n_ (n_+j))) l (bM [4,3,0,1,2,5] rfl rfl w hw)) heg) ?_
    show VC _ _ _ _ _ _ (own 3 1 e.tp e.tc (e.t.map nC)::_) _ _
    refine aF (VO.m rfl<|VO.m rfl<|ah (bH (.r rfl)) rfl<|VO.f zV rfl<|ah (aB ij (.r rfl) (fun w hw=>bq (off:=2) (gN hw 5 rfl heg) ⟨_,rfl⟩)) rfl<|VO.m rfl<|aD rfl<|fu (ps:=[(_,_)]) (vs:=[(_,_)]) (Z:=[_]) (C:=[_]) ei Z3 N3 ⟨(.r rfl),trivial⟩ rfl rfl rfl rfl ⟨_,[_],[_],rfl,rfl,rfl,rfl,rfl⟩ fun b25=>aD rfl<|dM (j) 1 0 (fun R=>[_,R,_,_,_,_,_,_]) ei ei I3 (.r rfl) (.r rfl) rfl rfl rfl rfl rfl rfl rfl (fun _=>rfl) rfl (by have:=M6 hK heg;omega) fun p7 c7=>ah (bH (.r rfl)) rfl<|VO.f zV rfl<|bU<|tX 6 (fun R=>[_,_,_,_,_,_,R,_]) (o:=2) (vs:=[_]) qo (.r rfl) (.r rfl) rfl (tF heg) rfl rfl (bh rfl) rfl (fun _=>rfl)<|aI ?_)
    rw[XS]
    refine bB (ag<|aF (VO.p rfl rfl (by omega) (by omega) rfl<|VO.m rfl<|aI<|bn fun a w ha hw=>⟨(j+1,wJ A (ld (yK n_ (n_+j))) l.length,(mA A (ld (yK n_ (n_+j))) l).set (oy A (ld (yK n_ (n_+j))) l.length) { e with tp:=p7,tc:=c7,t:=e.t++[j] },y1.p,y1.c),⟨by dsimp only;omega,Pu (t:=n_+j) hK heg (by unfold wO;rw[if_neg (by omega),show n_+j-n_=j by omega];rfl)⟩,(by dsimp only;omega),ha.sub (.c4 rfl rfl rfl rfl .nil),(by dsimp only;rw[ja,Wc heg];exact bM (L1:=[_,_,_,_,_,_]) [1,2,3,4,0,5] rfl rfl _ (St.sO (f:=nw) (a:={ e with tp:=p7,tc:=c7,t:=e.t++[j] }) (i:=(oy A (ld (yK n_ (n_+j))) l.length)) (bM (L1:=nw ({ e with tp:=p7,tc:=c7,t:=e.t++[j] })::[_,_,_,_,_,_]) [1,2,4,5,6,3,7] rfl rfl _ hw) (aj.1 heg).1))⟩))
   ·
    have hje:j=m_:=by omega
    rw[hje]at hK
    have hkl:=MJ hK
    refine ca (aL (aL (cD (ag<|ak<|VC.q (VO.c 1 M9 rfl rfl ⟨_,rfl⟩ rfl<|ah (bW xk (.r rfl) rfl) rfl<|VO.m rfl<|VO.n<|aG<|ik [2,0,1,3,4,5] rfl ?_)))))
    refine bY (α:=Nat) 1 (fun gx=>[(144,.int .i64 (gx:Nat))]) [(16,_),(142,_),(143,_)] (fun gx=>[own 351 3 po co ((uh l gx).map gD)]) (fun gx=>gx≤l.length) (fun gx=>l.length-gx) 0 (by exact bG _) (.c4 rfl rfl rfl rfl .nil) (fun _ h=>h) ?_
    rintro k hk
    refine VC.q (VO.t rfl<|VO.n<|ak<|ay rfl (fun h145=>?_) (fun h145=>?_))
    ·
     obtain⟨e,hek⟩:=gE (l:=l) (n:=k) (by omega)
     have hepos:=adf hK (al hek)
     have hkm:=M6 (q:=ld (yK n_ 0)) (k:=k) hK (by unfold mA;split;exact hek;rw[aJ (by omega)];exact hek)
     refine aC (ag<|ak<|aG<|VC.q (VO.m rfl<|ah (gp xk BD (fun _ hw=>(dE hw 0 rfl).some (by rw[aq,Fg])) (.r rfl) (.r rfl) rfl (by omega)) rfl<|ah (aM (vs:=[_,_,_]) Wp (.r rfl) (fun w hw=>bq (off:=0) (gN hw 0 rfl (FZ hek)) ⟨_,rfl⟩) rfl) rfl<|aD rfl<|bI (C:=#[_,_,_]) MQ rfl fun b26=>VO.a rfl<|bU<|bl 0 (vs:=[_,_,_]) (C':=[_,_,_]) (L':=[_,_,_,_,_,_,_]) BD rfl rfl rfl rfl rfl rfl rfl rfl<|VO.n<|cP [[0,1,2,3,4,5,6],[0,2,3,4,5,6]] [some 0,some 0,some 0,some 0,some 0,some 0,some 0,some 0,some 0,some 0,some 0,none] mixed (by kernel_rfl) rfl (aA (fun _ hJ=>aB M9 (.r rfl) (fun _ hw=>aX (hJ _ hw) 3 rfl ⟨_,rfl⟩)) rfl<|LX.m rfl<|aA (fun _ hJ=>aE (r:=1) Ay (.r rfl) rfl) rfl<|aA (fun _ hJ=>aB ij (.r rfl) (fun _ hw=>aX (hJ _ hw) 0 rfl ⟨_,rfl⟩)) rfl<|aA (fun _ hJ=>bW ei (.r rfl) rfl) rfl<|aA (fun _ hJ=>aE (r:=2) zV (.r rfl) rfl) rfl<|aA (fun _ hJ=>aB ij (.r rfl) (fun _ hw=>aX (hJ _ hw) 0 rfl ⟨_,rfl⟩)) rfl<|aA (fun _ hJ=>bW ei (.r rfl) rfl) rfl<|aA (fun _ hJ=>bD (xs:=[_,_]) (vs:=[_,_]) al0 ⟨(.r rfl),(.r rfl),trivial⟩ (fun w hw=>aeJ e.f.length e.t.length w (by omega) (by omega) hepos)) rfl<|aA (fun _ hJ=>gp xk BD (fun _ hw=>(dE (hJ _ hw) 1 rfl).some (by rw[aq,Fg])) (.r rfl) (.r rfl) rfl (by omega)) rfl<|aA (fun _ hJ=>aE Av (.r rfl) rfl) rfl<|cn<|dw) (au<|au<|au<|au<|au<|au<|au<|au<|au<|au<|au<|eW<|tX 1 (fun R=>[_,R,_,_,_,_,_]) (o:=0) (vs:=[_]) N3 (.r rfl) (.r rfl) rfl (tF (FZ hek)) rfl rfl (bh rfl) rfl (fun _=>rfl)<|⟨fun _ hw=>hw.fO [0,2,3,4,5,6] rfl,dS ?_⟩)))
     rw[Yf,Q3 hek]
     refine bB (ag<|aF (VO.p rfl rfl (by omega) (by omega) rfl<|VO.m rfl<|aI<|bn fun a w ha hw=>⟨k+1,(by omega),(by omega),ha.sub (.c4 rfl rfl rfl rfl .nil),hw.fO [1,2,3,4,5,6] rfl⟩))
    ·
     refine ca (aL (aL (cD (ag<|VC.q (VO.c 2 M9 rfl rfl ⟨_,rfl⟩ rfl<|VO.a rfl<|VO.n<|aP (VE.s rfl rfl (fun w hw=>?_)))))))
     have hke:k=l.length:=by omega
     subst hke
     rw[FX, ←OU (l:=l) (k:=l.length) (f:=nA) (fun _=>rfl), ←OU (l:=l) (k:=l.length) (f:=nw) (fun _=>rfl),FX]at hw
     have hf:=hst1.call (bM (L1:=[_,_,_]) [0,3,4] rfl rfl _ hw)
     exact⟨⟨l.map Hk,po,co⟩,⟨ld,hld,by subst hn_;subst hm_;exact TN hK⟩,by rw[aq];rfl,bM [0,1,2] rfl rfl _ hf⟩
theorem alP:ef ae 134:=⟨_,Tryz.func134,by decide,rfl⟩
theorem IN {W H:Nat} {vs:List Span} {lv:Int} {y:qZ} (h:HT W H vs lv y):y.l.length≤W*H:=by rw[←MH h];exact lF
theorem xp:bV ae 345 6 10:=⟨_,_,jd,rfl,rfl,0,by kernel_rfl⟩
theorem L4:ig ae 341:=⟨⟨_,si,rfl⟩,by kernel_rfl⟩
theorem am4:ed ae 345 [(0,5),(5,1),(6,1),(7,1),(8,1),(9,1),(10,1),(11,8)] [.int .i64 0,.int .i64 0,.int .i64 0,.int .i64 0,.int .i64 0,.int .i64 0,.int .i64 0,.int .i64 0,.slice none 0 0,.slice none 0 0,.map none,.int .i64 0,.int .i64 0,.int .i64 0,.int .i64 0,.int .i64 0,.int .i64 0,.int .i64 0,.int .i64 0]:=ju fun _=>by kernel_rfl
abbrev M0:Int×Int→Value:=sS fB fB
theorem al7:Wg ae 356 3 3:=⟨_,_,oK,by decide,by decide,rfl,rfl,rfl,rfl,by kernel_rfl⟩
theorem KP:TW ae 356 M0:=Jo (wb cM O3) (wb cM O3) al7
theorem Ru:u7 ae 341 M0 Ey 0:=⟨356,3,si,KP,Z3⟩
structure qt where
 g:cU
 lv:Int
 rc:Int
 bm:Nat
structure RL where
 pm:Option Addr
 nm:Nat
 cm:Nat
abbrev C3 (h:qt) (la:Int) (q:RL) (pt:Option Addr) (nt ct:Nat) (kd:Nat→Int):List Value:=[.int .i64 h.g.x,.int .i64 h.g.y,.int .i64 h.g.size,.int .i64 h.g.wide,.int .i64 h.g.high,.int .i64 h.lv,.int .i64 h.rc,.int .i64 la,.slice q.pm q.nm q.cm,.slice pt nt ct,.map (some h.bm),.int .i64 (kd 0),.int .i64 (kd 1),.int .i64 (kd 2),.int .i64 (kd 3),.int .i64 (kd 4),.int .i64 (kd 5),.int .i64 (kd 6),.int .i64 (kd 7)]
def QT (kd:Nat→Int) (j:Nat):Nat→Int:=fun i=>if i=j then kd i+1 else kd i
theorem adq {h:qt} {la:Int} {q:RL} {pt:Option Addr} {nt ct:Nat} {kd:Nat→Int} {j:Nat} (hj:j<8):∃r,(C3 h la q pt nt ct kd).drop (11+j)=[.int .i64 (kd j)]++r:=by
 match j,hj with
 |0,_=>exact⟨_,rfl⟩
 |1,_=>exact⟨_,rfl⟩
 |2,_=>exact⟨_,rfl⟩
 |3,_=>exact⟨_,rfl⟩
 |4,_=>exact⟨_,rfl⟩
 |5,_=>exact⟨_,rfl⟩
 |6,_=>exact⟨_,rfl⟩
 |7,_=>exact⟨_,rfl⟩
theorem afe {h:qt} {la:Int} {q:RL} {pt:Option Addr} {nt ct:Nat} {kd:Nat→Int} {j:Nat} (hj:j<8):(C3 h la q pt nt ct kd).take (11+j)++[.int .i64 (kd j+1)]++(C3 h la q pt nt ct kd).drop (11+j+1)=C3 h la q pt nt ct (QT kd j):=by
 match j,hj with
 |0,_=>rfl
 |1,_=>rfl
 |2,_=>rfl
 |3,_=>rfl
 |4,_=>rfl
 |5,_=>rfl
 |6,_=>rfl
 |7,_=>rfl
structure dA where
 bg:Int
 fr:Nat
 ap:Option Addr
 ac:Nat
 ar:List Nat
 en:Int
 pp:Option Addr
 pc:Nat
 pa:List Nat
 cp:Option Addr
 cc:Nat
 ch:List Nat
def dA.cells (t:dA):List Value:=[.int .i64 t.bg,.int .i64 (t.fr:Int),.slice t.ap t.ar.length t.ac,.int .i64 t.en,.slice t.pp t.pa.length t.pc,.slice t.cp t.ch.length t.cc]
def dA.m (t:dA):jf:=⟨t.bg,t.fr,t.ar,t.en,t.pa,t.ch⟩
def dA.aR (t:dA):cq:=own 3 1 t.ap t.ac (t.ar.map nC)
def dA.pR (t:dA):cq:=own 3 1 t.pp t.pc (t.pa.map nC)
def dA.cR (t:dA):cq:=own 3 1 t.cp t.cc (t.ch.map nC)
def BF (of:Nat×Nat→Option Nat) (x:Int×Int):Option Nat:=if 0≤x.1∧0≤x.2 then of (x.1.toNat,x.2.toNat) else none
theorem Ca {of:Nat×Nat→Option Nat} {n i:Nat}:BF of ((n:Int),(i:Int))=of (n,i):=by unfold BF;rw[if_pos ⟨dD _,dD _⟩];rfl
theorem PV {of:Nat×Nat→Option Nat} {n i k:Nat}:mo (BF of) ((n:Int),(i:Int)) k=BF (mo of (n,i) k):=by
 funext ⟨a,b⟩
 unfold mo BF
 by_cases h:0≤a∧0≤b
 ·simp only[if_pos h]
  by_cases e:(a,b)=((n:Int),(i:Int))
  ·have e1:a=n:=congrArg Prod.fst e
   have e2:b=i:=congrArg Prod.snd e
   subst e1;subst e2
   simp
  ·have e':¬(a.toNat,b.toNat)=(n,i):=fun z=>e (by
    have h1:a.toNat=n:=congrArg Prod.fst z
    have h2:b.toNat=i:=congrArg Prod.snd z
    have h3:a=n:=by omega
    have h4:b=i:=by omega
    rw[h3,h4])
   rw[if_neg e,if_neg e']
 ·simp only[if_neg h]
  rw[if_neg fun z=>h (by
   have e1:a=n:=congrArg Prod.fst z
   have e2:b=i:=congrArg Prod.snd z
   omega)]
theorem Wd:BF (fun _=>none)=fun _=>none:=by funext x;unfold BF;split<;>rfl
def Dc (g:cU) (lv rc:Int):Int:=if lQ g≠0 then lQ g else if lv<1∨1073741824<lv∨rc<0∨8<rc then 3 else 0
theorem bE3 {g:cU} {lv rc:Int} (h:¬lQ g≠0) (k:¬(lv<1∨1073741824<lv∨rc<0∨8<rc)):Dc g lv rc=0:=by unfold Dc;rw[if_neg h,if_neg k]
theorem Uh {g:cU} {lv rc:Int} (h:Dc g lv rc=0):cF g∧1≤lv∧lv≤1073741824∧0≤rc∧rc≤8:=by
 unfold Dc at h
 split at h
 ·rename_i q;exact absurd h q
 ·rename_i q
  split at h
  ·omega
  ·refine⟨?_,by omega,by omega,by omega,by omega⟩
   have q:=cL.1 q
   unfold lQ at q
   split at q
   ·assumption
   ·omega
theorem tD (b:Nat) (h:qt) (la:Int) (q:RL) (pt:Option Addr) (nt ct:Nat) (kd:Nat→Int) (w:World) (hb:fk w ⟨b,0,none⟩ (C3 h la q pt nt ct kd)):
 Calls ae 132 #[.pointer (some ⟨b,0,none⟩)] w fun e w'=>e= .returned (.bool true)∧St (bs w) [] w':=by
 refine enter (vs:=[_]) (env:=[(0,_)]) Tryz.func132 rfl rfl rfl rfl ?_
 refine VC.q (VO.a rfl<|VO.n<|VC.q (VO.m rfl<|ah (LO.amF ⟨_,Tryz.underlying194⟩ (.r rfl) (.r rfl)) rfl<|VO.m rfl<|VO.gt rfl (fun hg=>bJ (.r rfl))<|VO.gt rfl (fun hg=>bH (.g hg rfl))<|VO.gt rfl (fun hg=>aE (r:=10) xp (.g hg rfl) rfl)<|VO.gt rfl (fun hg=>aB L4 (.g hg rfl) (aW (aU (off:=10) hb ⟨_,rfl⟩)))<|VO.gt rfl (fun hg=>LO.neM ⟨_,_,si⟩ (.g hg rfl) (.r rfl))<|ah (LO.pE (.r rfl) rfl rfl (.r rfl)) rfl<|VO.a rfl<|VO.n<|aP (VE.s rfl rfl (fun w hw=>?_))))
 exact⟨rfl,hw.nil⟩
theorem My (g:cU) (lv rc:Int) (w:World) (hok:Dc g lv rc=0):
 Calls ae 62 #[uk g,.int .i64 lv,.int .i64 rc] w fun e w'=>∃y:Nat×Nat,True∧e= .returned (.tuple #[.pointer (some ⟨y.1,0,none⟩),.int .i64 0])∧St (bs w) [de y.1 (.cells (C3 ⟨g,lv,rc,y.2⟩ (-1) ⟨none,0,0⟩ none 0 0 (fun _=>0)).toArray 345),kM M0 Ey y.2 (BF fun _=>none)] w':=by
 refine enter (vs:=[_,_,_]) (env:=[(0,_),(1,_),(2,_)]) Tryz.func62 rfl rfl rfl rfl ?_
 refine VC.q (aD rfl<|cf (C:=#[_,_,_,_,_]) rfl rfl fun b1=>VO.a rfl<|VO.a rfl<|VO.n<|ak<|VC.q (ah (aM (vs:=[_,_,_,_,_]) vS (.r rfl) (ax 0 rfl ⟨_,rfl⟩) rfl) rfl<|ah (bD (xs:=[_]) (vs:=[_]) C83 ⟨(.r rfl),trivial⟩ (fun w _=>pT g w)) rfl<|VO.a rfl<|VO.n ?_))
 refine VC.q (VO.m rfl<|VO.u rfl<|VO.n<|ay rfl (fun h12=>?_) (fun h12=>?_))
 · (exfalso;exact h12 (by have z:=Uh hok;unfold lQ;rw[if_pos z.1]))
 ·
  refine aC (ag<|ak<|VC.q (VO.m rfl<|VO.t rfl<|VO.m rfl<|VO.gf rfl (fun hg=>bJ (.r rfl))<|VO.gf rfl (fun hg=>iX (.g hg rfl) (.r rfl))<|ah (dO (.r rfl) (.r rfl) rfl rfl) rfl<|VO.m rfl<|VO.gf rfl (fun hg=>bJ (.r rfl))<|VO.gf rfl (fun hg=>LO.lt (.g hg rfl) (.r rfl))<|ah (dO (.r rfl) (.r rfl) rfl rfl) rfl<|VO.m rfl<|VO.gf rfl (fun hg=>bJ (.r rfl))<|VO.gf rfl (fun hg=>iX (.g hg rfl) (.r rfl))<|ah (dO (.r rfl) (.r rfl) rfl rfl) rfl<|VO.n<|ay rfl (fun h27=>?_) (fun h27=>?_)))
  · (exfalso;have z:=Uh hok;first |omega|(simp at h27;omega))
  ·
   refine aC (ag<|VC.q (ah (aM (vs:=[_,_,_,_,_]) vS (.r rfl) (ax 0 rfl ⟨_,rfl⟩) rfl) rfl<|VO.m rfl<|VO.m rfl<|aD rfl<|HO.Dy M0 Ey fun b2=>aD rfl<|aO (dC (ps:=[(_,_),(_,_),(_,_),(_,_),(_,_)]) (vs:=[(_,_),(_,_),(_,_),(_,_),(_,_)]) (C:=[_,_,_,_,_,_,_,_,_,_,_,_,_,_,_,_,_,_,_]) am4 ⟨(.r rfl),(.r rfl),(.r rfl),(.r rfl),(.r rfl),trivial⟩ rfl ⟨_,[_,_,_,_,_],[_,_,_,_,_,_,_,_,_,_,_,_,_,_,_,_,_,_,_],rfl,rfl,rfl,rfl,⟨_,[_],[_,_,_,_,_,_,_,_,_,_,_,_,_,_,_,_,_,_,_],rfl,rfl,rfl,rfl,⟨_,[_],[_,_,_,_,_,_,_,_,_,_,_,_,_,_,_,_,_,_,_],rfl,rfl,rfl,rfl,⟨_,[_],[_,_,_,_,_,_,_,_,_,_,_,_,_,_,_,_,_,_,_],rfl,rfl,rfl,rfl,⟨_,[_],[_,_,_,_,_,_,_,_,_,_,_,_,_,_,_,_,_,_,_],rfl,rfl,rfl,rfl,rfl⟩⟩⟩⟩⟩)<|aD rfl<|cf (C:=#[_,_,_,_,_,_,_,_,_,_,_,_,_,_,_,_,_,_,_]) rfl rfl fun b3=>aD rfl<|aO (LO.as (.r rfl))<|VO.a rfl<|VO.n<|aP (dh (vs:=[_,_]) rfl ⟨rfl,rfl,trivial⟩ (fun w hw=>?_))))
   rw[Wd]
   exact⟨(b3,b2),trivial,rfl,bM [0,1] rfl rfl _ hw⟩
theorem qq:bV ae 345 5 9:=⟨_,_,jd,rfl,rfl,0,by kernel_rfl⟩
theorem Dl:ig ae 200:=⟨⟨_,zp,rfl⟩,by kernel_rfl⟩
theorem tv:dF ae 200 204:=zp
theorem aeG:bV ae 356 0 0:=⟨_,_,oK,rfl,rfl,0,by kernel_rfl⟩
theorem aew:bV ae 356 1 1:=⟨_,_,oK,rfl,rfl,0,by kernel_rfl⟩
theorem aix:ed ae 204 [(0,1),(1,1),(2,1),(3,1),(4,1),(5,1)] [.int .i64 0,.int .i64 0,.slice none 0 0,.int .i64 0,.slice none 0 0,.slice none 0 0]:=ju fun _=>by kernel_rfl
theorem Ic:cj ae 204 (.agg #[.int .i64 0,.int .i64 0,.slice none 0 0,.int .i64 0,.slice none 0 0,.slice none 0 0]):=by unfold cj;kernel_rfl
theorem wH:(ae.info? 204).map (·.size)=some 6:=by kernel_rfl
theorem agD:jW ae 204 6 96 (.agg #[.int .i64 0,.int .i64 0,.slice none 0 0,.int .i64 0,.slice none 0 0,.slice none 0 0]):=⟨by kernel_rfl,by kernel_rfl,by unfold cj;kernel_rfl,rfl,by decide⟩
theorem am0:(ae.info? 200).map (·.size)=some 1:=by kernel_rfl
theorem ana:jX ae 356 2:=⟨⟨_,oK,rfl⟩,by kernel_rfl⟩
abbrev X3 (b:Nat) (h:qt) (la:Int) (q:RL) (pt:Option Addr) (ct:Nat) (kd:Nat→Int) (tk:List dA) (of:Nat×Nat→Option Nat):List cq:=
 [de b (.cells (C3 h la q pt tk.length ct kd).toArray 345),own 204 6 pt ct (tk.map dA.cells),bS (tk.map dA.aR),kM M0 Ey h.bm (BF of)]
structure BgY where
 pt:Option Addr
 ct:Nat
 ap:Option Addr
 ac:Nat
def qK (kind:Int) (N j:Nat) (ap:Option Addr) (ac:Nat) (pp:Option Addr) (pc:Nat) (pa:List Nat):dA:=⟨kind,N,ap,ac,[j],0,pp,pc,pa,none,0,[]⟩
theorem Yk {β:Bs} {L:List cq} {tk:List dA} {kind:Int} {N j b pc:Nat} {pp:Option Addr} {pa:List Nat} {w:World} (h:St β (own 3 1 (some ⟨b,0,none⟩) 1 [nC j]::bS (tk.map dA.aR)::L) w):St β (bS ((tk++[qK kind N j (some ⟨b,0,none⟩) 1 pp pc pa]).map dA.aR)::L) w:=by
 rw[bj];exact St.nq h
theorem Po (b:Nat) (h:qt) (la:Int) (q:RL) (pt:Option Addr) (ct:Nat) (kd:Nat→Int) (tk:List dA) (of:Nat×Nat→Option Nat) (kind:Int) (N j:Nat) (pp:Option Addr) (pc:Nat) (pa:List Nat) (w:World) (hh:Has w (X3 b h la q pt ct kd tk of)) (hl:tk.length≤1000000):
 Calls ae 204 #[.pointer (some ⟨b,0,none⟩),.int .i64 kind,.agg #[.int .i64 (N:Int),.int .i64 (j:Int)],.slice pp pa.length pc] w fun e w'=>∃y:BgY,True∧e= .returned (.int .i64 (tk.length:Int))∧St ⟨w,lu (X3 b h la q pt ct kd tk of)⟩ (X3 b h la q y.pt y.ct kd (tk++[qK kind N j y.ap y.ac pp pc pa]) (mo of (N,j) tk.length)) w':=by
 refine mG (vs:=[_,_,_,_]) (env:=[(0,_),(1,_),(2,_),(3,_)]) hh.enter Tryz.func204 rfl rfl rfl rfl ?_
 refine VC.q (aD rfl<|cf (C:=#[_,_]) rfl rfl fun b5=>VO.a rfl<|VO.n<|VC.q (VO.m rfl<|ah (bH (.r rfl)) rfl<|VO.f (r:=9) qq rfl<|VO.c 1 Dl rfl rfl ⟨_,rfl⟩ rfl<|ah (bW tv (.r rfl) rfl) rfl<|VO.a rfl<|VO.n<|ak ?_))
 refine cP [[0,1,2,3,4],[0,1,2,3,4],[0,1,2,3,4],[0,1,2,3,4],[0,1,3,4],[0,3,4]] [some 4,some 3,some 3,some 3,some 3,some 1,some 1,some 1,some 0,some 0,none,some 1,none,none,none,some 4,some 4,none] mixed (by kernel_rfl) rfl (LX.m rfl<|LX.m rfl<|aA (fun _ hJ=>bH (.r rfl)) rfl<|aA (fun _ hJ=>aE (r:=9) qq (.r rfl) rfl) rfl<|aA (fun _ hJ=>aB Dl (.r rfl) (fun _ hw=>aX (hJ _ hw) 1 rfl ⟨_,rfl⟩)) rfl<|LX.m rfl<|aA (fun _ hJ=>aE (r:=0) aeG (.r rfl) rfl) rfl<|aA (fun _ hJ=>aB O3 (.r rfl) (fun _ hw=>aX (hJ _ hw) 0 rfl ⟨_,rfl⟩)) rfl<|aA (fun _ hJ=>aE (r:=1) aew (.r rfl) rfl) rfl<|aA (fun _ hJ=>aB O3 (.r rfl) (fun _ hw=>aX (hJ _ hw) 0 rfl ⟨_,rfl⟩)) rfl<|cn<|LX.m rfl<|cn<|cn<|cn<|aA (fun _ hJ=>bH (.r rfl)) rfl<|aA (fun _ hJ=>aE (r:=9) qq (.r rfl) rfl) rfl<|cn<|dw) (au<|au<|au<|au<|au<|au<|au<|au<|au<|au<|fQ rfl<|fu (ps:=[(_,_)]) (vs:=[(_,_)]) (Z:=[_]) (C:=[_]) ei Z3 N3 ⟨(.r rfl),trivial⟩ rfl rfl rfl rfl ⟨_,[_],[_],rfl,rfl,rfl,rfl,rfl⟩ fun b9=>⟨fun _ hw=>hw.fO [1,2,3,4,5] rfl,au<|fQ rfl<|aO (dC (ps:=[(_,_),(_,_),(_,_),(_,_)]) (vs:=[(_,_),(_,_),(_,_),(_,_)]) (C:=[_,_,_,_,_,_]) aix ⟨(.r rfl),(.r rfl),(.r rfl),(.r rfl),trivial⟩ rfl ⟨_,[_],[_,_,_,_,_,_],rfl,rfl,rfl,rfl,⟨_,[_],[_,_,_,_,_,_],rfl,rfl,rfl,rfl,⟨_,[_],[_,_,_,_,_,_],rfl,rfl,rfl,rfl,⟨_,[_],[_,_,_,_,_,_],rfl,rfl,rfl,rfl,rfl⟩⟩⟩⟩)<|⟨fun _ hw=>hw.fO [1,2,3,4,5] rfl,fQ rfl<|fu (ps:=[(_,_)]) (vs:=[(_,_)]) (Z:=[_,_,_,_,_,_]) (C:=[_,_,_,_,_,_]) tv Ic wH ⟨(.r rfl),trivial⟩ rfl rfl rfl rfl ⟨_,[_,_,_,_,_,_],[_,_,_,_,_,_],rfl,rfl,rfl,rfl,rfl⟩ fun b10=>⟨fun _ hw=>hw.fO [2,3,4,5,6] rfl,fQ rfl<|dM (qK kind N j (some ⟨b9,0,none⟩) 1 pp pc pa) 4 0 (fun R=>[_,_,_,_,R,_,_]) tv tv agD (.r rfl) (.r rfl) rfl rfl rfl rfl rfl rfl rfl (fun _=>rfl) rfl (by omega) fun p14 c14=>⟨fun _ hw=>hw.fO [2,3,5,6] rfl,au<|au<|eW<|bl 3 (vs:=[_]) (C':=[_,_,_,_,_,_,_,_,_,_,_,_,_,_,_,_,_,_,_]) (L':=[_,_,_,_,_,_,_]) am0 rfl rfl rfl rfl rfl rfl rfl rfl<|⟨fun _ hw=>hw.fO [2,5,6] rfl,dS ?_⟩⟩⟩⟩⟩)
 refine ag<|ak<|oH (fun w hw=>Yk (kind:=kind) (N:=N) (pp:=pp) (pc:=pc) (pa:=pa) (St.PA (v:=nC j) (z:=1) 0 rfl rfl (bM (L1:=[_,_,_,_,_,_,_]) [1,5,0,2,3,4,6] rfl rfl _ hw))) ?_
 show VC _ _ _ _ _ _ [bS ((tk++[qK kind N j (some ⟨b9,0,none⟩) 1 pp pc pa]).map dA.aR),_,_,_,_,_] _ _
 refine cP [[0,1,2,3,4,5],[0,1,2,3,4]] [some 0,some 0,some 0,some 0,some 0,some 0,none] mixed (by kernel_rfl) rfl (LX.m rfl<|aA (fun _ hJ=>bH (.r rfl)) rfl<|aA (fun _ hJ=>aE (r:=10) xp (.r rfl) rfl) rfl<|aA (fun _ hJ=>aB L4 (.r rfl) (fun _ hw=>aX (hJ _ hw) 3 rfl ⟨_,rfl⟩)) rfl<|aA (fun _ hJ=>aM (vs:=[_,_]) ana (.r rfl) (fun _ hw=>aX (hJ _ hw) 2 rfl ⟨_,rfl⟩) rfl) rfl<|LX.m rfl<|cn<|dw) (au<|au<|au<|au<|au<|au<|eW<|HO.Ve 5 (fun R=>[_,_,_,_,_,R]) ((N:Int),(j:Int)) tk.length Ru (.r rfl) (.r rfl) (.r rfl) rfl (fun _=>rfl)<|⟨fun _ hw=>hw.fO [0,1,2,3,4] rfl,dS ?_⟩)
 rw[PV]
 refine ag<|VC.q (VO.m rfl<|VO.a rfl<|VO.n<|aP (VE.s rfl rfl (fun w hw=>?_)))
 exact⟨⟨p14,c14,some ⟨b9,0,none⟩,1⟩,trivial,rfl,bM [3,4,0,5] rfl rfl _ hw⟩
theorem US:bV ae 345 7 11:=⟨_,_,jd,rfl,rfl,7,by kernel_rfl⟩
theorem Nr:ed ae 356 [(0,1),(1,1)] [.int .i64 0,.int .i64 0]:=ju fun _=>by kernel_rfl
theorem xv:bV ae 204 2 2:=⟨_,_,k7,rfl,rfl,0,by kernel_rfl⟩
theorem aea:bV ae 204 3 3:=⟨_,_,k7,rfl,rfl,0,by kernel_rfl⟩
theorem uK {α δ:Type} {g:α→δ} {f:δ→δ} {l:List α} {k:Nat} {t t':α} (h:l[k]? =some t) (he:g t'=f (g t)):(l.set k t').map g=(l.map g).modify k f:=by
 refine cO fun i=>?_
 rw[aw,j9,aw,fe]
 by_cases q:k=i
 ·subst q
  obtain⟨hl,_⟩:=aj.1 h
  rw[if_pos rfl,if_pos hl,h]
  simp [he]
 ·rw[if_neg q];cases l[i]? <;>simp [q]
theorem lU {α δ:Type} {g:α→δ} {l:List α} {k:Nat} {t t':α} (h:l[k]? =some t) (he:g t'=g t):(l.set k t').map g=l.map g:=by
 refine cO fun i=>?_
 rw[aw,aw,fe]
 by_cases q:k=i
 ·subst q
  obtain⟨hl,_⟩:=aj.1 h
  rw[if_pos rfl,if_pos hl,h]
  exact congrArg some he
 ·rw[if_neg q]
theorem Za {l:List dA} {k c b:Nat} {p:Option Addr} {t:dA}:(l.map dA.cells).set k ((dA.cells t).take 2++[.slice p (t.ar++[b]).length c]++(dA.cells t).drop (2+[mn p (t.ar++[b]).length c].length))=(l.set k { t with ap:=p,ac:=c,ar:=t.ar++[b] }).map dA.cells:=by rw[gR];rfl
theorem Ya {l:List dA} {k:Nat} {v:Int} {t:dA}:(l.map dA.cells).set k ((dA.cells t).take 3++[.int .i64 v]++(dA.cells t).drop (3+[bX .i64 v].length))=(l.set k { t with en:=v }).map dA.cells:=by rw[gR];rfl
theorem YI {l:List dA} {k c b:Nat} {p:Option Addr} {t:dA}:(l.map dA.cells).set k ((dA.cells t).take 5++[.slice p (t.ch++[b]).length c]++(dA.cells t).drop (5+[mn p (t.ch++[b]).length c].length))=(l.set k { t with cp:=p,cc:=c,ch:=t.ch++[b] }).map dA.cells:=by rw[gR];rfl
theorem Vn {N a k0:Nat} {tk0:List jf} {of0:Nat×Nat→Option Nat} {es:List jS} {e:jS} (h:RX (N+1) tk0 of0) (hf:e.f=[a]) (hk:of0 (N,a)=some k0) (hes:∀x,x∈es→a∉x.f):(tk0.map (kL (N+1) es)).modify k0 (Vj e)=tk0.map (kL (N+1) (es++[e])):=by
 have h1:=IQ (es:=es) (e:=e) (j:=0) h hk (by rw[hf];rfl) (by rw[hf];simp) hes
 rw[Jc h.en]at h1
 rw[h1]
 have:cut e (0+1)=e:=by have z:=PZ (e:=e);rw[hf]at z;exact z
 rw[this]
structure ChP (N:Nat) (es:List jS) (tk0:List jf) (tk tk':List dA):Prop where
 m:tk'.map dA.m=tk0.map (kL (N+1) es)
 p:tk'.map dA.pR=tk.map dA.pR
 c:tk'.map dA.cR=tk.map dA.cR
theorem Wi {N:Nat} {es:List jS} {tk0:List jf} {tk:List dA} (h:tk.map dA.m=tk0.map (kL (N+1) es)):tk.length=tk0.length:=by
 have:=congrArg fT h;rwa [aq,aq]at this
theorem ajc {N:Nat} {es:List jS} {tk0:List jf} {tk:List dA} {of0:Nat×Nat→Option Nat} (h0:RX (N+1) tk0 of0) (h:tk.map dA.m=tk0.map (kL (N+1) es)) {t:dA} (ht:t∈tk):t.ar.length≤N+2:=by
 have h1:t.m∈tk0.map (kL (N+1) es):=by rw[←h];exact bE ht
 obtain⟨x,hx,e⟩:=bQ.1 h1
 have hp:=(h0.pos x hx).2
 unfold jf.up at hp
 have e2:t.ar=(kL (N+1) es x).ar:=congrArg jf.ar e.symm
 rw[e2]
 rcases kx (N+1) es x with⟨_,z⟩|⟨_,_,z⟩|⟨_,_,z⟩<;>rw[z]
 ·omega
 ·show(x.ar++_).length≤_;rw[aZ,cu];omega
 ·show x.ar.length≤_;omega
structure ChE (N:Nat) (es:List jS) (tk0:List jf) (of0:Nat×Nat→Option Nat) (er:dQ) (tk:List dA) (kd:Nat→Int):Prop where
 base:RX (N+1) tk0 of0
 tk:tk.map dA.m=tk0.map (kL (N+1) es)
 kind:er.kd=lG er.f.length er.t.length
 A5:er.f.Nodup
 ap:∀x,x∈es→(∀a,a∈er.f→a∉x.f)∧∀b,b∈er.t→b∉x.t
 Mm:∀a,a∈er.f→∃k,of0 (N,a)=some k
 len:er.f.length≤1000000
 kb:∀j,0≤kd j∧kd j≤1000000000000
 n:N≤1000
theorem agW {a b:Nat} {k:Int} (h:k=lG a b):k=(k.toNat:Int)∧k.toNat<8:=by have:=Jt a b;omega
theorem U0 (b:Nat) (h:qt) (la:Int) (q:RL) (pt:Option Addr) (ct:Nat) (kd:Nat→Int) (tk:List dA) (N:Nat) (es:List jS) (tk0:List jf) (of0:Nat×Nat→Option Nat) (er:dQ) (w:World) (hh:Has w (X3 b h la q pt ct kd tk (wT N es of0))) (hc:ChE N es tk0 of0 er tk kd) (hcap:∀{L:List cq} {v:World},St ⟨w,lu (X3 b h la q pt ct kd tk (wT N es of0))⟩ L v→RO 1 nC v er.fp er.f∧RO 1 nC v er.tp er.t) (hef:nu er.fp er.f.length) (het:nu er.tp er.t.length):
 Calls ae 135 #[.pointer (some ⟨b,0,none⟩),.int .i64 ((N+1:Nat):Int),.agg #[.int .i64 er.kd,.slice er.fp er.f.length er.fc,.slice er.tp er.t.length er.tc]] w fun e w'=>∃tk':List dA,ChP N (es++[er.m]) tk0 tk tk'∧e= .returned (.tuple #[])∧St ⟨w,lu (X3 b h la q pt ct kd tk (wT N es of0))⟩ (X3 b h la q pt ct (QT kd er.kd.toNat) tk' (wT N (es++[er.m]) of0)) w':=by
 obtain⟨hk1,hk2⟩:=agW hc.kind
 have hkb:=hc.kb er.kd.toNat
 have hn:=hc.n
 have hel:=hc.len
 have hlt:=Wi hc.tk
 refine mG (vs:=[_,_,_]) (env:=[(0,_),(1,_),(2,_)]) hh.enter Tryz.func135 rfl rfl rfl rfl ?_
 refine VC.q (aD rfl<|cf (C:=#[_,_,_]) rfl rfl fun b5=>VO.n<|ak<|cP [[0,1,2,3,4],[0,2,3,4]] [some 0,some 0,some 0,some 0,some 0,some 0,some 0,some 0,some 0,some 0,some 0,none] mixed (by kernel_rfl) rfl (LX.m rfl<|aA (fun _ hJ=>aE (r:=0) Av (.r rfl) rfl) rfl<|aA (fun _ hJ=>aB O3 (.r rfl) (fun _ hw=>aX (hJ _ hw) 0 rfl ⟨_,rfl⟩)) rfl<|aA (fun _ hJ=>bH (.r rfl)) rfl<|aA (fun _ hJ=>aE (r:=11) US (.r rfl) rfl) rfl<|aA (fun _ hJ=>LO.ixa (j:=er.kd.toNat) (r:=11+er.kd.toNat) zq N3 (.r rfl) (.r rfl) hk1 hk2 (by omega)) rfl<|aA (fun _ hJ=>aB O3 (.r rfl) (fun _ hw=>aX (hJ _ hw) 1 rfl (adq hk2))) rfl<|aA (fun _ hJ=>LO.add (.r rfl) (.r rfl) (wi (by omega) (by omega))) rfl<|aA (fun _ hJ=>bH (.r rfl)) rfl<|aA (fun _ hJ=>aE (r:=11) US (.r rfl) rfl) rfl<|aA (fun _ hJ=>LO.ixa (j:=er.kd.toNat) (r:=11+er.kd.toNat) zq N3 (.r rfl) (.r rfl) hk1 hk2 (by omega)) rfl<|cn<|dw) (au<|au<|au<|au<|au<|au<|au<|au<|au<|au<|au<|eW<|bl 1 (vs:=[_]) (C':=C3 h la q pt tk.length ct (QT kd er.kd.toNat)) (L':=[_,_,_,_,_]) N3 rfl rfl rfl rfl (Nat.ble_eq_true_of_le (show 11+er.kd.toNat+1≤19 by omega)) rfl (afe hk2) rfl<|⟨fun _ hw=>hw.fO [0,2,3,4] rfl,dS ?_⟩))
 refine ag<|ak<|VC.q (VO.f (r:=0) Av rfl<|VO.c 0 O3 rfl rfl ⟨_,rfl⟩ rfl<|ah (fN (.r rfl) (.r rfl)) rfl<|VO.n<|ay rfl (fun h22=>?_) (fun h22=>?_))
 ·
  have hkk:=hc.kind
  rw[h22]at hkk
  obtain⟨hk3,hk4⟩:=Dq hkk.symm
  obtain⟨a,hf⟩:∃a,er.f=[a]:=⟨_,yd hk3⟩
  obtain⟨bb,ht⟩:∃b,er.t=[b]:=⟨_,yd hk4⟩
  have hf0:er.f[0]? =some a:=by rw[hf];rfl
  have ht0:er.t[0]? =some bb:=by rw[ht];rfl
  obtain⟨k0,hk0⟩:=hc.Mm a (by rw[hf];simp)
  have hkl:=(hc.base.lt hk0).2
  have hk0f:of0 (N,er.m.f.headD 0)=some k0:=by show of0 (N,er.f.headD 0)=_;rw[hf];exact hk0
  obtain⟨tr,htr⟩:=gE (l:=tk) (n:=k0) (by omega)
  refine ak<|eH mixed (LL.m rfl<|aV (bH (.r rfl)) rfl<|aV (aE (r:=10) xp (.r rfl) rfl) rfl<|aV (aB L4 (.r rfl) (ax 1 rfl ⟨_,rfl⟩)) rfl<|LL.m rfl<|aV (dy (dv (.r rfl) (.r rfl) (wi (by omega) (by omega))) (congrArg (bX .i64) (show((N+1:Nat):Int)-1=(N:Int) by omega))) rfl<|aV (aE (r:=1) Ay (.r rfl) rfl) rfl<|aV (aB ij (.r rfl) (ax 0 rfl ⟨_,rfl⟩)) rfl<|aV (cw ei N3 hef (.r rfl) (.r rfl) (j:=0) rfl (by omega)) rfl<|aV (aB O3 (.r rfl) (fun w hw=>bq (off:=0) ((fun w3 h3=>gB (hcap h3).1 hf0) w hw) ⟨_,rfl⟩)) rfl<|aV (dC (ps:=[(_,_),(_,_)]) (vs:=[(_,_),(_,_)]) (C:=[_,_]) Nr ⟨(.r rfl),(.r rfl),trivial⟩ rfl ⟨_,[_],[_,_],rfl,rfl,rfl,rfl,⟨_,[_],[_,_],rfl,rfl,rfl,rfl,rfl⟩⟩) rfl<|aV (dy (v':=.int .i64 (k0:Int)) (LO.Td (n:=((N:Int),(a:Int))) Ru (.r rfl) (.r rfl) (fun _ hw=>dL hw 4 _ rfl)) (by rw[Ca,OY,hk0];rfl)) rfl<|aV (LO.as (.r rfl)) rfl<|ft) (by kernel_rfl)<|ag<|ak<|oH (L':=dA.aR tr::bS ((tk.eraseIdx k0).map dA.aR)::[_,_,_,_]) (fun w hw=>St.yD (f:=dA.aR) (bM [3,0,1,2,4] rfl rfl w hw) htr) ?_
  show VC _ _ _ _ _ _ (own 3 1 tr.ap tr.ac (tr.ar.map nC)::_) _ _
  refine cP [[0,1,2,3,4,5],[0,1,2,3,4,5],[1,2,3,4,5],[1,2,3,5]] [some 2,some 2,some 2,some 2,some 2,some 1,some 1,some 1,some 1,some 1,some 1,some 1,some 1,some 0,some 0,some 0,some 0,none,none,some 2,some 2,none] mixed (by kernel_rfl) rfl (LX.m rfl<|aA (fun _ hJ=>bH (.r rfl)) rfl<|aA (fun _ hJ=>aE (r:=9) qq (.r rfl) rfl) rfl<|aA (fun _ hJ=>aB Dl (.r rfl) (fun _ hw=>aX (hJ _ hw) 2 rfl ⟨_,rfl⟩)) rfl<|LX.m rfl<|LX.m rfl<|aA (fun _ hJ=>bH (.r rfl)) rfl<|aA (fun _ hJ=>aE (r:=9) qq (.r rfl) rfl) rfl<|aA (fun _ hJ=>aB Dl (.r rfl) (fun _ hw=>aX (hJ _ hw) 3 rfl ⟨_,rfl⟩)) rfl<|LX.m rfl<|aA (fun _ hJ=>gp tv wH (fun _ hw=>(dE (hJ _ hw) 4 rfl).some (by rw[aq];try omega)) (.r rfl) (.r rfl) rfl (by omega)) rfl<|aA (fun _ hJ=>aE xv (.r rfl) rfl) rfl<|aA (fun _ hJ=>aB ij (.r rfl) (fun w hw=>bq (off:=2) (gN (hJ _ hw) 4 rfl htr) ⟨_,rfl⟩)) rfl<|aA (fun _ hJ=>aE (r:=2) zV (.r rfl) rfl) rfl<|aA (fun _ hJ=>aB ij (.r rfl) (fun _ hw=>aX (hJ _ hw) 2 rfl ⟨_,rfl⟩)) rfl<|aA (fun _ hJ=>cw ei N3 het (.r rfl) (.r rfl) (j:=0) rfl (by omega)) rfl<|aA (fun _ hJ=>aB O3 (.r rfl) (fun w hw=>bq (off:=0) ((fun w3 h3=>gB (hcap h3).2 ht0) w (hJ _ hw)) ⟨_,rfl⟩)) rfl<|cn<|cn<|aA (fun _ hJ=>gp tv wH (fun _ hw=>(dE (hJ _ hw) 3 rfl).some (by rw[aq];try omega)) (.r rfl) (.r rfl) rfl (by omega)) rfl<|aA (fun _ hJ=>aE xv (.r rfl) rfl) rfl<|cn<|dw) (au<|au<|au<|au<|au<|au<|au<|au<|au<|au<|au<|au<|au<|au<|au<|au<|au<|fQ rfl<|fu (ps:=[(_,_)]) (vs:=[(_,_)]) (Z:=[_]) (C:=[_]) ei Z3 N3 ⟨(.r rfl),trivial⟩ rfl rfl rfl rfl ⟨_,[_],[_],rfl,rfl,rfl,rfl,rfl⟩ fun b8=>⟨fun _ hw=>hw.fO [1,2,3,4,5,6] rfl,fQ rfl<|dM (bb) 1 0 (fun R=>[_,R,_,_,_,_,_]) ei ei I3 (.r rfl) (.r rfl) rfl rfl rfl rfl rfl rfl rfl (fun _=>rfl) rfl (by have:=ajc hc.base hc.tk (al htr);omega) fun p18 c18=>⟨fun _ hw=>hw.fO [2,3,4,5,6] rfl,au<|au<|eW<|tX 5 (fun R=>[_,_,_,_,_,R,_]) (o:=2) (vs:=[_]) qo (.r rfl) (.r rfl) rfl (tF htr) rfl rfl (bh rfl) rfl (fun _=>rfl)<|⟨fun _ hw=>hw.fO [2,3,4,6] rfl,dS ?_⟩⟩⟩)
  rw[Za]
  refine ag<|ak<|oH (L':=bS ((tk.set k0 { tr with ap:=p18,ac:=c18,ar:=tr.ar++[bb] }).map dA.aR)::[_,_,_,_,_]) (fun w hw=>St.sO (f:=dA.aR) (a:={ tr with ap:=p18,ac:=c18,ar:=tr.ar++[bb] }) (i:=k0) (bM (L1:=dA.aR { tr with ap:=p18,ac:=c18,ar:=tr.ar++[bb] }::[_,_,_,_,_,_]) [1,2,0,3,4,5,6] rfl rfl w hw) (by omega))<|cP [[0,1,2,3,4,5],[0,1,2,3,4]] [some 0,some 0,some 0,some 0,some 0,some 0,some 0,some 0,some 0,some 0,some 0,none] mixed (by kernel_rfl) rfl (LX.m rfl<|aA (fun _ hJ=>bH (.r rfl)) rfl<|aA (fun _ hJ=>aE (r:=10) xp (.r rfl) rfl) rfl<|aA (fun _ hJ=>aB L4 (.r rfl) (fun _ hw=>aX (hJ _ hw) 3 rfl ⟨_,rfl⟩)) rfl<|LX.m rfl<|aA (fun _ hJ=>aE (r:=2) zV (.r rfl) rfl) rfl<|aA (fun _ hJ=>aB ij (.r rfl) (fun _ hw=>aX (hJ _ hw) 2 rfl ⟨_,rfl⟩)) rfl<|aA (fun _ hJ=>cw ei N3 het (.r rfl) (.r rfl) (j:=0) rfl (by omega)) rfl<|aA (fun _ hJ=>aB O3 (.r rfl) (fun w hw=>bq (off:=0) ((fun w3 h3=>gB (hcap h3).2 ht0) w (hJ _ hw)) ⟨_,rfl⟩)) rfl<|aA (fun _ hJ=>dC (ps:=[(_,_),(_,_)]) (vs:=[(_,_),(_,_)]) (C:=[_,_]) Nr ⟨(.r rfl),(.r rfl),trivial⟩ rfl ⟨_,[_],[_,_],rfl,rfl,rfl,rfl,⟨_,[_],[_,_],rfl,rfl,rfl,rfl,rfl⟩⟩) rfl<|LX.m rfl<|cn<|dw) (au<|au<|au<|au<|au<|au<|au<|au<|au<|au<|au<|eW<|HO.Ve 5 (fun R=>[_,_,_,_,_,R]) (((N+1:Nat):Int),(bb:Int)) k0 Ru (.r rfl) (.r rfl) (.r rfl) rfl (fun _=>rfl)<|⟨fun _ hw=>hw.fO [0,1,2,3,4] rfl,dS ?_⟩)
  refine ag<|aP (a8 (dh (vs:=[]) rfl trivial (fun w hw=>?_)))
  rw[PV,Tz (e:=er.m) h22 ht hk0f (fun x hx=>(hc.ap x hx).2 bb (by rw[ht];simp))]at hw
  refine⟨tk.set k0 { tr with ap:=p18,ac:=c18,ar:=tr.ar++[bb] },⟨?_,lU htr rfl,lU htr rfl⟩,rfl,?_⟩
  ·rw[uK (f:=Vj er.m) htr (by unfold Vj;rw[if_pos (show er.m.kd=4 from h22)];show _=({ tr.m with ar:=tr.ar++[er.t.headD 0] }:jf);rw[ht];rfl),hc.tk]
   exact Vn hc.base hf hk0 (fun x hx=>(hc.ap x hx).1 a (by rw[hf];simp))
  ·have hs:=bM [3,4,0,5] rfl rfl _ hw
   have hlen:tk.length=(tk.set k0 { tr with ap:=p18,ac:=c18,ar:=tr.ar++[bb] }).length:=by rw[ja]
   rw[hlen]at hs
   exact hs
 ·
  refine aC (ag<|VC.q (VO.f (r:=1) Ay rfl<|VO.c 0 ij rfl rfl ⟨_,rfl⟩ rfl<|ah (bW ei (.r rfl) rfl) rfl<|VO.m rfl<|VO.n<|aG<|ik [2,0,1,3,4] rfl<|bY (α:=Nat×(List dA)) 1 (fun gx=>[(70,.int .i64 (gx.1:Nat))]) [(0,_),(1,_),(5,_),(68,_),(69,_)] (fun gx=>[own 204 6 pt ct (gx.2.map dA.cells)]) (fun gx=>gx.1≤er.f.length∧gx.2.length=tk.length∧gx.2.map dA.aR=tk.map dA.aR∧ChP N (es++[cut er.m gx.1]) tk0 tk gx.2) (fun gx=>er.f.length-gx.1) (0,tk) (by exact⟨bG _,rfl,rfl,by rw[Jc hc.base.en];exact hc.tk,rfl,rfl⟩) (.c4 rfl rfl rfl rfl (.cons rfl (.cons rfl .nil))) (fun _ h=>h) ?_))
  rintro ⟨j,tkj⟩ ⟨hj,hln,haR,⟨hm,hpR,hcR⟩⟩
  show VC _ _ _ _ _ ([(70,.int .i64 (j:Nat))]++_) ([own 204 6 pt ct (tkj.map dA.cells)]++_) _ _
  dsimp only at hj hln haR hm hpR hcR
  refine VC.q (VO.t rfl<|VO.n<|ak<|ay rfl (fun h71=>?_) (fun h71=>?_))
  ·
   obtain⟨ai,hf0⟩:=gE (l:=er.f) (n:=j) (by omega)
   obtain⟨k0,hk0⟩:=hc.Mm ai (al hf0)
   have hkl:=(hc.base.lt hk0).2
   obtain⟨tr,htr⟩:=gE (l:=tkj) (n:=k0) (by omega)
   refine aC (ag<|ak<|aG<|VC.q (ah (cw ei N3 hef (.r rfl) (.r rfl) rfl (by omega)) rfl<|ah (aB O3 (.r rfl) (fun w hw=>bq (off:=0) ((fun w3 h3=>gB (hcap h3).1 hf0) w hw) ⟨_,rfl⟩)) rfl<|VO.a rfl<|VO.n<|cP [[0,1,2,3,4],[1,2,3,4]] [some 0,some 0,some 0,some 0,some 0,some 0,some 0,some 0,some 0,some 0,some 0,some 0,some 0,some 0,some 0,some 0,some 0,none] mixed (by kernel_rfl) rfl (LX.m rfl<|aA (fun _ hJ=>bH (.r rfl)) rfl<|aA (fun _ hJ=>aE (r:=9) qq (.r rfl) rfl) rfl<|aA (fun _ hJ=>aB Dl (.r rfl) (fun _ hw=>aX (hJ _ hw) 2 rfl ⟨_,rfl⟩)) rfl<|LX.m rfl<|aA (fun _ hJ=>bH (.r rfl)) rfl<|aA (fun _ hJ=>aE (r:=10) xp (.r rfl) rfl) rfl<|aA (fun _ hJ=>aB L4 (.r rfl) (fun _ hw=>aX (hJ _ hw) 2 rfl ⟨_,rfl⟩)) rfl<|LX.m rfl<|aA (fun _ hJ=>dy (dv (.r rfl) (.r rfl) (wi (by omega) (by omega))) (congrArg (bX .i64) (show((N+1:Nat):Int)-1=(N:Int) by omega))) rfl<|LX.m rfl<|aA (fun _ hJ=>dC (ps:=[(_,_),(_,_)]) (vs:=[(_,_),(_,_)]) (C:=[_,_]) Nr ⟨(.r rfl),(.r rfl),trivial⟩ rfl ⟨_,[_],[_,_],rfl,rfl,rfl,rfl,⟨_,[_],[_,_],rfl,rfl,rfl,rfl,rfl⟩⟩) rfl<|aA (fun _ hJ=>dy (v':=.int .i64 (k0:Int)) (LO.Td (n:=((N:Int),(ai:Int))) Ru (.r rfl) (.r rfl) (fun _ hw=>dL (hJ _ hw) 4 _ rfl)) (by rw[Ca,OY,hk0];rfl)) rfl<|aA (fun _ hJ=>aE (r:=0) Av (.r rfl) rfl) rfl<|aA (fun _ hJ=>aB O3 (.r rfl) (fun _ hw=>aX (hJ _ hw) 1 rfl ⟨_,rfl⟩)) rfl<|aA (fun _ hJ=>gp tv wH (fun _ hw=>(dE (hJ _ hw) 0 rfl).some (by rw[aq];try omega)) (.r rfl) (.r rfl) rfl (by omega)) rfl<|aA (fun _ hJ=>aE aea (.r rfl) rfl) rfl<|cn<|dw) (au<|au<|au<|au<|au<|au<|au<|au<|au<|au<|au<|au<|au<|au<|au<|au<|au<|eW<|tX 0 (fun R=>[R,_,_,_,_]) (o:=3) (vs:=[_]) N3 (.r rfl) (.r rfl) rfl (tF htr) rfl rfl (bh rfl) rfl (fun _=>rfl)<|⟨fun _ hw=>hw.fO [1,2,3,4] rfl,dS ?_⟩)))
   rw[Ya]
   refine bB (ag<|aF (VO.p rfl rfl (by omega) (by omega) rfl<|VO.m rfl<|aI<|bn fun a w ha hw=>⟨(j+1,tkj.set k0 { tr with en:=er.kd }),⟨by dsimp only;omega,by dsimp only;rw[ja];exact hln,(lU (t':={ tr with en:=er.kd }) htr rfl).trans haR,by dsimp only;rw[uK (f:=Vj er.m) htr (by unfold Vj;rw[if_neg (show ¬er.m.kd=4 from h22)];rfl),hm];exact IQ hc.base hk0 hf0 hc.A5 (fun x hx=>(hc.ap x hx).1 ai (al hf0)),(lU (t':={ tr with en:=er.kd }) htr rfl).trans hpR,(lU (t':={ tr with en:=er.kd }) htr rfl).trans hcR⟩,(by dsimp only;omega),ha.sub (.c4 rfl rfl rfl rfl (.cons rfl (.cons rfl .nil))),hw⟩))
  ·
   refine ca (aL (aL (cD (VE.xf (vs:=[]) rfl trivial (fun w hw=>?_)))))
   have hje:j=er.f.length:=by omega
   subst hje
   rw[show cut er.m er.f.length=er.m from PZ]at hm
   refine⟨tkj,⟨hm,hpR,hcR⟩,rfl,?_⟩
   rw[U9 (e:=er.m) (show er.m.kd≠4 from h22)]
   have hs:=bM [2,0,3,4] rfl rfl _ hw
   rw[←haR, ←hln]at hs
   exact hs
theorem oX:bV ae 345 4 8:=⟨_,_,jd,rfl,rfl,0,by kernel_rfl⟩
theorem CQ:ig ae 342:=⟨⟨_,zt,rfl⟩,by kernel_rfl⟩
theorem xz:dF ae 342 347:=zt
theorem ahs:ef ae 204:=⟨_,Tryz.func204,by decide,rfl⟩
abbrev spC (g:cU) (y:qZ):List Value:=[.int .i64 g.x,.int .i64 g.y,.int .i64 g.size,.int .i64 g.wide,.int .i64 g.high,.slice y.p y.l.length y.c,.slice y.po (gW g*gH g) y.co]
abbrev yi (b:Nat) (h:qt) (la:Int) (pm:Option Addr) (cm:Nat) (ys:List qZ) (pt:Option Addr) (ct:Nat) (kd:Nat→Int) (tk:List dA) (of:Nat×Nat→Option Nat):List cq:=
 [de b (.cells (C3 h la ⟨pm,ys.length,cm⟩ pt tk.length ct kd).toArray 345),own 204 6 pt ct (tk.map dA.cells),bS (tk.map dA.aR),kM M0 Ey h.bm (BF of),own 347 7 pm cm (ys.map (spC h.g)),bS (tk.map dA.pR),bS (tk.map dA.cR)]
abbrev evV (e:dQ):Value:=.agg #[.int .i64 e.kd,.slice e.fp e.f.length e.fc,.slice e.tp e.t.length e.tc]
theorem ae7:u7 ae 450 fB evV zm:=⟨3,351,Tryz.underlying450,YD cM,MQ⟩
def yk (l:List Nat) (x:Int):Bool:=l.any fun j=>decide ((j:Int)=x)
theorem yZ {l:List Nat} {x:Int}:yk l x=true↔∃j:Nat,j∈l∧(j:Int)=x:=by
 unfold yk;rw[List.any_eq_true]
 exact⟨fun⟨j,h1,h2⟩=>⟨j,h1,of_decide_eq_true h2⟩,fun⟨j,h1,h2⟩=>⟨j,h1,decide_eq_true h2⟩⟩
theorem JH {l:List Nat} {j:Nat}:yk l (j:Int)=decide (j∈l):=by
 refine Bool.eq_iff_iff.2 ⟨fun h=>?_,fun h=>yZ.2 ⟨j,of_decide_eq_true h,rfl⟩⟩
 obtain⟨i,h1,h2⟩:=yZ.1 h
 have:i=j:=by omega
 subst this;exact decide_eq_true h1
theorem UW {l m:List Nat} {x:Int}:yk (l++m) x=(yk l x||yk m x):=by unfold yk;rw[List.any_append]
theorem UQ {j:Nat} {x:Int}:yk [j] x=decide ((j:Int)=x):=by unfold yk;simp
def SQ (l:List dQ) (x:Int):Option dQ:=l.find? fun e=>yk e.t x
def byI (l:List dQ) (k:Nat) (e:dQ) (i:Nat) (x:Int):Option dQ:=if yk (e.t.take i) x=true then some e else SQ (l.take k) x
theorem To {l:List dQ} {k:Nat} {e:dQ}:byI l k e 0=SQ (l.take k):=by funext x;unfold byI;rw[if_neg (by rw[List.take_zero];exact Bool.false_ne_true)]
theorem Tx {l:List dQ} {k i j:Nat} {e:dQ} (h:e.t[i]? =some j):mo (byI l k e i) (j:Int) e=byI l k e (i+1):=by
 funext x
 obtain⟨hi,rfl⟩:=aj.1 h
 unfold mo byI
 rw[cT hi,UW,UQ]
 by_cases q:x=(e.t[i]:Int)
 ·subst q;rw[if_pos rfl,decide_eq_true rfl,Bool.or_true,if_pos rfl]
 ·rw[if_neg q,decide_eq_false (fun z=>q z.symm),Bool.or_false]
theorem UB {l:List dQ} {k:Nat} {e:dQ} (h:l[k]? =some e) (hap:(l.map dZ).Pairwise fun a b=>(∀i,i∈a.f→i∉b.f)∧∀j,j∈a.t→j∉b.t):byI l k e e.t.length=SQ (l.take (k+1)):=by
 funext x
 obtain⟨hk,rfl⟩:=aj.1 h
 unfold byI SQ
 rw[du,cT hk,List.find?_append]
 cases z:yk l[k].t x with
 |true=>
  rw[if_pos rfl]
  obtain⟨j,z1,z2⟩:=yZ.1 z
  have e0:(l.take k).find? (fun e=>yk e.t x)=none:=iz.2 fun a ha=>by
   obtain⟨i,hi,rfl⟩:=cC.1 ha
   rw[dt]at hi
   have hp:=be.1 (gl.1 hap) i k (by omega) hk (by omega)
   rw[ng]
   intro y
   obtain⟨j',y1,y2⟩:=yZ.1 y
   have:j'=j:=by omega
   subst this
   exact hp.2 j' y1 z1
  rw[e0]
  simp only[D6,Option.none_or,z]
 |false=>
  rw[if_neg (by decide)]
  simp only[D6,List.find?_nil,z,Option.or_none]
theorem adv {l:List dQ} {j:Nat}:((SQ l (j:Int)).getD zm).m=Hm (l.map dZ) j:=by
 unfold SQ Hm
 rw[List.find?_map]
 have e:(fun e:dQ=>yk e.t (j:Int))=((fun e:jS=>decide (j∈e.t))∘dZ):=by
  funext e;exact JH
 rw[e]
 cases l.find? ((fun e:jS=>decide (j∈e.t))∘dZ)<;>rfl
theorem adD {l:List dQ} {j:Nat} (h:∃e,e∈l∧j∈e.t):(SQ l (j:Int)).getD zm∈l:=by
 obtain⟨e,h1,h2⟩:=h
 cases z:SQ l (j:Int) with
 |none=>
  unfold SQ at z
  exact absurd (JH.trans (decide_eq_true h2)) (by simpa using iz.1 z e h1)
 |some a=>unfold SQ at z;exact List.mem_of_find?_eq_some z
theorem FW {l:List jf} {n:Nat}:oe l [] n=l:=by
 refine cO fun k=>?_
 rw[oZ]
 cases l[k]? with
 |none=>rfl
 |some t=>show some (yz [] n k t)=_;unfold yz;rw[if_neg (by simp)]
theorem Nu {l:List jf} {ps:List Nat} {n r p:Nat} (h:ps[r]? =some p) (hn:ps.Nodup):(oe l (ps.take r) n).modify p (fun t=>{ t with ch:=t.ch++[n] })=oe l (ps.take (r+1)) n:=by
 refine cO fun k=>?_
 rw[j9,oZ,oZ]
 obtain⟨hr,rfl⟩:=aj.1 h
 cases l[k]? with
 |none=>rfl
 |some t=>
  show some _=some (yz (ps.take (r+1)) n k t)
  unfold yz
  rw[cT hr]
  by_cases q:ps[r]=k
  ·subst q
   have h1:ps[r]∉ps.take r:=fun hm=>by
    obtain⟨i,hi,hi2⟩:=cC.1 hm
    rw[ng]at hi2
    rw[dt]at hi
    exact be.1 hn i r (by omega) hr (by omega) hi2
   rw[if_neg h1,if_pos (bZ.2 (.inr (bT.2 rfl)))]
   simp
  ·have h1:k∈ps.take r++[ps[r]]↔k∈ps.take r:=by rw[bZ,bT];exact⟨fun z=>z.elim id (fun y=>absurd y.symm q),.inl⟩
   simp only[h1,q,if_false]
structure BiY where
 tk:List dA
 pt:Option Addr
 ct:Nat
 of:Nat×Nat→Option Nat
theorem FF {N j:Nat} {jz:List jS} {tk tk':List jf} {of:Nat×Nat→Option Nat} {s0:List jf×(Nat×Nat→Option Nat)} (hB:(tk,of)=kI N jz s0 j) (hn:xD N jz j=true) {ps:List Nat} (hp:ve tk N jz j=ps) (hm:tk'=oe (tk++[trB N jz ps j]) ps tk.length):(tk',mo of (N,j) tk.length)=kI N jz s0 (j+1):=by
 show _=vd N jz (kI N jz s0 j) j
 rw[←hB];unfold vd;rw[if_pos hn,hp,hm]
theorem Rj {N j:Nat} {jz:List jS} {tk:List jf} {of:Nat×Nat→Option Nat} {s0:List jf×(Nat×Nat→Option Nat)} (hB:(tk,of)=kI N jz s0 j) (hn:¬xD N jz j=true):(tk,of)=kI N jz s0 (j+1):=by
 show _=vd N jz (kI N jz s0 j) j
 rw[←hB];unfold vd;rw[if_neg hn]
theorem Dp {tk:List jf} {N:Nat} {f:List Nat}:(Jb tk N f).Pairwise (· < ·):=sy
theorem R3 (b:Nat) (h:qt) (la:Int) (pm:Option Addr) (cm:Nat) (ys:List qZ) (pt:Option Addr) (ct:Nat) (kd:Nat→Int) (tk:List dA) (of:Nat×Nat→Option Nat) (m_:Nat) (y0:qZ) (hyN:ys[0]? =some y0) (hm_:y0.l.length=m_) (w:World) (hh:Has w (yi b h la pm cm ys pt ct kd tk of)) (hl:tk.length+m_≤900000):
 Calls ae 136 #[.pointer (some ⟨b,0,none⟩),.int .i64 0,.slice none 0 0] w fun e w'=>∃y:BiY,((y.tk.map dA.m,y.of)=kI 0 [] (tk.map dA.m,of) m_∧y.tk.length≤tk.length+m_)∧e= .returned (.tuple #[])∧St ⟨w,lu (yi b h la pm cm ys pt ct kd tk of)⟩ (yi b h la pm cm ys y.pt y.ct kd y.tk y.of) w':=by
 have hyl:0<ys.length:=(aj.1 hyN).1
 refine mG (vs:=[_,_,_]) (env:=[(0,_),(1,_),(2,_)]) hh.enter By rfl rfl rfl rfl ?_
 refine VC.q (aD rfl<|HO.Dy fB evV fun b8=>aD rfl<|aO (LO.as (.r rfl))<|VO.n<|ak<|VC.q (VO.m rfl<|ah (bW xk (.r rfl) rfl) rfl<|VO.m rfl<|VO.n ?_))
 refine aG<|bY (α:=Nat) 0 (fun gx=>[(22,.int .i64 (gx:Nat))]) [(0,_),(1,_),(6,_),(20,_),(21,_)] (fun gx=>[]) (fun gx=>True) (fun gx=>1-gx) 0 (by exact trivial) (.c4 rfl rfl rfl rfl (.cons rfl (.cons rfl .nil))) (fun _ h=>h) ?_
 rintro k _
 refine VC.q (VO.t rfl<|VO.n<|ak<|ay rfl (fun h23=>?_) (fun h23=>?_))
 · (exfalso;simp at h23;try omega)
 ·
  refine ca (aL (aL (cD (ag<|VC.q (VO.m rfl<|ah (bH (.r rfl)) rfl<|VO.f (r:=8) oX rfl<|VO.c 1 CQ rfl rfl ⟨_,rfl⟩ rfl<|VO.m rfl<|ah (gp xz GA (fun _ hw=>(dE hw 5 rfl).some (by rw[aq])) (.r rfl) (.r rfl) (j:=0) rfl (by omega)) rfl<|VO.f Cm rfl<|ah (aB TO (.r rfl) (fun w hw=>bq (off:=5) (gN hw 5 rfl hyN) ⟨_,rfl⟩)) rfl<|ah (bW BC (.r rfl) rfl) rfl<|VO.m rfl<|VO.n<|aG<|ik [1,2,3,4,6,7,0,5] rfl<|bY (α:=Nat×(List dA)×(Option Addr)×Nat×(Nat×Nat→Option Nat)) 6 (fun gx=>[(47,.int .i64 (gx.1:Nat))]) [(0,_),(1,_),(6,_),(46,_)] (fun gx=>[de b (.cells (C3 h la ⟨pm,ys.length,cm⟩ gx.2.2.1 gx.2.1.length gx.2.2.2.1 kd).toArray 345),own 204 6 gx.2.2.1 gx.2.2.2.1 (gx.2.1.map dA.cells),bS (gx.2.1.map dA.aR),kM M0 Ey h.bm (BF gx.2.2.2.2),bS (gx.2.1.map dA.pR),bS (gx.2.1.map dA.cR)]) (fun gx=>gx.1≤m_∧(gx.2.1.map dA.m,gx.2.2.2.2)=kI 0 [] (tk.map dA.m,of) gx.1∧gx.2.1.length≤tk.length+gx.1) (fun gx=>m_-gx.1) (0,tk,pt,ct,of) (by exact⟨bG _,rfl,bA _⟩) (.c4 rfl rfl rfl rfl (.cons rfl .nil)) (fun _ h=>h) ?_)))))
  rintro ⟨j,tkj,ptj,ctj,ofj⟩ ⟨hj,hB,hlj⟩
  show VC _ _ _ _ _ ([(47,.int .i64 (j:Nat))]++_) ([de b (.cells (C3 h la ⟨pm,ys.length,cm⟩ ptj tkj.length ctj kd).toArray 345),own 204 6 ptj ctj (tkj.map dA.cells),bS (tkj.map dA.aR),kM M0 Ey h.bm (BF ofj),bS (tkj.map dA.pR),bS (tkj.map dA.cR)]++_) _ _
  dsimp only at hj hB hlj
  refine VC.q (VO.t rfl<|VO.n<|ak<|ay rfl (fun h48=>?_) (fun h48=>?_))
  ·
   refine aC (ag<|ak<|aG<|VC.q (VO.m rfl<|VO.a rfl<|VO.n<|ak ?_))
   refine aF (VO.m rfl<|VO.m rfl<|ah (LO.Td (n:=(j:Int)) ae7 (.r rfl) (.r rfl) (fun _ hw=>dL hw 6 _ rfl)) rfl<|aD rfl<|bI (C:=#[_,_,_]) MQ rfl fun b9=>bU<|bl 0 (vs:=[_,_,_]) (C':=[_,_,_]) (L':=[_,_,_,_,_,_,_,_,_]) BD rfl rfl rfl rfl rfl rfl rfl rfl<|VO.n<|aG<|VC.q (VO.m rfl<|ah (fN (.r rfl) (.r rfl)) rfl<|VO.a rfl<|VO.n<|ay rfl (fun h53=>?_) (fun h53=>?_)))
   ·
    refine aF (VO.m rfl<|VO.m rfl<|ah (dC (ps:=[(_,_),(_,_)]) (vs:=[(_,_),(_,_)]) (C:=[_,_]) Nr ⟨(.r rfl),(.r rfl),trivial⟩ rfl ⟨_,[_],[_,_],rfl,rfl,rfl,rfl,⟨_,[_],[_,_],rfl,rfl,rfl,rfl,rfl⟩⟩) rfl<|aD rfl<|jh (first:=[]) (cap:=[]) (xs:=[_,_,_,_]) (vs:=[_,_,_,_]) [_,_,_,_] [_,_,_,_,_] (bM (L1:=[_,_,_,_]++[_,_,_,_,_]) [1,2,3,4,0,5,6,7,8] rfl rfl) (.r rfl) ahs ⟨(.r rfl),(.r rfl),(.r rfl),(.r rfl),trivial⟩ (fun w hw hh=>Po b h la ⟨pm,ys.length,cm⟩ ptj ctj kd tkj ofj 1 0 j none 0 [] w hh (by omega)) fun y _=>aI<|bB (bB (ag<|aF (VO.p rfl rfl (by omega) (by omega) rfl<|VO.m rfl<|aI<|bn fun a w ha hw=>⟨(j+1,tkj++[(qK 1 0 j y.ap y.ac none 0 [])],y.pt,y.ct,mo ofj (0,j) tkj.length),⟨by dsimp only;omega,by have z:=FF (tk':=(tkj++[qK 1 0 j y.ap y.ac none 0 []]).map dA.m) hB (decide_eq_true (.inl rfl)) (ps:=[]) rfl (by rw[FW,bj];rfl);rw[aq]at z;exact z,by dsimp only;rw[aZ,cu];omega⟩,(by dsimp only;omega),ha.sub (.c4 rfl rfl rfl rfl (.cons rfl .nil)),(by dsimp only;rw[bj (f:=dA.pR),bj (f:=dA.cR)];exact bM (L1:=[_,_,_,_,_,_,_,_]) [2,3,4,5,0,1,6,7] rfl rfl _ (St.nq (r:=dA.pR (qK 1 0 j y.ap y.ac none 0 [])) (L:=bS (tkj.map dA.cR++[dA.cR (qK 1 0 j y.ap y.ac none 0 [])])::[_,_,_,_,_,_]) (bM (L1:=dA.pR (qK 1 0 j y.ap y.ac none 0 [])::bS (tkj.map dA.pR)::bS (tkj.map dA.cR++[dA.cR (qK 1 0 j y.ap y.ac none 0 [])])::[_,_,_,_,_,_]) [0,2,1,3,4,5,6,7,8] rfl rfl _ ((St.nq (r:=dA.cR (qK 1 0 j y.ap y.ac none 0 [])) (L:=bS (tkj.map dA.pR)::[_,_,_,_,_,_]) (bM (L1:=dA.cR (qK 1 0 j y.ap y.ac none 0 [])::bS (tkj.map dA.cR)::bS (tkj.map dA.pR)::[_,_,_,_,_,_]) [0,7,6,1,2,3,4,8,9] rfl rfl _ (hw.fX 3 1))).fX 3 1))))⟩))))
   · (exfalso;exact h53 rfl)
  ·
   refine ca (aL (aL (cD (VE.xf (vs:=[]) rfl trivial (fun w hw=>?_)))))
   have hje:j=m_:=by omega
   subst hje
   exact⟨⟨tkj,ptj,ctj,ofj⟩,⟨hB,hlj⟩,rfl,bM [0,1,2,3,7,4,5] rfl rfl _ hw⟩
theorem GO:bV ae 204 5 5:=⟨_,_,k7,rfl,rfl,0,by kernel_rfl⟩
structure BiE (E:List (List jS)) (Ms:List Nat) (n m_:Nat) (l:List dQ) (tk:List dA) (of:Nat×Nat→Option Nat):Prop where
 len:Ms.length=n+2
 at_:Ms.getD (n+1) 0=m_
 ev:E.getD (n+1) []=l.map dZ
 I0:iq (Ms.getD n 0) m_ (l.map dZ)
 inv:j6 E Ms 0 (tk.map dA.m) of
 m:m_≤4096
 n:n≤1000
theorem BiE.at {E:List (List jS)} {Ms:List Nat} {n m_ j:Nat} {l:List dQ} {tk tkj:List dA} {of ofj:Nat×Nat→Option Nat} (h:BiE E Ms n m_ l tk of) (hj:j≤m_) (hB:(tkj.map dA.m,ofj)=kI (n+1) (l.map dZ) (tk.map dA.m,of) j):j6 E Ms j (tkj.map dA.m) ofj:=by
 have z:=j6.Gz h.inv h.len (fun _=>by rw[h.ev,h.at_];exact h.I0) j (by rw[h.at_];exact hj)
 rw[h.ev, ←hB]at z
 exact z
theorem iq.adW {n m:Nat} {es:List jS} (h:iq n m es) {e:jS} (he:e∈es):e.f.length≤n∧e.t.length≤m:=by
 have h1:=length_le_of_subset (m:=br n) ((h.fs e he).1.imp fun z=>jH z) (fun x hx=>bf.2 ((h.fs e he).2 x hx))
 have h2:=length_le_of_subset (m:=br m) ((h.ts e he).1.imp fun z=>jH z) (fun x hx=>bf.2 ((h.ts e he).2 x hx))
 simpa using And.intro h1 h2
theorem iq.adV {n m:Nat} {es:List jS} (h:iq n m es):es.length≤n+m:=by
 have key:∀(es:List jS) (n m:Nat),(∀e,e∈es→0<e.f.length+e.t.length)→(es.map fun e=>e.f.length+e.t.length).sum≤n+m→es.length≤n+m:=fun es n m h1 h2=>by
  have:es.length≤(es.map fun e=>e.f.length+e.t.length).sum:=by
   clear h2
   induction es with
   |nil=>simp
   |cons e es ih=>have:=ih fun a ha=>h1 a (by simp [ha]);have:=h1 e (by simp);simp only[gh,List.map_cons,List.sum_cons];omega
  omega
 refine key es n m (fun e he=>(h.kd e he).2) ?_
 have hF:(es.map jS.f).flatten.length≤n:=by
  have hn:(es.map jS.f).flatten.Nodup:=by
   refine vK.2 ⟨fun l hl=>?_,gl.2 (h.apart.imp fun {a b} hab=>?_)⟩
   ·obtain⟨e,he,rfl⟩:=bQ.1 hl;exact(h.fs e he).1.imp fun z=>jH z
   ·exact fun i hi i2 hi2 e=>hab.1 i hi (e ▸ hi2)
  have:=length_le_of_subset (m:=br n) hn (fun x hx=>by
   obtain⟨l,hl,hx⟩:=nI.1 hx
   obtain⟨e,he,rfl⟩:=bQ.1 hl
   exact bf.2 ((h.fs e he).2 x hx))
  simpa using this
 have hT:(es.map jS.t).flatten.length≤m:=by
  have hn:(es.map jS.t).flatten.Nodup:=by
   refine vK.2 ⟨fun l hl=>?_,gl.2 (h.apart.imp fun {a b} hab=>?_)⟩
   ·obtain⟨e,he,rfl⟩:=bQ.1 hl;exact(h.ts e he).1.imp fun z=>jH z
   ·exact fun i hi i2 hi2 e=>hab.2 i hi (e ▸ hi2)
  have:=length_le_of_subset (m:=br m) hn (fun x hx=>by
   obtain⟨l,hl,hx⟩:=nI.1 hx
   obtain⟨e,he,rfl⟩:=bQ.1 hl
   exact bf.2 ((h.ts e he).2 x hx))
  simpa using this
 rw[List.length_flatten]at hF hT
 have e:∀es:List jS,(es.map fun e=>e.f.length+e.t.length).sum=((es.map jS.f).map fT).sum+((es.map jS.t).map fT).sum:=fun es=>by
  induction es with
  |nil=>rfl
  |cons a es ih=>simp only[List.map_cons,List.sum_cons,ih];omega
 rw[e];omega
theorem aip {E:List (List jS)} {Ms:List Nat} {j p n:Nat} {tkj tkr:List dA} {of:Nat×Nat→Option Nat} {x:jf} {ps:List Nat} {tr:dA} (h:j6 E Ms j (tkj.map dA.m) of) (hm:tkr.map dA.m=oe (tkj.map dA.m++[x]) ps n) (ht:tkr[p]? =some tr) (hp:p<tkj.length):tr.ch.length≤tkj.length+1:=by
 have h1:(tkr.map dA.m)[p]? =some tr.m:=by rw[aw,ht];rfl
 rw[hm,oZ,aJ (by rw[aq];exact hp)]at h1
 obtain⟨y,e⟩:=gE (l:=tkj.map dA.m) (n:=p) (by rw[aq];exact hp)
 rw[e]at h1
 have h2:=h.ch p _ e
 have h3:y.ch.length≤tkj.length:=by
  rw[h2];refine eL (cH _ _) ?_;simp
 have h4:tr.ch=(yz ps n p y).ch:=(congrArg jf.ch (Option.some.inj h1)).symm
 rw[h4];unfold yz;split
 ·show(_++[n]).length≤_;rw[aZ,cu];omega
 ·omega
theorem RW (b:Nat) (h:qt) (la:Int) (pm:Option Addr) (cm:Nat) (ys:List qZ) (pt:Option Addr) (ct:Nat) (kd:Nat→Int) (tk:List dA) (of:Nat×Nat→Option Nat) (E:List (List jS)) (Ms:List Nat) (n m_:Nat) (l:List dQ) (pe:Option Addr) (ce:Nat) (yN:qZ) (hyN:ys[n+1]? =some yN) (hm_:yN.l.length=m_) (w:World) (hh:Has w (yi b h la pm cm ys pt ct kd tk of)) (hl:tk.length+m_≤900000) (hna:Ms.getD n 0≤1000000) (hE:BiE E Ms n m_ l tk of) (hcap:∀{L:List cq} {v:World},St ⟨w,lu (yi b h la pm cm ys pt ct kd tk of)⟩ L v→RO 3 gD v pe l∧∀e,e∈l→RO 1 nC v e.fp e.f∧RO 1 nC v e.tp e.t):
 Calls ae 136 #[.pointer (some ⟨b,0,none⟩),.int .i64 ((n+1:Nat):Int),.slice pe l.length ce] w fun e w'=>∃y:BiY,((y.tk.map dA.m,y.of)=kI (n+1) (l.map dZ) (tk.map dA.m,of) m_∧y.tk.length≤tk.length+m_)∧e= .returned (.tuple #[])∧St ⟨w,lu (yi b h la pm cm ys pt ct kd tk of)⟩ (yi b h la pm cm ys y.pt y.ct kd y.tk y.of) w':=by
 have hyl:n+1<ys.length:=(aj.1 hyN).1
 have hgd:=hE.I0
 have hsl:nu pe l.length:=(hcap hh.enter).1.sm
 have hmm:=hE.m
 have hnn:=hE.n
 have hll:=hgd.adV
 rw[aq]at hll
 have hnl:Ms.getD n 0≤1000000:=hna
 refine mG (vs:=[_,_,_]) (env:=[(0,_),(1,_),(2,_)]) hh.enter By rfl rfl rfl rfl ?_
 refine VC.q (aD rfl<|HO.Dy fB evV fun b8=>aD rfl<|aO (LO.as (.r rfl))<|VO.n<|ak<|VC.q (VO.m rfl<|ah (bW xk (.r rfl) rfl) rfl<|VO.m rfl<|VO.n ?_))
 refine aG<|bY (α:=Nat) 1 (fun gx=>[(22,.int .i64 (gx:Nat))]) [(0,_),(1,_),(6,_),(20,_),(21,_)] (fun gx=>[kM fB evV b8 (SQ (l.take gx))]) (fun gx=>gx≤l.length) (fun gx=>l.length-gx) 0 (by exact bG _) (.c4 rfl rfl rfl rfl (.cons rfl (.cons rfl .nil))) (fun _ h=>h) ?_
 rintro k hk
 refine VC.q (VO.t rfl<|VO.n<|ak<|ay rfl (fun h23=>?_) (fun h23=>?_))
 ·
  obtain⟨e,hek⟩:=gE (l:=l) (n:=k) (by omega)
  have hlft:=hgd.adW (bE (al hek))
  have hett:e.t.length≤m_:=hlft.2
  rw[←To (e:=e)]
  refine aC (ag<|ak<|aG<|VC.q (ah (cw xk BD hsl (.r rfl) (.r rfl) rfl (by omega)) rfl<|ah (aM (vs:=[_,_,_]) Wp (.r rfl) (fun w hw=>bq (off:=0) ((fun w3 h3=>gB (hcap h3).1 hek) w hw) ⟨_,rfl⟩) rfl) rfl<|aD rfl<|bI (C:=#[_,_,_]) MQ rfl fun b9=>bU<|bl 0 (vs:=[_,_,_]) (C':=[_,_,_]) (L':=[_,_,_,_,_,_,_,_,_]) BD rfl rfl rfl rfl rfl rfl rfl rfl<|VO.n<|ak ?_))
  refine aF (VO.f (r:=2) zV rfl<|VO.c 0 ij rfl rfl ⟨_,rfl⟩ rfl<|ah (bW ei (.r rfl) rfl) rfl<|VO.m rfl<|VO.n<|aG<|ik [1,0,2,3,4,5,6,7,8] rfl<|bY (α:=Nat) 1 (fun gx=>[(29,.int .i64 (gx:Nat))]) [(0,_),(1,_),(6,_),(8,_),(20,_),(21,_),(22,_),(27,_),(28,_)] (fun gx=>[kM fB evV b8 (byI l k e gx)]) (fun gx=>gx≤e.t.length) (fun gx=>e.t.length-gx) 0 (by exact bG _) (.c4 rfl rfl rfl rfl (.c4 rfl rfl rfl rfl (.cons rfl (.cons rfl .nil)))) (fun _ h=>h) ?_)
  rintro i hi
  refine VC.q (VO.t rfl<|VO.n<|ak<|ay rfl (fun h30=>?_) (fun h30=>?_))
  ·
   obtain⟨jt,hti⟩:=gE (l:=e.t) (n:=i) (by omega)
   refine aC (ag<|ak<|aG<|VC.q (ah (cw ei N3 ((hcap hh.enter).2 e (al hek)).2.sm (.r rfl) (.r rfl) rfl (by omega)) rfl<|ah (aB O3 (.r rfl) (fun w hw=>bq (off:=0) ((fun w3 h3=>gB ((hcap h3).2 e (al hek)).2 hti) w hw) ⟨_,rfl⟩)) rfl<|VO.a rfl<|VO.n<|aF (VO.m rfl<|VO.m rfl<|ah (aM (vs:=[_,_,_]) Wp (.r rfl) (ax 1 rfl ⟨_,rfl⟩) rfl) rfl<|bU<|HO.Ve 0 (fun R=>[R,_,_,_,_,_,_,_,_]) (jt:Int) e ae7 (.r rfl) (.r rfl) (.r rfl) rfl (fun _=>rfl)<|aI ?_)))
   rw[Tx hti]
   refine bB (ag<|aF (VO.p rfl rfl (by omega) (by omega) rfl<|VO.m rfl<|aI<|bn fun a w ha hw=>⟨i+1,(by omega),(by omega),ha.sub (.c4 rfl rfl rfl rfl (.c4 rfl rfl rfl rfl (.cons rfl (.cons rfl .nil)))),hw⟩))
  ·
   refine ca (aL (aL (cD (bB (ag<|aF (VO.p rfl rfl (by omega) (by omega) rfl<|VO.m rfl<|aI ?_))))))
   have hie:i=e.t.length:=by omega
   subst hie
   rw[UB hek hgd.apart]
   refine bn fun a w ha hw=>⟨k+1,(by omega),(by omega),ha.sub (.c4 rfl rfl rfl rfl (.cons rfl (.cons rfl .nil))),hw.fO [0,2,3,4,5,6,7,8] rfl⟩
 ·
  have hke:k=l.length:=by omega
  subst hke
  rw[du]
  refine ca (aL (aL (cD (ag<|VC.q (VO.m rfl<|ah (bH (.r rfl)) rfl<|VO.f (r:=8) oX rfl<|VO.c 1 CQ rfl rfl ⟨_,rfl⟩ rfl<|VO.m rfl<|ah (gp xz GA (fun _ hw=>(dE hw 5 rfl).some (by rw[aq])) (.r rfl) (.r rfl) rfl (by omega)) rfl<|VO.f Cm rfl<|ah (aB TO (.r rfl) (fun w hw=>bq (off:=5) (gN hw 5 rfl hyN) ⟨_,rfl⟩)) rfl<|ah (bW BC (.r rfl) rfl) rfl<|VO.m rfl<|VO.n<|aG<|ik [1,2,3,4,6,7,0,5] rfl<|bY (α:=Nat×(List dA)×(Option Addr)×Nat×(Nat×Nat→Option Nat)) 6 (fun gx=>[(47,.int .i64 (gx.1:Nat))]) [(0,_),(1,_),(6,_),(46,_)] (fun gx=>[de b (.cells (C3 h la ⟨pm,ys.length,cm⟩ gx.2.2.1 gx.2.1.length gx.2.2.2.1 kd).toArray 345),own 204 6 gx.2.2.1 gx.2.2.2.1 (gx.2.1.map dA.cells),bS (gx.2.1.map dA.aR),kM M0 Ey h.bm (BF gx.2.2.2.2),bS (gx.2.1.map dA.pR),bS (gx.2.1.map dA.cR)]) (fun gx=>gx.1≤m_∧(gx.2.1.map dA.m,gx.2.2.2.2)=kI (n+1) (l.map dZ) (tk.map dA.m,of) gx.1∧gx.2.1.length≤tk.length+gx.1) (fun gx=>m_-gx.1) (0,tk,pt,ct,of) (by exact⟨bG _,rfl,bA _⟩) (.c4 rfl rfl rfl rfl (.cons rfl .nil)) (fun _ h=>h) ?_)))))
  rintro ⟨j,tkj,ptj,ctj,ofj⟩ ⟨hj,hB,hlj⟩
  show VC _ _ _ _ _ ([(47,.int .i64 (j:Nat))]++_) ([de b (.cells (C3 h la ⟨pm,ys.length,cm⟩ ptj tkj.length ctj kd).toArray 345),own 204 6 ptj ctj (tkj.map dA.cells),bS (tkj.map dA.aR),kM M0 Ey h.bm (BF ofj),bS (tkj.map dA.pR),bS (tkj.map dA.cR)]++_) _ _
  dsimp only at hj hB hlj
  refine VC.q (VO.t rfl<|VO.n<|ak<|ay rfl (fun h48=>?_) (fun h48=>?_))
  ·
   refine aC (ag<|ak<|aG<|VC.q (VO.m rfl<|VO.a rfl<|VO.n<|ak ?_))
   refine aF (VO.m rfl<|VO.m rfl<|ah (LO.Td (n:=(j:Int)) ae7 (.r rfl) (.r rfl) (fun _ hw=>dL hw 6 _ rfl)) rfl<|aD rfl<|bI (C:=#[_,_,_]) MQ rfl fun b11=>bU<|bl 0 (vs:=[_,_,_]) (C':=[_,_,_]) (L':=[_,_,_,_,_,_,_,_,_]) BD rfl rfl rfl rfl rfl rfl rfl rfl<|aI ?_)
   obtain⟨eJ,heJ_⟩:∃x,x=(SQ l (j:Int)).getD zm:=⟨_,rfl⟩
   rw[←heJ_]
   have heJ:eJ∈l:=by rw[heJ_];obtain⟨e,h1,h2⟩:=hgd.aiv j (by omega);obtain⟨e2,h3,rfl⟩:=bQ.1 h1;exact adD ⟨e2,h3,h2⟩
   have hbJ:Hm (l.map dZ) j=eJ.m:=by rw[heJ_];exact adv.symm
   have hQ:=hE.at (by omega) hB
   have hlf:=hgd.adW (bE heJ)
   have hef2:eJ.f.length≤Ms.getD n 0:=hlf.1
   refine ag<|aG<|VC.q (VO.m rfl<|ah (fN (.r rfl) (.r rfl)) rfl<|VO.a rfl<|VO.n<|ay rfl (fun h53=>?_) (fun h53=>?_))
   · (exfalso;omega)
   ·
    refine VC.q (VO.f (r:=0) Av rfl<|VO.c 0 O3 rfl rfl ⟨_,rfl⟩ rfl<|VO.u rfl<|VO.a rfl<|VO.n<|ay rfl (fun h60=>?_) (fun h60=>?_))
    ·
     have hnew:xD (n+1) (l.map dZ) j=true:=decide_eq_true (.inr (by rw[hbJ];exact h60))
     obtain⟨htot,hpn,hpm⟩:=hQ.parents (e:=eJ.m) hE.len (by rw[hE.ev,hE.at_];exact hgd) (by rw[hE.ev];exact bE heJ) h60
     refine VC.q (VO.a rfl<|VO.n<|ak<|VC.q (VO.f (r:=1) Ay rfl<|VO.c 0 ij rfl rfl ⟨_,rfl⟩ rfl<|ah (bW ei (.r rfl) rfl) rfl<|VO.m rfl<|VO.n ?_))
     refine aG<|bY (α:=Nat×(List Nat)×(Option Addr)×Nat) 0 (fun gx=>[(13,.slice gx.2.2.1 gx.2.1.length gx.2.2.2),(67,.int .i64 (gx.1:Nat))]) [(0,_),(1,_),(6,_),(11,_),(12,_),(46,_),(47,_),(65,_),(66,_)] (fun gx=>[own 3 1 gx.2.2.1 gx.2.2.2 (gx.2.1.map nC)]) (fun gx=>gx.1≤eJ.f.length∧gx.2.1=(eJ.f.take gx.1).map fun x_=>(ofj (n,x_)).getD 0) (fun gx=>eJ.f.length-gx.1) (0,[],none,0) (by exact⟨bG _,rfl⟩) (.c4 rfl rfl rfl rfl (.c4 rfl rfl rfl rfl (.cons rfl (.cons rfl (.cons rfl .nil))))) (fun _ h=>(h.fX 3 1)) ?_
     rintro ⟨i,pl,pp,pc⟩ ⟨hi,hpl⟩
     show VC _ _ _ _ _ ([(13,.slice pp pl.length pc),(67,.int .i64 (i:Nat))]++_) ([own 3 1 pp pc (pl.map nC)]++_) _ _
     dsimp only at hi hpl
     have hpll:pl.length≤i:=by rw[hpl,aq,dt];omega
     refine VC.q (VO.t rfl<|VO.n<|ak<|ay rfl (fun h68=>?_) (fun h68=>?_))
     ·
      obtain⟨ai,hai⟩:=gE (l:=eJ.f) (n:=i) (by omega)
      obtain⟨k0,hk0,hk0l⟩:=htot ai (al hai)
      refine aC (ag<|ak<|aG<|VC.q (ah (cw ei N3 ((hcap hh.enter).2 eJ heJ).1.sm (.r rfl) (.r rfl) rfl (by omega)) rfl<|ah (aB O3 (.r rfl) (fun w hw=>bq (off:=0) ((fun w3 h3=>gB ((hcap h3).2 eJ heJ).1 hai) w hw) ⟨_,rfl⟩)) rfl<|VO.a rfl<|VO.n<|aF (VO.m rfl<|VO.m rfl<|ah (bH (.r rfl)) rfl<|VO.f (r:=10) xp rfl<|VO.c 2 L4 rfl rfl ⟨_,rfl⟩ rfl<|VO.m rfl<|ah (dy (dv (.r rfl) (.r rfl) (wi (by omega) (by omega))) (congrArg (bX .i64) (show((n+1:Nat):Int)-1=(n:Int) by omega))) rfl<|VO.m rfl<|ah (dC (ps:=[(_,_),(_,_)]) (vs:=[(_,_),(_,_)]) (C:=[_,_]) Nr ⟨(.r rfl),(.r rfl),trivial⟩ rfl ⟨_,[_],[_,_],rfl,rfl,rfl,rfl,⟨_,[_],[_,_],rfl,rfl,rfl,rfl,rfl⟩⟩) rfl<|ah (dy (v':=.int .i64 (k0:Int)) (LO.Td (n:=((n:Int),(ai:Int))) Ru (.r rfl) (.r rfl) (fun _ hw=>dL hw 5 _ rfl)) (by rw[Ca,hk0];rfl)) rfl<|aD rfl<|fu (ps:=[(_,_)]) (vs:=[(_,_)]) (Z:=[_]) (C:=[_]) ei Z3 N3 ⟨(.r rfl),trivial⟩ rfl rfl rfl rfl ⟨_,[_],[_],rfl,rfl,rfl,rfl,rfl⟩ fun b14=>aD rfl<|dM (k0) 1 0 (fun R=>[_,R,_,_,_,_,_,_,_,_,_]) ei ei I3 (.r rfl) (.r rfl) rfl rfl rfl rfl rfl rfl rfl (fun _=>rfl) rfl (by omega) fun p11 c11=>aD rfl<|aO (LO.as (.r rfl))<|aI ?_)))
      refine bB (ag<|aF (VO.p rfl rfl (by omega) (by omega) rfl<|VO.m rfl<|aI<|bn fun a w ha hw=>⟨(i+1,pl++[k0],p11,c11),⟨by dsimp only;omega,by dsimp only;rw[List.take_add_one,hai,bj, ←hpl];show _=pl++[(ofj (n,ai)).getD 0];rw[hk0];rfl⟩,(by dsimp only;omega),ha.sub (.c4 rfl rfl rfl rfl (.c4 rfl rfl rfl rfl (.cons rfl (.cons rfl (.cons rfl .nil))))),hw.fO [1,2,3,4,5,6,7,8,9,10] rfl⟩))
     ·
      have hie:i=eJ.f.length:=by omega
      subst hie
      rw[du]at hpl
      obtain⟨ps,hps⟩:∃x,x=Jb (tkj.map dA.m) (n+1) eJ.f:=⟨_,rfl⟩
      have hsort:uZ pl=ps:=by rw[hps,hpl];exact I8 Dp hpn hpm
      have hlen:pl.length=ps.length:=by rw[←hsort,FB]
      have hpsn:ps.Nodup:=by rw[hps];exact Dp.imp fun z=>jH z
      refine ca (aL (aL (cD (ag<|VC.q (VO.m rfl<|aD rfl<|HO.VX (first:=[]) (cap:=[]) (xs:=[_]) (vs:=[_]) 0 (fun R=>[R,_,_,_,_,_,_,_,_,_]) rfl (.r rfl) aiS ⟨(.r rfl),trivial⟩ (fun _=>rfl) (fun w hw=>PO 0 hw rfl (by omega)) fun _u _=>aI ?_)))))
      rw[hsort,hlen]
      refine ag<|VC.q (VO.m rfl<|VO.f (r:=0) Av rfl<|VO.c 1 O3 rfl rfl ⟨_,rfl⟩ rfl<|VO.m rfl<|VO.m rfl<|ah (dC (ps:=[(_,_),(_,_)]) (vs:=[(_,_),(_,_)]) (C:=[_,_]) Nr ⟨(.r rfl),(.r rfl),trivial⟩ rfl ⟨_,[_],[_,_],rfl,rfl,rfl,rfl,⟨_,[_],[_,_],rfl,rfl,rfl,rfl,rfl⟩⟩) rfl<|VO.m rfl<|aD rfl<|jh (first:=[]) (cap:=[]) (xs:=[_,_,_,_]) (vs:=[_,_,_,_]) [_,_,_,_] [_,_,_,_,_,_] (bM (L1:=[_,_,_,_]++[_,_,_,_,_,_]) [2,3,4,5,0,1,6,7,8,9] rfl rfl) (.r rfl) ahs ⟨(.r rfl),(.r rfl),(.r rfl),(.r rfl),trivial⟩ (fun w hw hh=>Po b h la ⟨pm,ys.length,cm⟩ ptj ctj kd tkj ofj eJ.kd (n+1) j pp pc ps w hh (by omega)) fun yb _=>aD rfl<|aO (LO.as (.r rfl))<|VO.n<|ak<|oH (L':=bS (tkj.map dA.cR++[dA.cR (qK eJ.kd (n+1) j yb.ap yb.ac pp pc ps)])::[_,_,_,_,_,_,_,_,_]) (fun w hw=>St.nq (r:=dA.cR (qK eJ.kd (n+1) j yb.ap yb.ac pp pc ps)) (bM (L1:=dA.cR (qK eJ.kd (n+1) j yb.ap yb.ac pp pc ps)::bS (tkj.map dA.cR)::[_,_,_,_,_,_,_,_,_]) [0,8,1,2,3,4,5,6,7,9,10] rfl rfl _ (hw.fX 3 1))) ?_)
      rw[show tkj.map dA.cR++[dA.cR (qK eJ.kd (n+1) j yb.ap yb.ac pp pc ps)]=(tkj++[(qK eJ.kd (n+1) j yb.ap yb.ac pp pc ps)]).map dA.cR by rw[bj];rfl]
      refine aF (VO.m rfl<|ah (bW ei (.r rfl) rfl) rfl<|VO.m rfl<|VO.n<|aG<|ik [2,0,1,3,4,5,6,7,8,9] rfl<|bY (α:=Nat×(List dA)) 2 (fun gx=>[(96,.int .i64 (gx.1:Nat))]) [(0,_),(1,_),(6,_),(16,_),(46,_),(47,_),(94,_),(95,_)] (fun gx=>[own 204 6 yb.pt yb.ct (gx.2.map dA.cells),bS (gx.2.map dA.cR)]) (fun gx=>gx.1≤ps.length∧gx.2.length=(tkj++[(qK eJ.kd (n+1) j yb.ap yb.ac pp pc ps)]).length∧gx.2.map dA.aR=(tkj++[(qK eJ.kd (n+1) j yb.ap yb.ac pp pc ps)]).map dA.aR∧gx.2.map dA.pR=(tkj++[(qK eJ.kd (n+1) j yb.ap yb.ac pp pc ps)]).map dA.pR∧gx.2.map dA.m=oe (tkj.map dA.m++[dA.m (qK eJ.kd (n+1) j yb.ap yb.ac pp pc ps)]) (ps.take gx.1) tkj.length) (fun gx=>ps.length-gx.1) (0,(tkj++[(qK eJ.kd (n+1) j yb.ap yb.ac pp pc ps)])) (by exact⟨bG _,rfl,rfl,rfl,by rw[List.take_zero,FW,bj];rfl⟩) (.c4 rfl rfl rfl rfl (.c4 rfl rfl rfl rfl (.cons rfl .nil))) (fun _ h=>h) ?_)
      rintro ⟨r,tkr⟩ ⟨hr,hlr,haR,hpR,hmr⟩
      show VC _ _ _ _ _ ([(96,.int .i64 (r:Nat))]++_) ([own 204 6 yb.pt yb.ct (tkr.map dA.cells),bS (tkr.map dA.cR)]++_) _ _
      dsimp only at hr hlr haR hpR hmr
      have hlr2:=hlr
      rw[aZ,cu]at hlr2
      refine VC.q (VO.t rfl<|VO.n<|ak<|ay rfl (fun h97=>?_) (fun h97=>?_))
      ·
       obtain⟨p,hpr⟩:=gE (l:=ps) (n:=r) (by omega)
       have hptj:p<tkj.length:=by have z:=al hpr;rw[hps]at z;have y:=bf.1 (bK.1 z).1;rwa [aq]at y
       have hptr:p<tkr.length:=by omega
       obtain⟨tr,htr⟩:=gE (l:=tkr) (n:=p) hptr
       have hchl:tr.ch.length≤tkj.length+1:=aip hQ hmr htr hptj
       refine aC (ag<|ak<|aG<|VC.q (ah (gp ei N3 (fun _ hw=>(dE hw 5 rfl).some (by rw[aq])) (.r rfl) (.r rfl) rfl (by omega)) rfl<|ah (aB O3 (.r rfl) (fun w hw=>bq (off:=0) (gN hw 5 rfl hpr) ⟨_,rfl⟩)) rfl<|VO.a rfl<|VO.n<|oH (L':=dA.cR tr::bS ((tkr.eraseIdx p).map dA.cR)::[_,_,_,_,_,_,_,_,_]) (fun w hw=>St.yD (f:=dA.cR) (bM [1,0,2,3,4,5,6,7,8,9] rfl rfl w hw) htr) ?_))
       show VC _ _ _ _ _ _ (own 3 1 tr.cp tr.cc (tr.ch.map nC)::_) _ _
       refine cP [[0,1,2,3,4,5,6,7,8,9,10],[0,1,2,3,4,5,6,7,8,9,10],[1,2,3,4,5,6,7,8,9,10],[1,3,4,5,6,7,8,9,10]] [some 2,some 2,some 2,some 2,some 2,some 1,some 1,some 1,some 1,some 1,some 1,some 1,some 1,some 0,none,none,some 2,some 2,none] mixed (by kernel_rfl) rfl (LX.m rfl<|aA (fun _ hJ=>bH (.r rfl)) rfl<|aA (fun _ hJ=>aE (r:=9) qq (.r rfl) rfl) rfl<|aA (fun _ hJ=>aB Dl (.r rfl) (fun _ hw=>aX (hJ _ hw) 2 rfl ⟨_,rfl⟩)) rfl<|LX.m rfl<|LX.m rfl<|aA (fun _ hJ=>bH (.r rfl)) rfl<|aA (fun _ hJ=>aE (r:=9) qq (.r rfl) rfl) rfl<|aA (fun _ hJ=>aB Dl (.r rfl) (fun _ hw=>aX (hJ _ hw) 3 rfl ⟨_,rfl⟩)) rfl<|LX.m rfl<|aA (fun _ hJ=>gp tv wH (fun _ hw=>(dE (hJ _ hw) 2 rfl).some (by rw[aq];omega)) (.r rfl) (.r rfl) rfl (by omega)) rfl<|aA (fun _ hJ=>aE GO (.r rfl) rfl) rfl<|aA (fun _ hJ=>aB ij (.r rfl) (fun w hw=>bq (off:=5) (gN (hJ _ hw) 2 rfl htr) ⟨_,rfl⟩)) rfl<|LX.m rfl<|cn<|cn<|aA (fun _ hJ=>gp tv wH (fun _ hw=>(dE (hJ _ hw) 1 rfl).some (by rw[aq];omega)) (.r rfl) (.r rfl) rfl (by omega)) rfl<|aA (fun _ hJ=>aE GO (.r rfl) rfl) rfl<|cn<|dw) (au<|au<|au<|au<|au<|au<|au<|au<|au<|au<|au<|au<|au<|au<|fQ rfl<|fu (ps:=[(_,_)]) (vs:=[(_,_)]) (Z:=[_]) (C:=[_]) ei Z3 N3 ⟨(.r rfl),trivial⟩ rfl rfl rfl rfl ⟨_,[_],[_],rfl,rfl,rfl,rfl,rfl⟩ fun b22=>⟨gM (L1:=[_,_,_,_,_,_,_,_,_,_,_]) [1,2,3,4,5,6,7,8,9,10,11] rfl rfl rfl,fQ rfl<|dM (tkj.length) 1 0 (fun R=>[_,R,_,_,_,_,_,_,_,_,_,_]) ei ei I3 (.r rfl) (.r rfl) rfl rfl rfl rfl rfl rfl rfl (fun _=>rfl) rfl (by omega) fun p15 c15=>⟨gM (L1:=[_,_,_,_,_,_,_,_,_,_]) [2,3,4,5,6,7,8,9,10,11] rfl rfl rfl,au<|au<|eW<|tX 3 (fun R=>[_,_,_,R,_,_,_,_,_,_,_,_]) (o:=5) (vs:=[_]) qo (.r rfl) (.r rfl) rfl (tF htr) rfl rfl (bh rfl) rfl (fun _=>rfl)<|⟨gM (L1:=[_,_,_,_,_,_,_,_,_]) [2,4,5,6,7,8,9,10,11] rfl rfl rfl,dS ?_⟩⟩⟩)
       rw[YI]
       refine bB (ag<|aF (VO.p rfl rfl (by omega) (by omega) rfl<|VO.m rfl<|aI<|bn fun a w ha hw=>⟨(r+1,tkr.set p { tr with cp:=p15,cc:=c15,ch:=tr.ch++[tkj.length] }),⟨by dsimp only;omega,by dsimp only;rw[ja];exact hlr,(lU (t':={ tr with cp:=p15,cc:=c15,ch:=tr.ch++[tkj.length] }) htr rfl).trans haR,(lU (t':={ tr with cp:=p15,cc:=c15,ch:=tr.ch++[tkj.length] }) htr rfl).trans hpR,(uK (g:=dA.m) (t':={ tr with cp:=p15,cc:=c15,ch:=tr.ch++[tkj.length] }) (f:=fun t=>{ t with ch:=t.ch++[tkj.length] }) htr rfl).trans (by rw[hmr];exact Nu hpr hpsn)⟩,(by dsimp only;omega),ha.sub (.c4 rfl rfl rfl rfl (.c4 rfl rfl rfl rfl (.cons rfl .nil))),(by exact bM (L1:=[_,_,_,_,_,_,_,_,_,_]) [1,0,2,3,4,5,6,7,8,9] rfl rfl _ (St.sO (f:=dA.cR) (a:={ tr with cp:=p15,cc:=c15,ch:=tr.ch++[tkj.length] }) (i:=p) (bM (L1:=dA.cR ({ tr with cp:=p15,cc:=c15,ch:=tr.ch++[tkj.length] })::[_,_,_,_,_,_,_,_,_,_]) [1,2,3,4,5,6,7,8,9,10,11] rfl rfl _ hw) hptr))⟩))
      ·
       have hre:r=ps.length:=by omega
       subst hre
       rw[du]at hmr
       have hB2:=FF (tk':=tkr.map dA.m) hB hnew (ps:=ps) (by unfold ve;rw[if_neg (by omega),hbJ,hps];rfl) (by rw[hmr,aq];congr 2;unfold trB;rw[if_neg (by omega),hbJ];rfl)
       rw[aq]at hB2
       refine ca (aL (aL (cD (bB (bB (ag<|aF (VO.p rfl rfl (by omega) (by omega) rfl<|VO.m rfl<|aI<|bn fun a w ha hw=>⟨(j+1,tkr,yb.pt,yb.ct,mo ofj (n+1,j) tkj.length),⟨by dsimp only;omega,hB2,by dsimp only;omega⟩,(by dsimp only;omega),ha.sub (.c4 rfl rfl rfl rfl (.cons rfl .nil)),(by dsimp only;rw[hlr,haR,hpR,bj (f:=dA.pR)];exact bM (L1:=[_,_,_,_,_,_,_,_]) [1,2,3,4,0,5,6,7] rfl rfl _ (St.nq (r:=dA.pR (qK eJ.kd (n+1) j yb.ap yb.ac pp pc ps)) (bM (L1:=dA.pR (qK eJ.kd (n+1) j yb.ap yb.ac pp pc ps)::bS (tkj.map dA.pR)::[_,_,_,_,_,_,_]) [5,7,2,0,3,4,1,8,9] rfl rfl _ hw)))⟩)))))))
    ·
     have hold:¬xD (n+1) (l.map dZ) j=true:=by have z:eJ.m.kd=4:=cL.1 h60;unfold xD;rw[hbJ];simp [z]
     refine aC (bB (bB (ag<|aF (VO.p rfl rfl (by omega) (by omega) rfl<|VO.m rfl<|aI<|bn fun a w ha hw=>⟨(j+1,tkj,ptj,ctj,ofj),⟨by dsimp only;omega,Rj hB hold,by dsimp only;omega⟩,(by dsimp only;omega),ha.sub (.c4 rfl rfl rfl rfl (.cons rfl .nil)),(by exact bM (L1:=[_,_,_,_,_,_,_,_]) [1,2,3,4,5,6,7,8] rfl rfl _ hw)⟩))))
  ·
   refine ca (aL (aL (cD (VE.xf (vs:=[]) rfl trivial (fun w hw=>?_)))))
   have hje:j=m_:=by omega
   subst hje
   exact⟨⟨tkj,ptj,ctj,ofj⟩,⟨hB,hlj⟩,rfl,bM [0,1,2,3,7,4,5] rfl rfl _ hw⟩
theorem MF:ef ae 132:=⟨_,Tryz.func132,by decide,rfl⟩
theorem Nw:bV ae 345 0 0:=⟨_,_,jd,rfl,rfl,4,by kernel_rfl⟩
theorem Dt:bV ae 345 3 7:=⟨_,_,jd,rfl,rfl,0,by kernel_rfl⟩
def oU (h:qt) (la:Int) (nm:Nat) (time:Int) (g:cU) (vs:List Span):Int:=
 if fS 1073741824 ⟨g,vs⟩≠0 then fS 1073741824 ⟨g,vs⟩ else if ¬Bg g=Bg h.g then 11 else if time<0∨4294967296<time then 3 else if time≤la then 17 else if nm=48 then 13 else 0
section
variable {h:qt} {la time:Int} {nm:Nat} {g:cU} {vs:List Span}
theorem ad1 (k:fS 1073741824 ⟨g,vs⟩≠0):fS 1073741824 ⟨g,vs⟩=oU h la nm time g vs:=(if_pos k).symm
theorem ad2 (k:¬fS 1073741824 ⟨g,vs⟩≠0) (j:¬[g.x,g.y,g.size,g.wide,g.high]=[h.g.x,h.g.y,h.g.size,h.g.wide,h.g.high]):11=oU h la nm time g vs:=by unfold oU Bg;rw[if_neg k,if_pos j]
theorem ad3 (k:¬fS 1073741824 ⟨g,vs⟩≠0) (j:¬¬[g.x,g.y,g.size,g.wide,g.high]=[h.g.x,h.g.y,h.g.size,h.g.wide,h.g.high]) (i:time<0∨4294967296<time):3=oU h la nm time g vs:=by unfold oU Bg;rw[if_neg k,if_neg j,if_pos i]
theorem ad4 (k:¬fS 1073741824 ⟨g,vs⟩≠0) (j:¬¬[g.x,g.y,g.size,g.wide,g.high]=[h.g.x,h.g.y,h.g.size,h.g.wide,h.g.high]) (i:¬(time<0∨4294967296<time)) (l:time≤la):17=oU h la nm time g vs:=by unfold oU Bg;rw[if_neg k,if_neg j,if_neg i,if_pos l]
theorem ad5 (k:¬fS 1073741824 ⟨g,vs⟩≠0) (j:¬¬[g.x,g.y,g.size,g.wide,g.high]=[h.g.x,h.g.y,h.g.size,h.g.wide,h.g.high]) (i:¬(time<0∨4294967296<time)) (l:¬time≤la) (m:nm=48):13=oU h la nm time g vs:=by unfold oU Bg;rw[if_neg k,if_neg j,if_neg i,if_neg l,if_pos m]
theorem ad6 (k:¬fS 1073741824 ⟨g,vs⟩≠0) (j:¬¬[g.x,g.y,g.size,g.wide,g.high]=[h.g.x,h.g.y,h.g.size,h.g.wide,h.g.high]) (i:¬(time<0∨4294967296<time)) (l:¬time≤la) (m:¬nm=48):oU h la nm time g vs=0:=by unfold oU Bg;rw[if_neg k,if_neg j,if_neg i,if_neg l,if_neg m]
theorem UC (k:oU h la nm time g vs=0):fS 1073741824 ⟨g,vs⟩=0∧g=h.g∧0≤time∧time≤4294967296∧la<time∧nm≠48:=by
 unfold oU at k
 split at k
 ·rename_i q;exact absurd k q
 ·rename_i q
  split at k
  ·omega
  ·rename_i s
   split at k
   ·omega
   ·split at k
    ·omega
    ·split at k
     ·omega
     ·refine⟨cL.1 q,?_,by omega,by omega,by omega,by omega⟩
      have e:=cL.1 s
      obtain⟨hg,_,_,_⟩:=h
      cases g;cases hg
      simp only[Bg,List.cons.injEq]at e
      obtain⟨rfl,rfl,rfl,rfl,rfl,_⟩:=e
      rfl
end
theorem aiB (b:Nat) (h:qt) (la:Int) (q:RL) (pt:Option Addr) (nt ct:Nat) (kd:Nat→Int) (time:Int) (g:cU) (vs:List Span) (pv:Option Addr) (cv:Nat) (w:World) (hb:fk w ⟨b,0,none⟩ (C3 h la q pt nt ct kd)) (hv:lP w pv vs) (hne:oU h la q.nm time g vs≠0):
 Calls ae 63 #[.pointer (some ⟨b,0,none⟩),.int .i64 time,vm g pv vs.length cv] w fun e w'=>e= .returned (.tuple #[.slice none 0 0,.int .i64 (oU h la q.nm time g vs)])∧St (bs w) [] w':=by
 refine enter (vs:=[_,_,_]) (env:=[(0,_),(1,_),(2,_)]) xV rfl rfl rfl rfl ?_
 refine VC.q (aD rfl<|cf (C:=#[_,_,_,_,_,_]) rfl rfl fun b1=>VO.a rfl<|VO.a rfl<|VO.n<|ak<|VC.q (VO.m rfl<|ah (bD (xs:=[_]) (vs:=[_]) MF ⟨(.r rfl),trivial⟩ (fun w2 hw=>tD b h la q pt nt ct kd w2 (aW hb w2 hw))) rfl<|ah (LO.not (.r rfl)) rfl<|VO.n ?_))
 refine ay rfl (fun h15=>?_) (fun h15=>?_)
 · (exfalso;exact h15 rfl)
 ·
  refine aC (ag<|ak<|VC.q (ah (aM (vs:=[_,_,_,_,_,_]) wA (.r rfl) (ax 0 rfl ⟨_,rfl⟩) rfl) rfl<|ah (bD (xs:=[_]) (vs:=[_]) C79 ⟨(.r rfl),trivial⟩ (fun w hw=>mh ⟨g,vs⟩ pv cv w (hv.keep w hw))) rfl<|VO.a rfl<|VO.n<|VC.q (VO.m rfl<|VO.u rfl<|aI ?_)))
  refine ag<|ay rfl (fun h19=>?_) (fun h19=>?_)
  ·
   refine VC.q (VO.m rfl<|VO.a rfl<|VO.a rfl<|VO.n<|aP (a8 (dh (vs:=[_,_]) rfl ⟨rfl,rfl,trivial⟩ (fun w hw=>?_))))
   refine⟨?_,hw.nil⟩
   refine congrArg (fun z=>cW (.tuple #[.slice none 0 0,.int .i64 z])) ?_
   first |exact ad1 h19|exact ad2 h19 h26|exact ad3 h19 h26 h34|exact ad4 h19 h26 h34 h41|exact ad5 h19 h26 h34 h41 (by omega)
  ·
   refine aC (ag<|VC.q (VO.m rfl<|ah (bH (.r rfl)) rfl<|VO.f (r:=8) oX rfl<|ah (aB CQ (.r rfl) (aW (aU (off:=8) hb ⟨_,rfl⟩))) rfl<|ah (bW xz (.r rfl) rfl) rfl<|VO.a rfl<|VO.n<|ak<|aG<|ak ?_))
   refine eH mixed (aV (aE (r:=0) tE (.r rfl) rfl) rfl<|aV (aM (vs:=[_,_,_,_,_]) vS (.r rfl) (ax 0 rfl ⟨_,rfl⟩) rfl) rfl<|LL.m rfl<|aV (bH (.r rfl)) rfl<|aV (aE (r:=0) Nw (.r rfl) rfl) rfl<|aV (aM (vs:=[_,_,_,_,_]) vS (.r rfl) (aW (aU (off:=0) hb ⟨_,rfl⟩)) rfl) rfl<|aV (LO.neA («as» :=[_,_,_,_,_]) (bs:=[_,_,_,_,_]) Zt (.r rfl) (.r rfl) rfl rfl) rfl<|aV (LO.as (.r rfl)) rfl<|ft) (by kernel_rfl)<|ag<|ay rfl (fun h26=>?_) (fun h26=>?_)
   ·
    refine VC.q (VO.a rfl<|VO.a rfl<|VO.n<|aP (VE.mB (a8 (dh (vs:=[_,_]) rfl ⟨rfl,rfl,trivial⟩ (fun w hw=>?_)))))
    refine⟨?_,hw.nil⟩
    refine congrArg (fun z=>cW (.tuple #[.slice none 0 0,.int .i64 z])) ?_
    first |exact ad1 h19|exact ad2 h19 h26|exact ad3 h19 h26 h34|exact ad4 h19 h26 h34 h41|exact ad5 h19 h26 h34 h41 (by omega)
   ·
    refine VC.q (VO.m rfl<|VO.t rfl<|VO.m rfl<|VO.gf rfl (fun hg=>bJ (.r rfl))<|VO.gf rfl (fun hg=>iX (.g hg rfl) (.r rfl))<|ah (dO (.r rfl) (.r rfl) rfl rfl) rfl<|VO.a rfl<|VO.n<|ay rfl (fun h34=>?_) (fun h34=>?_))
    ·
     refine VC.q (VO.a rfl<|VO.a rfl<|VO.n<|aP (VE.mB (a8 (dh (vs:=[_,_]) rfl ⟨rfl,rfl,trivial⟩ (fun w hw=>?_)))))
     refine⟨?_,hw.nil⟩
     refine congrArg (fun z=>cW (.tuple #[.slice none 0 0,.int .i64 z])) ?_
     first |exact ad1 h19|exact ad2 h19 h26|exact ad3 h19 h26 h34|exact ad4 h19 h26 h34 h41|exact ad5 h19 h26 h34 h41 (by omega)
    ·
     refine VC.q (VO.m rfl<|VO.m rfl<|ah (bH (.r rfl)) rfl<|VO.f (r:=7) Dt rfl<|ah (aB O3 (.r rfl) (aW (aU (off:=7) hb ⟨_,rfl⟩))) rfl<|ah (LO.le (.r rfl) (.r rfl)) rfl<|VO.a rfl<|VO.n<|ay rfl (fun h41=>?_) (fun h41=>?_))
     ·
      refine VC.q (VO.a rfl<|VO.a rfl<|VO.n<|aP (VE.mB (a8 (dh (vs:=[_,_]) rfl ⟨rfl,rfl,trivial⟩ (fun w hw=>?_)))))
      refine⟨?_,hw.nil⟩
      refine congrArg (fun z=>cW (.tuple #[.slice none 0 0,.int .i64 z])) ?_
      first |exact ad1 h19|exact ad2 h19 h26|exact ad3 h19 h26 h34|exact ad4 h19 h26 h34 h41|exact ad5 h19 h26 h34 h41 (by omega)
     ·
      refine VC.q (VO.m rfl<|ah (fN (.r rfl) (.r rfl)) rfl<|VO.a rfl<|VO.n<|ay rfl (fun h48=>?_) (fun h48=>?_))
      ·
       refine VC.q (VO.a rfl<|VO.a rfl<|VO.n<|aP (VE.mB (a8 (dh (vs:=[_,_]) rfl ⟨rfl,rfl,trivial⟩ (fun w hw=>?_)))))
       refine⟨?_,hw.nil⟩
       refine congrArg (fun z=>cW (.tuple #[.slice none 0 0,.int .i64 z])) ?_
       first |exact ad1 h19|exact ad2 h19 h26|exact ad3 h19 h26 h34|exact ad4 h19 h26 h34 h41|exact ad5 h19 h26 h34 h41 (by omega)
      · (exfalso;exact hne (ad6 h19 h26 h34 h41 (fun z=>h48 (by omega))))
theorem Wl:bV ae 345 1 5:=⟨_,_,jd,rfl,rfl,0,by kernel_rfl⟩
theorem aiQ:jW ae 347 7 88 (.agg #[.int .i64 0,.int .i64 0,.int .i64 0,.int .i64 0,.int .i64 0,.slice none 0 0,.slice none 0 0]):=⟨by kernel_rfl,by kernel_rfl,by unfold cj;kernel_rfl,rfl,by decide⟩
theorem aiZ:(ae.info? 342).map (·.size)=some 1:=by kernel_rfl
theorem ahj:ef ae 136:=⟨_,By,by decide,rfl⟩
theorem RO.zW {α:Type} {z E:Nat} {f:α→List Value} {γ:Type} {P:γ→Option Addr} {C:γ→Nat} {X:γ→List α} {l:List γ} {w:World} {β:Bs} {L:List cq} (hw:St β L w) (i:Nat) (hi:L[i]? =some (bS (l.map fun x=>own E z (P x) (C x) ((X x).map f)))) {x:γ} (hx:x∈l):RO z f w (P x) (X x):=
 eI ((hw.inv i _ hi).1 _ (bE (f:=fun x=>own E z (P x) (C x) ((X x).map f)) hx))
structure AdY where
 yN:qZ
 ev:EvY
 pm:Option Addr
 cm:Nat
 pt:Option Addr
 ct:Nat
 kd:Nat→Int
 tk:List dA
 of:Nat×Nat→Option Nat
def CY (kd:Nat→Int) (es:List jS):Nat→Int:=es.foldl (fun kd e=>QT kd e.kd.toNat) kd
theorem YL {kd:Nat→Int} {es:List jS} {e:jS}:CY kd (es++[e])=QT (CY kd es) e.kd.toNat:=by unfold CY;rw[kB];rfl
theorem MS:∀{es:List jS} {kd:Nat→Int} {B:Int},(∀j,0≤kd j∧kd j≤B)→∀j,0≤CY kd es j∧CY kd es j≤B+es.length
 |[],kd,B,h,j=>⟨(h j).1,by have:=(h j).2;show kd j≤B+((0:Nat):Int);omega⟩
 |e::es,kd,B,h,j=>by
  have:=MS (es:=es) (kd:=QT kd e.kd.toNat) (B:=B+1) (fun j=>by have:=h j;unfold QT;split<;>omega) j
  show 0≤CY (QT kd e.kd.toNat) es j∧CY (QT kd e.kd.toNat) es j≤_
  rw[gh]
  push_cast
  omega
theorem agv (b:Nat) (h:qt) (la:Int) (pm:Option Addr) (cm:Nat) (pt:Option Addr) (ct:Nat) (kd:Nat→Int) (tk:List dA) (of:Nat×Nat→Option Nat) (time:Int) (vs:List Span) (pv:Option Addr) (cv:Nat) (w:World) (hh:Has w (yi b h la pm cm [] pt ct kd tk of)) (hvv:∀{L:List cq} {v:World},St ⟨w,lu (yi b h la pm cm [] pt ct kd tk of)⟩ L v→lP v pv vs) (hok:oU h la 0 time h.g vs=0) (hlv:1≤h.lv∧h.lv≤1073741824) (hl:tk.length≤800000):
 Calls ae 63 #[.pointer (some ⟨b,0,none⟩),.int .i64 time,.agg #[.int .i64 h.g.x,.int .i64 h.g.y,.int .i64 h.g.size,.int .i64 h.g.wide,.int .i64 h.g.high,.slice pv vs.length cv]] w fun e w'=>∃y:AdY,(HT (gW h.g) (gH h.g) vs h.lv y.yN∧(y.tk.map dA.m,y.of)=kI 0 [] (tk.map dA.m,of) y.yN.l.length∧y.tk.length≤tk.length+y.yN.l.length)∧e= .returned (.tuple #[.slice none 0 0,.int .i64 0])∧St ⟨w,lu (yi b h la pm cm [] pt ct kd tk of)⟩ (yi b h time y.pm y.cm [y.yN] y.pt y.ct kd y.tk y.of++y.yN.R (pF (gW h.g) (gH h.g) (ga vs h.lv))) w':=by
 obtain⟨hfd,_,ht0,ht1,hla,hn48⟩:=UC hok
 obtain⟨hg,hlen,hsk,_,_⟩:=Co (CX (lv:=h.lv) hfd hlv.1 hlv.2)
 have har:=qN hg
 have hv:=hvv hh.enter
 refine mG (vs:=[_,_,_]) (env:=[(0,_),(1,_),(2,_)]) hh.enter xV rfl rfl rfl rfl ?_
 refine VC.q (aD rfl<|cf (C:=#[_,_,_,_,_,_]) rfl rfl fun b8=>VO.a rfl<|VO.a rfl<|VO.n<|ak<|VC.q (VO.m rfl<|ah (bD (xs:=[_]) (vs:=[_]) MF ⟨(.r rfl),trivial⟩ (fun w2 hw=>tD b h la ⟨pm,0,cm⟩ pt tk.length ct kd w2 (iE (hw.inv 1 _ rfl)))) rfl<|ah (LO.not (.r rfl)) rfl<|VO.n ?_))
 refine ay rfl (fun h15=>?_) (fun h15=>?_)
 · (exfalso;exact h15 rfl)
 ·
  refine aC (ag<|ak<|VC.q (ah (aM (vs:=[_,_,_,_,_,_]) wA (.r rfl) (ax 0 rfl ⟨_,rfl⟩) rfl) rfl<|ah (bD (xs:=[_]) (vs:=[_]) C79 ⟨(.r rfl),trivial⟩ (fun w2 hw=>mh ⟨h.g,vs⟩ pv cv w2 (hvv hw))) rfl<|VO.a rfl<|VO.n<|VC.q (VO.m rfl<|VO.u rfl<|aI ?_)))
  refine ag<|ay rfl (fun h19=>?_) (fun h19=>?_)
  · (exfalso;exact h19 hfd)
  ·
   refine aC (ag<|VC.q (VO.m rfl<|ah (bH (.r rfl)) rfl<|VO.f (r:=8) oX rfl<|VO.c 1 CQ rfl rfl ⟨_,rfl⟩ rfl<|ah (bW xz (.r rfl) rfl) rfl<|VO.a rfl<|VO.n<|ak<|aG<|ak ?_))
   refine eH mixed (aV (aE (r:=0) tE (.r rfl) rfl) rfl<|aV (aM (vs:=[_,_,_,_,_]) vS (.r rfl) (ax 0 rfl ⟨_,rfl⟩) rfl) rfl<|LL.m rfl<|aV (bH (.r rfl)) rfl<|aV (aE (r:=0) Nw (.r rfl) rfl) rfl<|aV (aM (vs:=[_,_,_,_,_]) vS (.r rfl) (ax 1 rfl ⟨_,rfl⟩) rfl) rfl<|aV (LO.neA («as» :=[_,_,_,_,_]) (bs:=[_,_,_,_,_]) Zt (.r rfl) (.r rfl) rfl rfl) rfl<|aV (LO.as (.r rfl)) rfl<|ft) (by kernel_rfl)<|ag<|ay rfl (fun h26=>?_) (fun h26=>?_)
   · (exfalso;exact h26 rfl)
   ·
    refine VC.q (VO.m rfl<|VO.t rfl<|VO.m rfl<|VO.gf rfl (fun hg=>bJ (.r rfl))<|VO.gf rfl (fun hg=>iX (.g hg rfl) (.r rfl))<|ah (dO (.r rfl) (.r rfl) rfl rfl) rfl<|VO.a rfl<|VO.n<|ay rfl (fun h34=>?_) (fun h34=>?_))
    · (exfalso;omega)
    ·
     refine VC.q (VO.m rfl<|VO.m rfl<|ah (bH (.r rfl)) rfl<|VO.f (r:=7) Dt rfl<|VO.c 1 O3 rfl rfl ⟨_,rfl⟩ rfl<|ah (LO.le (.r rfl) (.r rfl)) rfl<|VO.a rfl<|VO.n<|ay rfl (fun h41=>?_) (fun h41=>?_))
     · (exfalso;omega)
     ·
      refine VC.q (VO.m rfl<|ah (fN (.r rfl) (.r rfl)) rfl<|VO.a rfl<|VO.n<|ay rfl (fun h48=>?_) (fun h48=>?_))
      · (exfalso;exact absurd h48 (show ¬((0:Nat):Int)=48 by decide))
      ·
       refine aC (bB (ag<|ak<|cP [[0,1,2,3,4,5,6,7],[0,1,2,3,4,5,6,7],[0,1,2,3,4,5,6,7],[0,1,2,3,4,6,7],[0,2,3,4,6,7],[0,2,3,4,6,7]] [some 3,some 4,some 2,some 2,some 2,some 2,some 0,some 0,some 0,some 0,some 0,none,none,none,some 4,some 3,some 3,none,some 4,some 4,none] mixed (by kernel_rfl) rfl (LX.m rfl<|LX.m rfl<|LX.m rfl<|aA (fun _ hJ=>bH (.r rfl)) rfl<|aA (fun _ hJ=>aE (r:=8) oX (.r rfl) rfl) rfl<|aA (fun _ hJ=>aB CQ (.r rfl) (fun _ hw=>aX (hJ _ hw) 1 rfl ⟨_,rfl⟩)) rfl<|aA (fun _ hJ=>aM (vs:=[_,_,_,_,_,_]) wA (.r rfl) (fun _ hw=>aX (hJ _ hw) 0 rfl ⟨_,rfl⟩) rfl) rfl<|LX.m rfl<|aA (fun _ hJ=>bH (.r rfl)) rfl<|aA (fun _ hJ=>aE (r:=5) Wl (.r rfl) rfl) rfl<|aA (fun _ hJ=>aB O3 (.r rfl) (fun _ hw=>aX (hJ _ hw) 1 rfl ⟨_,rfl⟩)) rfl<|cn<|cn<|cn<|LX.m rfl<|aA (fun _ hJ=>bH (.r rfl)) rfl<|aA (fun _ hJ=>aE (r:=8) oX (.r rfl) rfl) rfl<|cn<|aA (fun _ hJ=>bH (.r rfl)) rfl<|aA (fun _ hJ=>aE (r:=7) Dt (.r rfl) rfl) rfl<|cn<|dw) (au<|au<|au<|au<|au<|au<|au<|au<|au<|au<|au<|fQ rfl<|cz (xs:=[_,_]) (vs:=[_,_]) agI ⟨(.r rfl),(.r rfl),trivial⟩ (fun w2 hw=>DF h.g vs pv cv h.lv w2 hg hlen hsk (hvv hw)) fun yN hyA=>⟨gM (L1:=[_,_,_,_,_,_,_,_]) [8,9,10,11,12,13,14,15] rfl rfl rfl,fQ rfl<|fu (ps:=[(_,_)]) (vs:=[(_,_)]) (Z:=[_,_,_,_,_,_,_]) (C:=[_,_,_,_,_,_,_]) xz aeP GA ⟨(.r rfl),trivial⟩ rfl rfl rfl rfl ⟨_,[_,_,_,_,_,_,_],[_,_,_,_,_,_,_],rfl,rfl,rfl,rfl,rfl⟩ fun b28=>⟨gM (L1:=[_,_,_,_,_,_,_,_]) [9,10,11,12,13,14,15,16] rfl rfl rfl,fQ rfl<|dM (yN) 14 0 (fun R=>[_,_,_,_,_,_,_,_,_,_,_,_,_,_,R,_,_]) xz xz aiQ (.r rfl) (.r rfl) rfl rfl rfl rfl rfl rfl rfl (fun _=>rfl) rfl (by show(2*(0+1)+768)*_≤_;omega) fun p13 c13=>⟨gM (L1:=[_,_,_,_,_,_,_]) [9,10,11,12,13,15,16] rfl rfl rfl,au<|au<|au<|eW<|bl 10 (vs:=[_]) (C':=[_,_,_,_,_,_,_,_,_,_,_,_,_,_,_,_,_,_,_]) (L':=[_,_,_,_,_,_,_,_,_,_,_,_,_,_,_,_,_]) aiZ rfl rfl rfl rfl rfl rfl rfl rfl<|⟨gM (L1:=[_,_,_,_,_,_]) [9,11,12,13,15,16] rfl rfl rfl,au<|au<|eW<|bl 10 (vs:=[_]) (C':=[_,_,_,_,_,_,_,_,_,_,_,_,_,_,_,_,_,_,_]) (L':=[_,_,_,_,_,_,_,_,_,_,_,_,_,_,_,_,_]) N3 rfl rfl rfl rfl rfl rfl rfl rfl<|⟨gM (L1:=[_,_,_,_,_,_]) [9,11,12,13,15,16] rfl rfl rfl,dS ?_⟩⟩⟩⟩⟩)))
       have hnp:=MH hyA
       have hnl:=IN hyA
       refine ag<|VC.q (VO.a rfl<|VO.n<|ak<|VC.q (VO.m rfl<|ah (iX (.r rfl) (.r rfl)) rfl<|aI ?_))
       refine ag<|ay rfl (fun h71=>?_) (fun h71=>?_)
       · (exfalso;exact absurd h71 (show ¬(0:Int)<((0:Nat):Int) by decide))
       ·
        refine aC (ag<|ak<|VC.q (VO.m rfl<|ah (bW xk (.r rfl) rfl) rfl<|VO.m rfl<|VO.n<|aG<|bY (α:=Nat) 0 (fun gx=>[(94,.int .i64 (gx:Nat))]) [(0,_),(9,_),(10,_),(92,_),(93,_)] (fun gx=>[]) (fun gx=>True) (fun gx=>1-gx) 0 (by exact trivial) (.c4 rfl rfl rfl rfl (.cons rfl (.cons rfl .nil))) (fun _ h=>h) ?_))
        rintro k _
        refine VC.q (VO.t rfl<|VO.n<|ak<|ay rfl (fun h95=>?_) (fun h95=>?_))
        · (exfalso;simp at h95;try omega)
        ·
         refine ca (aL (aL (cD (ag<|VC.q (VO.m rfl<|VO.m rfl<|VO.m rfl<|aD rfl<|jh (first:=[]) (cap:=[]) (xs:=[_,_,_]) (vs:=[_,_,_]) [_,_,_,_,_,_,_] [_,_,_,_,_,_,_,_,_,_] (bM (L1:=[_,_,_,_,_,_,_]++[_,_,_,_,_,_,_,_,_,_]) [10,11,12,13,14,15,16,0,1,2,3,4,5,6,7,8,9] rfl rfl) (.r rfl) ahj ⟨(.r rfl),(.r rfl),(.r rfl),trivial⟩ (fun w hw hh=>R3 b h time p13 c13 [yN] pt ct kd tk of yN.l.length yN rfl rfl w hh (by omega)) fun y hy=>VO.n<|VC.q (VO.m rfl<|VO.a rfl<|VO.a rfl<|VO.n ?_))))))
         refine aP (dh (vs:=[_,_]) rfl ⟨rfl,rfl,trivial⟩ (fun w hw=>?_))
         exact⟨⟨yN,⟨[],none,0⟩,p13,c13,y.pt,y.ct,kd,y.tk,y.of⟩,⟨hyA,hy.1,hy.2⟩,rfl,bM [0,1,2,3,4,5,6,8,9,10,11,12,13,14,15] rfl rfl _ hw⟩
theorem Va:bV ae 345 2 6:=⟨_,_,jd,rfl,rfl,0,by kernel_rfl⟩
theorem amV:ef ae 135:=⟨_,Tryz.func135,by decide,rfl⟩
structure AdP (h:qt) (vs vP:List Span) (yP:qZ) (r n:Nat) (kd:Nat→Int) (tk:List dA) (of:Nat×Nat→Option Nat) (y:AdY):Prop where
 ar:HT (gW h.g) (gH h.g) vs h.lv y.yN
 ev:UN (gW h.g) (gH h.g) r (pF (gW h.g) (gH h.g) (ga vP h.lv)) (pF (gW h.g) (gH h.g) (ga vs h.lv)) yP.l.length y.yN.l.length (y.ev.l.map dZ)
 trk:(y.tk.map dA.m,y.of)=kI (n+1) (y.ev.l.map dZ) ((tk.map dA.m).map (kL (n+1) (y.ev.l.map dZ)),wT n (y.ev.l.map dZ) of) y.yN.l.length
 len:y.tk.length≤tk.length+y.yN.l.length
 kd:y.kd=CY kd (y.ev.l.map dZ)
theorem Zd {es:List jS} (h:es.Pairwise fun a b=>(∀i,i∈a.f→i∉b.f)∧∀j,j∈a.t→j∉b.t) {k:Nat} {e:jS} (he:es[k]? =some e):∀x,x∈es.take k→(∀a,a∈e.f→a∉x.f)∧∀b,b∈e.t→b∉x.t:=fun x hx=>by
 obtain⟨hk,rfl⟩:=aj.1 he
 obtain⟨i,hi,rfl⟩:=cC.1 hx
 rw[dt]at hi
 rw[ng]
 have:=be.1 h i k (by omega) hk (by omega)
 exact⟨fun a h1 h2=>this.1 a h2 h1,fun b h1 h2=>this.2 b h2 h1⟩
theorem Nz {l:List dQ} {k:Nat} {e:dQ} (h:l[k]? =some e):(l.map dZ).take (k+1)=(l.map dZ).take k++[e.m]:=by
 have h2:(l.map dZ)[k]? =some e.m:=by rw[aw,h];rfl
 obtain⟨hk,e2⟩:=aj.1 h2
 rw[cT hk,e2]
theorem Uj {l:List dQ}:(l.map dZ).take l.length=l.map dZ:=by have h:(l.map dZ).take (l.map dZ).length=l.map dZ:=du;rwa [aq]at h
theorem aiO (b:Nat) (h:qt) (la:Int) (pm:Option Addr) (cm:Nat) (ys:List qZ) (pt:Option Addr) (ct:Nat) (kd:Nat→Int) (tk:List dA) (of:Nat×Nat→Option Nat) (time:Int) (vs:List Span) (pv:Option Addr) (cv:Nat) (w:World) (hh:Has w (yi b h la pm cm ys pt ct kd tk of)) (hvv:∀{L:List cq} {v:World},St ⟨w,lu (yi b h la pm cm ys pt ct kd tk of)⟩ L v→lP v pv vs) (hok:oU h la ys.length time h.g vs=0) (hlv:1≤h.lv∧h.lv≤1073741824) (hl:tk.length≤800000) (n r:Nat) (hys:ys.length=n+1) (hyl:ys.length≤48) (yP:qZ) (hyP:ys[n]? =some yP) (vP:List Span) (hyPa:HT (gW h.g) (gH h.g) vP h.lv yP) (hsp:∀{L:List cq} {v:World},St ⟨w,lu (yi b h la pm cm ys pt ct kd tk of)⟩ L v→Ex v yP (pF (gW h.g) (gH h.g) (ga vP h.lv))) (E:List (List jS)) (Ms:List Nat) (hI:tB E Ms (tk.map dA.m) of) (hMs:Ms.length=n+1) (hMl:Ms.getD n 0=yP.l.length) (hrc:h.rc=(r:Int)) (hr:r≤8) (hkb:∀j,0≤kd j∧kd j≤1000000000):
 Calls ae 63 #[.pointer (some ⟨b,0,none⟩),.int .i64 time,.agg #[.int .i64 h.g.x,.int .i64 h.g.y,.int .i64 h.g.size,.int .i64 h.g.wide,.int .i64 h.g.high,.slice pv vs.length cv]] w fun e w'=>∃y:AdY,AdP h vs vP yP r n kd tk of y∧e= .returned (.tuple #[.slice y.ev.p y.ev.l.length y.ev.c,.int .i64 0])∧St ⟨w,lu (yi b h la pm cm ys pt ct kd tk of)⟩ (yi b h time y.pm y.cm (ys++[y.yN]) y.pt y.ct y.kd y.tk y.of++(y.yN.R (pF (gW h.g) (gH h.g) (ga vs h.lv))++y.ev.R)) w':=by
 obtain⟨hfd,_,ht0,ht1,hla,hn48⟩:=UC hok
 obtain⟨hg,hlen,hsk,_,_⟩:=Co (CX (lv:=h.lv) hfd hlv.1 hlv.2)
 have har:=qN hg
 have hv:=hvv hh.enter
 have hpl:=IN hyPa
 have hb0:RX (n+1) (tk.map dA.m) of:=by have z:=hI.q.base;rw[hMs]at z;exact z
 refine mG (vs:=[_,_,_]) (env:=[(0,_),(1,_),(2,_)]) hh.enter xV rfl rfl rfl rfl ?_
 refine VC.q (aD rfl<|cf (C:=#[_,_,_,_,_,_]) rfl rfl fun b8=>VO.a rfl<|VO.a rfl<|VO.n<|ak<|VC.q (VO.m rfl<|ah (bD (xs:=[_]) (vs:=[_]) MF ⟨(.r rfl),trivial⟩ (fun w2 hw=>tD b h la ⟨pm,ys.length,cm⟩ pt tk.length ct kd w2 (iE (hw.inv 1 _ rfl)))) rfl<|ah (LO.not (.r rfl)) rfl<|VO.n ?_))
 refine ay rfl (fun h15=>?_) (fun h15=>?_)
 · (exfalso;exact h15 rfl)
 ·
  refine aC (ag<|ak<|VC.q (ah (aM (vs:=[_,_,_,_,_,_]) wA (.r rfl) (ax 0 rfl ⟨_,rfl⟩) rfl) rfl<|ah (bD (xs:=[_]) (vs:=[_]) C79 ⟨(.r rfl),trivial⟩ (fun w2 hw=>mh ⟨h.g,vs⟩ pv cv w2 (hvv hw))) rfl<|VO.a rfl<|VO.n<|VC.q (VO.m rfl<|VO.u rfl<|aI ?_)))
  refine ag<|ay rfl (fun h19=>?_) (fun h19=>?_)
  · (exfalso;exact h19 hfd)
  ·
   refine aC (ag<|VC.q (VO.m rfl<|ah (bH (.r rfl)) rfl<|VO.f (r:=8) oX rfl<|VO.c 1 CQ rfl rfl ⟨_,rfl⟩ rfl<|ah (dy (bW xz (.r rfl) rfl) (congrArg (bX .i64) (show((ys.length:Nat):Int)=((n+1:Nat):Int) by rw[hys]))) rfl<|VO.a rfl<|VO.n<|ak<|aG<|ak ?_))
   refine eH mixed (aV (aE (r:=0) tE (.r rfl) rfl) rfl<|aV (aM (vs:=[_,_,_,_,_]) vS (.r rfl) (ax 0 rfl ⟨_,rfl⟩) rfl) rfl<|LL.m rfl<|aV (bH (.r rfl)) rfl<|aV (aE (r:=0) Nw (.r rfl) rfl) rfl<|aV (aM (vs:=[_,_,_,_,_]) vS (.r rfl) (ax 1 rfl ⟨_,rfl⟩) rfl) rfl<|aV (LO.neA («as» :=[_,_,_,_,_]) (bs:=[_,_,_,_,_]) Zt (.r rfl) (.r rfl) rfl rfl) rfl<|aV (LO.as (.r rfl)) rfl<|ft) (by kernel_rfl)<|ag<|ay rfl (fun h26=>?_) (fun h26=>?_)
   · (exfalso;exact h26 rfl)
   ·
    refine VC.q (VO.m rfl<|VO.t rfl<|VO.m rfl<|VO.gf rfl (fun hg=>bJ (.r rfl))<|VO.gf rfl (fun hg=>iX (.g hg rfl) (.r rfl))<|ah (dO (.r rfl) (.r rfl) rfl rfl) rfl<|VO.a rfl<|VO.n<|ay rfl (fun h34=>?_) (fun h34=>?_))
    · (exfalso;omega)
    ·
     refine VC.q (VO.m rfl<|VO.m rfl<|ah (bH (.r rfl)) rfl<|VO.f (r:=7) Dt rfl<|VO.c 1 O3 rfl rfl ⟨_,rfl⟩ rfl<|ah (LO.le (.r rfl) (.r rfl)) rfl<|VO.a rfl<|VO.n<|ay rfl (fun h41=>?_) (fun h41=>?_))
     · (exfalso;omega)
     ·
      refine VC.q (VO.m rfl<|ah (fN (.r rfl) (.r rfl)) rfl<|VO.a rfl<|VO.n<|ay rfl (fun h48=>?_) (fun h48=>?_))
      · (exfalso;omega)
      ·
       refine aC (bB (ag<|ak<|cP [[0,1,2,3,4,5,6,7],[0,1,2,3,4,5,6,7],[0,1,2,3,4,5,6,7],[0,1,2,3,4,6,7],[0,2,3,4,6,7],[0,2,3,4,6,7]] [some 3,some 4,some 2,some 2,some 2,some 2,some 0,some 0,some 0,some 0,some 0,none,none,none,some 4,some 3,some 3,none,some 4,some 4,none] mixed (by kernel_rfl) rfl (LX.m rfl<|LX.m rfl<|LX.m rfl<|aA (fun _ hJ=>bH (.r rfl)) rfl<|aA (fun _ hJ=>aE (r:=8) oX (.r rfl) rfl) rfl<|aA (fun _ hJ=>aB CQ (.r rfl) (fun _ hw=>aX (hJ _ hw) 1 rfl ⟨_,rfl⟩)) rfl<|aA (fun _ hJ=>aM (vs:=[_,_,_,_,_,_]) wA (.r rfl) (fun _ hw=>aX (hJ _ hw) 0 rfl ⟨_,rfl⟩) rfl) rfl<|LX.m rfl<|aA (fun _ hJ=>bH (.r rfl)) rfl<|aA (fun _ hJ=>aE (r:=5) Wl (.r rfl) rfl) rfl<|aA (fun _ hJ=>aB O3 (.r rfl) (fun _ hw=>aX (hJ _ hw) 1 rfl ⟨_,rfl⟩)) rfl<|cn<|cn<|cn<|LX.m rfl<|aA (fun _ hJ=>bH (.r rfl)) rfl<|aA (fun _ hJ=>aE (r:=8) oX (.r rfl) rfl) rfl<|cn<|aA (fun _ hJ=>bH (.r rfl)) rfl<|aA (fun _ hJ=>aE (r:=7) Dt (.r rfl) rfl) rfl<|cn<|dw) (au<|au<|au<|au<|au<|au<|au<|au<|au<|au<|au<|fQ rfl<|cz (xs:=[_,_]) (vs:=[_,_]) agI ⟨(.r rfl),(.r rfl),trivial⟩ (fun w2 hw=>DF h.g vs pv cv h.lv w2 hg hlen hsk (hvv hw)) fun yN hyA=>⟨gM (L1:=[_,_,_,_,_,_,_,_]) [8,9,10,11,12,13,14,15] rfl rfl rfl,fQ rfl<|fu (ps:=[(_,_)]) (vs:=[(_,_)]) (Z:=[_,_,_,_,_,_,_]) (C:=[_,_,_,_,_,_,_]) xz aeP GA ⟨(.r rfl),trivial⟩ rfl rfl rfl rfl ⟨_,[_,_,_,_,_,_,_],[_,_,_,_,_,_,_],rfl,rfl,rfl,rfl,rfl⟩ fun b28=>⟨gM (L1:=[_,_,_,_,_,_,_,_]) [9,10,11,12,13,14,15,16] rfl rfl rfl,fQ rfl<|dM (yN) 14 0 (fun R=>[_,_,_,_,_,_,_,_,_,_,_,_,_,_,R,_,_]) xz xz aiQ (.r rfl) (.r rfl) rfl rfl rfl rfl rfl rfl rfl (fun _=>rfl) rfl (by omega) fun p13 c13=>⟨gM (L1:=[_,_,_,_,_,_,_]) [9,10,11,12,13,15,16] rfl rfl rfl,au<|au<|au<|eW<|bl 10 (vs:=[_]) (C':=[_,_,_,_,_,_,_,_,_,_,_,_,_,_,_,_,_,_,_]) (L':=[_,_,_,_,_,_,_,_,_,_,_,_,_,_,_,_,_]) aiZ rfl rfl rfl rfl rfl rfl rfl rfl<|⟨gM (L1:=[_,_,_,_,_,_]) [9,11,12,13,15,16] rfl rfl rfl,au<|au<|eW<|bl 10 (vs:=[_]) (C':=[_,_,_,_,_,_,_,_,_,_,_,_,_,_,_,_,_,_,_]) (L':=[_,_,_,_,_,_,_,_,_,_,_,_,_,_,_,_,_]) N3 rfl rfl rfl rfl rfl rfl rfl rfl<|⟨gM (L1:=[_,_,_,_,_,_]) [9,11,12,13,15,16] rfl rfl rfl,dS ?_⟩⟩⟩⟩⟩)))
       have hnp:=MH hyA
       have hnl:=IN hyA
       have hyn:(ys++[yN]).length=ys.length+1:=by rw[aZ];rfl
       have hyx1:(ys++[yN])[n]? =some yP:=by rw[aJ (by omega)];exact hyP
       have hyN2:(ys++[yN])[n+1]? =some yN:=by rw[←hys,aY (bA _),Nat.sub_self];rfl
       have hyx2:=hyN2
       refine ag<|VC.q (VO.a rfl<|VO.n<|ak<|VC.q (VO.m rfl<|ah (iX (.r rfl) (.r rfl)) rfl<|aI ?_))
       refine ag<|ay rfl (fun h71=>?_) (fun h71=>?_)
       ·
        refine cP [[0,1,2,3,4,5,6,7,8,9,10,11,12,13,14,15,16],[0,1,2,3,4,5,6,7,8,9,10,11,12,13,14,15,16],[0,1,2,3,4,5,6,7,8,9,10,11,12,13,14,15,16]] [some 0,some 0,some 0,some 0,some 0,some 0,some 0,some 0,some 0,some 0,some 0,some 0,some 0,some 0,some 0,some 0,some 0,some 0,some 0,none,none] mixed (by kernel_rfl) rfl (LX.m rfl<|aA (fun _ hJ=>bH (.r rfl)) rfl<|aA (fun _ hJ=>aE (r:=8) oX (.r rfl) rfl) rfl<|aA (fun _ hJ=>aB CQ (.r rfl) (fun _ hw=>aX (hJ _ hw) 10 rfl ⟨_,rfl⟩)) rfl<|LX.m rfl<|aA (fun _ hJ=>dy (dv (.r rfl) (.r rfl) (wi (by omega) (by omega))) (congrArg (bX .i64) (show((n+1:Nat):Int)-1=(n:Int) by omega))) rfl<|aA (fun _ hJ=>gp xz GA (fun _ hw=>(dE (hJ _ hw) 14 rfl).some (by rw[aq])) (.r rfl) (.r rfl) rfl (by rw[hyn];omega)) rfl<|aA (fun _ hJ=>aM (vs:=[_,_,_,_,_,_,_]) Gt (.r rfl) (fun w hw=>bq (off:=0) (gN (hJ _ hw) 14 rfl hyx1) ⟨_,rfl⟩) rfl) rfl<|LX.m rfl<|aA (fun _ hJ=>bH (.r rfl)) rfl<|aA (fun _ hJ=>aE (r:=8) oX (.r rfl) rfl) rfl<|aA (fun _ hJ=>aB CQ (.r rfl) (fun _ hw=>aX (hJ _ hw) 10 rfl ⟨_,rfl⟩)) rfl<|LX.m rfl<|aA (fun _ hJ=>gp xz GA (fun _ hw=>(dE (hJ _ hw) 14 rfl).some (by rw[aq])) (.r rfl) (.r rfl) rfl (by rw[hyn];omega)) rfl<|aA (fun _ hJ=>aM (vs:=[_,_,_,_,_,_,_]) Gt (.r rfl) (fun w hw=>bq (off:=0) (gN (hJ _ hw) 14 rfl hyx2) ⟨_,rfl⟩) rfl) rfl<|LX.m rfl<|aA (fun _ hJ=>bH (.r rfl)) rfl<|aA (fun _ hJ=>aE (r:=6) Va (.r rfl) rfl) rfl<|aA (fun _ hJ=>dy (aB O3 (.r rfl) (fun _ hw=>aX (hJ _ hw) 10 rfl ⟨_,rfl⟩)) (congrArg (bX .i64) hrc)) rfl<|cn<|cn<|dw) (au<|au<|au<|au<|au<|au<|au<|au<|au<|au<|au<|au<|au<|au<|au<|au<|au<|au<|au<|fQ rfl<|cz (xs:=[_,_,_]) (vs:=[_,_,_]) alP ⟨(.r rfl),(.r rfl),(.r rfl),trivial⟩ (fun w hw=>V8 h.g yP yN _ _ r w hg (hsp hw) (Ex.afl hw hyA 1 2 4 8 rfl rfl rfl rfl) v7 v7 (IN hyPa) (IN hyA) (by omega)) fun ev hev=>⟨gM (L1:=[_,_,_,_,_,_,_,_,_,_,_,_,_,_,_,_,_]) [3,4,5,6,7,8,9,10,11,12,13,14,15,16,17,18,19] rfl rfl rfl,fQ rfl<|aO (LO.as (.r rfl))<|⟨gM (L1:=[_,_,_,_,_,_,_,_,_,_,_,_,_,_,_,_,_]) [3,4,5,6,7,8,9,10,11,12,13,14,15,16,17,18,19] rfl rfl rfl,dS ?_⟩⟩)
        have hgd:=hev.I0
        have hell:=hgd.adV
        rw[aq]at hell
        have htot0:∀a,a<yP.l.length→∃k,of (n,a)=some k:=fun a ha=>hI.q.Mm n a (by omega) (by rw[hMl];exact ha) (.inr (.inl (by rw[hMs,Nat.add_sub_cancel,hMl];exact ha)))
        refine ag<|ak<|VC.q (VO.m rfl<|ah (bW xk (.r rfl) rfl) rfl<|VO.m rfl<|VO.n<|aG<|ik [13,14,15,16,0,1,2,3,4,5,6,7,8,9,10,11,12,17,18,19] rfl ?_)
        refine bY (α:=Nat×(List dA)×(Nat×Nat→Option Nat)×(Nat→Int)) 4 (fun gx=>[(94,.int .i64 (gx.1:Nat))]) [(0,_),(9,_),(10,_),(92,_),(93,_)] (fun gx=>[de b (.cells (C3 h time ⟨p13,(ys++[yN]).length,c13⟩ pt gx.2.1.length ct gx.2.2.2).toArray 345),own 204 6 pt ct (gx.2.1.map dA.cells),bS (gx.2.1.map dA.aR),kM M0 Ey h.bm (BF gx.2.2.1)]) (fun gx=>gx.1≤ev.l.length∧ChP n ((ev.l.map dZ).take gx.1) (tk.map dA.m) tk gx.2.1∧gx.2.2.1=wT n ((ev.l.map dZ).take gx.1) of∧gx.2.2.2=CY kd ((ev.l.map dZ).take gx.1)) (fun gx=>ev.l.length-gx.1) (0,tk,of,kd) (by exact⟨bG _,⟨(Z8 hb0.en).symm,rfl,rfl⟩,(Zg hb0).symm,rfl⟩) (.c4 rfl rfl rfl rfl (.cons rfl (.cons rfl .nil))) (fun _ h=>h) ?_
        rintro ⟨k,tkk,ofk,kdk⟩ ⟨hk,⟨hm,hpR,hcR⟩,hofk,hkdk⟩
        show VC _ _ _ _ _ ([(94,.int .i64 (k:Nat))]++_) ([de b (.cells (C3 h time ⟨p13,(ys++[yN]).length,c13⟩ pt tkk.length ct kdk).toArray 345),own 204 6 pt ct (tkk.map dA.cells),bS (tkk.map dA.aR),kM M0 Ey h.bm (BF ofk)]++_) _ _
        dsimp only at hk hm hpR hcR hofk hkdk
        subst hofk
        subst hkdk
        have htl:=Wi hm
        rw[aq]at htl
        refine VC.q (VO.t rfl<|VO.n<|ak<|ay rfl (fun h95=>?_) (fun h95=>?_))
        ·
         obtain⟨e,hek⟩:=gE (l:=ev.l) (n:=k) (by omega)
         have hem:=al hek
         have hemm:e.m∈ev.l.map dZ:=bE hem
         have hekm:(ev.l.map dZ)[k]? =some e.m:=by rw[aw,hek];rfl
         have hfsn:e.f.Nodup:=(hgd.fs _ hemm).1.imp fun z=>jH z
         have htot:∀a,a∈e.f→∃k,of (n,a)=some k:=fun a ha=>htot0 a ((hgd.fs _ hemm).2 a ha)
         have hlf:e.f.length≤yP.l.length:=(hgd.adW hemm).1
         refine aC (ag<|ak<|aG<|VC.q (ah (gp xk BD (fun _ hw=>(dE hw 4 rfl).some (by rw[aq])) (.r rfl) (.r rfl) rfl (by omega)) rfl<|ah (aM (vs:=[_,_,_]) Wp (.r rfl) (fun w hw=>bq (off:=0) (gN hw 4 rfl hek) ⟨_,rfl⟩) rfl) rfl<|aD rfl<|bI (C:=#[_,_,_]) MQ rfl fun b37=>bU<|bl 0 (vs:=[_,_,_]) (C':=[_,_,_]) (L':=[_,_,_,_,_,_,_,_,_,_,_,_,_,_,_,_,_,_,_,_,_]) BD rfl rfl rfl rfl rfl rfl rfl rfl<|VO.n<|aF (VO.m rfl<|VO.m rfl<|ah (aM (vs:=[_,_,_]) Wp (.r rfl) (ax 0 rfl ⟨_,rfl⟩) rfl) rfl<|aD rfl<|jh (first:=[]) (cap:=[]) (xs:=[_,_,_]) (vs:=[_,_,_]) [_,_,_,_] [_,_,_,_,_,_,_,_,_,_,_,_,_,_,_,_,_] (bM (L1:=[_,_,_,_]++[_,_,_,_,_,_,_,_,_,_,_,_,_,_,_,_,_]) [1,2,3,4,0,5,6,7,8,9,10,11,12,13,14,15,16,17,18,19,20] rfl rfl) (.r rfl) amV ⟨(.r rfl),(.r rfl),(.r rfl),trivial⟩ (fun w hw hh=>U0 b h time ⟨p13,(ys++[yN]).length,c13⟩ pt ct (CY kd ((ev.l.map dZ).take k)) tkk n ((ev.l.map dZ).take k) (tk.map dA.m) of e w hh ⟨hb0,hm,(hgd.kd _ hemm).1,hfsn,Zd hgd.apart hekm,htot,by omega,fun j=>by have z:=MS (es:=(ev.l.map dZ).take k) hkb j;have y:((ev.l.map dZ).take k).length≤k:=(by rw[dt];omega);omega,by omega⟩ (fun hs=>⟨RO.zW (E:=3) (z:=1) (P:=dQ.fp) (C:=dQ.fc) (X:=dQ.f) (f:=nC) (iB (l4 (R:=X3 b h time ⟨p13,(ys++[yN]).length,c13⟩ pt ct (CY kd ((ev.l.map dZ).take k)) tkk (wT n ((ev.l.map dZ).take k) of)) (rest:=[_,_,_,_,_,_,_,_,_,_,_,_,_,_,_,_,_]) (bM (L1:=[_,_,_,_,_,_,_,_,_,_,_,_,_,_,_,_,_,_,_,_,_]) [1,2,3,4,0,5,6,7,8,9,10,11,12,13,14,15,16,17,18,19,20] rfl rfl _ hw) hs)) 2 rfl hem,RO.zW (E:=3) (z:=1) (P:=dQ.tp) (C:=dQ.tc) (X:=dQ.t) (f:=nC) (iB (l4 (R:=X3 b h time ⟨p13,(ys++[yN]).length,c13⟩ pt ct (CY kd ((ev.l.map dZ).take k)) tkk (wT n ((ev.l.map dZ).take k) of)) (rest:=[_,_,_,_,_,_,_,_,_,_,_,_,_,_,_,_,_]) (bM (L1:=[_,_,_,_,_,_,_,_,_,_,_,_,_,_,_,_,_,_,_,_,_]) [1,2,3,4,0,5,6,7,8,9,10,11,12,13,14,15,16,17,18,19,20] rfl rfl _ hw) hs)) 3 rfl hem⟩) (RO.sm (RO.zW (E:=3) (z:=1) (P:=dQ.fp) (C:=dQ.fc) (X:=dQ.f) (f:=nC) (hw) 6 rfl hem)) (RO.sm (RO.zW (E:=3) (z:=1) (P:=dQ.tp) (C:=dQ.tc) (X:=dQ.t) (f:=nC) (hw) 7 rfl hem))) fun tk2 hc2=>aI ?_)))
         refine bB (ag<|aF (VO.p rfl rfl (by omega) (by omega) rfl<|VO.m rfl<|aI<|bn fun a w ha hw=>⟨(k+1,tk2,wT n ((ev.l.map dZ).take k++[e.m]) of,QT (CY kd ((ev.l.map dZ).take k)) e.kd.toNat),⟨by dsimp only;omega,by dsimp only;rw[Nz hek];exact⟨hc2.m,hc2.p.trans hpR,hc2.c.trans hcR⟩,congrArg (fun z=>wT n z of) (Nz hek).symm,((congrArg (CY kd) (Nz hek)).trans YL).symm⟩,(by dsimp only;omega),ha.sub (.c4 rfl rfl rfl rfl (.cons rfl (.cons rfl .nil))),hw.fO [0,1,2,3,5,6,7,8,9,10,11,12,13,14,15,16,17,18,19,20] rfl⟩))
        ·
         have hke:k=ev.l.length:=by omega
         subst hke
         rw[Uj]at hm ⊢
         have hch:=j6.change (m:=yN.l.length) hI hMs (by rw[hMl];exact hgd)
         rw[←hm]at hch
         have hBE:BiE (E++[ev.l.map dZ]) (Ms++[yN.l.length]) n yN.l.length ev.l tkk (wT n (ev.l.map dZ) of):=⟨by rw[aZ,hMs];rfl,by rw[←hMs];exact lJ,by have z:=hI.q.len;rw[hMs]at z;rw[←z];exact lJ,by rw[qX (by omega),hMl];exact hgd,hch,by omega,by omega⟩
         refine ca (aL (aL (cD (ag<|ak<|oH (L':=[_,_,_,_,_,_,_,_,_,_,_,_,_,_,_,_,_,_,bS (tkk.map dA.pR),bS (tkk.map dA.cR)]) (fun w hw=>by rw[hpR,hcR];exact hw)<|aF (VO.m rfl<|VO.m rfl<|VO.m rfl<|aD rfl<|jh (first:=[]) (cap:=[]) (xs:=[_,_,_]) (vs:=[_,_,_]) [_,_,_,_,_,_,_] [_,_,_,_,_,_,_,_,_,_,_,_,_] (bM (L1:=[_,_,_,_,_,_,_]++[_,_,_,_,_,_,_,_,_,_,_,_,_]) [0,1,2,3,17,18,19,4,5,6,7,8,9,10,11,12,13,14,15,16] rfl rfl) (.r rfl) ahj ⟨(.r rfl),(.r rfl),(.r rfl),trivial⟩ (fun w hw hh=>RW b h time p13 c13 (ys++[yN]) pt ct (CY kd (ev.l.map dZ)) tkk (wT n (ev.l.map dZ) of) (E++[ev.l.map dZ]) (Ms++[yN.l.length]) n yN.l.length ev.l ev.p ev.c yN hyN2 rfl w hh (by omega) (by rw[qX (by omega),hMl];omega) hBE (fun hs=>⟨RO.kg (iB (l4 (R:=yi b h time p13 c13 (ys++[yN]) pt ct (CY kd (ev.l.map dZ)) tkk (wT n (ev.l.map dZ) of)) (rest:=[_,_,_,_,_,_,_,_,_,_,_,_,_]) (bM (L1:=[_,_,_,_,_,_,_,_,_,_,_,_,_,_,_,_,_,_,_,_]) [0,1,2,3,17,18,19,4,5,6,7,8,9,10,11,12,13,14,15,16] rfl rfl _ hw) hs)) 0 rfl,fun e he=>⟨RO.zW (E:=3) (z:=1) (P:=dQ.fp) (C:=dQ.fc) (X:=dQ.f) (f:=nC) (iB (l4 (R:=yi b h time p13 c13 (ys++[yN]) pt ct (CY kd (ev.l.map dZ)) tkk (wT n (ev.l.map dZ) of)) (rest:=[_,_,_,_,_,_,_,_,_,_,_,_,_]) (bM (L1:=[_,_,_,_,_,_,_,_,_,_,_,_,_,_,_,_,_,_,_,_]) [0,1,2,3,17,18,19,4,5,6,7,8,9,10,11,12,13,14,15,16] rfl rfl _ hw) hs)) 1 rfl he,RO.zW (E:=3) (z:=1) (P:=dQ.tp) (C:=dQ.tc) (X:=dQ.t) (f:=nC) (iB (l4 (R:=yi b h time p13 c13 (ys++[yN]) pt ct (CY kd (ev.l.map dZ)) tkk (wT n (ev.l.map dZ) of)) (rest:=[_,_,_,_,_,_,_,_,_,_,_,_,_]) (bM (L1:=[_,_,_,_,_,_,_,_,_,_,_,_,_,_,_,_,_,_,_,_]) [0,1,2,3,17,18,19,4,5,6,7,8,9,10,11,12,13,14,15,16] rfl rfl _ hw) hs)) 2 rfl he⟩⟩)) fun y hy=>VO.n<|VC.q (VO.m rfl<|VO.a rfl<|VO.a rfl<|aI ?_))))))
         refine ag<|aP (dh (vs:=[_,_]) rfl ⟨rfl,rfl,trivial⟩ (fun w hw=>?_))
         exact⟨⟨yN,ev,p13,c13,y.pt,y.ct,CY kd (ev.l.map dZ),y.tk,y.of⟩,⟨hyA,hev,by rw[←hm];exact hy.1,by have z:=hy.2;rw[htl]at z;exact z,rfl⟩,rfl,bM [0,1,2,3,4,5,6,11,12,13,14,15,16,17,18,7,8,9] rfl rfl _ hw⟩
       · (exfalso;omega)
theorem C71:ef ae 71:=⟨_,Tryz.func71,by decide,rfl⟩
theorem V9:bV ae 204 4 4:=⟨_,_,k7,rfl,rfl,0,by kernel_rfl⟩
theorem NA:jX ae 204 6:=⟨⟨_,k7,rfl⟩,by kernel_rfl⟩
theorem akM:ef ae 137:=⟨_,Tryz.func137,by decide,rfl⟩
structure ClY where
 ap:Option Addr
 ac:Nat
 pp:Option Addr
 pc:Nat
 cp:Option Addr
 cc:Nat
def dA.put (t:dA) (y:ClY):dA:={ t with ap:=y.ap,ac:=y.ac,pp:=y.pp,pc:=y.pc,cp:=y.cp,cc:=y.cc }
structure TkI (w:World) (t:dA):Prop where
 a:RO 1 nC w t.ap t.ar
 p:RO 1 nC w t.pp t.pa
 c:RO 1 nC w t.cp t.ch
theorem TkI.keep {w0:World} {t:dA} {L:List cq} (h:TkI w0 t):∀w,St (bs w0) L w→TkI w t:=fun w hw=>⟨h.a.keep w hw,h.p.keep w hw,h.c.keep w hw⟩
structure TkB (t:dA):Prop where
 a:t.ar.length≤1000000000
 p:t.pa.length≤1000000000
 c:t.ch.length≤1000000000
abbrev tkV (t:dA):Value:=.agg #[.int .i64 t.bg,.int .i64 (t.fr:Int),.slice t.ap t.ar.length t.ac,.int .i64 t.en,.slice t.pp t.pa.length t.pc,.slice t.cp t.ch.length t.cc]
structure RY where
 tk:List dA
 p:Option Addr
 c:Nat
def RY.R (y:RY):List cq:=[own 204 6 y.p y.c (y.tk.map dA.cells),bS (y.tk.map dA.aR),bS (y.tk.map dA.pR),bS (y.tk.map dA.cR)]
theorem ZY {l:List dA} {k:Nat} {t:dA} (h:l[k]? =some t):(l.map dA.m).take (k+1)=(l.map dA.m).take k++[t.m]:=by
 have h2:(l.map dA.m)[k]? =some t.m:=by rw[aw,h];rfl
 obtain⟨hk,e2⟩:=aj.1 h2
 rw[cT hk,e2]
theorem Ri {l:List dA}:(l.map dA.m).take l.length=l.map dA.m:=by have h:(l.map dA.m).take (l.map dA.m).length=l.map dA.m:=du;rwa [aq]at h
theorem afk {α:Type} {z:Nat} {f:α→List Value} {w:World} {p:Option Addr} {l:List α} (h:RO z f w p l) (hp:p=none):l=[]:=by
 have h1:=h.sm
 subst hp
 cases l with
 |nil=>rfl
 |cons a l=>have:=h1 (by simp);cases this
theorem G1 (l:List Nat) (p:Option Addr) (c:Nat) (w:World) (hl:RO 1 nC w p l) (hln:l.length≤1000000000):
 Calls ae 71 #[.slice p l.length c] w fun e w'=>∃y:SlY,True∧e= .returned (.slice y.p l.length y.c)∧St (bs w) [own 3 1 y.p y.c (l.map nC)] w':=by
 refine enter (vs:=[_]) (env:=[(0,_)]) Tryz.func71 rfl rfl rfl rfl ?_
 refine VC.q (VO.a rfl<|VO.n<|ak<|VC.q (VO.m rfl<|ah (LO.alF ei (.r rfl) (.r rfl)) rfl<|VO.n ?_))
 refine ay rfl (fun h4=>?_) (fun h4=>?_)
 ·
  have hp:p=none:=by simpa using h4
  have hl0:l=[]:=afk hl hp
  subst hl0
  refine VC.q (VO.a rfl<|VO.n<|aP (a8 (VE.s rfl rfl (fun w hw=>?_))))
  exact⟨⟨none,0⟩,trivial,rfl,hw.fX 3 1⟩
 ·
  refine aC (ag<|VC.q (aD rfl<|HO.bs0 ei N3 fun b1=>VO.m rfl<|aD rfl<|HO.VV (f:=nC) (m:=l) 0 (fun R=>[R]) ei ei I3 (.r rfl) (.r rfl) rfl (fun w hw=>hl.keep w hw) (fun _=>rfl) (fun _=>rfl) rfl rfl (fun _=>rfl) rfl (by omega) fun p2 c2 _=>aD rfl<|aO (LO.as (.r rfl))<|VO.n<|aP (VE.s rfl rfl (fun w hw=>?_))))
  exact⟨⟨p2,c2⟩,trivial,rfl,bM [0] rfl rfl _ hw⟩
theorem Tw (t:dA) (w:World) (ht:TkI w t) (hb:TkB t):
 Calls ae 137 #[tkV t] w fun e w'=>∃y:ClY,True∧e= .returned (tkV (t.put y))∧St (bs w) [dA.aR (t.put y),dA.pR (t.put y),dA.cR (t.put y)] w':=by
 refine enter (vs:=[_]) (env:=[(0,_)]) Tryz.func137 rfl rfl rfl rfl ?_
 refine VC.q (aD rfl<|cf (C:=#[_,_,_,_,_,_]) rfl rfl fun b1=>aD rfl<|bI (C:=#[_,_,_,_,_,_]) Ic rfl fun b2=>VO.n<|ak<|cP [[0,1],[0,1],[0,1],[0,1],[0],[0],[0]] [some 0,some 0,none,some 1,some 1,none,some 2,some 2,none,some 3,none,some 4,none,some 5,none] mixed (by kernel_rfl) rfl (aA (fun _ hJ=>aE (r:=2) xv (.r rfl) rfl) rfl<|aA (fun _ hJ=>aB ij (.r rfl) (fun _ hw=>aX (hJ _ hw) 1 rfl ⟨_,rfl⟩)) rfl<|cn<|aA (fun _ hJ=>aE (r:=4) V9 (.r rfl) rfl) rfl<|aA (fun _ hJ=>aB ij (.r rfl) (fun _ hw=>aX (hJ _ hw) 1 rfl ⟨_,rfl⟩)) rfl<|cn<|aA (fun _ hJ=>aE (r:=5) GO (.r rfl) rfl) rfl<|aA (fun _ hJ=>aB ij (.r rfl) (fun _ hw=>aX (hJ _ hw) 1 rfl ⟨_,rfl⟩)) rfl<|cn<|aA (fun _ hJ=>aE (r:=2) xv (.r rfl) rfl) rfl<|cn<|aA (fun _ hJ=>aE (r:=4) V9 (.r rfl) rfl) rfl<|cn<|aA (fun _ hJ=>aE (r:=5) GO (.r rfl) rfl) rfl<|cn<|dw) (au<|au<|fQ rfl<|cz (xs:=[_]) (vs:=[_]) C71 ⟨(.r rfl),trivial⟩ (fun w2 hw=>G1 t.ar t.ap t.ac w2 (ht.keep w2 hw).a hb.a) fun ya _=>⟨fun _ hw=>hw.fO [1,2] rfl,au<|au<|fQ rfl<|cz (xs:=[_]) (vs:=[_]) C71 ⟨(.r rfl),trivial⟩ (fun w2 hw=>G1 t.pa t.pp t.pc w2 (ht.keep w2 hw).p hb.p) fun yp _=>⟨fun _ hw=>hw.fO [2,3] rfl,au<|au<|fQ rfl<|cz (xs:=[_]) (vs:=[_]) C71 ⟨(.r rfl),trivial⟩ (fun w2 hw=>G1 t.ch t.cp t.cc w2 (ht.keep w2 hw).c hb.c) fun yc _=>⟨fun _ hw=>hw.fO [3,4] rfl,au<|eW<|bl 4 (vs:=[_]) (C':=[_,_,_,_,_,_]) (L':=[_,_,_,_,_]) qo rfl rfl rfl rfl rfl rfl rfl rfl<|⟨fun _ hw=>hw.fO [3] rfl,au<|eW<|bl 4 (vs:=[_]) (C':=[_,_,_,_,_,_]) (L':=[_,_,_,_,_]) qo rfl rfl rfl rfl rfl rfl rfl rfl<|⟨fun _ hw=>hw.fO [3] rfl,au<|eW<|bl 4 (vs:=[_]) (C':=[_,_,_,_,_,_]) (L':=[_,_,_,_,_]) qo rfl rfl rfl rfl rfl rfl rfl rfl<|⟨fun _ hw=>hw.fO [3] rfl,dS ?_⟩⟩⟩⟩⟩⟩))
 refine ag<|VC.q (ah (aM (vs:=[_,_,_,_,_,_]) NA (.r rfl) (ax 4 rfl ⟨_,rfl⟩) rfl) rfl<|bU<|bl 3 (vs:=[_,_,_,_,_,_]) (C':=[_,_,_,_,_,_]) (L':=[_,_,_,_,_]) wH rfl rfl rfl rfl rfl rfl rfl rfl<|VO.n<|aP (dh (vs:=[_]) rfl ⟨RV.agg (vs:=[_,_,_,_,_,_]) NA rfl (ax 3 rfl ⟨_,rfl⟩) rfl,trivial⟩ (fun w hw=>?_)))
 exact⟨⟨ya.p,ya.c,yp.p,yp.c,yc.p,yc.c⟩,trivial,rfl,bM [2,1,0] rfl rfl _ hw⟩
theorem RM (b:Nat) (h:qt) (la:Int) (q:RL) (pt:Option Addr) (ct:Nat) (kd:Nat→Int) (tk:List dA) (w:World) (hb:fk w ⟨b,0,none⟩ (C3 h la q pt tk.length ct kd)) (htk:RO 6 dA.cells w pt tk) (hti:∀t,t∈tk→TkI w t) (htb:∀t,t∈tk→TkB t) (hl:tk.length≤1000000):
 Calls ae 64 #[.pointer (some ⟨b,0,none⟩)] w fun e w'=>∃y:RY,y.tk.map dA.m=tk.map dA.m∧e= .returned (.slice y.p y.tk.length y.c)∧St (bs w) y.R w':=by
 refine enter (vs:=[_]) (env:=[(0,_)]) Tryz.func64 rfl rfl rfl rfl ?_
 refine VC.q (VO.a rfl<|VO.n<|ak<|VC.q (VO.m rfl<|ah (bD (xs:=[_]) (vs:=[_]) MF ⟨(.r rfl),trivial⟩ (fun w2 hw=>tD b h la q pt tk.length ct kd w2 (aW hb w2 hw))) rfl<|ah (LO.not (.r rfl)) rfl<|VO.n ?_))
 refine ay rfl (fun h8=>?_) (fun h8=>?_)
 · (exfalso;exact h8 rfl)
 ·
  refine aC (ag<|VC.q (VO.a rfl<|VO.n<|ak<|VC.q (VO.m rfl<|ah (bH (.r rfl)) rfl<|VO.f (r:=9) qq rfl<|ah (aB Dl (.r rfl) (aW (aU (off:=9) hb ⟨_,rfl⟩))) rfl<|ah (bW tv (.r rfl) rfl) rfl<|VO.m rfl<|aI ?_)))
  refine ag<|aG<|bY (α:=Nat×(List dA)×(Option Addr)×Nat) 0 (fun gx=>[(3,.slice gx.2.2.1 gx.2.1.length gx.2.2.2),(14,.int .i64 (gx.1:Nat))]) [(12,_),(13,_)] (fun gx=>[own 204 6 gx.2.2.1 gx.2.2.2 (gx.2.1.map dA.cells),bS (gx.2.1.map dA.aR),bS (gx.2.1.map dA.pR),bS (gx.2.1.map dA.cR)]) (fun gx=>gx.1≤tk.length∧gx.2.1.map dA.m=(tk.map dA.m).take gx.1) (fun gx=>tk.length-gx.1) (0,[],none,0) (by exact⟨bG _,rfl⟩) (.c4 rfl rfl rfl rfl .nil) (fun _ h=>((fH (Rs:=[]) (fH (Rs:=[]) (fH (Rs:=[]) h))).fX 204 6)) ?_
  rintro ⟨k,tr,po,co⟩ ⟨hk,hm⟩
  show VC _ _ _ _ _ ([(3,.slice po tr.length co),(14,.int .i64 (k:Nat))]++_) ([own 204 6 po co (tr.map dA.cells),bS (tr.map dA.aR),bS (tr.map dA.pR),bS (tr.map dA.cR)]++_) _ _
  dsimp only at hk hm
  have htl:tr.length≤k:=by have z:=congrArg fT hm;rw[aq,dt]at z;omega
  refine VC.q (VO.t rfl<|VO.n<|ak<|ay rfl (fun h15=>?_) (fun h15=>?_))
  ·
   obtain⟨t,hkt⟩:=gE (l:=tk) (n:=k) (by omega)
   refine aC (ag<|ak<|aG<|VC.q (ah (cw tv wH htk.sm (.r rfl) (.r rfl) rfl (by omega)) rfl<|ah (aM (vs:=[_,_,_,_,_,_]) NA (.r rfl) (fun w hw=>bq (off:=0) ((fun w3 h3=>gB (htk.keep w3 h3) hkt) w hw) ⟨_,rfl⟩) rfl) rfl<|aD rfl<|bI (C:=#[_,_,_,_,_,_]) Ic rfl fun b5=>bU<|bl 0 (vs:=[_,_,_,_,_,_]) (C':=[_,_,_,_,_,_]) (L':=[_,_,_,_,_]) wH rfl rfl rfl rfl rfl rfl rfl rfl<|VO.n<|aF (VO.m rfl<|ah (aM (vs:=[_,_,_,_,_,_]) NA (.r rfl) (ax 0 rfl ⟨_,rfl⟩) rfl) rfl<|aD rfl<|cz (xs:=[_]) (vs:=[_]) akM ⟨(.r rfl),trivial⟩ (fun w hw=>Tw t w ((hti t (al hkt)).keep w hw) (htb t (al hkt))) fun y _=>aD rfl<|fu (ps:=[(_,_)]) (vs:=[(_,_)]) (Z:=[_,_,_,_,_,_]) (C:=[_,_,_,_,_,_]) tv Ic wH ⟨(.r rfl),trivial⟩ rfl rfl rfl rfl ⟨_,[_,_,_,_,_,_],[_,_,_,_,_,_],rfl,rfl,rfl,rfl,rfl⟩ fun b10=>aD rfl<|dM ((t.put y)) 5 0 (fun R=>[_,_,_,_,_,R,_,_,_]) tv tv agD (.r rfl) (.r rfl) rfl rfl rfl rfl rfl rfl rfl (fun _=>rfl) rfl (by omega) fun p4 c4=>aD rfl<|aO (LO.as (.r rfl))<|aI ?_)))
   refine bB (ag<|aF (VO.p rfl rfl (by omega) (by omega) rfl<|VO.m rfl<|aI<|bn fun a w ha hw=>⟨(k+1,tr++[t.put y],p4,c4),⟨by dsimp only;omega,by dsimp only;rw[bj,hm,ZY hkt];rfl⟩,(by dsimp only;omega),ha.sub (.c4 rfl rfl rfl rfl .nil),(by dsimp only;rw[bj (f:=dA.aR),bj (f:=dA.pR),bj (f:=dA.cR)];exact bM (L1:=[_,_,_,_]) [5,2,1,0] rfl rfl _ (St.nq (r:=dA.cR (t.put y)) (Rs:=tr.map dA.cR) (bM (L1:=dA.cR (t.put y)::bS (tr.map dA.cR)::[_,_,_,_,_]) [3,6,0,1,2,4,5] rfl rfl _ (St.nq (r:=dA.pR (t.put y)) (Rs:=tr.map dA.pR) (bM (L1:=dA.pR (t.put y)::bS (tr.map dA.pR)::[_,_,_,_,_,_]) [2,6,0,1,3,4,5,7] rfl rfl _ (St.nq (r:=dA.aR (t.put y)) (Rs:=tr.map dA.aR) (bM (L1:=dA.aR (t.put y)::bS (tr.map dA.aR)::[_,_,_,_,_,_,_]) [1,6,0,2,3,4,5,7,8] rfl rfl _ (hw))))))))⟩))
  ·
   refine ca (aL (aL (cD (ag<|VC.q (VO.m rfl<|VO.a rfl<|VO.n<|aP (VE.s rfl rfl (fun w hw=>?_)))))))
   have hke:k=tk.length:=by omega
   subst hke
   rw[Ri]at hm
   exact⟨⟨tr,po,co⟩,hm,rfl,bM [0,1,2,3] rfl rfl _ hw⟩
theorem ai9 (b:Nat) (h:qt) (la:Int) (q:RL) (pt:Option Addr) (ct:Nat) (kd:Nat→Int) (tk:List dA) (w:World) (hb:fk w ⟨b,0,none⟩ (C3 h la q pt tk.length ct kd)) (of:Nat×Nat→Option Nat) (ho:(kM M0 Ey h.bm (BF of)).inv w) (n m:Int):
 Calls ae 65 #[.pointer (some ⟨b,0,none⟩),.int .i64 n,.int .i64 m] w fun e w'=>e= .returned (.tuple #[.int .i64 (((BF of (n,m)).getD 0:Nat):Int),.int .i64 (if(BF of (n,m)).isSome=true then 0 else 4)])∧St (bs w) [] w':=by
 refine enter (vs:=[_,_,_]) (env:=[(0,_),(1,_),(2,_)]) Tryz.func65 rfl rfl rfl rfl ?_
 refine VC.q (VO.a rfl<|VO.a rfl<|VO.n<|ak<|VC.q (VO.m rfl<|ah (bD (xs:=[_]) (vs:=[_]) MF ⟨(.r rfl),trivial⟩ (fun w2 hw=>tD b h la q pt tk.length ct kd w2 (aW hb w2 hw))) rfl<|ah (LO.not (.r rfl)) rfl<|VO.n ?_))
 refine ay rfl (fun h12=>?_) (fun h12=>?_)
 · (exfalso;exact h12 rfl)
 ·
  refine aC (ag<|VC.q (VO.m rfl<|ah (bH (.r rfl)) rfl<|VO.f (r:=10) xp rfl<|ah (aB L4 (.r rfl) (aW (aU (off:=10) hb ⟨_,rfl⟩))) rfl<|VO.m rfl<|VO.m rfl<|ah (dC (ps:=[(_,_),(_,_)]) (vs:=[(_,_),(_,_)]) (C:=[_,_]) Nr ⟨(.r rfl),(.r rfl),trivial⟩ rfl ⟨_,[_],[_,_],rfl,rfl,rfl,rfl,⟨_,[_],[_,_],rfl,rfl,rfl,rfl,rfl⟩⟩) rfl<|ah (LO.lkG (n:=(n,m)) Ru (.r rfl) (.r rfl) (sQ ho)) rfl<|VO.m rfl<|ah (LO.ex (.r rfl) rfl) rfl<|ah (LO.ex (.r rfl) rfl) rfl<|VO.a rfl<|VO.a rfl<|VO.n<|ak<|VC.q (VO.m rfl<|ah (LO.not (.r rfl)) rfl<|aI ?_)))
  refine ag<|ay rfl (fun h25=>?_) (fun h25=>?_)
  ·
   refine VC.q (VO.a rfl<|VO.a rfl<|VO.n<|aP (a8 (dh (vs:=[_,_]) rfl ⟨rfl,rfl,trivial⟩ (fun w hw=>?_))))
   refine⟨?_,hw.nil⟩
   first |(have hz:BF of (n,m)=none:=by simpa using h25);rw[hz];rfl|(have hz:(BF of (n,m)).isSome=true:=ug.2 (by simpa using h25));rw[if_pos hz];rfl
  ·
   refine aC (ag<|VC.q (VO.m rfl<|VO.a rfl<|VO.a rfl<|VO.n<|aP (dh (vs:=[_,_]) rfl ⟨rfl,rfl,trivial⟩ (fun w hw=>?_))))
   refine⟨?_,hw.nil⟩
   first |(have hz:BF of (n,m)=none:=by simpa using h25);rw[hz];rfl|(have hz:(BF of (n,m)).isSome=true:=ug.2 (by simpa using h25));rw[if_pos hz];rfl
theorem air:ef ae 138:=⟨_,Tryz.func138,by decide,rfl⟩
theorem B88:ed ae 88 [(0,1),(1,1),(2,1),(3,1),(4,1)] [.int .i64 0,.int .i64 0,.int .i64 0,.int .i64 0,.int .i64 0]:=ju fun _=>by kernel_rfl
theorem am8:ed ae 108 [(0,5),(5,1)] [.int .i64 0,.int .i64 0,.int .i64 0,.int .i64 0,.int .i64 0,.slice none 0 0]:=ju fun _=>by kernel_rfl
theorem ZI:jW ae 25 2 16 (.agg #[.int .i64 0,.int .i64 0]):=⟨by kernel_rfl,by kernel_rfl,by unfold cj;kernel_rfl,rfl,by decide⟩
theorem XZ:(ae.info? 45).map (·.size)=some 1:=by kernel_rfl
theorem C43:ef ae 43:=⟨_,Tryz.func43,by decide,rfl⟩
theorem agu:Iy ae 210 2:=⟨⟨_,Tryz.underlying210,rfl⟩,by kernel_rfl,by kernel_rfl⟩
theorem C62:ef ae 62:=⟨_,Tryz.func62,by decide,rfl⟩
theorem C63:ef ae 63:=⟨_,xV,by decide,rfl⟩
theorem C64:ef ae 64:=⟨_,Tryz.func64,by decide,rfl⟩
def BI (a b:Int):Int:=if a<b then-1 else if b<a then 1 else 0
theorem VH {a b:Int}:BI a b<0↔a<b:=by
  unfold BI;split; · omega
  ·split<;>omega
theorem Ui {a b:Int}:0<BI a b↔b<a:=by
  unfold BI;split; · omega
  ·split<;>omega
def Bb (f:Mv→Int) (l:List Mv):Int:=match l with|[]=>0|m::_=>f m
def Di (f:Mv→Int) (l:List Mv) (k:Nat):Int:=(l.take k).foldl (fun a m=>min a (f m)) (Bb f l)
def Ct (f:Mv→Int) (l:List Mv) (k:Nat):Int:=(l.take k).foldl (fun a m=>max a (f m)) (Bb f l)
def FN (f:Mv→Int) (l:List Mv):Int:=Di f l l.length
def FY (f:Mv→Int) (l:List Mv):Int:=Ct f l l.length
theorem Rp {f:Mv→Int} {l:List Mv} {k:Nat} {m:Mv} (h:l[k]? =some m):Di f l (k+1)=min (Di f l k) (f m):=by
 obtain⟨hk,rfl⟩:=aj.1 h
 unfold Di;rw[cT hk,kB];rfl
theorem Q5 {f:Mv→Int} {l:List Mv} {k:Nat} {m:Mv} (h:l[k]? =some m):Ct f l (k+1)=max (Ct f l k) (f m):=by
 obtain⟨hk,rfl⟩:=aj.1 h
 unfold Ct;rw[cT hk,kB];rfl
theorem JA {f:Mv→Int} {l:List Mv} {m:Mv} (h:l[0]? =some m):Bb f l=f m:=by cases l with|nil=>cases h|cons a l=>cases h;rfl
theorem B8 {f:Mv→Int} {l:List Mv}:∀{k:Nat},k≤l.length→(∀i m,i<k→l[i]? =some m→Di f l k≤f m)∧Di f l k≤Bb f l∧((∃m,m∈l∧Di f l k=f m)∨Di f l k=Bb f l)
 |0,_=>⟨fun i m h=>absurd h (Nat.not_lt_zero _),Int.le_refl _,.inr rfl⟩
 |k+1,hk=>by
  obtain⟨h1,h2,h3⟩:=B8 (f:=f) (l:=l) (k:=k) (by omega)
  obtain⟨m,hm⟩:=gE (l:=l) (n:=k) (by omega)
  rw[Rp hm]
  refine⟨fun i x hi hx=>?_,by omega,?_⟩
  ·rcases fV.1 hi with q|rfl
   ·have:=h1 i x q hx;omega
   ·rw[hm]at hx;cases hx;omega
  ·by_cases q:f m<Di f l k
   ·exact .inl ⟨m,al hm,by omega⟩
   ·rw[show min (Di f l k) (f m)=Di f l k by omega];exact h3
theorem Cc {f:Mv→Int} {l:List Mv}:∀{k:Nat},k≤l.length→(∀i m,i<k→l[i]? =some m→f m≤Ct f l k)∧Bb f l≤Ct f l k∧((∃m,m∈l∧Ct f l k=f m)∨Ct f l k=Bb f l)
 |0,_=>⟨fun i m h=>absurd h (Nat.not_lt_zero _),Int.le_refl _,.inr rfl⟩
 |k+1,hk=>by
  obtain⟨h1,h2,h3⟩:=Cc (f:=f) (l:=l) (k:=k) (by omega)
  obtain⟨m,hm⟩:=gE (l:=l) (n:=k) (by omega)
  rw[Q5 hm]
  refine⟨fun i x hi hx=>?_,by omega,?_⟩
  ·rcases fV.1 hi with q|rfl
   ·have:=h1 i x q hx;omega
   ·rw[hm]at hx;cases hx;omega
  ·by_cases q:Ct f l k<f m
   ·exact .inl ⟨m,al hm,by omega⟩
   ·rw[show max (Ct f l k) (f m)=Ct f l k by omega];exact h3
theorem abV {f:Mv→Int} {l:List Mv} {m:Mv} (hm:m∈l) (h:∀i x,i<l.length→l[i]? =some x→f m≤f x):f m=FN f l:=by
 obtain⟨h1,h2,h3⟩:=B8 (f:=f) (l:=l) (bA _)
 obtain⟨i,hi,e⟩:=cC.1 hm
 have a:=h1 i m hi (by rw[af hi,e])
 unfold FN
 rcases h3 with⟨x,hx,e2⟩|e2
 ·obtain⟨j,hj,e3⟩:=cC.1 hx
  have:=h j x hj (by rw[af hj,e3]);omega
 ·obtain⟨x,hx⟩:=gE (l:=l) (n:=0) (by omega)
  have:=h 0 x (by omega) hx
  rw[JA hx]at e2;omega
theorem abm {f:Mv→Int} {l:List Mv} {m:Mv} (hm:m∈l) (h:∀i x,i<l.length→l[i]? =some x→f x≤f m):f m=FY f l:=by
 obtain⟨h1,h2,h3⟩:=Cc (f:=f) (l:=l) (bA _)
 obtain⟨i,hi,e⟩:=cC.1 hm
 have a:=h1 i m hi (by rw[af hi,e])
 unfold FY
 rcases h3 with⟨x,hx,e2⟩|e2
 ·obtain⟨j,hj,e3⟩:=cC.1 hx
  have:=h j x hj (by rw[af hj,e3]);omega
 ·obtain⟨x,hx⟩:=gE (l:=l) (n:=0) (by omega)
  have:=h 0 x (by omega) hx
  rw[JA hx]at e2;omega
abbrev Xg (m:Mv):Value:=.agg #[.int .i64 m.x,.int .i64 m.y]
theorem Hc {P:Nat→Mv→Prop} {l:List Mv} {i:Nat} {x:Mv} (h:∀k y,k<i→l[k]? =some y→P k y) (hx:l[i]? =some x) (hp:P i x):∀k y,k<i+1→l[k]? =some y→P k y:=fun k y hk hy=>by
 rcases fV.1 hk with q|rfl
 ·exact h k y q hy
 ·rw[hx]at hy;cases hy;exact hp
theorem aa4 {P:Nat→Mv→Prop} {l:List Mv} {x:Mv} (hx:l[0]? =some x) (hp:P 0 x):∀k y,k<1→l[k]? =some y→P k y:=fun k y hk hy=>by
 have hk:k=0:=by omega
 subst hk
 rw[hx]at hy;cases hy;exact hp
def IH (l:List Mv):Int:=if l=[]then 18 else 0
abbrev Vu (l:List Mv):Value:=.tuple #[.agg #[.int .i64 (FN Mv.x l),.int .i64 (FY Mv.x l)],.agg #[.int .i64 (FN Mv.y l),.int .i64 (FY Mv.y l)],.int .i64 (IH l)]
theorem Vt {l:List Mv} (h:(l.length:Int)=0):l=[]:=List.length_eq_zero_iff.1 (by omega)
theorem UR {l:List Mv} (h:¬(l.length:Int)=0):IH l=0:=by unfold IH;rw[if_neg (fun e=>h (by rw[e];rfl))]
abbrev uC (n:Nat):List Value:=[.int .u8 (n:Int)]
def vAt (l:List Nat) (m i:Nat):Nat:=if 0<l.length then l.getD (i%l.length) 0%m else 0
theorem x9 {n m:Nat}:((n:Int)).tmod (m:Int)=((n%m:Nat):Int):=rfl
theorem Px {l:List Nat} {m i n:Nat} (hn:l[i%l.length]? =some n):vAt l m i=n%m:=by
 have h:0<l.length:=by have:=(aj.1 hn).1;omega
 unfold vAt;rw[if_pos h,List.getD_eq_getElem?_getD,hn];rfl
theorem Pl {l:List Nat} {m i:Nat} (h:¬(0:Int)<(l.length:Int)):vAt l m i=0:=by unfold vAt;rw[if_neg (by omega)]
theorem cv8 {n:Nat} (h:n≤255):IntKind.wrap .i64 ((n:Nat):Int)=((n:Nat):Int):=wi (by omega) (by omega)
end Go.Proofs.YtffbohecdocajaaGreat
