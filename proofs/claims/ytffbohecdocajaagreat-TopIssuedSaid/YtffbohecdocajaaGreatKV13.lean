/-
  Notes, and what is refused.
  (and more)
-/
import Derived.Test.YtffbohecdocajaaGreatKV12
import Derived.Test.YtffbohecdocajaaGreatChecked
open Go.Proofs.Tryz renaming prog→ae,underlying250→jP,underlying117→jQ,underlying241→k9,underlying376→zF,underlying3→cM,underlying84→iU,underlying31→te,underlying86→np
open Classical renaming not_not→cL
open Go.Proofs.YtffbohecdocajaaGreat.Span renaming cells→jA,mk→od
open Go.SL.VC renaming seq→ak,cond→ay,ret→aP,skip→aC,block→aG,draw→eH,gu→cP,eP→bY,dU→aF,exit→ca,perm→ik
open Go.SL.VO renaming l→ah,h→aD,nil→aI,h0→bU
open Go.SL.VE renaming aN→ag,gL→bB,cX→bn,cb→aL,l8→cD,res→dh
open Go.SL.HO renaming lo→aO,box→cf,st→bl,bs→fu,kT→dM,alloc→bI
open Go.Proofs.YtffbohecdocajaaGreat.pD renaming nt→AU
open Go.SL.LO renaming call→bD,nc→bH,len→bW,fg→aM,fa→aE,ld→aB,bd→dC,lA→cw,mv→bJ,qh→dO,ex→bN,pE→dJ,eq→fN,lt→lL,lk2→Cl,sub→dv,mul→gG
open Go.SL.LL renaming l→aV,nil→ft
open Go.SL.LX renaming l→aA,s→cn,nil→dw
open Go.SL.HX renaming s→au,h0→eW,nil→dS
open List renaming flatMap_append→l6,filter_append→dI,map_append→bj,take_add_one→cQ,length_append→aZ,mem_append→bZ,getElem?_eq_getElem→af,mem_of_getElem?→al,getElem?_map→aw,take_of_length_le→dK,length_map→aq,length_take→dt,mem_flatMap→BY,mem_singleton→bT,append_nil→c9,mem_iff_getElem?→cV,getElem?_eq_some_iff→aj,getElem_mem→fv,getD_eq_getElem?_getD→av,range→br,getElem?_range→eu,getElem?_eq_none→aH,mem_map_of_mem→bE,countP_cons→ux,countP_nil→Ee,any_eq_true→eG,range_succ→fA
open Nat renaming zero_le→bG,le_refl→bA
open Go.SL.Rows renaming keep→DJ
open Bool renaming eq_false_iff→kC,and_eq_true→aQ
open Go.SL.St renaming inv→dL
open Go.SL.RV renaming agg→iA
open Go.Proofs.YtffbohecdocajaaGreat.FQ renaming cells→wv
open Int renaming natCast_mul→dB,le_refl→dx
open Go.Proofs.YtffbohecdocajaaGreat.LO renaming eqv→dy
open Go.Value renaming int→bX

set_option linter.unusedSimpArgs false
set_option maxRecDepth 20000
set_option maxHeartbeats 8000000
namespace Go.Proofs.YtffbohecdocajaaGreat
open Go.SL Go.Proofs Go.qO
set_option linter.unusedVariables false
theorem C80:ef ae 80:=⟨_,Tryz.func80,by decide,rfl⟩
theorem alp:ed ae 250 [(0,1),(1,6),(7,1)] [.int .i64 0,.int .i64 0,.int .i64 0,.int .i64 0,.int .i64 0,.int .i64 0,.slice none 0 0,.int .i64 0]:=ed.mk fun _=>by kernel_rfl
def JV (o:iG) (T:Int) (f:Field) (lv:Int):Int:=if ¬(0≤T∧T≤4294967296) then 3 else if 256≤o.lg.length then 13 else if fS 1073741824 f≠0 then fS 1073741824 f else if ¬([f.g.x,f.g.y,f.g.size,f.g.wide,f.g.high]=[o.g.x,o.g.y,o.g.size,o.g.wide,o.g.high]) then 11 else if ¬(1≤lv∧lv≤1073741824) then 3 else 0
def Zi (o:iG) (T:Int) (l:List cZ):Int:=if ¬(0≤T∧T≤4294967296) then 3 else if 0<o.ts.length∧T≤ko o.ts then 17 else if 256≤o.lg.length then 13 else qE o.g l
theorem U7 {o:iG} {T lv:Int} {f:Field} (h:JV o T f lv=0):(0≤T∧T≤4294967296)∧o.lg.length<256∧fS 1073741824 f=0∧[f.g.x,f.g.y,f.g.size,f.g.wide,f.g.high]=[o.g.x,o.g.y,o.g.size,o.g.wide,o.g.high]∧(1≤lv∧lv≤1073741824):=by
 unfold JV at h
 split at h
 ·omega
 ·rename_i q1
  split at h
  ·omega
  ·split at h
   ·rename_i q q2;exact absurd h q2
   ·rename_i q2 q3
    split at h
    ·omega
    ·rename_i q4
     split at h
     ·omega
     ·rename_i q5
      exact⟨cL.1 q1,by omega,cL.1 q3,cL.1 q4,cL.1 q5⟩
theorem Vg (l:List Span) (p:Option Addr) (c:Nat) (w:World) (hn:l.length<1000000000000) (hl:RO 2 jA w p l):
 Calls ae 80 #[.slice p l.length c] w fun e w'=>∃x:Option Addr×Nat,True∧e= .returned (.slice x.1 l.length x.2)∧St (bs w) [own 25 2 x.1 x.2 (l.map jA)] w':=by
 refine enter (vs:=[_]) (env:=[(0,_)]) Tryz.func80 rfl rfl rfl rfl ?_
 refine VC.q (VO.a rfl<|VO.n<|ak<|VC.q (VO.m rfl<|ah (LO.ags ⟨_,Tryz.underlying45⟩ (.r rfl) (.r rfl)) rfl<|VO.n ?_))
 refine ay rfl (fun h4=>?_) (fun h4=>?_)
 ·
  have h0:=PG hl h4
  refine VC.q (VO.a rfl<|VO.n<|aP (VE.cJ (VE.s rfl rfl (fun w hw=>?_))))
  first |exact⟨(none,0),trivial,by rw[h0];rfl,by rw[h0];exact hw.nil.fX 25 2⟩|exact⟨(p2,c2),trivial,rfl,hw.fO [0] rfl⟩
 ·
  refine aC (ag<|VC.q (aD rfl<|HO.bs0 uH sC fun b1=>VO.m rfl<|aD rfl<|HO.VV (f:=jA) (m:=l) 0 (fun R=>[R]) uH uH ZI (.r rfl) (.r rfl) rfl (fun w hw=>hl.keep w hw) (fun _=>rfl) (fun _=>rfl) rfl rfl (fun _=>rfl) rfl (by omega) fun p2 c2 _=>aD rfl<|aO (LO.as (.r rfl))<|VO.n<|aP (VE.s rfl rfl (fun w hw=>?_))))
  first |exact⟨(none,0),trivial,by rw[h0];rfl,by rw[h0];exact hw.nil.fX 25 2⟩|exact⟨(p2,c2),trivial,rfl,hw.fO [0] rfl⟩
theorem aek (o:iG) (T:Int) (f:Field) (pv:Option Addr) (cv:Nat) (lv:Int) (w:World) (hn:0<o.rc.length∧o.rc.length<1000000) (hh:Has w (kh o)) (hv:∀{L:List cq} {v:World},St ⟨w,lu (kh o)⟩ L v→lP v pv f.lC) (hok:JV o T f lv=0):
 Calls ae 24 #[jR o.b,.int .i64 T,.agg #[.int .i64 f.g.x,.int .i64 f.g.y,.int .i64 f.g.size,.int .i64 f.g.wide,.int .i64 f.g.high,.slice pv f.lC.length cv],.int .i64 lv] w fun e w'=>∃y:(Option Addr×Nat)×(Option Addr×Nat),True∧e= .returned (.int .i64 0)∧St ⟨w,lu (kh o)⟩ (kh { o with lg:=o.lg++[AU T f.g y.1.1 y.1.2 f.lC lv],pl:=y.2.1,cl:=y.2.2 }) w':=by
 obtain⟨hk1,hk2,hk3,hk4,hk5⟩:=U7 hok
 have har:f.lC.length≤4096:=by unfold fS at hk3;split at hk3;(· omega);(· rename_i q;have z:=rP (cL.1 q);split at hk3;(· omega);(· omega))
 refine mG (vs:=[_,_,_,_]) (env:=[(0,_),(1,_),(2,_),(3,_)]) hh.enter Tryz.func24 rfl rfl rfl rfl ?_
 refine VC.q (aD rfl<|cf (C:=#[_,_,_,_,_,_]) rfl rfl fun b11=>VO.a rfl<|VO.n<|ak<|aG<|VC.q (VO.m rfl<|ah (bD (xs:=[_]) (vs:=[_]) C72 ⟨(.r rfl),trivial⟩ (fun w hw=>sH o w (by omega) (aX hw 1 rfl ⟨_,rfl⟩))) rfl<|VO.a rfl<|aI ?_))
 refine ag<|ay rfl (fun h10=>?_) (fun h10=>?_)
 · (exfalso;omega)
 ·
  refine VC.q (VO.m rfl<|ah (bD (xs:=[_,_,_]) (vs:=[_,_,_]) C73 ⟨(.r rfl),(.r rfl),(.r rfl),trivial⟩ (fun w _=>og _ _ _ w)) rfl<|ah (LO.not (.r rfl)) rfl<|VO.a rfl<|VO.n<|ay rfl (fun h13=>?_) (fun h13=>?_))
  · (exfalso;exact h13 hk1)
  ·
   refine VC.q (VO.m rfl<|ah (bH (.r rfl)) rfl<|VO.f (r:=12) w7 rfl<|VO.c 1 Uq rfl rfl ⟨_,rfl⟩ rfl<|ah (bW Cz (.r rfl) rfl) rfl<|ah (LO.ge (.r rfl) (.r rfl)) rfl<|VO.a rfl<|VO.n<|ay rfl (fun h17=>?_) (fun h17=>?_))
   · (exfalso;omega)
   ·
    refine aC (bB (ag<|ak<|VC.q (ah (aM (vs:=[_,_,_,_,_,_]) wA (.r rfl) (ax 0 rfl ⟨_,rfl⟩) rfl) rfl<|ah (bD (xs:=[_]) (vs:=[_]) C79 ⟨(.r rfl),trivial⟩ (fun w hw=>mh f pv cv w (hv hw))) rfl<|VO.a rfl<|VO.n<|VC.q (VO.m rfl<|VO.u rfl<|aI ?_))))
    refine ag<|ay rfl (fun h27=>?_) (fun h27=>?_)
    · (exfalso;exact h27 hk3)
    ·
     refine aC (ag<|ak<|aG<|ak<|eH mixed (aV (aE (r:=0) tE (.r rfl) rfl) rfl<|aV (aM (vs:=[_,_,_,_,_]) vS (.r rfl) (ax 0 rfl ⟨_,rfl⟩) rfl) rfl<|LL.m rfl<|aV (bH (.r rfl)) rfl<|aV (aE (r:=0) xi (.r rfl) rfl) rfl<|aV (aE (r:=0) Dd (.r rfl) rfl) rfl<|aV (aM (vs:=[_,_,_,_,_]) vS (.r rfl) (ax 1 rfl ⟨_,rfl⟩) rfl) rfl<|aV (LO.neA («as» :=[_,_,_,_,_]) (bs:=[_,_,_,_,_]) Zt (.r rfl) (.r rfl) rfl rfl) rfl<|aV (LO.as (.r rfl)) rfl<|ft) (by kernel_rfl)<|ag<|ay rfl (fun h29=>?_) (fun h29=>?_))
     · (exfalso;exact h29 hk4)
     ·
      refine VC.q (VO.m rfl<|ah (bD (xs:=[_,_,_]) (vs:=[_,_,_]) C73 ⟨(.r rfl),(.r rfl),(.r rfl),trivial⟩ (fun w _=>og _ _ _ w)) rfl<|ah (LO.not (.r rfl)) rfl<|VO.a rfl<|VO.n<|ay rfl (fun h38=>?_) (fun h38=>?_))
      · (exfalso;exact h38 hk5)
      ·
       refine aC (bB (ag<|VC.q (VO.f (r:=5) jI rfl<|VO.c 0 JL rfl rfl ⟨_,rfl⟩ rfl<|aD rfl<|HO.fP (xs:=[_]) (vs:=[_]) C80 ⟨(.r rfl),trivial⟩ (fun w hw=>Vg f.lC pv cv w (by omega) (hv hw)) fun qv _=>VO.f (r:=5) jI rfl<|bU<|bl 1 (vs:=[_]) (C':=[_,_,_,_,_,_]) (L':=[_,_,_,_,_,_,_,_,_,_,_,_]) XZ rfl rfl rfl rfl rfl rfl rfl rfl<|VO.n<|ak<|cP [[0,1,2,3,4,5,6,7,8,9,10,11],[0,1,2,3,4,5,6,7,8,9,10,11],[0,1,2,3,4,5,6,7,8,9,11],[0,1,3,4,5,6,7,8,9,11]] [some 2,some 1,some 1,some 1,some 1,some 0,some 0,some 0,some 0,some 0,none,none,some 2,some 2,none] mixed (by kernel_rfl) rfl (LX.m rfl<|LX.m rfl<|aA (fun _ hJ=>bH (.r rfl)) rfl<|aA (fun _ hJ=>aE (r:=12) w7 (.r rfl) rfl) rfl<|aA (fun _ hJ=>aB Uq (.r rfl) (fun _ hw=>aX (hJ _ hw) 2 rfl ⟨_,rfl⟩)) rfl<|LX.m rfl<|aA (fun _ hJ=>aM (vs:=[_,_,_,_,_,_]) wA (.r rfl) (fun _ hw=>aX (hJ _ hw) 1 rfl ⟨_,rfl⟩) rfl) rfl<|LX.m rfl<|aA (fun _ hJ=>dC (ps:=[(_,_),(_,_),(_,_)]) (vs:=[(_,_),(_,_),(_,_)]) (C:=[_,_,_,_,_,_,_,_]) alp ⟨(.r rfl),(.r rfl),(.r rfl),trivial⟩ rfl ⟨_,[_],[_,_,_,_,_,_,_,_],rfl,rfl,rfl,rfl,⟨_,[_,_,_,_,_,_],[_,_,_,_,_,_,_,_],rfl,rfl,rfl,rfl,⟨_,[_],[_,_,_,_,_,_,_,_],rfl,rfl,rfl,rfl,rfl⟩⟩⟩) rfl<|aA (fun _ hJ=>LO.mi ⟨_,jP,rfl⟩ (.r rfl)) rfl<|cn<|cn<|aA (fun _ hJ=>bH (.r rfl)) rfl<|aA (fun _ hJ=>aE (r:=12) w7 (.r rfl) rfl) rfl<|cn<|dw) (au<|au<|au<|au<|au<|au<|au<|au<|au<|au<|HX.h rfl<|fu (ps:=[(_,_)]) (vs:=[(_,_)]) (Z:=[_]) (C:=[_]) Cz ag8 YZ ⟨(.r rfl),trivial⟩ rfl rfl rfl rfl ⟨_,[_],[_],rfl,rfl,rfl,rfl,rfl⟩ fun b16=>⟨gM (L1:=[_,_,_,_,_,_,_,_,_,_,_,_]) [1,2,3,4,5,6,7,8,9,10,11,12] rfl rfl rfl,HX.h rfl<|dM ((AU T f.g qv.1 qv.2 f.lC lv)) 11 0 (fun R=>[_,_,_,_,_,_,_,_,_,_,_,R,_]) Cz Cz agP (.r rfl) (.r rfl) rfl rfl rfl rfl rfl rfl rfl (fun _=>rfl) rfl (by omega) fun p11 c11=>⟨gM (L1:=[_,_,_,_,_,_,_,_,_,_,_]) [1,2,3,4,5,6,7,8,9,10,12] rfl rfl rfl,au<|au<|eW<|bl 3 (vs:=[_]) (C':=[_,_,_,_,_,_,_,_,_,_,_,_,_]) (L':=[_,_,_,_,_,_,_,_,_,_,_,_,_]) ag1 rfl rfl rfl rfl rfl rfl rfl rfl<|⟨gM (L1:=[_,_,_,_,_,_,_,_,_,_]) [1,2,4,5,6,7,8,9,10,12] rfl rfl rfl,dS ?_⟩⟩⟩))))
       refine ag<|VC.q (VO.a rfl<|VO.n<|aP (VE.s rfl rfl (fun w hw=>?_)))
       have e1:o.lg.flatMap pD.res++[own 25 2 qv.1 qv.2 (f.lC.map jA)]=(o.lg++[AU T f.g qv.1 qv.2 f.lC lv]).flatMap pD.res:=by rw[l6];rfl
       refine⟨(qv,(p11,c11)),trivial,rfl,?_⟩
       show St _ [_,_,_,_,_,_,_,_,_,bS ((o.lg++[AU T f.g qv.1 qv.2 f.lC lv]).flatMap pD.res)] _
       rw[←e1]
       exact(St.nq (bM (L1:=[_,_,_,_,_,_,_,_,_,_,_]) [1,12,3,4,5,6,7,8,9,10,11] rfl rfl _ hw)).fO [1,2,3,4,5,6,7,8,9,0] rfl
theorem lj:bV ae 250 0 0:=⟨_,_,jP,rfl,rfl,0,by kernel_rfl⟩
theorem VK:bV ae 250 1 1:=⟨_,_,jP,rfl,rfl,5,by kernel_rfl⟩
theorem TS:bV ae 250 2 7:=⟨_,_,jP,rfl,rfl,0,by kernel_rfl⟩
theorem ahR:ig ae 253:=⟨⟨_,Tryz.underlying253,rfl⟩,by kernel_rfl⟩
structure nU where
 t:Int
 l:List cZ
 g:cU
 vs:List Span
 lv:Int
def gZ:cU:=⟨0,0,0,0,0⟩
def pD.enp:pD→nU
 | .st t _ _ l=>⟨t,l.map CP.c,gZ,[],0⟩
 | .nt t g _ _ vs lv=>⟨t,[],g,vs,lv⟩
def nU.bd (x:nU):Prop:=x.l.length<1000000000∧(∀c,c∈x.l→c.sure.length<1000000000000∧c.may.length<1000000000000)∧x.vs.length≤4096
def als (o:iG):Prop:=∀x,x∈o.lg→(pD.enp x).bd
def YX (x:nU):Bool:=decide (x.lv=0)
def kq (s:Sp) (l:List nU):List pP:=(l.filter YX).map fun x=>⟨x.t,wF s x.l⟩
def tsP (l:List nU):List Int:=(l.filter YX).map nU.t
def SV (s:Sp) (pre:List nU) (x:nU):Int:=
 if x.lv=0 then(if ¬(0≤x.t∧x.t≤4294967296) then 3 else if 0<(tsP pre).length∧x.t≤ko (tsP pre) then 17 else if 256≤pre.length then 13 else qE s.g x.l)
 else(if ¬(0≤x.t∧x.t≤4294967296) then 3 else if 256≤pre.length then 13 else if fS 1073741824 ⟨x.g,x.vs⟩≠0 then fS 1073741824 ⟨x.g,x.vs⟩ else if ¬([x.g.x,x.g.y,x.g.size,x.g.wide,x.g.high]=[s.g.x,s.g.y,s.g.size,s.g.wide,s.g.high]) then 11 else if ¬(1≤x.lv∧x.lv≤1073741824) then 3 else 0)
def nU.canon (x:nU):nU:=if x.lv=0 then⟨x.t,x.l,gZ,[],0⟩ else⟨x.t,[],x.g,x.vs,x.lv⟩
structure um (s:Sp) (l:List nU) (o:iG) (n:Nat):Prop where
 wB:Af o (kq s (l.take n))
 sp:o.sp=s
 lg:o.lg.map pD.enp=(l.take n).map nU.canon
 ok:als o
theorem ahO {s:Sp} {l:List nU} {x:nU} (h:x.lv=0):kq s (l++[x])=kq s l++[⟨x.t,wF s x.l⟩]:=by
 unfold kq;rw[dI,bj];simp [YX,h]
theorem ahp {s:Sp} {l:List nU} {x:nU} (h:¬x.lv=0):kq s (l++[x])=kq s l:=by
 unfold kq;rw[dI];simp [YX,h]
theorem um.ts {s:Sp} {l:List nU} {o:iG} {n:Nat} (h:um s l o n):o.ts=tsP (l.take n):=by
 rw[h.wB.ts];unfold kq tsP;rw[List.map_map];rfl
theorem um.len {s:Sp} {l:List nU} {o:iG} {n:Nat} (h:um s l o n):o.lg.length=(l.take n).length:=by
 have:=congrArg List.length h.lg
 simpa using this
theorem um.g {s:Sp} {l:List nU} {o:iG} {n:Nat} (h:um s l o n):o.g=s.g:=congrArg Sp.g h.sp
theorem um.st {s:Sp} {l:List nU} {o:iG} {n:Nat} {x:nU} (h:um s l o n) (hx:x.lv=0):Zi o x.t x.l=SV s (l.take n) x:=by
 unfold Zi SV
 rw[if_pos hx,h.ts,h.len,h.g]
theorem um.nt {s:Sp} {l:List nU} {o:iG} {n:Nat} {x:nU} (h:um s l o n) (hx:¬x.lv=0):JV o x.t ⟨x.g,x.vs⟩ x.lv=SV s (l.take n) x:=by
 unfold JV SV
 rw[if_neg hx,h.len,h.g]
theorem wc {l:List nU} {n:Nat} {x:nU} (hx:l[n]? =some x):l.take (n+1)=l.take n++[x]:=by rw[cQ,hx];rfl
theorem TE {o:iG} {st:List pP} {x:pD} {p:Option Addr} {c:Nat} (h:Af o st):Af { o with lg:=o.lg++[x],pl:=p,cl:=c } st:=by
 refine⟨⟨h.wf.spec,h.wf.len,h.wf.idx,h.wf.pix,h.wf.rcb,h.wf.lvb,h.wf.op,h.wf.cs,?_⟩,h.ts,h.inc,h.tb,h.SW,h.cs⟩
 have:=h.wf.ts
 show o.ts.length≤(o.lg++[x]).length
 rw[aZ];simp;omega
theorem um.note {s:Sp} {l:List nU} {o:iG} {n:Nat} {x:nU} {p q:Option Addr} {c d:Nat} (h:um s l o n) (hx:l[n]? =some x) (hlv:¬x.lv=0) (hb:x.vs.length≤4096):um s l { o with lg:=o.lg++[AU x.t x.g p c x.vs x.lv],pl:=q,cl:=d } (n+1):=by
 refine⟨by rw[wc hx,ahp hlv];exact TE h.wB,h.sp,?_,?_⟩
 ·show(o.lg++[_]).map pD.enp=_
  rw[bj,h.lg,wc hx,bj]
  congr 1
  show[_]=[x.canon]
  unfold nU.canon
  rw[if_neg hlv];rfl
 ·intro y hy
  rcases bZ.1 hy with z|z
  ·exact h.ok y z
  ·simp at z;subst z
   exact⟨by simp [pD.enp],fun c hc=>by simp [pD.enp]at hc,hb⟩
theorem um.step {s:Sp} {l:List nU} {o:iG} {n:Nat} {x:nU} {y:wW} (h:um s l o n) (hx:l[n]? =some x) (hlv:x.lv=0) (hb:x.l.length<1000000000∧∀c,c∈x.l→c.sure.length<1000000000000∧c.may.length<1000000000000) (hp:CD o x.t x.l y) (hs:Af (y.o o x.t) (kq s (l.take n)++[⟨x.t,wF o.sp x.l⟩])):um s l (y.o o x.t) (n+1):=by
 obtain⟨_,p,c,m,e1,e2⟩:=hp
 refine⟨by rw[wc hx,ahO hlv, ←h.sp];have:=hs;rw[h.sp]at this ⊢;exact this,h.sp,?_,?_⟩
 ·show(o.lg++[y.lg]).map pD.enp=_
  rw[bj,h.lg,wc hx,bj,e1]
  congr 1
  show[nU.mk x.t (m.map CP.c) gZ [] 0]=[x.canon]
  unfold nU.canon
  rw[if_pos hlv,e2]
 ·intro z hz
  rcases bZ.1 hz with q|q
  ·exact h.ok z q
  ·simp at q;subst q
   rw[e1]
   refine⟨?_,?_,bG _⟩
   ·show(m.map CP.c).length<_;rw[e2];exact hb.1
   ·intro c hc
    exact hb.2 c (by rw[←e2];exact hc)
theorem Q9 {g:cU} {vs:List Span} (h:fS 1073741824 ⟨g,vs⟩=0):vs.length≤4096:=by
 unfold fS at h
 split at h
 ·omega
 ·rename_i q
  have z:=rP (cL.1 q)
  split at h
  ·omega
  ·rename_i q2
   have q3:=cL.1 q2
   dsimp only at q3 z
   omega
theorem Tu {g:cU} {rgs:List RG} {a b d:Int} {s:Sp} {o:iG} {l:List nU} (hn:Us g rgs a b d o) (hse:s=⟨g,rgs.map RG.r,a,b,d⟩) (hs:j0 s=0) (hp:∀x,x∈rgs→x.r.pix.length<1000000000000):um s l o 0:=by
 have h1:=Zm hn (by rw[←hse];exact hs) hp
 obtain⟨e1,e2,e3,e4,e5,e6,e7,_,e8,_⟩:=hn
 exact⟨h1,by rw[hse];unfold iG.sp;rw[e1,e2,e3,e4,e8],by rw[e7];rfl,fun x hx=>by rw[e7]at hx;cases hx⟩
theorem ZL:cj ae 117 (.agg #[.int .i64 0,.int .i64 0,.int .i64 0,.int .i64 0,.int .i64 0,.int .i64 0,.int .i64 0]):=by unfold cj;kernel_rfl
theorem Vb:dF ae 251 250:=Tryz.underlying251
theorem aeg:jX ae 117 7:=⟨⟨_,jQ,rfl⟩,by kernel_rfl⟩
theorem XW:(ae.info? 117).map (·.size)=some 7:=by kernel_rfl
theorem C81:ef ae 81:=⟨_,Tryz.func81,by decide,rfl⟩
theorem amb:jW ae 117 7 56 (.agg #[.int .i64 0,.int .i64 0,.int .i64 0,.int .i64 0,.int .i64 0,.int .i64 0,.int .i64 0]):=⟨by kernel_rfl,by kernel_rfl,by unfold cj;kernel_rfl,rfl,by decide⟩
theorem Du:bV ae 241 1 1:=⟨_,_,k9,rfl,rfl,0,by kernel_rfl⟩
theorem nO:bV ae 241 2 2:=⟨_,_,k9,rfl,rfl,0,by kernel_rfl⟩
theorem ae4:jX ae 250 8:=⟨⟨_,jP,rfl⟩,by kernel_rfl⟩
theorem wU:GQ ae 376:=⟨3,3,.i64,zF,cM,by unfold cj;kernel_rfl⟩
theorem ahV (n:Dn) (x:RG) (w:World) (hv:lP w n.p n.vs) (hx:Ints w x.px x.r.pix) (hl:x.r.pix.length<1000000000000) (hp:∀p,p∈x.r.pix→0≤p∧p<(n.vs.length:Int)):
 Calls ae 158 #[.agg n.cells.toArray,.agg #[.string x.r.name,.slice x.px x.r.pix.length x.cx]] w fun e w'=>e= .returned (.tuple #[.bool (p9 x.r.pix n.vs n.lv),.bool (vh x.r.pix n.vs n.lv)])∧St (bs w) [] w':=by
 refine enter (vs:=[_,_]) (env:=[(0,_),(1,_)]) Tryz.func158 rfl rfl rfl rfl ?_
 refine VC.q (aD rfl<|cf (C:=#[_,_,_,_,_,_,_,_]) rfl rfl fun b1=>aD rfl<|cf (C:=#[_,_]) rfl rfl fun b2=>VO.a rfl<|VO.a rfl<|VO.n<|ak<|VC.q (VO.f (r:=1) su rfl<|VO.c 0 ij rfl rfl ⟨_,rfl⟩ rfl<|ah (bW ei (.r rfl) rfl) rfl<|VO.m rfl<|VO.n ?_))
 refine aG<|bY (α:=Nat) 0 (fun gx=>[(4,.bool (p9 (x.r.pix.take gx) n.vs n.lv)),(5,.bool (vh (x.r.pix.take gx) n.vs n.lv)),(11,.int .i64 (gx:Nat))]) [(2,_),(9,_),(10,_)] (fun gx=>[]) (fun gx=>gx≤x.r.pix.length) (fun gx=>x.r.pix.length-gx) 0 (by exact bG _) (.c4 rfl rfl rfl rfl (.cons rfl (.cons rfl .nil))) (fun _ h=>h) ?_
 rintro j hj
 refine VC.q (VO.t rfl<|VO.n<|ak<|ay rfl (fun h12=>?_) (fun h12=>?_))
 ·
  obtain⟨q,hq⟩:∃q,x.r.pix[j]? =some q:=⟨_,af (by omega)⟩
  have hqb:=hp q (al hq)
  refine aC (ag<|ak<|aG<|VC.q (ah (cw ei N3 (Go.SL.Rows.some (n:=x.r.pix.length) hx (by simp)) (.r rfl) (.r rfl) rfl (by omega)) rfl<|ah (aB O3 (.r rfl) (fun w hw=>bq (off:=0) ((fun w2 hw2=>(DJ hx w2 hw2).cells _ _ (by rw[aw,hq];rfl)) w hw) ⟨_,rfl⟩)) rfl<|VO.a rfl<|VO.n<|ak ?_))
  refine eH mixed (LL.m rfl<|LL.m rfl<|LL.gf rfl (fun hg=>aE (r:=1) VK (.r rfl) rfl)<|LL.gf rfl (fun hg=>aE (r:=6) jI (.g hg rfl) rfl)<|LL.gf rfl (fun hg=>aB JL (.g hg rfl) (ax 1 rfl ⟨_,rfl⟩))<|LL.gf rfl (fun hg=>bJ (.r rfl))<|LL.gf rfl (fun hg=>cw uH sC hv.some (.g hg rfl) (.g hg rfl) (j:=q.toNat) (by omega) (by omega))<|LL.gf rfl (fun hg=>aE rL (.g hg rfl) rfl)<|LL.gf rfl (fun hg=>aB O3 (.g hg rfl) (fun w hw=>bq (off:=0) (hv.at (j:=q.toNat) (by omega) w hw) ⟨_,rfl⟩))<|LL.gf rfl (fun hg=>aE (r:=7) TS (.r rfl) rfl)<|LL.gf rfl (fun hg=>aB O3 (.g hg rfl) (ax 1 rfl ⟨_,rfl⟩))<|LL.gf rfl (fun hg=>LO.ge (.g hg rfl) (.g hg rfl))<|aV (dO (.r rfl) (.r rfl) rfl rfl) rfl<|aV (LO.as (.r rfl)) rfl<|ft) (by kernel_rfl)<|ag<|eH mixed (LL.m rfl<|LL.m rfl<|LL.gf rfl (fun hg=>aE (r:=1) VK (.r rfl) rfl)<|LL.gf rfl (fun hg=>aE (r:=6) jI (.g hg rfl) rfl)<|LL.gf rfl (fun hg=>aB JL (.g hg rfl) (ax 1 rfl ⟨_,rfl⟩))<|LL.gf rfl (fun hg=>bJ (.r rfl))<|LL.gf rfl (fun hg=>cw uH sC hv.some (.g hg rfl) (.g hg rfl) (j:=q.toNat) (by omega) (by omega))<|LL.gf rfl (fun hg=>aE rR (.g hg rfl) rfl)<|LL.gf rfl (fun hg=>aB O3 (.g hg rfl) (fun w hw=>bq (off:=1) (hv.at (j:=q.toNat) (by omega) w hw) ⟨_,rfl⟩))<|LL.gf rfl (fun hg=>aE (r:=7) TS (.r rfl) rfl)<|LL.gf rfl (fun hg=>aB O3 (.g hg rfl) (ax 1 rfl ⟨_,rfl⟩))<|LL.gf rfl (fun hg=>LO.ge (.g hg rfl) (.g hg rfl))<|aV (dO (.r rfl) (.r rfl) rfl rfl) rfl<|aV (LO.as (.r rfl)) rfl<|ft) (by kernel_rfl)<|bB (ag<|aF (VO.p rfl rfl (by omega) (by omega) rfl<|VO.m rfl<|aI<|bn fun a w ha hw=>⟨j+1,(by omega),(by omega),ha.sub (.cons (congrArg (fun z=>some (Value.bool z)) (IW hq).symm) (.cons (congrArg (fun z=>some (Value.bool z)) (IW hq).symm) (.c4 rfl rfl rfl rfl .nil))),hw⟩))
 ·
  refine ca (aL (aL (cD (ag<|VC.q (VO.m rfl<|VO.m rfl<|VO.a rfl<|VO.a rfl<|VO.n<|aP (dh (vs:=[_,_]) rfl ⟨rfl,rfl,trivial⟩ (fun w hw=>?_)))))))
  rw[dK (by omega)]
  exact⟨rfl,hw.nil⟩
theorem Ua:(ae.info? 250).map (·.size)=some 8:=by kernel_rfl
theorem Wt:cj ae 250 (.agg #[.int .i64 0,.int .i64 0,.int .i64 0,.int .i64 0,.int .i64 0,.int .i64 0,.slice none 0 0,.int .i64 0]):=by unfold cj;kernel_rfl
theorem alk:ef ae 158:=⟨_,Tryz.func158,by decide,rfl⟩
theorem G6:bV ae 117 0 0:=⟨_,_,jQ,rfl,rfl,0,by kernel_rfl⟩
theorem Mb:bV ae 117 1 1:=⟨_,_,jQ,rfl,rfl,0,by kernel_rfl⟩
theorem Mu:bV ae 117 4 4:=⟨_,_,jQ,rfl,rfl,0,by kernel_rfl⟩
theorem C5:bV ae 117 2 2:=⟨_,_,jQ,rfl,rfl,0,by kernel_rfl⟩
theorem Me:bV ae 117 3 3:=⟨_,_,jQ,rfl,rfl,0,by kernel_rfl⟩
theorem xA:bV ae 117 5 5:=⟨_,_,jQ,rfl,rfl,1,by kernel_rfl⟩
theorem ac6 {pix:List Int} {on:Int→Bool} {ns:List Nt} {x:FQ} (h:ZJ pix on ns x):(0≤x.h∧x.h≤ns.length)∧(0≤x.m∧x.m≤ns.length)∧(0≤x.o∧x.o≤ns.length)∧(0≤x.a∧x.a≤ns.length)∧(0≤x.q∧x.q≤ns.length):=by
 obtain⟨h0,h1,h2,h3,h4⟩:=h
 rw[h0,h1,h2,h3,h4]
 exact⟨qL,qL,qL,qL,qL⟩
section
variable {pix:List Int} {on:Int→Bool} {n:Dn} {c:iW} {k:Int}
theorem alM (h:p9 pix n.vs n.lv=true∧on n.t=true):Fz pix on n.n=0:=by
 unfold Fz kN;show(if(p9 pix n.vs n.lv&&on n.t)=true then 0 else _)=0;rw[h.1,h.2];rfl
theorem amK (h:¬(p9 pix n.vs n.lv=true∧on n.t=true)) (h1:p9 pix n.vs n.lv=true):Fz pix on n.n=1:=by
 unfold Fz;show kN (p9 pix n.vs n.lv) (vh pix n.vs n.lv) (on n.t)=1
 rw[h1]at h ⊢;cases q:on n.t with
 |true=>exact absurd ⟨rfl,q⟩ h
 |false=>cases vh pix n.vs n.lv<;>rfl
theorem am9 (h:¬(p9 pix n.vs n.lv=true∧on n.t=true)) (h1:¬p9 pix n.vs n.lv=true) (h2:vh pix n.vs n.lv=true):Fz pix on n.n=2:=by
 unfold Fz;show kN (p9 pix n.vs n.lv) (vh pix n.vs n.lv) (on n.t)=2
 rw[h2,kC.2 h1];cases on n.t<;>rfl
theorem alg (h:¬(p9 pix n.vs n.lv=true∧on n.t=true)) (h1:¬p9 pix n.vs n.lv=true) (h2:¬vh pix n.vs n.lv=true) (h3:on n.t=true):Fz pix on n.n=3:=by
 unfold Fz;show kN (p9 pix n.vs n.lv) (vh pix n.vs n.lv) (on n.t)=3
 rw[h3,kC.2 h1,kC.2 h2];rfl
theorem amk (h:¬(p9 pix n.vs n.lv=true∧on n.t=true)) (h1:¬p9 pix n.vs n.lv=true) (h2:¬vh pix n.vs n.lv=true) (h3:¬on n.t=true):Fz pix on n.n=4:=by
 unfold Fz;show kN (p9 pix n.vs n.lv) (vh pix n.vs n.lv) (on n.t)=4
 rw[kC.2 h3,kC.2 h1,kC.2 h2];rfl
theorem DB (h:((p9 pix n.vs n.lv=true∧c.rg=k)∧c.bg≤n.t)∧n.t<c.en):PK pix c.p n.n=true:=by
 unfold PK;show((p9 pix n.vs n.lv&&decide (c.bg≤n.t))&&decide (n.t<c.en))=true
 rw[h.1.1.1,decide_eq_true h.1.2,decide_eq_true h.2];rfl
theorem Cy (hr:c.p.rg=k) (h:PK pix c.p n.n=true):((p9 pix n.vs n.lv=true∧c.rg=k)∧c.bg≤n.t)∧n.t<c.en:=by
 unfold PK at h
 simp only[aQ,decide_eq_true_eq]at h
 exact⟨⟨⟨h.1.1,hr⟩,h.1.2⟩,h.2⟩
theorem CK {m f:Option Int} {v:Int} (h:m=f) (k:(¬m.isSome=true)∨v<m.getD 0):f=none∨∃u,f=some u∧v<u:=by
 subst h
 cases m with
 |none=>exact .inl rfl
 |some u=>rcases k with q|q;(· exact absurd rfl q);(· exact .inr ⟨u,rfl,q⟩)
theorem yG {m f:Option Int} {v:Int} (h:m=f) (k:¬((¬m.isSome=true)∨v<m.getD 0)):∃u,f=some u∧u≤v:=by
 subst h
 cases m with
 |none=>exact absurd (.inl (fun q=>by cases q)) k
 |some u=>exact⟨u,rfl,by have:¬v<u:=fun q=>k (.inr q);omega⟩
end
theorem ZV (o:iG) (r:jN) (ns:List Dn) (p:Option Addr) (c:Nat) (on:Int→Bool) (w:World) (hr:r∈o.rc) (hlv:r.lv.length=o.ts.length) (hn:o.ts.length<1000000) (hs:o.ts.Pairwise (· ≤ ·)) (hcl:o.cs.length<1000000000) (hcn:∀(j:Nat) (c:iW),o.cs[j]? =some c→c.nm=(j:Int)+1∧0≤c.bg) (hnl:ns.length<1000000000) (hpl:r.x.r.pix.length<1000000000000) (hon:∀t,on t= !decide (EC o.ts r.lv t=0)) (hnt:∀n,n∈ns→(0≤n.t∧n.t≤4294967296)∧lP w n.p n.vs∧∀p,p∈r.x.r.pix→0≤p∧p<(n.vs.length:Int)) (hx:Ints w r.x.px r.x.r.pix) (hh:Has w (kh o)) (hN:RO 8 Dn.cells w p ns):
 Calls ae 81 #[jR o.b,jR r.b,.slice p ns.length c] w fun e w'=>e= .returned (.agg (IL r.i r.x.r.pix on (o.cs.map iW.p) (ns.map Dn.n)).cells.toArray)∧St (bs w) [] w':=by
 have hcr:RO 1 Wb w o.pk o.cs:=RO.kg hh 6 rfl
 obtain⟨NS,hNS⟩:∃l,l=ns.map Dn.n:=⟨_,rfl⟩
 obtain⟨CS,hCS⟩:∃l,l=o.cs.map iW.p:=⟨_,rfl⟩
 have hNL:NS.length=ns.length:=by rw[hNS,aq]
 have hCL:CS.length=o.cs.length:=by rw[hCS,aq]
 rw[←hNS, ←hCS]
 refine enter (vs:=[_,_,_]) (env:=[(0,_),(1,_),(2,_)]) Tryz.func81 rfl rfl rfl rfl ?_
 refine VC.q (aD rfl<|bI (C:=#[_,_,_,_,_,_,_]) ZL rfl fun b1=>VO.n<|VC.q (aD rfl<|bI (C:=#[_,_,_,_,_,_,_]) ZL rfl fun b2=>VO.n<|ak ?_))
 refine aF (aD rfl<|HO.aeo fun b3=>aD rfl<|aO (LO.as (.r rfl))<|VO.n<|ak<|VC.q (VO.m rfl<|ah (bW Vb (.r rfl) rfl) rfl<|VO.m rfl<|VO.n<|aG ?_))
 refine ik [1,0,2] rfl<|bY (α:=Nat×FQ×(Array MapEntry)×Nat) 2 (fun gx=>[(24,.int .i64 (gx.1:Nat))]) [(0,_),(1,_),(6,_),(7,_),(8,_),(22,_),(23,_)] (fun gx=>[de b2 (.cells #[.int .i64 gx.2.1.h,.int .i64 gx.2.1.m,.int .i64 gx.2.1.a,.int .i64 gx.2.1.q,.int .i64 gx.2.1.o,.int .i64 0,.int .i64 0] 117),de b3 (.map gx.2.2.1 gx.2.2.2)]) (fun gx=>gx.1≤ns.length∧ZJ r.x.r.pix on (NS.take gx.1) gx.2.1∧uz gx.2.2.1.toList (nD r.i r.x.r.pix CS NS gx.1 0)∧mH gx.2.2.1.toList gx.2.2.2) (fun gx=>ns.length-gx.1) (0,(⟨0,0,0,0,0,0,0⟩:FQ),#[],0) (by exact⟨bG _,⟨rfl,rfl,rfl,rfl,rfl⟩,by rw[acW];exact V4,by simp [mH]⟩) (.c4 rfl rfl rfl rfl (.c4 rfl rfl rfl rfl .nil)) (fun _ h=>h) ?_
 rintro ⟨i,T,es,ck⟩ ⟨hi,hT,hE,hSt⟩
 show VC _ _ _ _ _ ([(24,.int .i64 (i:Nat))]++_) ([de b2 (.cells #[.int .i64 T.h,.int .i64 T.m,.int .i64 T.a,.int .i64 T.q,.int .i64 T.o,.int .i64 0,.int .i64 0] 117),de b3 (.map es ck)]++_) _ _
 dsimp only at hi hT hE hSt
 refine VC.q (VO.t rfl<|VO.n<|ak<|ay rfl (fun h25=>?_) (fun h25=>?_))
 ·
  obtain⟨nx,hnx⟩:∃x,ns[i]? =some x:=⟨_,af (by omega)⟩
  have hnm:=al hnx
  have hntb:=(hnt nx hnm).1
  have hNx:NS[i]? =some nx.n:=by rw[hNS,aw,hnx];rfl
  have hNT:NS.take (i+1)=NS.take i++[nx.n]:=by rw[cQ,hNx];rfl
  have hTl:=ac6 hT
  have hTl2:(NS.take i).length≤NS.length:=by rw[dt];omega
  refine aC (ag<|ak<|aG<|VC.q (ah (cw Vb Ua hN.sm (.r rfl) (.r rfl) rfl (by omega)) rfl<|ah (aM (vs:=[_,_,_,_,_,_,_,_]) ae4 (.r rfl) (fun w hw=>bq (off:=0) ((fun w2 hw2=>(hN.keep w2 hw2).cells _ _ (by rw[aw,hnx];rfl)) w hw) ⟨_,rfl⟩) rfl) rfl<|aD rfl<|bI (C:=#[_,_,_,_,_,_,_,_]) Wt rfl fun b4=>bU<|bl 0 (vs:=[_,_,_,_,_,_,_,_]) (C':=[_,_,_,_,_,_,_,_]) (L':=[_,_,_,_]) Ua rfl rfl rfl rfl rfl rfl rfl rfl<|VO.n<|ak ?_))
  refine eH mixed (aV (aM (vs:=[_,_,_,_,_,_,_,_]) ae4 (.r rfl) (ax 0 rfl ⟨_,rfl⟩) rfl) rfl<|LL.m rfl<|aV (bH (.r rfl)) rfl<|aV (aE (r:=0) Ty (.r rfl) rfl) rfl<|aV (aM (vs:=[_,_]) GL (.r rfl) (aW (aU (off:=0) (mI hh hr).1 ⟨_,rfl⟩)) rfl) rfl<|aV (bD (xs:=[_,_]) (vs:=[_,_]) alk ⟨(.r rfl),(.r rfl),trivial⟩ (fun w2 hw2=>ahV nx r.x w2 ((hnt nx hnm).2.1.keep w2 hw2) (DJ hx w2 hw2) hpl (hnt nx hnm).2.2)) rfl<|LL.m rfl<|aV (bN (.r rfl) rfl) rfl<|aV (bN (.r rfl) rfl) rfl<|aV (LO.as (.r rfl)) rfl<|aV (LO.as (.r rfl)) rfl<|ft) (by kernel_rfl)<|ag<|VC.q (VO.m rfl<|VO.m rfl<|VO.f (r:=0) lj rfl<|VO.c 0 O3 rfl rfl ⟨_,rfl⟩ rfl<|ah (bD (xs:=[_,_,_]) (vs:=[_,_,_]) alK ⟨(.r rfl),(.r rfl),(.r rfl),trivial⟩ (fun w2 hw2=>anj o r nx.t w2 hr hlv hn hs (hh.keep hw2))) rfl<|VO.u rfl<|VO.a rfl<|aI ?_)
  rw[show(!decide (EC o.ts r.lv nx.t=0))=on nx.t from(hon nx.t).symm]
  refine ag<|ak<|aG<|VC.q (VO.m rfl<|VO.m rfl<|VO.gt rfl (fun hg=>bJ (.r rfl))<|ah (dJ (.r rfl) rfl rfl (.r rfl)) rfl<|VO.a rfl<|VO.n<|ay rfl (fun h47=>?_) (fun h47=>?_))
  ·
   refine aF (VO.f (r:=0) G6 rfl<|VO.c 1 O3 rfl rfl ⟨_,rfl⟩ rfl<|VO.p rfl rfl (by omega) (by omega) rfl<|VO.f (r:=0) G6 rfl<|bU<|bl 1 (vs:=[_]) (C':=[_,_,_,_,_,_,_]) (L':=[_,_,_,_]) N3 rfl rfl rfl rfl rfl rfl rfl rfl<|aI<|bB (ag<|VC.q (VO.m rfl<|ah (bH (.r rfl)) rfl<|VO.f (r:=11) tI rfl<|ah (aB II (.r rfl) (aW (aU (off:=11) (ky hh) ⟨_,rfl⟩))) rfl<|ah (bW wD (.r rfl) rfl) rfl<|VO.m rfl<|VO.n<|aG<|ik [2,0,1,3] rfl ?_)))
   refine bY (α:=Nat×(Array MapEntry)×Nat) 1 (fun gx=>[(79,.int .i64 (gx.1:Nat))]) [(0,_),(1,_),(6,_),(7,_),(8,_),(10,_),(11,_),(22,_),(23,_),(24,_),(77,_),(78,_)] (fun gx=>[de b3 (.map gx.2.1 gx.2.2)]) (fun gx=>gx.1≤o.cs.length∧uz gx.2.1.toList (nD r.i r.x.r.pix CS NS i gx.1)∧mH gx.2.1.toList gx.2.2) (fun gx=>o.cs.length-gx.1) (0,es,ck) (by exact⟨bG _,hE,hSt⟩) (.c4 rfl rfl rfl rfl (.c4 rfl rfl rfl rfl (.c4 rfl rfl rfl rfl (.cons rfl .nil)))) (fun _ h=>h) ?_
   rintro ⟨j,es,ck⟩ ⟨hj,hE,hSt⟩
   show VC _ _ _ _ _ ([(79,.int .i64 (j:Nat))]++_) ([de b3 (.map es ck)]++_) _ _
   dsimp only at hj hE hSt
   refine VC.q (VO.t rfl<|VO.n<|ak<|ay rfl (fun h80=>?_) (fun h80=>?_))
   ·
    obtain⟨cx,hcx⟩:∃x,o.cs[j]? =some x:=⟨_,af (by omega)⟩
    have hcm:=al hcx
    have hcb:=hcn j cx hcx
    have hCx:CS[j]? =some cx.p:=by rw[hCS,aw,hcx];rfl
    refine aC (ag<|ak<|aG<|VC.q (ah (cw wD JJ hcr.sm (.r rfl) (.r rfl) rfl (by omega)) rfl<|ah (aB vo (.r rfl) (fun w hw=>bq (off:=0) ((fun w2 hw2=>(hcr.keep w2 hw2).cells _ _ (by rw[aw,hcx];rfl)) w hw) ⟨_,rfl⟩)) rfl<|VO.a rfl<|VO.n<|ak ?_))
    refine eH mixed (LL.m rfl<|LL.m rfl<|LL.gt rfl (fun hg=>bJ (.r rfl))<|LL.gt rfl (fun hg=>bH (.g hg rfl))<|LL.gt rfl (fun hg=>aE (r:=1) Du (.g hg rfl) rfl)<|LL.gt rfl (fun hg=>aB O3 (.g hg rfl) (aW (aU (off:=1) (dP hh hcm) ⟨_,rfl⟩)))<|LL.gt rfl (fun hg=>bJ (.r rfl))<|LL.gt rfl (fun hg=>bH (.g hg rfl))<|LL.gt rfl (fun hg=>aE (r:=2) Al (.g hg rfl) rfl)<|LL.gt rfl (fun hg=>aB O3 (.g hg rfl) (aW (aU (off:=2) (mI hh hr).1 ⟨_,rfl⟩)))<|LL.gt rfl (fun hg=>fN (.g hg rfl) (.g hg rfl))<|aV (dJ (.r rfl) rfl rfl (.r rfl)) rfl<|LL.m rfl<|LL.gt rfl (fun hg=>bJ (.r rfl))<|LL.gt rfl (fun hg=>bH (.g hg rfl))<|LL.gt rfl (fun hg=>aE (r:=2) nO (.g hg rfl) rfl)<|LL.gt rfl (fun hg=>aB O3 (.g hg rfl) (aW (aU (off:=2) (dP hh hcm) ⟨_,rfl⟩)))<|LL.gt rfl (fun hg=>aE (r:=0) lj (.r rfl) rfl)<|LL.gt rfl (fun hg=>aB O3 (.g hg rfl) (ax 1 rfl ⟨_,rfl⟩))<|LL.gt rfl (fun hg=>LO.le (.g hg rfl) (.g hg rfl))<|aV (dJ (.r rfl) rfl rfl (.r rfl)) rfl<|LL.m rfl<|LL.gt rfl (fun hg=>aE (r:=0) lj (.r rfl) rfl)<|LL.gt rfl (fun hg=>aB O3 (.g hg rfl) (ax 1 rfl ⟨_,rfl⟩))<|LL.gt rfl (fun hg=>bJ (.r rfl))<|LL.gt rfl (fun hg=>bH (.g hg rfl))<|LL.gt rfl (fun hg=>aE (r:=3) Aw (.g hg rfl) rfl)<|LL.gt rfl (fun hg=>aB O3 (.g hg rfl) (aW (aU (off:=3) (dP hh hcm) ⟨_,rfl⟩)))<|LL.gt rfl (fun hg=>lL (.g hg rfl) (.g hg rfl))<|aV (dJ (.r rfl) rfl rfl (.r rfl)) rfl<|ft) (by kernel_rfl)<|ag<|ay rfl (fun h112=>?_) (fun h112=>?_)
    ·
     have hic:PK r.x.r.pix cx.p nx.n=true:=DB h112
     have hrg:cx.p.rg=(r.i:Int):=h112.1.1.2
     have hbt:cx.bg≤nx.t:=h112.1.2
     have hat:nD (r.i:Int) r.x.r.pix CS NS i j cx.nm=nQ r.x.r.pix cx.p (NS.take i):=by rw[hcb.1];exact yE hCx hrg
     refine VC.q (VO.m rfl<|VO.m rfl<|ah (bH (.r rfl)) rfl<|VO.f (r:=0) o6 rfl<|ah (aB O3 (.r rfl) (aW (aU (off:=0) (dP hh hcm) ⟨_,rfl⟩))) rfl<|ah (Cl wU (.r rfl) (.r rfl) (fun _ hw=>⟨es,ck,dL hw 0 _ rfl,hE⟩)) rfl<|VO.m rfl<|ah (bN (.r rfl) rfl) rfl<|ah (bN (.r rfl) rfl) rfl<|VO.a rfl<|VO.a rfl<|VO.n<|ak<|eH mixed (LL.m rfl<|aV (LO.not (.r rfl)) rfl<|LL.m rfl<|LL.gf rfl (fun hg=>aE (r:=0) lj (.r rfl) rfl)<|LL.gf rfl (fun hg=>aB O3 (.g hg rfl) (ax 1 rfl ⟨_,rfl⟩))<|LL.gf rfl (fun hg=>bJ (.r rfl))<|LL.gf rfl (fun hg=>bH (.g hg rfl))<|LL.gf rfl (fun hg=>aE (r:=2) nO (.g hg rfl) rfl)<|LL.gf rfl (fun hg=>aB O3 (.g hg rfl) (aW (aU (off:=2) (dP hh hcm) ⟨_,rfl⟩)))<|LL.gf rfl (fun hg=>dv (.g hg rfl) (.g hg rfl) (wi (by omega) (by omega)))<|LL.gf rfl (fun hg=>bJ (.r rfl))<|LL.gf rfl (fun hg=>lL (.g hg rfl) (.g hg rfl))<|aV (dO (.r rfl) (.r rfl) rfl rfl) rfl<|ft) (by kernel_rfl)<|ag<|ay rfl (fun h134=>?_) (fun h134=>?_))
     ·
      have hupd:=uJ (k:=(r.i:Int)) hCx hNx hrg hic (CK hat h134)
      refine cP [[0,1,2,3],[1,2,3]] [some 0,some 0,some 0,some 0,some 0,some 0,some 0,some 0,some 0,some 0,some 0,some 0,none] mixed (by kernel_rfl) rfl (LX.m rfl<|LX.m rfl<|aA (fun _ hJ=>bH (.r rfl)) rfl<|aA (fun _ hJ=>aE (r:=0) o6 (.r rfl) rfl) rfl<|aA (fun _ hJ=>aB O3 (.r rfl) (aW (aU (off:=0) (dP hh hcm) ⟨_,rfl⟩))) rfl<|aA (fun _ hJ=>aE (r:=0) lj (.r rfl) rfl) rfl<|aA (fun _ hJ=>aB O3 (.r rfl) (fun _ hw=>aX (hJ _ hw) 1 rfl ⟨_,rfl⟩)) rfl<|LX.m rfl<|aA (fun _ hJ=>bH (.r rfl)) rfl<|aA (fun _ hJ=>aE (r:=2) nO (.r rfl) rfl) rfl<|aA (fun _ hJ=>aB O3 (.r rfl) (aW (aU (off:=2) (dP hh hcm) ⟨_,rfl⟩))) rfl<|aA (fun _ hJ=>dv (.r rfl) (.r rfl) (wi (by omega) (by omega))) rfl<|cn<|dw) (au<|au<|au<|au<|au<|au<|au<|au<|au<|au<|au<|au<|eW<|HO.Vk 0 (fun R=>[R,_,_,_]) wU (.r rfl) (.r rfl) (.r rfl) rfl hE hSt (fun _=>rfl) fun es2 ck2 Gy hSt2=>⟨fun _ hw=>hw.fO [1,2,3] rfl,dS ?_⟩)
      refine bB (ag<|aF (VO.p rfl rfl (by omega) (by omega) rfl<|VO.m rfl<|aI<|bn fun a w ha hw=>⟨(j+1,es2,ck2),⟨by dsimp only;omega,by dsimp only;rw[hupd];rw[hcb.1]at Gy;exact Gy,hSt2⟩,(by dsimp only;omega),ha.sub (.c4 rfl rfl rfl rfl (.c4 rfl rfl rfl rfl (.c4 rfl rfl rfl rfl (.cons rfl .nil)))),(by exact bM (L1:=[_,_,_,_]) [0,1,2,3] rfl rfl _ hw)⟩))
     ·
      obtain⟨u,hu1,hu2⟩:=yG hat h134
      have hsame:=sN (k:=(r.i:Int)) hCx hNx hrg hic hu1 hu2
      refine aC (bB (ag<|aF (VO.p rfl rfl (by omega) (by omega) rfl<|VO.m rfl<|aI<|bn fun a w ha hw=>⟨(j+1,es,ck),⟨by dsimp only;omega,by dsimp only;rw[hsame];exact hE,hSt⟩,(by dsimp only;omega),ha.sub (.c4 rfl rfl rfl rfl (.c4 rfl rfl rfl rfl (.c4 rfl rfl rfl rfl (.cons rfl .nil)))),(by exact bM (L1:=[_,_,_,_]) [0,1,2,3] rfl rfl _ hw)⟩)))
    ·
     have hskip:=sI (k:=(r.i:Int)) (pix:=r.x.r.pix) hCx hNx (fun q=>h112 (Cy q.1 q.2))
     refine aC (bB (ag<|aF (VO.p rfl rfl (by omega) (by omega) rfl<|VO.m rfl<|aI<|bn fun a w ha hw=>⟨(j+1,es,ck),⟨by dsimp only;omega,by dsimp only;rw[hskip];exact hE,hSt⟩,(by dsimp only;omega),ha.sub (.c4 rfl rfl rfl rfl (.c4 rfl rfl rfl rfl (.c4 rfl rfl rfl rfl (.cons rfl .nil)))),(by exact bM (L1:=[_,_,_,_]) [0,1,2,3] rfl rfl _ hw)⟩)))
   ·
    have hje:j=CS.length:=by omega
    rw[hje,sP]at hE
    refine ca (aL (aL (cD (bB (ag<|aF (VO.p rfl rfl (by omega) (by omega) rfl<|VO.m rfl<|aI<|bn fun a w ha hw=>⟨(i+1,(RU 0 T),es,ck),⟨by dsimp only;omega,by dsimp only;rw[hNT];exact uX hT (alM h47),hE,hSt⟩,(by dsimp only;omega),ha.sub (.c4 rfl rfl rfl rfl (.c4 rfl rfl rfl rfl .nil)),(by exact bM (L1:=[_,_,_]) [2,0,3] rfl rfl _ hw)⟩))))))
  ·
   refine VC.q (VO.m rfl<|VO.a rfl<|VO.n<|ay rfl (fun h56=>?_) (fun h56=>?_))
   ·
    refine aF (VO.f (r:=1) Mb rfl<|VO.c 1 O3 rfl rfl ⟨_,rfl⟩ rfl<|VO.p rfl rfl (by omega) (by omega) rfl<|VO.f (r:=1) Mb rfl<|bU<|bl 1 (vs:=[_]) (C':=[_,_,_,_,_,_,_]) (L':=[_,_,_,_]) N3 rfl rfl rfl rfl rfl rfl rfl rfl<|aI<|bB (ag<|VC.q (VO.m rfl<|ah (bH (.r rfl)) rfl<|VO.f (r:=11) tI rfl<|ah (aB II (.r rfl) (aW (aU (off:=11) (ky hh) ⟨_,rfl⟩))) rfl<|ah (bW wD (.r rfl) rfl) rfl<|VO.m rfl<|VO.n<|aG<|ik [2,0,1,3] rfl ?_)))
    refine bY (α:=Nat×(Array MapEntry)×Nat) 1 (fun gx=>[(79,.int .i64 (gx.1:Nat))]) [(0,_),(1,_),(6,_),(7,_),(8,_),(10,_),(11,_),(22,_),(23,_),(24,_),(77,_),(78,_)] (fun gx=>[de b3 (.map gx.2.1 gx.2.2)]) (fun gx=>gx.1≤o.cs.length∧uz gx.2.1.toList (nD r.i r.x.r.pix CS NS i gx.1)∧mH gx.2.1.toList gx.2.2) (fun gx=>o.cs.length-gx.1) (0,es,ck) (by exact⟨bG _,hE,hSt⟩) (.c4 rfl rfl rfl rfl (.c4 rfl rfl rfl rfl (.c4 rfl rfl rfl rfl (.cons rfl .nil)))) (fun _ h=>h) ?_
    rintro ⟨j,es,ck⟩ ⟨hj,hE,hSt⟩
    show VC _ _ _ _ _ ([(79,.int .i64 (j:Nat))]++_) ([de b3 (.map es ck)]++_) _ _
    dsimp only at hj hE hSt
    refine VC.q (VO.t rfl<|VO.n<|ak<|ay rfl (fun h80=>?_) (fun h80=>?_))
    ·
     obtain⟨cx,hcx⟩:∃x,o.cs[j]? =some x:=⟨_,af (by omega)⟩
     have hcm:=al hcx
     have hcb:=hcn j cx hcx
     have hCx:CS[j]? =some cx.p:=by rw[hCS,aw,hcx];rfl
     refine aC (ag<|ak<|aG<|VC.q (ah (cw wD JJ hcr.sm (.r rfl) (.r rfl) rfl (by omega)) rfl<|ah (aB vo (.r rfl) (fun w hw=>bq (off:=0) ((fun w2 hw2=>(hcr.keep w2 hw2).cells _ _ (by rw[aw,hcx];rfl)) w hw) ⟨_,rfl⟩)) rfl<|VO.a rfl<|VO.n<|ak ?_))
     refine eH mixed (LL.m rfl<|LL.m rfl<|LL.gt rfl (fun hg=>bJ (.r rfl))<|LL.gt rfl (fun hg=>bH (.g hg rfl))<|LL.gt rfl (fun hg=>aE (r:=1) Du (.g hg rfl) rfl)<|LL.gt rfl (fun hg=>aB O3 (.g hg rfl) (aW (aU (off:=1) (dP hh hcm) ⟨_,rfl⟩)))<|LL.gt rfl (fun hg=>bJ (.r rfl))<|LL.gt rfl (fun hg=>bH (.g hg rfl))<|LL.gt rfl (fun hg=>aE (r:=2) Al (.g hg rfl) rfl)<|LL.gt rfl (fun hg=>aB O3 (.g hg rfl) (aW (aU (off:=2) (mI hh hr).1 ⟨_,rfl⟩)))<|LL.gt rfl (fun hg=>fN (.g hg rfl) (.g hg rfl))<|aV (dJ (.r rfl) rfl rfl (.r rfl)) rfl<|LL.m rfl<|LL.gt rfl (fun hg=>bJ (.r rfl))<|LL.gt rfl (fun hg=>bH (.g hg rfl))<|LL.gt rfl (fun hg=>aE (r:=2) nO (.g hg rfl) rfl)<|LL.gt rfl (fun hg=>aB O3 (.g hg rfl) (aW (aU (off:=2) (dP hh hcm) ⟨_,rfl⟩)))<|LL.gt rfl (fun hg=>aE (r:=0) lj (.r rfl) rfl)<|LL.gt rfl (fun hg=>aB O3 (.g hg rfl) (ax 1 rfl ⟨_,rfl⟩))<|LL.gt rfl (fun hg=>LO.le (.g hg rfl) (.g hg rfl))<|aV (dJ (.r rfl) rfl rfl (.r rfl)) rfl<|LL.m rfl<|LL.gt rfl (fun hg=>aE (r:=0) lj (.r rfl) rfl)<|LL.gt rfl (fun hg=>aB O3 (.g hg rfl) (ax 1 rfl ⟨_,rfl⟩))<|LL.gt rfl (fun hg=>bJ (.r rfl))<|LL.gt rfl (fun hg=>bH (.g hg rfl))<|LL.gt rfl (fun hg=>aE (r:=3) Aw (.g hg rfl) rfl)<|LL.gt rfl (fun hg=>aB O3 (.g hg rfl) (aW (aU (off:=3) (dP hh hcm) ⟨_,rfl⟩)))<|LL.gt rfl (fun hg=>lL (.g hg rfl) (.g hg rfl))<|aV (dJ (.r rfl) rfl rfl (.r rfl)) rfl<|ft) (by kernel_rfl)<|ag<|ay rfl (fun h112=>?_) (fun h112=>?_)
     ·
      have hic:PK r.x.r.pix cx.p nx.n=true:=DB h112
      have hrg:cx.p.rg=(r.i:Int):=h112.1.1.2
      have hbt:cx.bg≤nx.t:=h112.1.2
      have hat:nD (r.i:Int) r.x.r.pix CS NS i j cx.nm=nQ r.x.r.pix cx.p (NS.take i):=by rw[hcb.1];exact yE hCx hrg
      refine VC.q (VO.m rfl<|VO.m rfl<|ah (bH (.r rfl)) rfl<|VO.f (r:=0) o6 rfl<|ah (aB O3 (.r rfl) (aW (aU (off:=0) (dP hh hcm) ⟨_,rfl⟩))) rfl<|ah (Cl wU (.r rfl) (.r rfl) (fun _ hw=>⟨es,ck,dL hw 0 _ rfl,hE⟩)) rfl<|VO.m rfl<|ah (bN (.r rfl) rfl) rfl<|ah (bN (.r rfl) rfl) rfl<|VO.a rfl<|VO.a rfl<|VO.n<|ak<|eH mixed (LL.m rfl<|aV (LO.not (.r rfl)) rfl<|LL.m rfl<|LL.gf rfl (fun hg=>aE (r:=0) lj (.r rfl) rfl)<|LL.gf rfl (fun hg=>aB O3 (.g hg rfl) (ax 1 rfl ⟨_,rfl⟩))<|LL.gf rfl (fun hg=>bJ (.r rfl))<|LL.gf rfl (fun hg=>bH (.g hg rfl))<|LL.gf rfl (fun hg=>aE (r:=2) nO (.g hg rfl) rfl)<|LL.gf rfl (fun hg=>aB O3 (.g hg rfl) (aW (aU (off:=2) (dP hh hcm) ⟨_,rfl⟩)))<|LL.gf rfl (fun hg=>dv (.g hg rfl) (.g hg rfl) (wi (by omega) (by omega)))<|LL.gf rfl (fun hg=>bJ (.r rfl))<|LL.gf rfl (fun hg=>lL (.g hg rfl) (.g hg rfl))<|aV (dO (.r rfl) (.r rfl) rfl rfl) rfl<|ft) (by kernel_rfl)<|ag<|ay rfl (fun h134=>?_) (fun h134=>?_))
      ·
       have hupd:=uJ (k:=(r.i:Int)) hCx hNx hrg hic (CK hat h134)
       refine cP [[0,1,2,3],[1,2,3]] [some 0,some 0,some 0,some 0,some 0,some 0,some 0,some 0,some 0,some 0,some 0,some 0,none] mixed (by kernel_rfl) rfl (LX.m rfl<|LX.m rfl<|aA (fun _ hJ=>bH (.r rfl)) rfl<|aA (fun _ hJ=>aE (r:=0) o6 (.r rfl) rfl) rfl<|aA (fun _ hJ=>aB O3 (.r rfl) (aW (aU (off:=0) (dP hh hcm) ⟨_,rfl⟩))) rfl<|aA (fun _ hJ=>aE (r:=0) lj (.r rfl) rfl) rfl<|aA (fun _ hJ=>aB O3 (.r rfl) (fun _ hw=>aX (hJ _ hw) 1 rfl ⟨_,rfl⟩)) rfl<|LX.m rfl<|aA (fun _ hJ=>bH (.r rfl)) rfl<|aA (fun _ hJ=>aE (r:=2) nO (.r rfl) rfl) rfl<|aA (fun _ hJ=>aB O3 (.r rfl) (aW (aU (off:=2) (dP hh hcm) ⟨_,rfl⟩))) rfl<|aA (fun _ hJ=>dv (.r rfl) (.r rfl) (wi (by omega) (by omega))) rfl<|cn<|dw) (au<|au<|au<|au<|au<|au<|au<|au<|au<|au<|au<|au<|eW<|HO.Vk 0 (fun R=>[R,_,_,_]) wU (.r rfl) (.r rfl) (.r rfl) rfl hE hSt (fun _=>rfl) fun es2 ck2 Gy hSt2=>⟨fun _ hw=>hw.fO [1,2,3] rfl,dS ?_⟩)
       refine bB (ag<|aF (VO.p rfl rfl (by omega) (by omega) rfl<|VO.m rfl<|aI<|bn fun a w ha hw=>⟨(j+1,es2,ck2),⟨by dsimp only;omega,by dsimp only;rw[hupd];rw[hcb.1]at Gy;exact Gy,hSt2⟩,(by dsimp only;omega),ha.sub (.c4 rfl rfl rfl rfl (.c4 rfl rfl rfl rfl (.c4 rfl rfl rfl rfl (.cons rfl .nil)))),(by exact bM (L1:=[_,_,_,_]) [0,1,2,3] rfl rfl _ hw)⟩))
      ·
       obtain⟨u,hu1,hu2⟩:=yG hat h134
       have hsame:=sN (k:=(r.i:Int)) hCx hNx hrg hic hu1 hu2
       refine aC (bB (ag<|aF (VO.p rfl rfl (by omega) (by omega) rfl<|VO.m rfl<|aI<|bn fun a w ha hw=>⟨(j+1,es,ck),⟨by dsimp only;omega,by dsimp only;rw[hsame];exact hE,hSt⟩,(by dsimp only;omega),ha.sub (.c4 rfl rfl rfl rfl (.c4 rfl rfl rfl rfl (.c4 rfl rfl rfl rfl (.cons rfl .nil)))),(by exact bM (L1:=[_,_,_,_]) [0,1,2,3] rfl rfl _ hw)⟩)))
     ·
      have hskip:=sI (k:=(r.i:Int)) (pix:=r.x.r.pix) hCx hNx (fun q=>h112 (Cy q.1 q.2))
      refine aC (bB (ag<|aF (VO.p rfl rfl (by omega) (by omega) rfl<|VO.m rfl<|aI<|bn fun a w ha hw=>⟨(j+1,es,ck),⟨by dsimp only;omega,by dsimp only;rw[hskip];exact hE,hSt⟩,(by dsimp only;omega),ha.sub (.c4 rfl rfl rfl rfl (.c4 rfl rfl rfl rfl (.c4 rfl rfl rfl rfl (.cons rfl .nil)))),(by exact bM (L1:=[_,_,_,_]) [0,1,2,3] rfl rfl _ hw)⟩)))
    ·
     have hje:j=CS.length:=by omega
     rw[hje,sP]at hE
     refine ca (aL (aL (cD (bB (ag<|aF (VO.p rfl rfl (by omega) (by omega) rfl<|VO.m rfl<|aI<|bn fun a w ha hw=>⟨(i+1,(RU 1 T),es,ck),⟨by dsimp only;omega,by dsimp only;rw[hNT];exact uX hT (amK h47 h56),hE,hSt⟩,(by dsimp only;omega),ha.sub (.c4 rfl rfl rfl rfl (.c4 rfl rfl rfl rfl .nil)),(by exact bM (L1:=[_,_,_]) [2,0,3] rfl rfl _ hw)⟩))))))
   ·
    refine VC.q (VO.m rfl<|VO.a rfl<|VO.n<|ay rfl (fun h62=>?_) (fun h62=>?_))
    ·
     refine aF (VO.f (r:=4) Mu rfl<|VO.c 1 O3 rfl rfl ⟨_,rfl⟩ rfl<|VO.p rfl rfl (by omega) (by omega) rfl<|VO.f (r:=4) Mu rfl<|bU<|bl 1 (vs:=[_]) (C':=[_,_,_,_,_,_,_]) (L':=[_,_,_,_]) N3 rfl rfl rfl rfl rfl rfl rfl rfl<|aI<|bB (ag<|VC.q (VO.m rfl<|ah (bH (.r rfl)) rfl<|VO.f (r:=11) tI rfl<|ah (aB II (.r rfl) (aW (aU (off:=11) (ky hh) ⟨_,rfl⟩))) rfl<|ah (bW wD (.r rfl) rfl) rfl<|VO.m rfl<|VO.n<|aG<|ik [2,0,1,3] rfl ?_)))
     refine bY (α:=Nat×(Array MapEntry)×Nat) 1 (fun gx=>[(79,.int .i64 (gx.1:Nat))]) [(0,_),(1,_),(6,_),(7,_),(8,_),(10,_),(11,_),(22,_),(23,_),(24,_),(77,_),(78,_)] (fun gx=>[de b3 (.map gx.2.1 gx.2.2)]) (fun gx=>gx.1≤o.cs.length∧uz gx.2.1.toList (nD r.i r.x.r.pix CS NS i gx.1)∧mH gx.2.1.toList gx.2.2) (fun gx=>o.cs.length-gx.1) (0,es,ck) (by exact⟨bG _,hE,hSt⟩) (.c4 rfl rfl rfl rfl (.c4 rfl rfl rfl rfl (.c4 rfl rfl rfl rfl (.cons rfl .nil)))) (fun _ h=>h) ?_
     rintro ⟨j,es,ck⟩ ⟨hj,hE,hSt⟩
     show VC _ _ _ _ _ ([(79,.int .i64 (j:Nat))]++_) ([de b3 (.map es ck)]++_) _ _
     dsimp only at hj hE hSt
     refine VC.q (VO.t rfl<|VO.n<|ak<|ay rfl (fun h80=>?_) (fun h80=>?_))
     ·
      obtain⟨cx,hcx⟩:∃x,o.cs[j]? =some x:=⟨_,af (by omega)⟩
      have hcm:=al hcx
      have hcb:=hcn j cx hcx
      have hCx:CS[j]? =some cx.p:=by rw[hCS,aw,hcx];rfl
      refine aC (ag<|ak<|aG<|VC.q (ah (cw wD JJ hcr.sm (.r rfl) (.r rfl) rfl (by omega)) rfl<|ah (aB vo (.r rfl) (fun w hw=>bq (off:=0) ((fun w2 hw2=>(hcr.keep w2 hw2).cells _ _ (by rw[aw,hcx];rfl)) w hw) ⟨_,rfl⟩)) rfl<|VO.a rfl<|VO.n<|ak ?_))
      refine eH mixed (LL.m rfl<|LL.m rfl<|LL.gt rfl (fun hg=>bJ (.r rfl))<|LL.gt rfl (fun hg=>bH (.g hg rfl))<|LL.gt rfl (fun hg=>aE (r:=1) Du (.g hg rfl) rfl)<|LL.gt rfl (fun hg=>aB O3 (.g hg rfl) (aW (aU (off:=1) (dP hh hcm) ⟨_,rfl⟩)))<|LL.gt rfl (fun hg=>bJ (.r rfl))<|LL.gt rfl (fun hg=>bH (.g hg rfl))<|LL.gt rfl (fun hg=>aE (r:=2) Al (.g hg rfl) rfl)<|LL.gt rfl (fun hg=>aB O3 (.g hg rfl) (aW (aU (off:=2) (mI hh hr).1 ⟨_,rfl⟩)))<|LL.gt rfl (fun hg=>fN (.g hg rfl) (.g hg rfl))<|aV (dJ (.r rfl) rfl rfl (.r rfl)) rfl<|LL.m rfl<|LL.gt rfl (fun hg=>bJ (.r rfl))<|LL.gt rfl (fun hg=>bH (.g hg rfl))<|LL.gt rfl (fun hg=>aE (r:=2) nO (.g hg rfl) rfl)<|LL.gt rfl (fun hg=>aB O3 (.g hg rfl) (aW (aU (off:=2) (dP hh hcm) ⟨_,rfl⟩)))<|LL.gt rfl (fun hg=>aE (r:=0) lj (.r rfl) rfl)<|LL.gt rfl (fun hg=>aB O3 (.g hg rfl) (ax 1 rfl ⟨_,rfl⟩))<|LL.gt rfl (fun hg=>LO.le (.g hg rfl) (.g hg rfl))<|aV (dJ (.r rfl) rfl rfl (.r rfl)) rfl<|LL.m rfl<|LL.gt rfl (fun hg=>aE (r:=0) lj (.r rfl) rfl)<|LL.gt rfl (fun hg=>aB O3 (.g hg rfl) (ax 1 rfl ⟨_,rfl⟩))<|LL.gt rfl (fun hg=>bJ (.r rfl))<|LL.gt rfl (fun hg=>bH (.g hg rfl))<|LL.gt rfl (fun hg=>aE (r:=3) Aw (.g hg rfl) rfl)<|LL.gt rfl (fun hg=>aB O3 (.g hg rfl) (aW (aU (off:=3) (dP hh hcm) ⟨_,rfl⟩)))<|LL.gt rfl (fun hg=>lL (.g hg rfl) (.g hg rfl))<|aV (dJ (.r rfl) rfl rfl (.r rfl)) rfl<|ft) (by kernel_rfl)<|ag<|ay rfl (fun h112=>?_) (fun h112=>?_)
      ·
       have hic:PK r.x.r.pix cx.p nx.n=true:=DB h112
       have hrg:cx.p.rg=(r.i:Int):=h112.1.1.2
       have hbt:cx.bg≤nx.t:=h112.1.2
       have hat:nD (r.i:Int) r.x.r.pix CS NS i j cx.nm=nQ r.x.r.pix cx.p (NS.take i):=by rw[hcb.1];exact yE hCx hrg
       refine VC.q (VO.m rfl<|VO.m rfl<|ah (bH (.r rfl)) rfl<|VO.f (r:=0) o6 rfl<|ah (aB O3 (.r rfl) (aW (aU (off:=0) (dP hh hcm) ⟨_,rfl⟩))) rfl<|ah (Cl wU (.r rfl) (.r rfl) (fun _ hw=>⟨es,ck,dL hw 0 _ rfl,hE⟩)) rfl<|VO.m rfl<|ah (bN (.r rfl) rfl) rfl<|ah (bN (.r rfl) rfl) rfl<|VO.a rfl<|VO.a rfl<|VO.n<|ak<|eH mixed (LL.m rfl<|aV (LO.not (.r rfl)) rfl<|LL.m rfl<|LL.gf rfl (fun hg=>aE (r:=0) lj (.r rfl) rfl)<|LL.gf rfl (fun hg=>aB O3 (.g hg rfl) (ax 1 rfl ⟨_,rfl⟩))<|LL.gf rfl (fun hg=>bJ (.r rfl))<|LL.gf rfl (fun hg=>bH (.g hg rfl))<|LL.gf rfl (fun hg=>aE (r:=2) nO (.g hg rfl) rfl)<|LL.gf rfl (fun hg=>aB O3 (.g hg rfl) (aW (aU (off:=2) (dP hh hcm) ⟨_,rfl⟩)))<|LL.gf rfl (fun hg=>dv (.g hg rfl) (.g hg rfl) (wi (by omega) (by omega)))<|LL.gf rfl (fun hg=>bJ (.r rfl))<|LL.gf rfl (fun hg=>lL (.g hg rfl) (.g hg rfl))<|aV (dO (.r rfl) (.r rfl) rfl rfl) rfl<|ft) (by kernel_rfl)<|ag<|ay rfl (fun h134=>?_) (fun h134=>?_))
       ·
        have hupd:=uJ (k:=(r.i:Int)) hCx hNx hrg hic (CK hat h134)
        refine cP [[0,1,2,3],[1,2,3]] [some 0,some 0,some 0,some 0,some 0,some 0,some 0,some 0,some 0,some 0,some 0,some 0,none] mixed (by kernel_rfl) rfl (LX.m rfl<|LX.m rfl<|aA (fun _ hJ=>bH (.r rfl)) rfl<|aA (fun _ hJ=>aE (r:=0) o6 (.r rfl) rfl) rfl<|aA (fun _ hJ=>aB O3 (.r rfl) (aW (aU (off:=0) (dP hh hcm) ⟨_,rfl⟩))) rfl<|aA (fun _ hJ=>aE (r:=0) lj (.r rfl) rfl) rfl<|aA (fun _ hJ=>aB O3 (.r rfl) (fun _ hw=>aX (hJ _ hw) 1 rfl ⟨_,rfl⟩)) rfl<|LX.m rfl<|aA (fun _ hJ=>bH (.r rfl)) rfl<|aA (fun _ hJ=>aE (r:=2) nO (.r rfl) rfl) rfl<|aA (fun _ hJ=>aB O3 (.r rfl) (aW (aU (off:=2) (dP hh hcm) ⟨_,rfl⟩))) rfl<|aA (fun _ hJ=>dv (.r rfl) (.r rfl) (wi (by omega) (by omega))) rfl<|cn<|dw) (au<|au<|au<|au<|au<|au<|au<|au<|au<|au<|au<|au<|eW<|HO.Vk 0 (fun R=>[R,_,_,_]) wU (.r rfl) (.r rfl) (.r rfl) rfl hE hSt (fun _=>rfl) fun es2 ck2 Gy hSt2=>⟨fun _ hw=>hw.fO [1,2,3] rfl,dS ?_⟩)
        refine bB (ag<|aF (VO.p rfl rfl (by omega) (by omega) rfl<|VO.m rfl<|aI<|bn fun a w ha hw=>⟨(j+1,es2,ck2),⟨by dsimp only;omega,by dsimp only;rw[hupd];rw[hcb.1]at Gy;exact Gy,hSt2⟩,(by dsimp only;omega),ha.sub (.c4 rfl rfl rfl rfl (.c4 rfl rfl rfl rfl (.c4 rfl rfl rfl rfl (.cons rfl .nil)))),(by exact bM (L1:=[_,_,_,_]) [0,1,2,3] rfl rfl _ hw)⟩))
       ·
        obtain⟨u,hu1,hu2⟩:=yG hat h134
        have hsame:=sN (k:=(r.i:Int)) hCx hNx hrg hic hu1 hu2
        refine aC (bB (ag<|aF (VO.p rfl rfl (by omega) (by omega) rfl<|VO.m rfl<|aI<|bn fun a w ha hw=>⟨(j+1,es,ck),⟨by dsimp only;omega,by dsimp only;rw[hsame];exact hE,hSt⟩,(by dsimp only;omega),ha.sub (.c4 rfl rfl rfl rfl (.c4 rfl rfl rfl rfl (.c4 rfl rfl rfl rfl (.cons rfl .nil)))),(by exact bM (L1:=[_,_,_,_]) [0,1,2,3] rfl rfl _ hw)⟩)))
      ·
       have hskip:=sI (k:=(r.i:Int)) (pix:=r.x.r.pix) hCx hNx (fun q=>h112 (Cy q.1 q.2))
       refine aC (bB (ag<|aF (VO.p rfl rfl (by omega) (by omega) rfl<|VO.m rfl<|aI<|bn fun a w ha hw=>⟨(j+1,es,ck),⟨by dsimp only;omega,by dsimp only;rw[hskip];exact hE,hSt⟩,(by dsimp only;omega),ha.sub (.c4 rfl rfl rfl rfl (.c4 rfl rfl rfl rfl (.c4 rfl rfl rfl rfl (.cons rfl .nil)))),(by exact bM (L1:=[_,_,_,_]) [0,1,2,3] rfl rfl _ hw)⟩)))
     ·
      have hje:j=CS.length:=by omega
      rw[hje,sP]at hE
      refine ca (aL (aL (cD (bB (ag<|aF (VO.p rfl rfl (by omega) (by omega) rfl<|VO.m rfl<|aI<|bn fun a w ha hw=>⟨(i+1,(RU 2 T),es,ck),⟨by dsimp only;omega,by dsimp only;rw[hNT];exact uX hT (am9 h47 h56 h62),hE,hSt⟩,(by dsimp only;omega),ha.sub (.c4 rfl rfl rfl rfl (.c4 rfl rfl rfl rfl .nil)),(by exact bM (L1:=[_,_,_]) [2,0,3] rfl rfl _ hw)⟩))))))
    ·
     refine VC.q (VO.m rfl<|VO.a rfl<|VO.n<|ay rfl (fun h68=>?_) (fun h68=>?_))
     ·
      refine aF (VO.f (r:=2) C5 rfl<|VO.c 1 O3 rfl rfl ⟨_,rfl⟩ rfl<|VO.p rfl rfl (by omega) (by omega) rfl<|VO.f (r:=2) C5 rfl<|bU<|bl 1 (vs:=[_]) (C':=[_,_,_,_,_,_,_]) (L':=[_,_,_,_]) N3 rfl rfl rfl rfl rfl rfl rfl rfl<|aI<|bB (ag<|VC.q (VO.m rfl<|ah (bH (.r rfl)) rfl<|VO.f (r:=11) tI rfl<|ah (aB II (.r rfl) (aW (aU (off:=11) (ky hh) ⟨_,rfl⟩))) rfl<|ah (bW wD (.r rfl) rfl) rfl<|VO.m rfl<|VO.n<|aG<|ik [2,0,1,3] rfl ?_)))
      refine bY (α:=Nat×(Array MapEntry)×Nat) 1 (fun gx=>[(79,.int .i64 (gx.1:Nat))]) [(0,_),(1,_),(6,_),(7,_),(8,_),(10,_),(11,_),(22,_),(23,_),(24,_),(77,_),(78,_)] (fun gx=>[de b3 (.map gx.2.1 gx.2.2)]) (fun gx=>gx.1≤o.cs.length∧uz gx.2.1.toList (nD r.i r.x.r.pix CS NS i gx.1)∧mH gx.2.1.toList gx.2.2) (fun gx=>o.cs.length-gx.1) (0,es,ck) (by exact⟨bG _,hE,hSt⟩) (.c4 rfl rfl rfl rfl (.c4 rfl rfl rfl rfl (.c4 rfl rfl rfl rfl (.cons rfl .nil)))) (fun _ h=>h) ?_
      rintro ⟨j,es,ck⟩ ⟨hj,hE,hSt⟩
      show VC _ _ _ _ _ ([(79,.int .i64 (j:Nat))]++_) ([de b3 (.map es ck)]++_) _ _
      dsimp only at hj hE hSt
      refine VC.q (VO.t rfl<|VO.n<|ak<|ay rfl (fun h80=>?_) (fun h80=>?_))
      ·
       obtain⟨cx,hcx⟩:∃x,o.cs[j]? =some x:=⟨_,af (by omega)⟩
       have hcm:=al hcx
       have hcb:=hcn j cx hcx
       have hCx:CS[j]? =some cx.p:=by rw[hCS,aw,hcx];rfl
       refine aC (ag<|ak<|aG<|VC.q (ah (cw wD JJ hcr.sm (.r rfl) (.r rfl) rfl (by omega)) rfl<|ah (aB vo (.r rfl) (fun w hw=>bq (off:=0) ((fun w2 hw2=>(hcr.keep w2 hw2).cells _ _ (by rw[aw,hcx];rfl)) w hw) ⟨_,rfl⟩)) rfl<|VO.a rfl<|VO.n<|ak ?_))
       refine eH mixed (LL.m rfl<|LL.m rfl<|LL.gt rfl (fun hg=>bJ (.r rfl))<|LL.gt rfl (fun hg=>bH (.g hg rfl))<|LL.gt rfl (fun hg=>aE (r:=1) Du (.g hg rfl) rfl)<|LL.gt rfl (fun hg=>aB O3 (.g hg rfl) (aW (aU (off:=1) (dP hh hcm) ⟨_,rfl⟩)))<|LL.gt rfl (fun hg=>bJ (.r rfl))<|LL.gt rfl (fun hg=>bH (.g hg rfl))<|LL.gt rfl (fun hg=>aE (r:=2) Al (.g hg rfl) rfl)<|LL.gt rfl (fun hg=>aB O3 (.g hg rfl) (aW (aU (off:=2) (mI hh hr).1 ⟨_,rfl⟩)))<|LL.gt rfl (fun hg=>fN (.g hg rfl) (.g hg rfl))<|aV (dJ (.r rfl) rfl rfl (.r rfl)) rfl<|LL.m rfl<|LL.gt rfl (fun hg=>bJ (.r rfl))<|LL.gt rfl (fun hg=>bH (.g hg rfl))<|LL.gt rfl (fun hg=>aE (r:=2) nO (.g hg rfl) rfl)<|LL.gt rfl (fun hg=>aB O3 (.g hg rfl) (aW (aU (off:=2) (dP hh hcm) ⟨_,rfl⟩)))<|LL.gt rfl (fun hg=>aE (r:=0) lj (.r rfl) rfl)<|LL.gt rfl (fun hg=>aB O3 (.g hg rfl) (ax 1 rfl ⟨_,rfl⟩))<|LL.gt rfl (fun hg=>LO.le (.g hg rfl) (.g hg rfl))<|aV (dJ (.r rfl) rfl rfl (.r rfl)) rfl<|LL.m rfl<|LL.gt rfl (fun hg=>aE (r:=0) lj (.r rfl) rfl)<|LL.gt rfl (fun hg=>aB O3 (.g hg rfl) (ax 1 rfl ⟨_,rfl⟩))<|LL.gt rfl (fun hg=>bJ (.r rfl))<|LL.gt rfl (fun hg=>bH (.g hg rfl))<|LL.gt rfl (fun hg=>aE (r:=3) Aw (.g hg rfl) rfl)<|LL.gt rfl (fun hg=>aB O3 (.g hg rfl) (aW (aU (off:=3) (dP hh hcm) ⟨_,rfl⟩)))<|LL.gt rfl (fun hg=>lL (.g hg rfl) (.g hg rfl))<|aV (dJ (.r rfl) rfl rfl (.r rfl)) rfl<|ft) (by kernel_rfl)<|ag<|ay rfl (fun h112=>?_) (fun h112=>?_)
       ·
        have hic:PK r.x.r.pix cx.p nx.n=true:=DB h112
        have hrg:cx.p.rg=(r.i:Int):=h112.1.1.2
        have hbt:cx.bg≤nx.t:=h112.1.2
        have hat:nD (r.i:Int) r.x.r.pix CS NS i j cx.nm=nQ r.x.r.pix cx.p (NS.take i):=by rw[hcb.1];exact yE hCx hrg
        refine VC.q (VO.m rfl<|VO.m rfl<|ah (bH (.r rfl)) rfl<|VO.f (r:=0) o6 rfl<|ah (aB O3 (.r rfl) (aW (aU (off:=0) (dP hh hcm) ⟨_,rfl⟩))) rfl<|ah (Cl wU (.r rfl) (.r rfl) (fun _ hw=>⟨es,ck,dL hw 0 _ rfl,hE⟩)) rfl<|VO.m rfl<|ah (bN (.r rfl) rfl) rfl<|ah (bN (.r rfl) rfl) rfl<|VO.a rfl<|VO.a rfl<|VO.n<|ak<|eH mixed (LL.m rfl<|aV (LO.not (.r rfl)) rfl<|LL.m rfl<|LL.gf rfl (fun hg=>aE (r:=0) lj (.r rfl) rfl)<|LL.gf rfl (fun hg=>aB O3 (.g hg rfl) (ax 1 rfl ⟨_,rfl⟩))<|LL.gf rfl (fun hg=>bJ (.r rfl))<|LL.gf rfl (fun hg=>bH (.g hg rfl))<|LL.gf rfl (fun hg=>aE (r:=2) nO (.g hg rfl) rfl)<|LL.gf rfl (fun hg=>aB O3 (.g hg rfl) (aW (aU (off:=2) (dP hh hcm) ⟨_,rfl⟩)))<|LL.gf rfl (fun hg=>dv (.g hg rfl) (.g hg rfl) (wi (by omega) (by omega)))<|LL.gf rfl (fun hg=>bJ (.r rfl))<|LL.gf rfl (fun hg=>lL (.g hg rfl) (.g hg rfl))<|aV (dO (.r rfl) (.r rfl) rfl rfl) rfl<|ft) (by kernel_rfl)<|ag<|ay rfl (fun h134=>?_) (fun h134=>?_))
        ·
         have hupd:=uJ (k:=(r.i:Int)) hCx hNx hrg hic (CK hat h134)
         refine cP [[0,1,2,3],[1,2,3]] [some 0,some 0,some 0,some 0,some 0,some 0,some 0,some 0,some 0,some 0,some 0,some 0,none] mixed (by kernel_rfl) rfl (LX.m rfl<|LX.m rfl<|aA (fun _ hJ=>bH (.r rfl)) rfl<|aA (fun _ hJ=>aE (r:=0) o6 (.r rfl) rfl) rfl<|aA (fun _ hJ=>aB O3 (.r rfl) (aW (aU (off:=0) (dP hh hcm) ⟨_,rfl⟩))) rfl<|aA (fun _ hJ=>aE (r:=0) lj (.r rfl) rfl) rfl<|aA (fun _ hJ=>aB O3 (.r rfl) (fun _ hw=>aX (hJ _ hw) 1 rfl ⟨_,rfl⟩)) rfl<|LX.m rfl<|aA (fun _ hJ=>bH (.r rfl)) rfl<|aA (fun _ hJ=>aE (r:=2) nO (.r rfl) rfl) rfl<|aA (fun _ hJ=>aB O3 (.r rfl) (aW (aU (off:=2) (dP hh hcm) ⟨_,rfl⟩))) rfl<|aA (fun _ hJ=>dv (.r rfl) (.r rfl) (wi (by omega) (by omega))) rfl<|cn<|dw) (au<|au<|au<|au<|au<|au<|au<|au<|au<|au<|au<|au<|eW<|HO.Vk 0 (fun R=>[R,_,_,_]) wU (.r rfl) (.r rfl) (.r rfl) rfl hE hSt (fun _=>rfl) fun es2 ck2 Gy hSt2=>⟨fun _ hw=>hw.fO [1,2,3] rfl,dS ?_⟩)
         refine bB (ag<|aF (VO.p rfl rfl (by omega) (by omega) rfl<|VO.m rfl<|aI<|bn fun a w ha hw=>⟨(j+1,es2,ck2),⟨by dsimp only;omega,by dsimp only;rw[hupd];rw[hcb.1]at Gy;exact Gy,hSt2⟩,(by dsimp only;omega),ha.sub (.c4 rfl rfl rfl rfl (.c4 rfl rfl rfl rfl (.c4 rfl rfl rfl rfl (.cons rfl .nil)))),(by exact bM (L1:=[_,_,_,_]) [0,1,2,3] rfl rfl _ hw)⟩))
        ·
         obtain⟨u,hu1,hu2⟩:=yG hat h134
         have hsame:=sN (k:=(r.i:Int)) hCx hNx hrg hic hu1 hu2
         refine aC (bB (ag<|aF (VO.p rfl rfl (by omega) (by omega) rfl<|VO.m rfl<|aI<|bn fun a w ha hw=>⟨(j+1,es,ck),⟨by dsimp only;omega,by dsimp only;rw[hsame];exact hE,hSt⟩,(by dsimp only;omega),ha.sub (.c4 rfl rfl rfl rfl (.c4 rfl rfl rfl rfl (.c4 rfl rfl rfl rfl (.cons rfl .nil)))),(by exact bM (L1:=[_,_,_,_]) [0,1,2,3] rfl rfl _ hw)⟩)))
       ·
        have hskip:=sI (k:=(r.i:Int)) (pix:=r.x.r.pix) hCx hNx (fun q=>h112 (Cy q.1 q.2))
        refine aC (bB (ag<|aF (VO.p rfl rfl (by omega) (by omega) rfl<|VO.m rfl<|aI<|bn fun a w ha hw=>⟨(j+1,es,ck),⟨by dsimp only;omega,by dsimp only;rw[hskip];exact hE,hSt⟩,(by dsimp only;omega),ha.sub (.c4 rfl rfl rfl rfl (.c4 rfl rfl rfl rfl (.c4 rfl rfl rfl rfl (.cons rfl .nil)))),(by exact bM (L1:=[_,_,_,_]) [0,1,2,3] rfl rfl _ hw)⟩)))
      ·
       have hje:j=CS.length:=by omega
       rw[hje,sP]at hE
       refine ca (aL (aL (cD (bB (ag<|aF (VO.p rfl rfl (by omega) (by omega) rfl<|VO.m rfl<|aI<|bn fun a w ha hw=>⟨(i+1,(RU 3 T),es,ck),⟨by dsimp only;omega,by dsimp only;rw[hNT];exact uX hT (alg h47 h56 h62 h68),hE,hSt⟩,(by dsimp only;omega),ha.sub (.c4 rfl rfl rfl rfl (.c4 rfl rfl rfl rfl .nil)),(by exact bM (L1:=[_,_,_]) [2,0,3] rfl rfl _ hw)⟩))))))
     ·
      refine aF (VO.f (r:=3) Me rfl<|VO.c 1 O3 rfl rfl ⟨_,rfl⟩ rfl<|VO.p rfl rfl (by omega) (by omega) rfl<|VO.f (r:=3) Me rfl<|bU<|bl 1 (vs:=[_]) (C':=[_,_,_,_,_,_,_]) (L':=[_,_,_,_]) N3 rfl rfl rfl rfl rfl rfl rfl rfl<|aI<|bB (ag<|VC.q (VO.m rfl<|ah (bH (.r rfl)) rfl<|VO.f (r:=11) tI rfl<|ah (aB II (.r rfl) (aW (aU (off:=11) (ky hh) ⟨_,rfl⟩))) rfl<|ah (bW wD (.r rfl) rfl) rfl<|VO.m rfl<|VO.n<|aG<|ik [2,0,1,3] rfl ?_)))
      refine bY (α:=Nat×(Array MapEntry)×Nat) 1 (fun gx=>[(79,.int .i64 (gx.1:Nat))]) [(0,_),(1,_),(6,_),(7,_),(8,_),(10,_),(11,_),(22,_),(23,_),(24,_),(77,_),(78,_)] (fun gx=>[de b3 (.map gx.2.1 gx.2.2)]) (fun gx=>gx.1≤o.cs.length∧uz gx.2.1.toList (nD r.i r.x.r.pix CS NS i gx.1)∧mH gx.2.1.toList gx.2.2) (fun gx=>o.cs.length-gx.1) (0,es,ck) (by exact⟨bG _,hE,hSt⟩) (.c4 rfl rfl rfl rfl (.c4 rfl rfl rfl rfl (.c4 rfl rfl rfl rfl (.cons rfl .nil)))) (fun _ h=>h) ?_
      rintro ⟨j,es,ck⟩ ⟨hj,hE,hSt⟩
      show VC _ _ _ _ _ ([(79,.int .i64 (j:Nat))]++_) ([de b3 (.map es ck)]++_) _ _
      dsimp only at hj hE hSt
      refine VC.q (VO.t rfl<|VO.n<|ak<|ay rfl (fun h80=>?_) (fun h80=>?_))
      ·
       obtain⟨cx,hcx⟩:∃x,o.cs[j]? =some x:=⟨_,af (by omega)⟩
       have hcm:=al hcx
       have hcb:=hcn j cx hcx
       have hCx:CS[j]? =some cx.p:=by rw[hCS,aw,hcx];rfl
       refine aC (ag<|ak<|aG<|VC.q (ah (cw wD JJ hcr.sm (.r rfl) (.r rfl) rfl (by omega)) rfl<|ah (aB vo (.r rfl) (fun w hw=>bq (off:=0) ((fun w2 hw2=>(hcr.keep w2 hw2).cells _ _ (by rw[aw,hcx];rfl)) w hw) ⟨_,rfl⟩)) rfl<|VO.a rfl<|VO.n<|ak ?_))
       refine eH mixed (LL.m rfl<|LL.m rfl<|LL.gt rfl (fun hg=>bJ (.r rfl))<|LL.gt rfl (fun hg=>bH (.g hg rfl))<|LL.gt rfl (fun hg=>aE (r:=1) Du (.g hg rfl) rfl)<|LL.gt rfl (fun hg=>aB O3 (.g hg rfl) (aW (aU (off:=1) (dP hh hcm) ⟨_,rfl⟩)))<|LL.gt rfl (fun hg=>bJ (.r rfl))<|LL.gt rfl (fun hg=>bH (.g hg rfl))<|LL.gt rfl (fun hg=>aE (r:=2) Al (.g hg rfl) rfl)<|LL.gt rfl (fun hg=>aB O3 (.g hg rfl) (aW (aU (off:=2) (mI hh hr).1 ⟨_,rfl⟩)))<|LL.gt rfl (fun hg=>fN (.g hg rfl) (.g hg rfl))<|aV (dJ (.r rfl) rfl rfl (.r rfl)) rfl<|LL.m rfl<|LL.gt rfl (fun hg=>bJ (.r rfl))<|LL.gt rfl (fun hg=>bH (.g hg rfl))<|LL.gt rfl (fun hg=>aE (r:=2) nO (.g hg rfl) rfl)<|LL.gt rfl (fun hg=>aB O3 (.g hg rfl) (aW (aU (off:=2) (dP hh hcm) ⟨_,rfl⟩)))<|LL.gt rfl (fun hg=>aE (r:=0) lj (.r rfl) rfl)<|LL.gt rfl (fun hg=>aB O3 (.g hg rfl) (ax 1 rfl ⟨_,rfl⟩))<|LL.gt rfl (fun hg=>LO.le (.g hg rfl) (.g hg rfl))<|aV (dJ (.r rfl) rfl rfl (.r rfl)) rfl<|LL.m rfl<|LL.gt rfl (fun hg=>aE (r:=0) lj (.r rfl) rfl)<|LL.gt rfl (fun hg=>aB O3 (.g hg rfl) (ax 1 rfl ⟨_,rfl⟩))<|LL.gt rfl (fun hg=>bJ (.r rfl))<|LL.gt rfl (fun hg=>bH (.g hg rfl))<|LL.gt rfl (fun hg=>aE (r:=3) Aw (.g hg rfl) rfl)<|LL.gt rfl (fun hg=>aB O3 (.g hg rfl) (aW (aU (off:=3) (dP hh hcm) ⟨_,rfl⟩)))<|LL.gt rfl (fun hg=>lL (.g hg rfl) (.g hg rfl))<|aV (dJ (.r rfl) rfl rfl (.r rfl)) rfl<|ft) (by kernel_rfl)<|ag<|ay rfl (fun h112=>?_) (fun h112=>?_)
       ·
        have hic:PK r.x.r.pix cx.p nx.n=true:=DB h112
        have hrg:cx.p.rg=(r.i:Int):=h112.1.1.2
        have hbt:cx.bg≤nx.t:=h112.1.2
        have hat:nD (r.i:Int) r.x.r.pix CS NS i j cx.nm=nQ r.x.r.pix cx.p (NS.take i):=by rw[hcb.1];exact yE hCx hrg
        refine VC.q (VO.m rfl<|VO.m rfl<|ah (bH (.r rfl)) rfl<|VO.f (r:=0) o6 rfl<|ah (aB O3 (.r rfl) (aW (aU (off:=0) (dP hh hcm) ⟨_,rfl⟩))) rfl<|ah (Cl wU (.r rfl) (.r rfl) (fun _ hw=>⟨es,ck,dL hw 0 _ rfl,hE⟩)) rfl<|VO.m rfl<|ah (bN (.r rfl) rfl) rfl<|ah (bN (.r rfl) rfl) rfl<|VO.a rfl<|VO.a rfl<|VO.n<|ak<|eH mixed (LL.m rfl<|aV (LO.not (.r rfl)) rfl<|LL.m rfl<|LL.gf rfl (fun hg=>aE (r:=0) lj (.r rfl) rfl)<|LL.gf rfl (fun hg=>aB O3 (.g hg rfl) (ax 1 rfl ⟨_,rfl⟩))<|LL.gf rfl (fun hg=>bJ (.r rfl))<|LL.gf rfl (fun hg=>bH (.g hg rfl))<|LL.gf rfl (fun hg=>aE (r:=2) nO (.g hg rfl) rfl)<|LL.gf rfl (fun hg=>aB O3 (.g hg rfl) (aW (aU (off:=2) (dP hh hcm) ⟨_,rfl⟩)))<|LL.gf rfl (fun hg=>dv (.g hg rfl) (.g hg rfl) (wi (by omega) (by omega)))<|LL.gf rfl (fun hg=>bJ (.r rfl))<|LL.gf rfl (fun hg=>lL (.g hg rfl) (.g hg rfl))<|aV (dO (.r rfl) (.r rfl) rfl rfl) rfl<|ft) (by kernel_rfl)<|ag<|ay rfl (fun h134=>?_) (fun h134=>?_))
        ·
         have hupd:=uJ (k:=(r.i:Int)) hCx hNx hrg hic (CK hat h134)
         refine cP [[0,1,2,3],[1,2,3]] [some 0,some 0,some 0,some 0,some 0,some 0,some 0,some 0,some 0,some 0,some 0,some 0,none] mixed (by kernel_rfl) rfl (LX.m rfl<|LX.m rfl<|aA (fun _ hJ=>bH (.r rfl)) rfl<|aA (fun _ hJ=>aE (r:=0) o6 (.r rfl) rfl) rfl<|aA (fun _ hJ=>aB O3 (.r rfl) (aW (aU (off:=0) (dP hh hcm) ⟨_,rfl⟩))) rfl<|aA (fun _ hJ=>aE (r:=0) lj (.r rfl) rfl) rfl<|aA (fun _ hJ=>aB O3 (.r rfl) (fun _ hw=>aX (hJ _ hw) 1 rfl ⟨_,rfl⟩)) rfl<|LX.m rfl<|aA (fun _ hJ=>bH (.r rfl)) rfl<|aA (fun _ hJ=>aE (r:=2) nO (.r rfl) rfl) rfl<|aA (fun _ hJ=>aB O3 (.r rfl) (aW (aU (off:=2) (dP hh hcm) ⟨_,rfl⟩))) rfl<|aA (fun _ hJ=>dv (.r rfl) (.r rfl) (wi (by omega) (by omega))) rfl<|cn<|dw) (au<|au<|au<|au<|au<|au<|au<|au<|au<|au<|au<|au<|eW<|HO.Vk 0 (fun R=>[R,_,_,_]) wU (.r rfl) (.r rfl) (.r rfl) rfl hE hSt (fun _=>rfl) fun es2 ck2 Gy hSt2=>⟨fun _ hw=>hw.fO [1,2,3] rfl,dS ?_⟩)
         refine bB (ag<|aF (VO.p rfl rfl (by omega) (by omega) rfl<|VO.m rfl<|aI<|bn fun a w ha hw=>⟨(j+1,es2,ck2),⟨by dsimp only;omega,by dsimp only;rw[hupd];rw[hcb.1]at Gy;exact Gy,hSt2⟩,(by dsimp only;omega),ha.sub (.c4 rfl rfl rfl rfl (.c4 rfl rfl rfl rfl (.c4 rfl rfl rfl rfl (.cons rfl .nil)))),(by exact bM (L1:=[_,_,_,_]) [0,1,2,3] rfl rfl _ hw)⟩))
        ·
         obtain⟨u,hu1,hu2⟩:=yG hat h134
         have hsame:=sN (k:=(r.i:Int)) hCx hNx hrg hic hu1 hu2
         refine aC (bB (ag<|aF (VO.p rfl rfl (by omega) (by omega) rfl<|VO.m rfl<|aI<|bn fun a w ha hw=>⟨(j+1,es,ck),⟨by dsimp only;omega,by dsimp only;rw[hsame];exact hE,hSt⟩,(by dsimp only;omega),ha.sub (.c4 rfl rfl rfl rfl (.c4 rfl rfl rfl rfl (.c4 rfl rfl rfl rfl (.cons rfl .nil)))),(by exact bM (L1:=[_,_,_,_]) [0,1,2,3] rfl rfl _ hw)⟩)))
       ·
        have hskip:=sI (k:=(r.i:Int)) (pix:=r.x.r.pix) hCx hNx (fun q=>h112 (Cy q.1 q.2))
        refine aC (bB (ag<|aF (VO.p rfl rfl (by omega) (by omega) rfl<|VO.m rfl<|aI<|bn fun a w ha hw=>⟨(j+1,es,ck),⟨by dsimp only;omega,by dsimp only;rw[hskip];exact hE,hSt⟩,(by dsimp only;omega),ha.sub (.c4 rfl rfl rfl rfl (.c4 rfl rfl rfl rfl (.c4 rfl rfl rfl rfl (.cons rfl .nil)))),(by exact bM (L1:=[_,_,_,_]) [0,1,2,3] rfl rfl _ hw)⟩)))
      ·
       have hje:j=CS.length:=by omega
       rw[hje,sP]at hE
       refine ca (aL (aL (cD (bB (ag<|aF (VO.p rfl rfl (by omega) (by omega) rfl<|VO.m rfl<|aI<|bn fun a w ha hw=>⟨(i+1,(RU 4 T),es,ck),⟨by dsimp only;omega,by dsimp only;rw[hNT];exact uX hT (amk h47 h56 h62 h68),hE,hSt⟩,(by dsimp only;omega),ha.sub (.c4 rfl rfl rfl rfl (.c4 rfl rfl rfl rfl .nil)),(by exact bM (L1:=[_,_,_]) [2,0,3] rfl rfl _ hw)⟩))))))
 ·
  have hie:i=ns.length:=by omega
  refine ca (aL (aL (cD (ag<|VC.q (VO.a rfl<|VO.n<|ak<|VC.q (VO.m rfl<|aD rfl<|HO.adn zF rfl (fun _ hw=>dL hw 1 _ rfl) fun b11=>aI ?_))))))
  refine ag<|aG<|ik [1,0,2,3] rfl<|bY (α:=(Array Nat)×Bool×Int×Int) 2 (fun gx=>[(18,.bool gx.2.1)]) [(6,_),(7,_),(150,_)] (fun gx=>[de b2 (.cells #[.int .i64 T.h,.int .i64 T.m,.int .i64 T.a,.int .i64 T.q,.int .i64 T.o,.int .i64 gx.2.2.1,.int .i64 gx.2.2.2] 117),de b11 (.mapIter (some b3) ck gx.1 ck)]) (fun gx=>AhI es.toList gx.1 gx.2.1 gx.2.2.1 gx.2.2.2) (fun gx=>(Go.leftOf es gx.1).size) (#[],false,0,0) (by exact alC) (.c4 rfl rfl rfl rfl .nil) (fun _ h=>h) ?_
  rintro ⟨seen,sm,lo,hi⟩ hA
  show VC _ _ _ _ _ ([(18,.bool sm)]++_) ([de b2 (.cells #[.int .i64 T.h,.int .i64 T.m,.int .i64 T.a,.int .i64 T.q,.int .i64 T.o,.int .i64 lo,.int .i64 hi] 117),de b11 (.mapIter (some b3) ck seen ck)]++_) _ _
  dsimp only at hA
  refine ak ?_
  by_cases h0:(Go.leftOf es seen).size=0
  ·
   refine aF (aD rfl<|HO.adS 1 rfl rfl (fun _ hw=>dL hw 2 _ rfl) hSt.2 (bA _) h0<|aD rfl<|aO (bN (.r rfl) rfl)<|VO.n<|ak<|ay rfl (fun h152=>?_) (fun h152=>?_))
   · (exfalso;cases h152)
   ·
    refine ca (aL (aL (cD (ag<|VC.q (ah (aM (vs:=[_,_,_,_,_,_,_]) aeg (.r rfl) (ax 0 rfl ⟨_,rfl⟩) rfl) rfl<|bU<|bl 3 (vs:=[_,_,_,_,_,_,_]) (C':=[_,_,_,_,_,_,_]) (L':=[_,_,_,_]) XW rfl rfl rfl rfl rfl rfl rfl rfl<|VO.n<|aP (dh (vs:=[_]) rfl ⟨iA (vs:=[_,_,_,_,_,_,_]) aeg rfl (ax 3 rfl ⟨_,rfl⟩) rfl,trivial⟩ (fun w hw=>?_)))))))
    refine⟨?_,hw.nil⟩
    rw[hie, ←hNL]at hE
    rw[hie, ←hNL,List.take_length]at hT
    obtain⟨e1,e2⟩:=afa hA hE h0
    obtain⟨g1,g2,g3,g4,g5⟩:=hT
    simp only[gF,IL, ←g1, ←g2, ←g3, ←g4, ←g5, ←e1, ←e2]
  ·
   refine aF (aD rfl<|HO.aff 1 (fun R=>[_,R,_,_]) rfl rfl (fun _=>rfl) (fun _ hw=>dL hw 2 _ rfl) hSt.2 (bA _) h0 fun e he=>aD rfl<|aO (bN (.r rfl) rfl)<|VO.n<|ak<|ay rfl (fun h152=>?_) (fun h152=>?_))
   ·
    refine aC (ag<|aG<|ak ?_)
    obtain⟨kn,kv,hk1,hk2,_⟩:=hE.zN e (uU.1 he).1
    refine aF (ah (LO.ac4 (.r rfl) (fun _ hw=>dL hw 1 _ rfl) (fun _ hw=>dL hw 2 _ rfl) (uU.1 he).1 hSt.1 hk1 hk2) rfl<|ah (bN (.r rfl) rfl) rfl<|VO.a rfl<|VO.n<|ak<|VC.q (VO.m rfl<|ah (LO.not (.r rfl)) rfl<|VO.n<|ay rfl (fun h156=>?_) (fun h156=>?_)))
    ·
     refine aF (VO.m rfl<|VO.m rfl<|ah (dC (ps:=[(_,_),(_,_)]) (vs:=[(_,_),(_,_)]) (C:=[_,_]) EE ⟨(.r rfl),(.r rfl),trivial⟩ rfl ⟨_,[_],[_,_],rfl,rfl,rfl,rfl,⟨_,[_],[_,_],rfl,rfl,rfl,rfl,rfl⟩⟩) rfl<|VO.f (r:=5) xA rfl<|bU<|bl 0 (vs:=[_,_]) (C':=[_,_,_,_,_,_,_]) (L':=[_,_,_,_]) sC rfl rfl rfl rfl rfl rfl rfl rfl<|VO.n<|VC.q (VO.a rfl<|VO.n<|aF (VO.f (r:=5) xA rfl<|VO.f (r:=5) rL rfl<|VO.c 0 O3 rfl rfl ⟨_,rfl⟩ rfl<|VO.m rfl<|ah (LO.min (.r rfl) (.r rfl)) rfl<|VO.f (r:=5) xA rfl<|VO.f (r:=6) rR rfl<|VO.c 0 O3 rfl rfl ⟨_,rfl⟩ rfl<|VO.m rfl<|ah (LO.max (.r rfl) (.r rfl)) rfl<|ah (dC (ps:=[(_,_),(_,_)]) (vs:=[(_,_),(_,_)]) (C:=[_,_]) EE ⟨(.r rfl),(.r rfl),trivial⟩ rfl ⟨_,[_],[_,_],rfl,rfl,rfl,rfl,⟨_,[_],[_,_],rfl,rfl,rfl,rfl,rfl⟩⟩) rfl<|VO.f (r:=5) xA rfl<|bU<|bl 0 (vs:=[_,_]) (C':=[_,_,_,_,_,_,_]) (L':=[_,_,_,_]) sC rfl rfl rfl rfl rfl rfl rfl rfl<|aI<|bB ?_)))
     refine bn fun a w ha hw=>⟨(seen.push e.born,true,(min kv kv),(max kv kv)),(by dsimp only;have hsm:sm=false:=(by simpa using h156);subst hsm;exact Wv hA hSt.1 (uU.1 he).1 hk2),(by dsimp only;exact Pv he),ha.sub (.c4 rfl rfl rfl rfl .nil),(by exact bM (L1:=[_,_,_,_]) [0,1,2,3] rfl rfl _ hw)⟩
    ·
     refine aC (ag<|VC.q (VO.a rfl<|VO.n<|aF (VO.f (r:=5) xA rfl<|VO.f (r:=5) rL rfl<|VO.c 0 O3 rfl rfl ⟨_,rfl⟩ rfl<|VO.m rfl<|ah (LO.min (.r rfl) (.r rfl)) rfl<|VO.f (r:=5) xA rfl<|VO.f (r:=6) rR rfl<|VO.c 0 O3 rfl rfl ⟨_,rfl⟩ rfl<|VO.m rfl<|ah (LO.max (.r rfl) (.r rfl)) rfl<|ah (dC (ps:=[(_,_),(_,_)]) (vs:=[(_,_),(_,_)]) (C:=[_,_]) EE ⟨(.r rfl),(.r rfl),trivial⟩ rfl ⟨_,[_],[_,_],rfl,rfl,rfl,rfl,⟨_,[_],[_,_],rfl,rfl,rfl,rfl,rfl⟩⟩) rfl<|VO.f (r:=5) xA rfl<|bU<|bl 0 (vs:=[_,_]) (C':=[_,_,_,_,_,_,_]) (L':=[_,_,_,_]) sC rfl rfl rfl rfl rfl rfl rfl rfl<|aI<|bB<|bn fun a w ha hw=>⟨(seen.push e.born,true,(min lo kv),(max hi kv)),(by dsimp only;have hsm:sm=true:=(by simpa using h156);subst hsm;exact Yb hA hSt.1 (uU.1 he).1 hk2),(by dsimp only;exact Pv he),ha.sub (.c4 rfl rfl rfl rfl .nil),(by exact bM (L1:=[_,_,_,_]) [0,1,2,3] rfl rfl _ hw)⟩)))
   · (exfalso;exact h152 rfl)
theorem amL:jW ae 250 8 80 (.agg #[.int .i64 0,.int .i64 0,.int .i64 0,.int .i64 0,.int .i64 0,.int .i64 0,.slice none 0 0,.int .i64 0]):=⟨by kernel_rfl,by kernel_rfl,by unfold cj;kernel_rfl,rfl,by decide⟩
def pD.nts:pD→List Dn
 | .st _ _ _ _=>[]
 | .nt t g p c vs lv=>[⟨t,g,p,c,vs,lv⟩]
def qu (l:List pD):List Dn:=l.flatMap pD.nts
theorem T4 {l:List pD} {n:Dn}:n∈qu l↔AU n.t n.g n.p n.c n.vs n.lv∈l:=by
 unfold qu
 rw[BY]
 constructor
 ·rintro ⟨x,hx,h⟩
  cases x with
  |st=>cases h
  |nt=>rw[bT.1 h];exact hx
 ·exact fun h=>⟨_,h,by simp [pD.nts]⟩
theorem IU {l:List pD}:(qu l).length≤l.length:=by
 induction l with
 |nil=>exact bA _
 |cons x l ih=>
  have e:qu (x::l)=pD.nts x++qu l:=rfl
  have h:(pD.nts x).length≤1:=by cases x<;>simp [pD.nts]
  rw[e,aZ,List.length_cons];omega
theorem qV {l:List pD} {x:pD}:qu (l++[x])=qu l++pD.nts x:=by
 unfold qu;rw[l6];simp
def onF (o:iG) (r:jN) (t:Int):Bool:= !decide (EC o.ts r.lv t=0)
def aio (o:iG):Prop:=∀n,n∈qu o.lg→(0≤n.t∧n.t≤4294967296)∧∀r,r∈o.rc→∀p,p∈r.x.r.pix→0≤p∧p<(n.vs.length:Int)
def A2 (o:iG):List FQ:=o.rc.map fun r=>IL r.i r.x.r.pix (onF o r) (o.cs.map iW.p) ((qu o.lg).map Dn.n)
theorem Yd (o:iG) (w:World) (hn:0<o.rc.length∧o.rc.length<1000000) (hts:o.ts.length<1000000) (hs:o.ts.Pairwise (· ≤ ·)) (hlv:∀r,r∈o.rc→r.lv.length=o.ts.length) (hcl:o.cs.length<1000000000) (hcn:∀(j:Nat) (c:iW),o.cs[j]? =some c→c.nm=(j:Int)+1∧0≤c.bg) (hlg:o.lg.length<1000000000) (hrg:∀r,r∈o.rc→r.x∈o.rg∧r.x.r.pix.length<1000000000000) (hnt:aio o) (hh:Has w (kh o)):
 Calls ae 26 #[jR o.b] w fun e w'=>∃x:Option Addr×Nat,True∧e= .returned (.slice x.1 (A2 o).length x.2)∧St (bs w) [own 117 7 x.1 x.2 ((A2 o).map wv)] w':=by
 have hrr:RO 1 XV w o.pc o.rc:=RO.kg hh 3 rfl
 have hlr:RO 1 pD.val w o.pl o.lg:=RO.kg hh 8 rfl
 have hnlen:=IU (l:=o.lg)
 refine enter (vs:=[_]) (env:=[(0,_)]) Tryz.func26 rfl rfl rfl rfl ?_
 refine VC.q (VO.a rfl<|VO.n<|ak<|VC.q (VO.m rfl<|ah (bD (xs:=[_]) (vs:=[_]) C72 ⟨(.r rfl),trivial⟩ (fun w hw=>sH o w (by omega) (ky (hh.keep hw)))) rfl<|VO.n ?_))
 refine ay rfl (fun h12=>?_) (fun h12=>?_)
 · (exfalso;omega)
 ·
  refine aC (ag<|VC.q (VO.a rfl<|VO.n<|ak<|VC.q (VO.m rfl<|ah (bH (.r rfl)) rfl<|VO.f (r:=12) w7 rfl<|ah (aB Uq (.r rfl) (aW (aU (off:=12) (ky hh) ⟨_,rfl⟩))) rfl<|ah (bW Cz (.r rfl) rfl) rfl<|VO.m rfl<|aI ?_)))
  refine ag<|aG<|bY (α:=Nat×(List Dn)×(Option Addr)×Nat) 0 (fun gx=>[(3,.slice gx.2.2.1 gx.2.1.length gx.2.2.2),(18,.int .i64 (gx.1:Nat))]) [(0,_),(16,_),(17,_)] (fun gx=>[own 250 8 gx.2.2.1 gx.2.2.2 (gx.2.1.map Dn.cells)]) (fun gx=>gx.1≤o.lg.length∧gx.2.1=qu (o.lg.take gx.1)) (fun gx=>o.lg.length-gx.1) (0,[],none,0) (by exact⟨bG _,rfl⟩) (.c4 rfl rfl rfl rfl (.cons rfl .nil)) (fun _ h=>(h.fX 250 8)) ?_
  rintro ⟨j,xs,pn_,cn_⟩ ⟨hj,hX⟩
  show VC _ _ _ _ _ ([(3,.slice pn_ xs.length cn_),(18,.int .i64 (j:Nat))]++_) ([own 250 8 pn_ cn_ (xs.map Dn.cells)]++_) _ _
  dsimp only at hj hX
  have hxl:xs.length≤j:=by rw[hX];have:=IU (l:=o.lg.take j);rw[dt]at this;omega
  refine VC.q (VO.t rfl<|VO.n<|ak<|ay rfl (fun h19=>?_) (fun h19=>?_))
  ·
   obtain⟨x,hr⟩:∃x,o.lg[j]? =some x:=⟨_,af (by omega)⟩
   have htk:o.lg.take (j+1)=o.lg.take j++[x]:=by rw[cQ,hr];rfl
   refine aC (ag<|ak<|aG<|ak ?_)
   rcases x with⟨t,pc,cc,l⟩|⟨t,gg,pv,cv,vs,lv⟩
   ·
    refine aF (ah (cw Cz YZ hlr.sm (.r rfl) (.r rfl) rfl (by omega)) rfl<|ah (aB (v:=.iface 237 (.agg #[.int .i64 t,.slice pc l.length cc])) ahR (.r rfl) (fun w hw=>bq (off:=0) ((fun w2 hw2=>(hlr.keep w2 hw2).cells _ _ (by rw[aw,hr];rfl)) w hw) ⟨_,rfl⟩)) rfl<|VO.a rfl<|VO.n<|VC.q (VO.m rfl<|ah (LO.taF ⟨_,jP⟩ Wt (.r rfl) (by decide)) rfl<|VO.m rfl<|ah (bN (.r rfl) rfl) rfl<|ah (bN (.r rfl) rfl) rfl<|aD rfl<|bI (C:=#[_,_,_,_,_,_,_,_]) Wt rfl fun b2=>bU<|bl 0 (vs:=[_,_,_,_,_,_,_,_]) (C':=[_,_,_,_,_,_,_,_]) (L':=[_,_]) Ua rfl rfl rfl rfl rfl rfl rfl rfl<|VO.a rfl<|VO.n<|VC.q (VO.m rfl<|aI ?_)))
    refine ag<|ay rfl (fun h27=>?_) (fun h27=>?_)
    · (exfalso;cases h27)
    ·
     refine aC (bB (ag<|aF (VO.p rfl rfl (by omega) (by omega) rfl<|VO.m rfl<|aI<|bn fun a w ha hw=>⟨(j+1,xs,pn_,cn_),⟨by dsimp only;omega,by dsimp only;rw[htk,qV,hX];first |rfl|exact(c9 _).symm⟩,(by dsimp only;omega),ha.sub (.c4 rfl rfl rfl rfl (.cons rfl .nil)),(by exact bM (L1:=[_]) [1] rfl rfl _ hw)⟩)))
   ·
    refine aF (ah (cw Cz YZ hlr.sm (.r rfl) (.r rfl) rfl (by omega)) rfl<|ah (aB (v:=.iface 250 (.agg #[.int .i64 t,.int .i64 gg.x,.int .i64 gg.y,.int .i64 gg.size,.int .i64 gg.wide,.int .i64 gg.high,.slice pv vs.length cv,.int .i64 lv])) ahR (.r rfl) (fun w hw=>bq (off:=0) ((fun w2 hw2=>(hlr.keep w2 hw2).cells _ _ (by rw[aw,hr];rfl)) w hw) ⟨_,rfl⟩)) rfl<|VO.a rfl<|VO.n<|VC.q (VO.m rfl<|ah (LO.taT ⟨_,jP⟩ (.r rfl)) rfl<|VO.m rfl<|ah (bN (.r rfl) rfl) rfl<|ah (bN (.r rfl) rfl) rfl<|aD rfl<|bI (C:=#[_,_,_,_,_,_,_,_]) Wt rfl fun b4=>bU<|bl 0 (vs:=[_,_,_,_,_,_,_,_]) (C':=[_,_,_,_,_,_,_,_]) (L':=[_,_]) Ua rfl rfl rfl rfl rfl rfl rfl rfl<|VO.a rfl<|VO.n<|VC.q (VO.m rfl<|aI ?_)))
    refine ag<|ay rfl (fun h27=>?_) (fun h27=>?_)
    ·
     refine aF (VO.m rfl<|ah (aM (vs:=[_,_,_,_,_,_,_,_]) ae4 (.r rfl) (ax 0 rfl ⟨_,rfl⟩) rfl) rfl<|aD rfl<|fu (ps:=[(_,_)]) (vs:=[(_,_)]) (Z:=[_,_,_,_,_,_,_,_]) (C:=[_,_,_,_,_,_,_,_]) Vb Wt Ua ⟨(.r rfl),trivial⟩ rfl rfl rfl rfl ⟨_,[_,_,_,_,_,_,_,_],[_,_,_,_,_,_,_,_],rfl,rfl,rfl,rfl,rfl⟩ fun b6=>aD rfl<|dM ((⟨t,gg,pv,cv,vs,lv⟩:Dn)) 2 0 (fun R=>[_,_,R]) Vb Vb amL (.r rfl) (.r rfl) rfl rfl rfl rfl rfl rfl rfl (fun _=>rfl) rfl (by omega) fun p3 c3=>aD rfl<|aO (LO.as (.r rfl))<|aI<|bB (ag<|aF (VO.p rfl rfl (by omega) (by omega) rfl<|VO.m rfl<|aI<|bn fun a w ha hw=>⟨(j+1,xs++[(⟨t,gg,pv,cv,vs,lv⟩:Dn)],p3,c3),⟨by dsimp only;omega,by dsimp only;rw[htk,qV,hX];first |rfl|exact(c9 _).symm⟩,(by dsimp only;omega),ha.sub (.c4 rfl rfl rfl rfl (.cons rfl .nil)),(by exact bM (L1:=[_]) [2] rfl rfl _ hw)⟩)))
    · (exfalso;exact h27 rfl)
  ·
   have hxe:xs=qu o.lg:=by rw[hX,dK (by omega)]
   subst hxe
   refine ca (aL (aL (cD (ag<|VC.q (VO.a rfl<|VO.n<|ak<|VC.q (VO.m rfl<|ah (bH (.r rfl)) rfl<|VO.f (r:=9) Ax rfl<|ah (aB Th (.r rfl) (aW (aU (off:=9) (ky hh) ⟨_,rfl⟩))) rfl<|ah (bW EI (.r rfl) rfl) rfl<|VO.m rfl<|aI ?_))))))
   refine ag<|aG<|bY (α:=Nat×(List FQ)×(Option Addr)×Nat) 0 (fun gx=>[(8,.slice gx.2.2.1 gx.2.1.length gx.2.2.2),(38,.int .i64 (gx.1:Nat))]) [(0,_),(3,_),(36,_),(37,_)] (fun gx=>[own 117 7 gx.2.2.1 gx.2.2.2 (gx.2.1.map wv)]) (fun gx=>gx.1≤o.rc.length∧gx.2.1=(A2 o).take gx.1) (fun gx=>o.rc.length-gx.1) (0,[],none,0) (by exact⟨bG _,rfl⟩) (.c4 rfl rfl rfl rfl (.cons rfl (.cons rfl .nil))) (fun _ h=>(h.fX 117 7)) ?_
   rintro ⟨j,xs,px_,cx_⟩ ⟨hj,hX⟩
   show VC _ _ _ _ _ ([(8,.slice px_ xs.length cx_),(38,.int .i64 (j:Nat))]++_) ([own 117 7 px_ cx_ (xs.map wv)]++_) _ _
   dsimp only at hj hX
   have hxl:xs.length≤j:=by rw[hX,dt];omega
   refine VC.q (VO.t rfl<|VO.n<|ak<|ay rfl (fun h39=>?_) (fun h39=>?_))
   ·
    obtain⟨r,hr⟩:∃r,o.rc[j]? =some r:=⟨_,af (by omega)⟩
    have hrm:r∈o.rc:=al hr
    refine aC (ag<|ak<|aG<|VC.q (ah (cw EI Zy hrr.sm (.r rfl) (.r rfl) rfl (by omega)) rfl<|ah (aB ad9 (.r rfl) (fun w hw=>bq (off:=0) ((fun w2 hw2=>(hrr.keep w2 hw2).cells _ _ (by rw[aw,hr];rfl)) w hw) ⟨_,rfl⟩)) rfl<|VO.a rfl<|VO.n<|aF (VO.m rfl<|VO.m rfl<|VO.m rfl<|VO.m rfl<|ah (bD (xs:=[_,_,_]) (vs:=[_,_,_]) C81 ⟨(.r rfl),(.r rfl),(.r rfl),trivial⟩ (fun w2 hw2=>ZV o r (qu o.lg) pn_ cn_ (onF o r) w2 hrm (hlv r hrm) hts hs hcl hcn (by omega) (hrg r hrm).2 (fun t=>rfl) (fun n hn2=>⟨(hnt n hn2).1,eI ((dL (hh.keep hw2) 9 _ rfl).1 _ (BY.2 ⟨_,T4.1 hn2,.head _⟩)),(hnt n hn2).2 r hrm⟩) (Cr (dL (hh.keep hw2) 2 _ rfl) (hrg r hrm).1) (hh.keep hw2) (dE hw2 1 rfl))) rfl<|aD rfl<|fu (ps:=[(_,_)]) (vs:=[(_,_)]) (Z:=[_,_,_,_,_,_,_]) (C:=[_,_,_,_,_,_,_]) L7 ZL XW ⟨(.r rfl),trivial⟩ rfl rfl rfl rfl ⟨_,[_,_,_,_,_,_,_],[_,_,_,_,_,_,_],rfl,rfl,rfl,rfl,rfl⟩ fun b8=>aD rfl<|dM ((IL r.i r.x.r.pix (onF o r) (o.cs.map iW.p) ((qu o.lg).map Dn.n))) 1 0 (fun R=>[_,R,_]) L7 L7 amb (.r rfl) (.r rfl) rfl rfl rfl rfl rfl rfl rfl (fun _=>rfl) rfl (by omega) fun p6 c6=>aD rfl<|aO (LO.as (.r rfl))<|aI ?_)))
    refine bB (ag<|aF (VO.p rfl rfl (by omega) (by omega) rfl<|VO.m rfl<|aI<|bn fun a w ha hw=>⟨(j+1,xs++[IL r.i r.x.r.pix (onF o r) (o.cs.map iW.p) ((qu o.lg).map Dn.n)],p6,c6),⟨by dsimp only;omega,by dsimp only;rw[cQ,hX];unfold A2;rw[aw,hr];rfl⟩,(by dsimp only;omega),ha.sub (.c4 rfl rfl rfl rfl (.cons rfl (.cons rfl .nil))),(by exact bM (L1:=[_,_]) [1,2] rfl rfl _ hw)⟩))
   ·
    refine ca (aL (aL (cD (ag<|VC.q (VO.m rfl<|VO.a rfl<|VO.n<|aP (VE.s rfl rfl (fun w hw=>?_)))))))
    have hx2:xs=A2 o:=by rw[hX,dK (by simp [A2];omega)]
    rw[←hx2]
    exact⟨(px_,cx_),trivial,rfl,hw.fO [0] rfl⟩
def ntE (x:nU):List Nt:=if x.lv=0 then[] else[⟨x.t,x.vs,x.lv⟩]
def ntP (l:List nU):List Nt:=l.flatMap ntE
theorem Iz {l:List nU} {x:nU}:ntP (l++[x])=ntP l++ntE x:=by unfold ntP;rw[l6];simp
structure HU (s:Sp) (l:List nU) (o:iG) (n:Nat):Prop where
 a:um s l o n
 nt:(qu o.lg).map Dn.n=ntP (l.take n)
 ok:aio o
 nz:∀m,m∈qu o.lg→¬m.lv=0
theorem Zv {t:Int} {p:Option Addr} {c:Nat} {l:List CP} {ls:List pD}:qu (ls++[.st t p c l])=qu ls:=by rw[qV];exact c9 _
theorem HU.step {s:Sp} {l:List nU} {o:iG} {n:Nat} {x:nU} {y:wW} (h:HU s l o n) (hx:l[n]? =some x) (hlv:x.lv=0) (hb:x.l.length<1000000000∧∀c,c∈x.l→c.sure.length<1000000000000∧c.may.length<1000000000000) (hp:CD o x.t x.l y) (hs:Af (y.o o x.t) (kq s (l.take n)++[⟨x.t,wF o.sp x.l⟩])):HU s l (y.o o x.t) (n+1):=by
 have ha:=h.a.step hx hlv hb hp hs
 have hl:qu (y.o o x.t).lg=qu o.lg:=by
  obtain⟨_,p,c,m,e1,e2⟩:=hp
  show qu (o.lg++[y.lg])=_
  rw[e1,Zv]
 refine⟨ha,by rw[hl,h.nt,wc hx,Iz];unfold ntE;rw[if_pos hlv,c9],fun q hq=>?_,by rw[hl];exact h.nz⟩
 rw[hl]at hq
 obtain⟨h1,h2⟩:=h.ok q hq
 refine⟨h1,fun r hr p hp'=>?_⟩
 
 have w1:=h.a.wB.wf
 have w2:=ha.wB.wf
 obtain⟨k,hk⟩:=cV.1 hr
 have i2:=(w2.idx k r hk).1
 have hk1:k<o.rc.length:=by
  have:=(aj.1 hk).1
  rw[w2.len]at this;rw[w1.len];exact this
 have i1:=(w1.idx k _ (af hk1)).1
 have e:(y.o o x.t).rg=o.rg:=rfl
 rw[e]at i2
 rw[i2]at i1
 have:=Option.some.inj i1
 exact h2 _ (fv hk1) p (by rw[←this];exact hp')
theorem HU.note {s:Sp} {l:List nU} {o:iG} {n:Nat} {x:nU} {p q:Option Addr} {c d:Nat} (h:HU s l o n) (hx:l[n]? =some x) (hlv:¬x.lv=0) (he:SV s (l.take n) x=0):HU s l { o with lg:=o.lg++[AU x.t x.g p c x.vs x.lv],pl:=q,cl:=d } (n+1):=by
 have hne:=h.a.nt hlv
 rw[he]at hne
 obtain⟨k1,k2,k3,k4,k5⟩:=U7 hne
 have hlen:(x.vs.length:Int)=x.g.wide*x.g.high:=by
  unfold fS at k3
  split at k3
  ·omega
  ·split at k3
   ·omega
   ·rename_i z;exact cL.1 z
 refine⟨h.a.note hx hlv (by exact Q9 k3),?_,fun m hm=>?_,fun m hm=>?_⟩
 ·show(qu (o.lg++[_])).map Dn.n=_
  rw[qV,bj,h.nt,wc hx,Iz]
  unfold ntE
  rw[if_neg hlv];rfl
 ·change m∈qu (o.lg++[_]) at hm
  rw[qV]at hm
  rcases bZ.1 hm with z|z
  ·exact h.ok m z
  ·have:=bT.1 z;subst this
   refine⟨k1,fun r hr p hp=>?_⟩
   have w1:=h.a.wB.wf
   obtain⟨k,hk⟩:=cV.1 hr
   have hkl:k<o.rg.length:=by rw[←w1.len];exact(aj.1 hk).1
   have hs:=(Ad w1.spec).2.2.2.1 k (by show k<(o.rg.map RG.r).length;rw[aq];exact hkl)
   have e:o.sp.fI.getD k default=r.x.r:=by
    show(o.rg.map RG.r).getD k default=_
    rw[av,aw,(w1.idx k r hk).1];rfl
   rw[e]at hs
   simp only[List.cons.injEq,and_true]at k4
   show 0≤p∧p<(x.vs.length:Int)
   rw[hlen,k4.2.2.2.1,k4.2.2.2.2]
   obtain⟨i,hi,rfl⟩:=List.getElem_of_mem hp
   have z:=aeX hs hi
   rw[av,af hi]at z
   change 0≤r.x.r.pix[i]∧r.x.r.pix[i]≤o.g.wide*o.g.high-1 at z
   omega
 ·change m∈qu (o.lg++[_]) at hm
  rw[qV]at hm
  rcases bZ.1 hm with z|z
  ·exact h.nz m z
  ·have:=bT.1 z;subst this;exact hlv
theorem Yi {k:Nat} {b m T:Int} {cs:List Cs} (h:∀c,c∈cs→0≤c.bg) (hT:0≤T):∀c,c∈wS k b m T cs→0≤c.bg:=by
 unfold wS
 split
 ·exact h
 ·split
  ·intro c hc
   rcases bZ.1 hc with q|q
   ·exact h c q
   ·rw[bT.1 q];exact hT
  ·intro c hc
   obtain⟨d,hd,rfl⟩:=List.mem_map.1 hc
   have:=h d hd
   split
   ·exact this
   ·exact this
theorem Up {H:Int} {st:List pP} {s:pP} {cs:List Cs} (h:∀c,c∈cs→0≤c.bg) (hT:0≤s.t):∀j,∀c,c∈EN H st s cs j→0≤c.bg
 |0=>h
 |j+1=>Yi (Up h hT j) hT
theorem TH {H:Int} {n:Nat} {st:List pP} (h:∀x,x∈st→0≤x.t):∀m,m≤st.length→∀c,c∈csA H n st m→0≤c.bg
 |0,_=>fun c hc=>by cases hc
 |m+1,hm=>Up (TH h m (by omega)) (h _ (kQ (by omega))) n
def onP (s:Sp) (l:List nU) (k:Nat) (t:Int):Bool:= !decide (EC (tsP l) (M8 s.hold k (kq s l)) t=0)
def rh (s:Sp) (l:List nU) (k:Nat):FQ:=IL k (s.fI.getD k default).pix (onP s l k) (MZ s.hold s.fI.length (kq s l)) (ntP l)
def yu (s:Sp) (l:List nU):List FQ:=(br s.fI.length).map (rh s l)
theorem um.hold {s:Sp} {l:List nU} {o:iG} {n:Nat} (h:um s l o n):o.hold=s.hold:=congrArg Sp.hold h.sp
theorem um.n {s:Sp} {l:List nU} {o:iG} {n:Nat} (h:um s l o n):o.rc.length=s.fI.length:=by rw[ak6 h.wB.wf,h.sp]
theorem um.cs {s:Sp} {l:List nU} {o:iG} {n:Nat} (h:um s l o n):o.cs.map iW.p=MZ s.hold s.fI.length (kq s (l.take n)):=by rw[h.wB.cs,h.hold,h.n]
theorem HU.alz {s:Sp} {l:List nU} {o:iG} {n:Nat} (h:HU s l o n):A2 o=yu s (l.take n):=by
 unfold A2 yu
 refine List.ext_getElem? fun k=>?_
 rw[aw,aw]
 rcases Nat.lt_or_ge k o.rc.length with q|q
 ·rw[af q,eu (by rw[←h.a.n];exact q)]
  simp only[Option.map_some]
  have hi:=h.a.wB.wf.idx k _ (af q)
  have hr:=h.a.wB.SW k _ (af q)
  have hp:(s.fI.getD k default).pix=(o.rc[k]).x.r.pix:=by
   rw[←h.a.sp]
   show((o.rg.map RG.r).getD k default).pix=_
   rw[av,aw,hi.1];rfl
  have ho:onF o o.rc[k]=onP s (l.take n) k:=by
   funext t
   unfold onF onP
   rw[hr.2.1,h.a.hold,h.a.ts]
  unfold rh
  rw[hi.2,hp,ho,h.nt,h.a.cs]
 ·rw[aH q,aH (by rw[List.length_range, ←h.a.n];exact q)];rfl
theorem um.alR {s:Sp} {l:List nU} {o:iG} {n:Nat} (h:um s l o n):∀(j:Nat) (c:iW),o.cs[j]? =some c→c.nm=(j:Int)+1∧0≤c.bg:=fun j c hc=>by
 have ht:∀x,x∈kq s (l.take n)→x.t≠never:=fun x hx=>by
  have:=h.wB.tb x.t (by rw[h.wB.ts];exact bE hx)
  unfold never;omega
 have hok:=JF (H:=o.hold) (n:=o.rc.length) _ ht
 rw[←h.wB.cs]at hok
 refine⟨hok.nm j c.p (by rw[aw,hc];rfl),?_⟩
 have hb:=TH (H:=o.hold) (n:=o.rc.length) (st:=kq s (l.take n)) (fun x hx=>(h.wB.tb x.t (by rw[h.wB.ts];exact bE hx)).1) _ (bA _)
 have:c.p∈MZ o.hold o.rc.length (kq s (l.take n)):=by rw[←h.wB.cs];exact bE (al hc)
 exact hb _ this
end Go.Proofs.YtffbohecdocajaaGreat
namespace Go.Proofs.YtffbohecdocajaaGreat
open Go.SL Go.Proofs Go.qO Go.Cell
set_option linter.unusedVariables false
def UZ (x:mj) (l:List cZ):nU:=⟨(iH x:Int),l,gZ,[],0⟩
def ZU (x:mj) (n:Nat):nU:=⟨(n:Int)*(iH x:Int),[],gw x,fG x n,5⟩
def iP (x:mj) (l:List cZ):List nU:=[UZ x l,ZU x 1,ZU x 2]
structure SpK (x:mj) (s:Sp):Prop where
 g:s.g=gw x
 a:s.lead=(iH x:Int)
 b:s.step=(iH x:Int)
 d:s.hold=(iH x:Int)
theorem qk (x:mj):100≤iH x∧iH x≤599:=by unfold iH;omega
section
variable {x:mj} {l:List cZ} {s:Sp} {k:Nat} {pix:List Int}
def Ar (x:mj) (l:List cZ) (pix:List Int):xZ:=C2 (nE (gw x) l (iH x:Int) (iH x:Int)) pix (iH x:Int)
theorem abr:kq s (iP x l)=[⟨(iH x:Int),wF s l⟩]:=rfl
theorem abK:ntP (iP x l)=[⟨1*(iH x:Int),fG x 1,5⟩,⟨2*(iH x:Int),fG x 2,5⟩]:=rfl
theorem ah9:tsP (iP x l)=[(iH x:Int)]:=rfl
theorem abk (ls:List (List Int)) (pix:List Int) (b:Int):0≤(C2 ls pix b).lv:=(B4 ls.length).2.2
theorem aaZ (hs:SpK x s) (hk:k<s.fI.length):qT s.hold k (kq s (iP x l))=(Ar x l (s.fI.getD k default).pix).lv:=by
 rw[abr,hs.d]
 have hT:=qk x
 have e:((wF s l).getD k EB).lv=(Ar x l (s.fI.getD k default).pix).lv:=by
  unfold wF Ar
  rw[av,aw,af hk,av,af hk,hs.g,hs.a,hs.b]
  rfl
 have h0:0≤(Ar x l (s.fI.getD k default).pix).lv:=abk _ _ _
 have e3:oO k [⟨(iH x:Int),wF s l⟩]=[⟨(iH x:Int),(Ar x l (s.fI.getD k default).pix).lv⟩]:=by unfold oO;show[_]=_;dsimp only;rw[e]
 unfold qT
 rw[e3]
 generalize (Ar x l (s.fI.getD k default).pix).lv=lv at h0
 generalize hTT:(iH x:Int)=TT at*
 show jE (iR TT TT [⟨TT,lv⟩])=lv
 have e2:iR TT TT [⟨TT,lv⟩]=[⟨TT,lv⟩]:=by
  unfold iR
  rw[List.filter_cons]
  have:xg TT TT ⟨TT,lv⟩=false:=by unfold xg;exact decide_eq_false (by dsimp only;omega)
  rw[this]
  rfl
 rw[e2]
 unfold jE
 simp
 try omega
theorem aiX (hs:SpK x s) (hk:k<s.fI.length) {n:Nat} (hn:n=1∨n=2):onP s (iP x l) k ((n:Int)*(iH x:Int))= !decide ((Ar x l (s.fI.getD k default).pix).lv=0):=by
 have hT:=qk x
 unfold onP
 rw[ah9]
 have e1:P5 [(iH x:Int)] ((n:Int)*(iH x:Int))=1:=by
  rcases hn with r|r<;>subst r
  ·unfold P5;simp
  ·unfold P5
   rw[ux,Ee,if_pos (decide_eq_true (by omega)),if_neg (by simp;omega)]
 have e2:M8 s.hold k (kq s (iP x l))=[(Ar x l (s.fI.getD k default).pix).lv]:=by
  have h:=aaZ (l:=l) hs hk
  rw[abr]at h ⊢
  unfold M8
  show[qT s.hold k [_]]=_
  rw[h]
 rw[e2]
 unfold EC
 rw[e1]
 rfl
theorem PJ (x:mj):cF (gw x):=by
 obtain⟨h1,h2,h3,h4⟩:=sR x
 unfold cF
 refine⟨?_,?_,?_,?_,?_⟩<;>dsimp only<;>omega
theorem zQ (h:LA x l) {t:Int} (h1:0≤t) (h2:t≤7200):Ej (gw x) l t=0:=by
 unfold Ej
 rw[if_neg (fun z=>z (PJ x)),if_neg (by have:=h.n;omega)]
 have e:gy (fun k=>fy (gw x) (l.getD k default)) l.length=0:=iw fun k hk=>h.ok _ (by rw[av,af hk];exact fv hk)
 rw[if_neg (fun z=>z e),if_neg (fun z=>z ⟨h1,h2⟩)]
theorem Ml (h:LA x l) {t:Int} (h1:0≤t) (h2:t≤7200) {p:Nat} (hp:p<gA x*kK x):(zL (gw x) l t).getD p 0=iY (gw x) l t p:=by
 unfold zL
 rw[if_neg (fun z=>z (zQ h h1 h2))]
 have e:((gw x).wide*(gw x).high).toNat=gA x*kK x:=by
  show((gA x:Int)*(kK x:Int)).toNat=_
  rw[←dB,Int.toNat_natCast]
 rw[e,av,aw,eu hp]
 rfl
theorem Cu (h:LA x l):nE (gw x) l (iH x:Int) (iH x:Int)=[zL (gw x) l 0,zL (gw x) l (iH x:Int)]:=by
 have hT:=qk x
 have e:pU (iH x:Int) (iH x:Int)=2:=by unfold pU;rw[Int.ediv_self (by omega)];rfl
 unfold nE
 rw[if_neg (fun z=>z (zQ h (dx _) (by omega))),e]
 unfold uM
 show[zL (gw x) l ((0:Nat)*(iH x:Int)),zL (gw x) l ((1:Nat)*(iH x:Int))]=_
 rw[show((0:Nat):Int)*(iH x:Int)=0 by simp,show((1:Nat):Int)*(iH x:Int)=(iH x:Int) by simp]
theorem Uk (h:LA x l) (hp:∀p,p∈pix→0≤p∧p<(gA x*kK x:Nat)) {m j:Nat} (hm:m<2) (hj:j<pix.length) (hi:wR x (m+1) (pix.getD j 0).toNat=true):(Ar x l pix).lv≠0:=by
 have hT:=qk x
 have hb:=hp _ (kQ (d:=0) hj)
 have hpn:(pix.getD j 0).toNat<gA x*kK x:=by omega
 have h1:=ads (ls:=nE (gw x) l (iH x:Int) (iH x:Int)) (b:=(iH x:Int)) (m:=m) (by rw[Cu h];exact hm) hj
 have h0:0≤(Ar x l pix).lv:=abk _ _ _
 rw[Cu h]at h1
 have key:∀t:Int,0≤t→t≤7200→iY (gw x) l t (pix.getD j 0).toNat≠0→(zL (gw x) l t).getD (pix.getD j 0).toNat 0≤(Ar x l pix).lv→(Ar x l pix).lv≠0:=fun t t1 t2 hs hle=>by
  rw[Ml h t1 t2 hpn]at hle
  have hn:0≤iY (gw x) l t (((pix.getD j 0).toNat:Nat):Int):=Hh l 0
  omega
 have e:Ar x l pix=C2 [zL (gw x) l 0,zL (gw x) l (iH x:Int)] pix (iH x:Int):=by unfold Ar;rw[Cu h]
 rw[←e]at h1
 match m,hm with
 |0,_=>exact key 0 (dx _) (by omega) ((TL h hpn).1 hi) h1
 |1,_=>exact key (iH x:Int) (by omega) (by omega) ((P3 h hpn).1 hi) h1
theorem Pe (h:LA x l) (hp:∀p,p∈pix→0≤p∧p<(gA x*kK x:Nat)) (h2:(Ar x l pix).lv=2):∃m j:Nat,m<2∧j<pix.length∧(Ar x l pix).ld=m*(iH x:Int)∧(Ar x l pix).px=pix.getD j 0∧wR x (m+1) (pix.getD j 0).toNat=true:=by
 have hT:=qk x
 rcases YR (ls:=nE (gw x) l (iH x:Int) (iH x:Int)) (pix:=pix) (b:=(iH x:Int)) with z|⟨_,m,j,hm,hj,z1,z2,z3⟩
 ·have:(Ar x l pix).lv=0:=z.1
  omega
 ·have hm2:m<2:=by rw[Cu h]at hm;exact hm
  have hb:=hp _ (kQ (d:=0) hj)
  have hpn:(pix.getD j 0).toNat<gA x*kK x:=by omega
  refine⟨m,j,hm2,hj,z1,z2,?_⟩
  have z3':(2:Int)=((nE (gw x) l (iH x:Int) (iH x:Int)).getD m []).getD (pix.getD j 0).toNat 0:=by
   rw[←h2, ←z2];exact z3
  rw[Cu h]at z3'
  match m,hm2 with
  |0,_=>exact(TL h hpn).2 (by rw[←Ml h (dx _) (by omega) hpn];exact z3'.symm)
  |1,_=>exact(P3 h hpn).2 (by rw[←Ml h (by omega) (by omega) hpn];exact z3'.symm)
theorem acZ {n:Nat} (hp:∀p,p∈pix→0≤p∧p<(gA x*kK x:Nat)) (h:p9 pix (fG x n) 5=true):∃j,j<pix.length∧wR x n (pix.getD j 0).toNat=true:=by
 unfold p9 at h
 obtain⟨p,hpm,hlo⟩:=eG.1 h
 obtain⟨j,hj,e⟩:=List.mem_iff_getElem.1 hpm
 have eg:pix.getD j 0=p:=by rw[av,af hj,e];rfl
 have hb:=hp p hpm
 refine⟨j,hj,?_⟩
 rw[eg]
 exact Jr (by omega) (by unfold yf;exact hlo)
theorem VP {n j:Nat} (hp:∀p,p∈pix→0≤p∧p<(gA x*kK x:Nat)) (hj:j<pix.length) (h:wR x n (pix.getD j 0).toNat=true):vh pix (fG x n) 5=true:=by
 have hb:=hp _ (kQ (d:=0) hj)
 have hm:=CO (x:=x) (n:=n) (p:=(pix.getD j 0).toNat) (by omega) h
 unfold vh
 exact eG.2 ⟨_,kQ (d:=0) hj,by unfold ga at hm;exact hm⟩
theorem al1 {on:Int→Bool} {q:Nat} {a b:Nt}:qm pix on q [a,b]=(if Fz pix on a=q then 1 else 0)+(if Fz pix on b=q then 1 else 0):=by
 unfold qm
 rw[ux,ux,Ee]
 by_cases h1:Fz pix on a=q<;>by_cases h2:Fz pix on b=q<;>simp [h1,h2]
theorem adF (h:LA x l) (hs:SpK x s) (hk:k<s.fI.length) (hp:∀p,p∈(s.fI.getD k default).pix→0≤p∧p<(gA x*kK x:Nat)):
  (rh s (iP x l) k).m=0∧(rh s (iP x l) k).h+(rh s (iP x l) k).a+(rh s (iP x l) k).q+(rh s (iP x l) k).o=2∧((Ar x l (s.fI.getD k default).pix).lv=2→(rh s (iP x l) k).a≤1)∧((Ar x l (s.fI.getD k default).pix).lv=0→(rh s (iP x l) k).h+(rh s (iP x l) k).a≤0)∧0≤(rh s (iP x l) k).h∧0≤(rh s (iP x l) k).a:=by
 generalize hpx:(s.fI.getD k default).pix=pix at hp
 have o1:=aiX (l:=l) hs hk (n:=1) (.inl rfl)
 have o2:=aiX (l:=l) hs hk (n:=2) (.inr rfl)
 rw[hpx]at o1 o2
 generalize hlv:(Ar x l pix).lv=lv at o1 o2
 
 have hh:∀n,n<2→p9 pix (fG x (n+1)) 5=true→lv≠0:=fun n hn hb=>by
  obtain⟨j,hj,hi⟩:=acZ hp hb
  rw[←hlv]
  exact Uk h hp hn hj hi
 
 have hc:lv=2→vh pix (fG x 1) 5=true∨vh pix (fG x 2) 5=true:=fun h2=>by
  obtain⟨m,j,hm,hj,_,_,hi⟩:=Pe h hp (by rw[hlv];exact h2)
  match m,hm with
  |0,_=>exact .inl (VP hp hj hi)
  |1,_=>exact .inr (VP hp hj hi)
 have k1:=hh 0 (by omega)
 have k2:=hh 1 (by omega)
 unfold rh IL
 rw[abK,hpx]
 simp only[al1,Fz]
 have t1:onP s (iP x l) k (1*(iH x:Int))= !decide (lv=0):=o1
 have t2:onP s (iP x l) k (2*(iH x:Int))= !decide (lv=0):=o2
 simp only[t1,t2]
 generalize p9 pix (fG x 1) 5=i1 at*
 generalize p9 pix (fG x 2) 5=i2 at*
 generalize vh pix (fG x 1) 5=c1 at*
 generalize vh pix (fG x 2) 5=c2 at*
 have k2':i2=true→lv≠0:=k2
 have k1':i1=true→lv≠0:=k1
 by_cases z:lv=0
 ·have e1:i1=false:=by cases i1;rfl;exact absurd z (k1' rfl)
  have e2:i2=false:=by cases i2;rfl;exact absurd z (k2' rfl)
  subst e1 e2 z
  cases c1<;>cases c2<;>simp [kN]
 ·rw[decide_eq_false z]
  by_cases z2:lv=2
  ·have hc2:=hc z2
   cases i1<;>cases i2<;>cases c1<;>cases c2<;>simp_all [kN]
  ·cases i1<;>cases i2<;>cases c1<;>cases c2<;>simp_all [kN]
end
theorem F5:jX ae 84 7:=⟨⟨_,iU,rfl⟩,by kernel_rfl⟩
theorem C31:ef ae 31:=⟨_,Tryz.func31,by decide,rfl⟩
theorem Tc:bV ae 84 5 5:=⟨_,_,iU,rfl,rfl,0,by kernel_rfl⟩
theorem O31:ig ae 31:=⟨⟨_,te,rfl⟩,by kernel_rfl⟩
theorem S31:dF ae 31 5:=te
theorem C30:ef ae 30:=⟨_,Tryz.func30,by decide,rfl⟩
theorem Bh {x:mj} {n k:Nat} {ml:List Span} {s:Span} (h:ml=EH x n k) (e:s=xq x n k):ml++[s]=EH x n (k+1):=by rw[h,e,RS]
theorem aiq {x:mj} {n p:Nat} (hn:n≤2) (hp:p<gA x*kK x):n*gA x*kK x+p≤192:=by
 have h1:=rS x
 have h2:n*gA x*kK x=n*(gA x*kK x):=Nat.mul_assoc _ _ _
 have h3:n*(gA x*kK x)≤2*64:=Nat.mul_le_mul hn h1
 omega
theorem aa1 {x:mj} {n:Nat} (hn:n≤2):n*gA x≤16:=by have:=(sR x).2.1;exact Nat.mul_le_mul hn this
theorem Cf (x:mj) (n:Nat) (w:World) (hx:YB w x) (hk:MvK x) (hn:n≤2):
 Calls ae 25 #[x.V,.int .i64 (n:Int)] w fun e w'=>∃y:SlY,True∧e= .returned (vm (gw x) y.p (fG x n).length y.c)∧St (bs w) [own 25 2 y.p y.c ((fG x n).map jA)] w':=by
 obtain⟨hw1,hw2,hh1,hh2⟩:=sR x
 have har:=rS x
 have hdl:=hk.dl
 refine enter (vs:=[_,_]) (env:=[(0,_),(1,_)]) Tryz.func25 rfl rfl rfl rfl ?_
 refine VC.q (aD rfl<|cf (C:=#[_,_,_,_,_,_,_]) rfl rfl fun b1=>aD rfl<|bI (C:=#[_,_,_,_,_,_]) agt rfl fun b2=>VO.n<|VC.q (ah (aM (vs:=[_,_,_,_,_,_,_]) F5 (.r rfl) (ax 1 rfl ⟨_,rfl⟩) rfl) rfl<|ah (bD (xs:=[_]) (vs:=[_]) C31 ⟨(.r rfl),trivial⟩ (fun w _=>vf x w hk)) rfl<|aD rfl<|bI (C:=#[_,_,_,_,_]) Z88 rfl fun b3=>bU<|bl 0 (vs:=[_,_,_,_,_]) (C':=[_,_,_,_,_]) (L':=[_,_,_]) N88 rfl rfl rfl rfl rfl rfl rfl rfl<|VO.n<|ak ?_))
 refine aF (ah (aM (vs:=[_,_,_,_,_]) vS (.r rfl) (ax 0 rfl ⟨_,rfl⟩) rfl) rfl<|ah (dC (ps:=[(_,_)]) (vs:=[(_,_)]) (C:=[_,_,_,_,_,_]) am8 ⟨(.r rfl),trivial⟩ rfl ⟨_,[_,_,_,_,_],[_,_,_,_,_,_],rfl,rfl,rfl,rfl,rfl⟩) rfl<|aD rfl<|bI (C:=#[_,_,_,_,_,_]) agt rfl fun b5=>bU<|bl 0 (vs:=[_,_,_,_,_,_]) (C':=[_,_,_,_,_,_]) (L':=[_,_,_,_]) ahL rfl rfl rfl rfl rfl rfl rfl rfl<|VO.n<|ak<|VC.q (VO.a rfl<|VO.n<|aG ?_))
 refine bY (α:=Nat×(List Span)×(Option Addr)×Nat) 1 (fun gx=>[(7,.int .i64 (gx.1:Nat))]) [(1,_),(2,_),(4,_),(5,_),(6,_)] (fun gx=>[de b5 (.cells #[.int .i64 0,.int .i64 0,.int .i64 1000,.int .i64 (gA x:Int),.int .i64 (kK x:Int),.slice gx.2.2.1 gx.2.1.length gx.2.2.2] 108),own 25 2 gx.2.2.1 gx.2.2.2 (gx.2.1.map jA)]) (fun gx=>gx.1≤gA x*kK x∧gx.2.1=EH x n gx.1) (fun gx=>gA x*kK x-gx.1) (0,[],none,0) (by exact⟨bG _,rfl⟩) (.c4 rfl rfl rfl rfl (.cons rfl (.cons rfl .nil))) (fun _ h=>((h.fX 25 2)).fO [1,0,2,3,4] rfl) ?_
 rintro ⟨k,ml,po,co⟩ ⟨hkk,hm⟩
 show VC _ _ _ _ _ ([(7,.int .i64 (k:Nat))]++_) ([de b5 (.cells #[.int .i64 0,.int .i64 0,.int .i64 1000,.int .i64 (gA x:Int),.int .i64 (kK x:Int),.slice po ml.length co] 108),own 25 2 po co (ml.map jA)]++_) _ _
 dsimp only at hkk hm
 have hmll:ml.length=k:=by rw[hm,IF]
 refine ak<|VC.q (VO.m rfl<|VO.f (r:=3) jD rfl<|VO.c 2 O3 rfl rfl ⟨_,rfl⟩ rfl<|VO.f (r:=4) qH rfl<|VO.c 2 O3 rfl rfl ⟨_,rfl⟩ rfl<|ah (dy (gG (.r rfl) (.r rfl) (wi (by rw[←dB];omega) (by rw[←dB];omega))) (congrArg (bX .i64) ((dB _ _).symm))) rfl<|VO.t rfl<|VO.n<|ay rfl (fun h20=>?_) (fun h20=>?_))
 ·
  have hix:=aiq hn (x:=x) (p:=k) (by omega)
  refine aC (ag<|ak<|aG<|VC.q (VO.a rfl<|VO.n<|ak ?_))
  refine VC.q (VO.f (r:=5) Tc rfl<|VO.c 4 O31 rfl rfl ⟨_,rfl⟩ rfl<|ah (bW S31 (.r rfl) rfl) rfl<|ah (LO.gt (.r rfl) (.r rfl)) rfl<|VO.n<|ay rfl (fun h26=>?_) (fun h26=>?_))
  ·
   have hnd:(n*gA x*kK x+k)%x.db.length<x.db.length:=Nat.mod_lt _ (by omega)
   obtain⟨nd,hdn⟩:=gE (l:=x.db) hnd
   have hnd2:=hk.db nd (al hdn)
   refine eH mixed (aV (aE (r:=5) Tc (.r rfl) rfl) rfl<|aV (aB O31 (.r rfl) (ax 4 rfl ⟨_,rfl⟩)) rfl<|LL.m rfl<|aV (aE (r:=3) jD (.r rfl) rfl) rfl<|aV (aB O3 (.r rfl) (ax 2 rfl ⟨_,rfl⟩)) rfl<|aV (dy (gG (.r rfl) (.r rfl) (wi (by rw[←dB];have:=aa1 (x:=x) hn;omega) (by rw[←dB];have:=aa1 (x:=x) hn;omega))) (congrArg (bX .i64) ((dB _ _).symm))) rfl<|aV (aE (r:=4) qH (.r rfl) rfl) rfl<|aV (aB O3 (.r rfl) (ax 2 rfl ⟨_,rfl⟩)) rfl<|aV (dy (gG (.r rfl) (.r rfl) (wi (by rw[←dB];omega) (by rw[←dB];omega))) (congrArg (bX .i64) ((dB _ _).symm))) rfl<|LL.m rfl<|aV (dy (LO.add (.r rfl) (.r rfl) (wi (by omega) (by omega))) (congrArg (bX .i64) ((Int.natCast_add _ _).symm))) rfl<|aV (aE (r:=5) Tc (.r rfl) rfl) rfl<|aV (aB O31 (.r rfl) (ax 4 rfl ⟨_,rfl⟩)) rfl<|aV (bW S31 (.r rfl) rfl) rfl<|aV (dy (LO.rem (.r rfl) (.r rfl) (by omega)) (congrArg (bX .i64) (x9 (m:=x.db.length)))) rfl<|aV (cw S31 N5 (hx.db.sm) (.r rfl) (.r rfl) rfl hnd) rfl<|aV (aB O5 (.r rfl) (fun w hw=>bq (off:=0) ((fun w3 h3=>RO.tu (hx.keep w3 h3).db hdn) w hw) ⟨_,rfl⟩)) rfl<|aV (dy (LO.rem (.r rfl) (.r rfl) (by omega)) (congrArg (bX .u8) (x9 (m:=4)))) rfl<|aV (LO.as (.r rfl)) rfl<|ft) (by kernel_rfl)<|ag<|VC.q (ah (dC (ps:=[(_,_),(_,_)]) (vs:=[(_,_),(_,_)]) (C:=[_,_]) EE ⟨(.r rfl),(.r rfl),trivial⟩ rfl ⟨_,[_],[_,_],rfl,rfl,rfl,rfl,⟨_,[_],[_,_],rfl,rfl,rfl,rfl,rfl⟩⟩) rfl<|aD rfl<|bI (C:=#[_,_]) IT rfl fun b9=>bU<|bl 0 (vs:=[_,_]) (C':=[_,_]) (L':=[_,_,_,_,_,_]) sC rfl rfl rfl rfl rfl rfl rfl rfl<|VO.n<|ak<|ak ?_)
   refine aF (ah (aM (vs:=[_,_,_,_,_,_,_]) F5 (.r rfl) (ax 5 rfl ⟨_,rfl⟩) rfl) rfl<|ah (aM (vs:=[_,_,_,_,_]) vS (.r rfl) (ax 3 rfl ⟨_,rfl⟩) rfl) rfl<|VO.m rfl<|VO.m rfl<|ah (bD (xs:=[_,_,_,_]) (vs:=[_,_,_,_]) C30 ⟨(.r rfl),(.r rfl),(.r rfl),(.r rfl),trivial⟩ (fun w hw=>GI x k n w (hx.keep w hw) hk hn (by omega))) rfl<|VO.n<|ay rfl (fun h50=>?_) (fun h50=>?_))
   ·
    refine aF (ah (dC (ps:=[(_,_),(_,_)]) (vs:=[(_,_),(_,_)]) (C:=[_,_]) EE ⟨(.r rfl),(.r rfl),trivial⟩ rfl ⟨_,[_],[_,_],rfl,rfl,rfl,rfl,⟨_,[_],[_,_],rfl,rfl,rfl,rfl,rfl⟩⟩) rfl<|bU<|bl 0 (vs:=[_,_]) (C':=[_,_]) (L':=[_,_,_,_,_,_]) sC rfl rfl rfl rfl rfl rfl rfl rfl<|VO.n<|ak<|VC.q (VO.m rfl<|ah (fN (.r rfl) (.r rfl)) rfl<|VO.n<|ay rfl (fun h53=>?_) (fun h53=>?_)))
    ·
     refine aF (ah (dC (ps:=[(_,_),(_,_)]) (vs:=[(_,_),(_,_)]) (C:=[_,_]) EE ⟨(.r rfl),(.r rfl),trivial⟩ rfl ⟨_,[_],[_,_],rfl,rfl,rfl,rfl,⟨_,[_],[_,_],rfl,rfl,rfl,rfl,rfl⟩⟩) rfl<|bU<|bl 0 (vs:=[_,_]) (C':=[_,_]) (L':=[_,_,_,_,_,_]) sC rfl rfl rfl rfl rfl rfl rfl rfl<|VO.n<|aF (VO.f (r:=5) jI rfl<|VO.c 1 JL rfl rfl ⟨_,rfl⟩ rfl<|ah (aM (vs:=[_,_]) xb (.r rfl) (ax 0 rfl ⟨_,rfl⟩) rfl) rfl<|aD rfl<|fu (ps:=[(_,_)]) (vs:=[(_,_)]) (Z:=[_,_]) (C:=[_,_]) uH IT sC ⟨(.r rfl),trivial⟩ rfl rfl rfl rfl ⟨_,[_,_],[_,_],rfl,rfl,rfl,rfl,rfl⟩ fun b13=>aD rfl<|dM ((od 2 8:Span)) (f:=jA) 3 0 (fun R=>[_,_,_,R,_,_,_]) uH uH ZI (.r rfl) (.r rfl) rfl rfl rfl rfl rfl rfl rfl (fun _=>rfl) rfl (by omega) fun p4 c4=>VO.f (r:=5) jI rfl<|bU<|bl 2 (vs:=[_]) (C':=[_,_,_,_,_,_]) (L':=[_,_,_,_,_,_,_]) XZ rfl rfl rfl rfl rfl rfl rfl rfl<|aI<|bB (ag<|aF (VO.m rfl<|VO.p rfl rfl (by omega) (by omega) rfl<|VO.a rfl<|aI<|bn fun a w ha hw=>⟨(k+1,ml++[od 2 8],p4,c4),⟨by dsimp only;omega,Bh hm (by unfold xq ZA;rw[Px hdn];rw[if_pos (by omega)])⟩,(by dsimp only;omega),ha.sub (.c4 rfl rfl rfl rfl (.cons rfl (.cons rfl .nil))),hw.fO [2,3,4,5,6] rfl⟩))))
    ·
     refine aC (ag<|aF (VO.f (r:=5) jI rfl<|VO.c 1 JL rfl rfl ⟨_,rfl⟩ rfl<|ah (aM (vs:=[_,_]) xb (.r rfl) (ax 0 rfl ⟨_,rfl⟩) rfl) rfl<|aD rfl<|fu (ps:=[(_,_)]) (vs:=[(_,_)]) (Z:=[_,_]) (C:=[_,_]) uH IT sC ⟨(.r rfl),trivial⟩ rfl rfl rfl rfl ⟨_,[_,_],[_,_],rfl,rfl,rfl,rfl,rfl⟩ fun b15=>aD rfl<|dM ((od 5 9:Span)) (f:=jA) 3 0 (fun R=>[_,_,_,R,_,_,_]) uH uH ZI (.r rfl) (.r rfl) rfl rfl rfl rfl rfl rfl rfl (fun _=>rfl) rfl (by omega) fun p4 c4=>VO.f (r:=5) jI rfl<|bU<|bl 2 (vs:=[_]) (C':=[_,_,_,_,_,_]) (L':=[_,_,_,_,_,_,_]) XZ rfl rfl rfl rfl rfl rfl rfl rfl<|aI<|bB (ag<|aF (VO.m rfl<|VO.p rfl rfl (by omega) (by omega) rfl<|VO.a rfl<|aI<|bn fun a w ha hw=>⟨(k+1,ml++[od 5 9],p4,c4),⟨by dsimp only;omega,Bh hm (by unfold xq ZA;rw[Px hdn];rw[if_neg (by omega),if_pos h50])⟩,(by dsimp only;omega),ha.sub (.c4 rfl rfl rfl rfl (.cons rfl (.cons rfl .nil))),hw.fO [2,3,4,5,6] rfl⟩))))
   ·
    refine aC (ag<|ak<|VC.q (VO.m rfl<|ah (fN (.r rfl) (.r rfl)) rfl<|VO.n<|ay rfl (fun h53=>?_) (fun h53=>?_)))
    ·
     refine aF (ah (dC (ps:=[(_,_),(_,_)]) (vs:=[(_,_),(_,_)]) (C:=[_,_]) EE ⟨(.r rfl),(.r rfl),trivial⟩ rfl ⟨_,[_],[_,_],rfl,rfl,rfl,rfl,⟨_,[_],[_,_],rfl,rfl,rfl,rfl,rfl⟩⟩) rfl<|bU<|bl 0 (vs:=[_,_]) (C':=[_,_]) (L':=[_,_,_,_,_,_]) sC rfl rfl rfl rfl rfl rfl rfl rfl<|VO.n<|aF (VO.f (r:=5) jI rfl<|VO.c 1 JL rfl rfl ⟨_,rfl⟩ rfl<|ah (aM (vs:=[_,_]) xb (.r rfl) (ax 0 rfl ⟨_,rfl⟩) rfl) rfl<|aD rfl<|fu (ps:=[(_,_)]) (vs:=[(_,_)]) (Z:=[_,_]) (C:=[_,_]) uH IT sC ⟨(.r rfl),trivial⟩ rfl rfl rfl rfl ⟨_,[_,_],[_,_],rfl,rfl,rfl,rfl,rfl⟩ fun b18=>aD rfl<|dM ((od 2 8:Span)) (f:=jA) 3 0 (fun R=>[_,_,_,R,_,_,_]) uH uH ZI (.r rfl) (.r rfl) rfl rfl rfl rfl rfl rfl rfl (fun _=>rfl) rfl (by omega) fun p4 c4=>VO.f (r:=5) jI rfl<|bU<|bl 2 (vs:=[_]) (C':=[_,_,_,_,_,_]) (L':=[_,_,_,_,_,_,_]) XZ rfl rfl rfl rfl rfl rfl rfl rfl<|aI<|bB (ag<|aF (VO.m rfl<|VO.p rfl rfl (by omega) (by omega) rfl<|VO.a rfl<|aI<|bn fun a w ha hw=>⟨(k+1,ml++[od 2 8],p4,c4),⟨by dsimp only;omega,Bh hm (by unfold xq ZA;rw[Px hdn];rw[if_pos (by omega)])⟩,(by dsimp only;omega),ha.sub (.c4 rfl rfl rfl rfl (.cons rfl (.cons rfl .nil))),hw.fO [2,3,4,5,6] rfl⟩))))
    ·
     refine aC (ag<|aF (VO.f (r:=5) jI rfl<|VO.c 1 JL rfl rfl ⟨_,rfl⟩ rfl<|ah (aM (vs:=[_,_]) xb (.r rfl) (ax 0 rfl ⟨_,rfl⟩) rfl) rfl<|aD rfl<|fu (ps:=[(_,_)]) (vs:=[(_,_)]) (Z:=[_,_]) (C:=[_,_]) uH IT sC ⟨(.r rfl),trivial⟩ rfl rfl rfl rfl ⟨_,[_,_],[_,_],rfl,rfl,rfl,rfl,rfl⟩ fun b20=>aD rfl<|dM ((od 0 3:Span)) (f:=jA) 3 0 (fun R=>[_,_,_,R,_,_,_]) uH uH ZI (.r rfl) (.r rfl) rfl rfl rfl rfl rfl rfl rfl (fun _=>rfl) rfl (by omega) fun p4 c4=>VO.f (r:=5) jI rfl<|bU<|bl 2 (vs:=[_]) (C':=[_,_,_,_,_,_]) (L':=[_,_,_,_,_,_,_]) XZ rfl rfl rfl rfl rfl rfl rfl rfl<|aI<|bB (ag<|aF (VO.m rfl<|VO.p rfl rfl (by omega) (by omega) rfl<|VO.a rfl<|aI<|bn fun a w ha hw=>⟨(k+1,ml++[od 0 3],p4,c4),⟨by dsimp only;omega,Bh hm (by unfold xq ZA;rw[Px hdn];rw[if_neg (by omega),if_neg h50])⟩,(by dsimp only;omega),ha.sub (.c4 rfl rfl rfl rfl (.cons rfl (.cons rfl .nil))),hw.fO [2,3,4,5,6] rfl⟩))))
  ·
   refine aC (ag<|VC.q (ah (dC (ps:=[(_,_),(_,_)]) (vs:=[(_,_),(_,_)]) (C:=[_,_]) EE ⟨(.r rfl),(.r rfl),trivial⟩ rfl ⟨_,[_],[_,_],rfl,rfl,rfl,rfl,⟨_,[_],[_,_],rfl,rfl,rfl,rfl,rfl⟩⟩) rfl<|aD rfl<|bI (C:=#[_,_]) IT rfl fun b22=>bU<|bl 0 (vs:=[_,_]) (C':=[_,_]) (L':=[_,_,_,_,_,_]) sC rfl rfl rfl rfl rfl rfl rfl rfl<|VO.n<|ak<|VC.q (ah (aM (vs:=[_,_,_,_,_,_,_]) F5 (.r rfl) (ax 5 rfl ⟨_,rfl⟩) rfl) rfl<|ah (aM (vs:=[_,_,_,_,_]) vS (.r rfl) (ax 3 rfl ⟨_,rfl⟩) rfl) rfl<|VO.m rfl<|VO.m rfl<|ah (bD (xs:=[_,_,_,_]) (vs:=[_,_,_,_]) C30 ⟨(.r rfl),(.r rfl),(.r rfl),(.r rfl),trivial⟩ (fun w hw=>GI x k n w (hx.keep w hw) hk hn (by omega))) rfl<|aI ?_)))
   refine ag<|ay rfl (fun h50=>?_) (fun h50=>?_)
   ·
    refine aF (ah (dC (ps:=[(_,_),(_,_)]) (vs:=[(_,_),(_,_)]) (C:=[_,_]) EE ⟨(.r rfl),(.r rfl),trivial⟩ rfl ⟨_,[_],[_,_],rfl,rfl,rfl,rfl,⟨_,[_],[_,_],rfl,rfl,rfl,rfl,rfl⟩⟩) rfl<|bU<|bl 0 (vs:=[_,_]) (C':=[_,_]) (L':=[_,_,_,_,_,_]) sC rfl rfl rfl rfl rfl rfl rfl rfl<|VO.n<|ak<|VC.q (VO.m rfl<|ah (fN (.r rfl) (.r rfl)) rfl<|VO.n<|ay rfl (fun h53=>?_) (fun h53=>?_)))
    ·
     refine aF (ah (dC (ps:=[(_,_),(_,_)]) (vs:=[(_,_),(_,_)]) (C:=[_,_]) EE ⟨(.r rfl),(.r rfl),trivial⟩ rfl ⟨_,[_],[_,_],rfl,rfl,rfl,rfl,⟨_,[_],[_,_],rfl,rfl,rfl,rfl,rfl⟩⟩) rfl<|bU<|bl 0 (vs:=[_,_]) (C':=[_,_]) (L':=[_,_,_,_,_,_]) sC rfl rfl rfl rfl rfl rfl rfl rfl<|VO.n<|aF (VO.f (r:=5) jI rfl<|VO.c 1 JL rfl rfl ⟨_,rfl⟩ rfl<|ah (aM (vs:=[_,_]) xb (.r rfl) (ax 0 rfl ⟨_,rfl⟩) rfl) rfl<|aD rfl<|fu (ps:=[(_,_)]) (vs:=[(_,_)]) (Z:=[_,_]) (C:=[_,_]) uH IT sC ⟨(.r rfl),trivial⟩ rfl rfl rfl rfl ⟨_,[_,_],[_,_],rfl,rfl,rfl,rfl,rfl⟩ fun b26=>aD rfl<|dM ((od 2 8:Span)) (f:=jA) 3 0 (fun R=>[_,_,_,R,_,_,_]) uH uH ZI (.r rfl) (.r rfl) rfl rfl rfl rfl rfl rfl rfl (fun _=>rfl) rfl (by omega) fun p4 c4=>VO.f (r:=5) jI rfl<|bU<|bl 2 (vs:=[_]) (C':=[_,_,_,_,_,_]) (L':=[_,_,_,_,_,_,_]) XZ rfl rfl rfl rfl rfl rfl rfl rfl<|aI<|bB (ag<|aF (VO.m rfl<|VO.p rfl rfl (by omega) (by omega) rfl<|VO.a rfl<|aI<|bn fun a w ha hw=>⟨(k+1,ml++[od 2 8],p4,c4),⟨by dsimp only;omega,Bh hm (by unfold xq ZA;rw[Pl h26];rw[if_pos (by omega)])⟩,(by dsimp only;omega),ha.sub (.c4 rfl rfl rfl rfl (.cons rfl (.cons rfl .nil))),hw.fO [2,3,4,5,6] rfl⟩))))
    ·
     refine aC (ag<|aF (VO.f (r:=5) jI rfl<|VO.c 1 JL rfl rfl ⟨_,rfl⟩ rfl<|ah (aM (vs:=[_,_]) xb (.r rfl) (ax 0 rfl ⟨_,rfl⟩) rfl) rfl<|aD rfl<|fu (ps:=[(_,_)]) (vs:=[(_,_)]) (Z:=[_,_]) (C:=[_,_]) uH IT sC ⟨(.r rfl),trivial⟩ rfl rfl rfl rfl ⟨_,[_,_],[_,_],rfl,rfl,rfl,rfl,rfl⟩ fun b28=>aD rfl<|dM ((od 5 9:Span)) (f:=jA) 3 0 (fun R=>[_,_,_,R,_,_,_]) uH uH ZI (.r rfl) (.r rfl) rfl rfl rfl rfl rfl rfl rfl (fun _=>rfl) rfl (by omega) fun p4 c4=>VO.f (r:=5) jI rfl<|bU<|bl 2 (vs:=[_]) (C':=[_,_,_,_,_,_]) (L':=[_,_,_,_,_,_,_]) XZ rfl rfl rfl rfl rfl rfl rfl rfl<|aI<|bB (ag<|aF (VO.m rfl<|VO.p rfl rfl (by omega) (by omega) rfl<|VO.a rfl<|aI<|bn fun a w ha hw=>⟨(k+1,ml++[od 5 9],p4,c4),⟨by dsimp only;omega,Bh hm (by unfold xq ZA;rw[Pl h26];exact absurd rfl h53)⟩,(by dsimp only;omega),ha.sub (.c4 rfl rfl rfl rfl (.cons rfl (.cons rfl .nil))),hw.fO [2,3,4,5,6] rfl⟩))))
   ·
    refine aC (ag<|ak<|VC.q (VO.m rfl<|ah (fN (.r rfl) (.r rfl)) rfl<|VO.n<|ay rfl (fun h53=>?_) (fun h53=>?_)))
    ·
     refine aF (ah (dC (ps:=[(_,_),(_,_)]) (vs:=[(_,_),(_,_)]) (C:=[_,_]) EE ⟨(.r rfl),(.r rfl),trivial⟩ rfl ⟨_,[_],[_,_],rfl,rfl,rfl,rfl,⟨_,[_],[_,_],rfl,rfl,rfl,rfl,rfl⟩⟩) rfl<|bU<|bl 0 (vs:=[_,_]) (C':=[_,_]) (L':=[_,_,_,_,_,_]) sC rfl rfl rfl rfl rfl rfl rfl rfl<|VO.n<|aF (VO.f (r:=5) jI rfl<|VO.c 1 JL rfl rfl ⟨_,rfl⟩ rfl<|ah (aM (vs:=[_,_]) xb (.r rfl) (ax 0 rfl ⟨_,rfl⟩) rfl) rfl<|aD rfl<|fu (ps:=[(_,_)]) (vs:=[(_,_)]) (Z:=[_,_]) (C:=[_,_]) uH IT sC ⟨(.r rfl),trivial⟩ rfl rfl rfl rfl ⟨_,[_,_],[_,_],rfl,rfl,rfl,rfl,rfl⟩ fun b31=>aD rfl<|dM ((od 2 8:Span)) (f:=jA) 3 0 (fun R=>[_,_,_,R,_,_,_]) uH uH ZI (.r rfl) (.r rfl) rfl rfl rfl rfl rfl rfl rfl (fun _=>rfl) rfl (by omega) fun p4 c4=>VO.f (r:=5) jI rfl<|bU<|bl 2 (vs:=[_]) (C':=[_,_,_,_,_,_]) (L':=[_,_,_,_,_,_,_]) XZ rfl rfl rfl rfl rfl rfl rfl rfl<|aI<|bB (ag<|aF (VO.m rfl<|VO.p rfl rfl (by omega) (by omega) rfl<|VO.a rfl<|aI<|bn fun a w ha hw=>⟨(k+1,ml++[od 2 8],p4,c4),⟨by dsimp only;omega,Bh hm (by unfold xq ZA;rw[Pl h26];rw[if_pos (by omega)])⟩,(by dsimp only;omega),ha.sub (.c4 rfl rfl rfl rfl (.cons rfl (.cons rfl .nil))),hw.fO [2,3,4,5,6] rfl⟩))))
    ·
     refine aC (ag<|aF (VO.f (r:=5) jI rfl<|VO.c 1 JL rfl rfl ⟨_,rfl⟩ rfl<|ah (aM (vs:=[_,_]) xb (.r rfl) (ax 0 rfl ⟨_,rfl⟩) rfl) rfl<|aD rfl<|fu (ps:=[(_,_)]) (vs:=[(_,_)]) (Z:=[_,_]) (C:=[_,_]) uH IT sC ⟨(.r rfl),trivial⟩ rfl rfl rfl rfl ⟨_,[_,_],[_,_],rfl,rfl,rfl,rfl,rfl⟩ fun b33=>aD rfl<|dM ((od 0 3:Span)) (f:=jA) 3 0 (fun R=>[_,_,_,R,_,_,_]) uH uH ZI (.r rfl) (.r rfl) rfl rfl rfl rfl rfl rfl rfl (fun _=>rfl) rfl (by omega) fun p4 c4=>VO.f (r:=5) jI rfl<|bU<|bl 2 (vs:=[_]) (C':=[_,_,_,_,_,_]) (L':=[_,_,_,_,_,_,_]) XZ rfl rfl rfl rfl rfl rfl rfl rfl<|aI<|bB (ag<|aF (VO.m rfl<|VO.p rfl rfl (by omega) (by omega) rfl<|VO.a rfl<|aI<|bn fun a w ha hw=>⟨(k+1,ml++[od 0 3],p4,c4),⟨by dsimp only;omega,Bh hm (by unfold xq ZA;rw[Pl h26];exact absurd rfl h53)⟩,(by dsimp only;omega),ha.sub (.c4 rfl rfl rfl rfl (.cons rfl (.cons rfl .nil))),hw.fO [2,3,4,5,6] rfl⟩))))
 ·
  refine ca (aL (aL (cD (ag<|VC.q (ah (aM (vs:=[_,_,_,_,_,_]) wA (.r rfl) (ax 0 rfl ⟨_,rfl⟩) rfl) rfl<|bU<|bl 3 (vs:=[_,_,_,_,_,_]) (C':=[_,_,_,_,_,_]) (L':=[_,_,_,_,_]) ahL rfl rfl rfl rfl rfl rfl rfl rfl<|VO.n<|aP (dh (vs:=[_]) rfl ⟨iA (vs:=[_,_,_,_,_,_]) wA rfl (ax 3 rfl ⟨_,rfl⟩) rfl,trivial⟩ (fun w hw=>?_)))))))
  have hke:k=gA x*kK x:=by omega
  subst hke
  subst hm
  exact⟨⟨po,co⟩,trivial,rfl,bM [1] rfl rfl _ hw⟩
theorem uj:bV ae 86 0 0:=⟨_,_,np,rfl,rfl,6,by kernel_rfl⟩
theorem C22:ef ae 22:=⟨_,Tryz.func22,by decide,rfl⟩
theorem UF:bV ae 86 1 7:=⟨_,_,np,rfl,rfl,0,by kernel_rfl⟩
structure El where
 m:mj
 pr:Option Addr
 cr:Nat
 rg:List Nat
abbrev El.V (x:El):Value:=.agg #[.int .u8 (x.m.wi:Int),.int .u8 (x.m.hi:Int),.slice x.m.pi x.m.ins.length x.m.ci,.int .u8 (x.m.x:Int),.int .u8 (x.m.y:Int),.slice x.m.pd x.m.db.length x.m.cd,.int .u16 (x.m.sec:Int),.slice x.pr x.rg.length x.cr]
structure Zw (w:World) (x:El):Prop where
 m:YB w x.m
 rg:RO 1 uC w x.pr x.rg
structure IsK (x:El):Prop where
 m:MvK x.m
 rg:∀n,n∈x.rg→n≤255
 rl:x.rg.length≤9223372036854775807
theorem Zw.keep {w0:World} {x:El} (h:Zw w0 x):∀{L:List cq} (w:World),St (bs w0) L w→Zw w x:=fun w hw=>⟨h.m.keep w hw,h.rg.keep w hw⟩
def RZ (x:El) (i p:Nat):Bool:=decide ((p:Int)<(x.rg.length:Int))&&decide (((x.rg.getD p 0:Nat):Int).fdiv (2 ^ (Min.min (i:Int).toNat 64))%2=1)
theorem Iu {x:El} {i p:Nat}:RZ x i p=true↔((p:Int)<(x.rg.length:Int)∧((x.rg.getD p 0:Nat):Int).fdiv (2 ^ (Min.min (i:Int).toNat 64))%2=1):=by unfold RZ;rw[aQ,decide_eq_true_eq,decide_eq_true_eq]
def sr (x:El) (i n:Nat):List Int:=((br n).filter fun p=>RZ x i p).map Int.ofNat
theorem aeB {x:El} {i n:Nat} (h:RZ x i n=true):sr x i (n+1)=sr x i n++[(n:Int)]:=by
 unfold sr;rw[fA,dI,bj];simp [h]
theorem ac0 {x:El} {i n:Nat} (h:¬RZ x i n=true):sr x i (n+1)=sr x i n:=by
 unfold sr;rw[fA,dI];simp [h]
theorem Jv {x:El} {i n:Nat}:(sr x i n).length≤n:=by
 unfold sr
 rw[aq]
 have:=List.length_filter_le (fun p=>RZ x i p) (br n)
 simpa using this
def Eo (x:El):Nat:=gA x.m*kK x.m
def jq (x:El):Nat→List RE
 |0=>[]
 |i+1=>if sr x i (Eo x)=[]then jq x i else jq x i++[⟨HV i,sr x i (Eo x)⟩]
theorem tg {x:El}:∀i,(jq x i).length≤i
 |0=>bA _
 |i+1=>by
  have:=tg (x:=x) i
  unfold jq;split
  ·omega
  ·simp;omega
theorem Vd {x:El} {i:Nat} (h:sr x i (Eo x)≠[]):jq x (i+1)=jq x i++[⟨HV i,sr x i (Eo x)⟩]:=by
 conv=>lhs;unfold jq
 rw[if_neg h]
theorem VL {x:El} {i:Nat} (h:sr x i (Eo x)=[]):jq x (i+1)=jq x i:=by
 conv=>lhs;unfold jq
 rw[if_pos h]
theorem abh {l:List Nat} {k:Nat} (h:k<l.length):l[k]? =some (l.getD k 0):=by rw[av,af h];rfl
theorem afg {x:El} (hk:IsK x) {p:Nat}:x.rg.getD p 0≤255:=by
 by_cases h:p<x.rg.length
 ·exact hk.rg _ (al (abh h))
 ·rw[av,aH (by omega)];exact bG _
theorem JQ (x:El) (w:World) (hx:Zw w x) (hk:IsK x):
 Calls ae 18 #[x.V] w fun e w'=>∃y:List RG×Option Addr×Nat,y.1.map RG.r=jq x 3∧e= .returned (.tuple #[Dw (gw x.m) y.2.1 y.1.length y.2.2 (iH x.m:Int) (iH x.m:Int) (iH x.m:Int),.bool (decide ((0:Int)<(y.1.length:Int)))])∧St (bs w) [own 193 2 y.2.1 y.2.2 (y.1.map RG.cells),bS (y.1.map Dr)] w':=by
 obtain⟨hw1,hw2,hh1,hh2⟩:=sR x.m
 have har:=rS x.m
 have hrl:=hk.rl
 have hT:=qk x.m
 refine enter (vs:=[_]) (env:=[(0,_)]) Tryz.func18 rfl rfl rfl rfl ?_
 refine VC.q (aD rfl<|cf (C:=#[_,_,_,_,_,_,_,_]) rfl rfl fun b1=>aD rfl<|bI (C:=#[_,_,_,_,_,_,_,_,_]) Z93 rfl fun b2=>VO.a rfl<|VO.n<|ak<|cP [[0,1],[0,1],[0,1]] [some 1,some 1,some 1,some 1,some 1,some 1,none,none,some 2] mixed (by kernel_rfl) rfl (aA (fun _ hJ=>aE (r:=0) uj (.r rfl) rfl) rfl<|aA (fun _ hJ=>aM (vs:=[_,_,_,_,_,_,_]) F5 (.r rfl) (fun _ hw=>aX (hJ _ hw) 1 rfl ⟨_,rfl⟩) rfl) rfl<|aA (fun _ hJ=>bD (xs:=[_]) (vs:=[_]) C31 ⟨(.r rfl),trivial⟩ (fun w _=>vf x.m w hk.m)) rfl<|aA (fun _ hJ=>aE (r:=0) uj (.r rfl) rfl) rfl<|aA (fun _ hJ=>aM (vs:=[_,_,_,_,_,_,_]) F5 (.r rfl) (fun _ hw=>aX (hJ _ hw) 1 rfl ⟨_,rfl⟩) rfl) rfl<|aA (fun _ hJ=>bD (xs:=[_]) (vs:=[_]) C22 ⟨(.r rfl),trivial⟩ (fun w _=>x7 x.m w hk.m)) rfl<|cn<|cn<|aA (fun _ hJ=>LO.as (.r rfl)) rfl<|dw) (au<|au<|au<|au<|au<|au<|HX.h rfl<|bI (C:=#[_,_,_,_,_]) Z88 rfl fun b5=>⟨fun _ hw=>hw.fO [1,2] rfl,eW<|bl 0 (vs:=[_,_,_,_,_]) (C':=[_,_,_,_,_]) (L':=[_,_,_]) N88 rfl rfl rfl rfl rfl rfl rfl rfl<|⟨fun _ hw=>hw.fO [1,2] rfl,au<|dS ?_⟩⟩))
 refine ag<|VC.q (ah (aM (vs:=[_,_,_,_,_]) vS (.r rfl) (ax 0 rfl ⟨_,rfl⟩) rfl) rfl<|VO.m rfl<|VO.m rfl<|VO.m rfl<|ah (dC (ps:=[(_,_),(_,_),(_,_)]) (vs:=[(_,_),(_,_),(_,_)]) (C:=[_,_,_]) B91 ⟨(.r rfl),(.r rfl),(.r rfl),trivial⟩ rfl ⟨_,[_],[_,_,_],rfl,rfl,rfl,rfl,⟨_,[_],[_,_,_],rfl,rfl,rfl,rfl,⟨_,[_],[_,_,_],rfl,rfl,rfl,rfl,rfl⟩⟩⟩) rfl<|ah (dC (ps:=[(_,_),(_,_)]) (vs:=[(_,_),(_,_)]) (C:=[_,_,_,_,_,_,_,_,_]) B93 ⟨(.r rfl),(.r rfl),trivial⟩ rfl ⟨_,[_,_,_,_,_],[_,_,_,_,_,_,_,_,_],rfl,rfl,rfl,rfl,⟨_,[_,_,_],[_,_,_,_,_,_,_,_,_],rfl,rfl,rfl,rfl,rfl⟩⟩) rfl<|aD rfl<|bI (C:=#[_,_,_,_,_,_,_,_,_]) Z93 rfl fun b7=>bU<|bl 0 (vs:=[_,_,_,_,_,_,_,_,_]) (C':=[_,_,_,_,_,_,_,_,_]) (L':=[_,_,_,_]) N93 rfl rfl rfl rfl rfl rfl rfl rfl<|VO.n<|VC.q (aD rfl<|fu (ps:=[(_,_),(_,_),(_,_)]) (vs:=[(_,_),(_,_),(_,_)]) (Z:=[_,_,_]) (C:=[_,_,_]) amY Z9 N9 ⟨(.r rfl),(.r rfl),(.r rfl),trivial⟩ rfl rfl rfl rfl ⟨_,[_],[_,_,_],rfl,rfl,rfl,rfl,⟨_,[_],[_,_,_],rfl,rfl,rfl,rfl,⟨_,[_],[_,_,_],rfl,rfl,rfl,rfl,rfl⟩⟩⟩ fun b9=>aD rfl<|aO (LO.as (.r rfl))<|VO.n ?_))
 refine ak<|VC.q (VO.a rfl<|VO.n<|aG<|ik [1,0,2,3,4] rfl<|bY (α:=Nat×(List RG)×(Option Addr)×Nat) 1 (fun gx=>[(8,.int .i64 (gx.1:Nat))]) [(1,_),(2,_),(4,_),(6,_),(7,_)] (fun gx=>[de b7 (.cells #[.int .i64 0,.int .i64 0,.int .i64 1000,.int .i64 (gA x.m:Int),.int .i64 (kK x.m:Int),.slice gx.2.2.1 gx.2.1.length gx.2.2.2,.int .i64 (iH x.m:Int),.int .i64 (iH x.m:Int),.int .i64 (iH x.m:Int)] 93),own 193 2 gx.2.2.1 gx.2.2.2 (gx.2.1.map RG.cells),bS (gx.2.1.map Dr)]) (fun gx=>gx.1≤3∧gx.2.1.map RG.r=jq x gx.1) (fun gx=>3-gx.1) (0,[],none,0) (by exact⟨bG _,rfl⟩) (.c4 rfl rfl rfl rfl (.cons rfl (.cons rfl .nil))) (fun _ h=>(((St.bS (Rs:=[]) h).fX 193 2)).fO [2,0,1,3,4,5,6] rfl) ?_)
 rintro ⟨i,rgs,pg_,cg_⟩ ⟨hi,hX⟩
 show VC _ _ _ _ _ ([(8,.int .i64 (i:Nat))]++_) ([de b7 (.cells #[.int .i64 0,.int .i64 0,.int .i64 1000,.int .i64 (gA x.m:Int),.int .i64 (kK x.m:Int),.slice pg_ rgs.length cg_,.int .i64 (iH x.m:Int),.int .i64 (iH x.m:Int),.int .i64 (iH x.m:Int)] 93),own 193 2 pg_ cg_ (rgs.map RG.cells),bS (rgs.map Dr)]++_) _ _
 dsimp only at hi hX
 have hgl:rgs.length≤i:=by rw[←aq (f:=RG.r),hX];exact tg i
 refine ak<|VC.q (VO.m rfl<|VO.t rfl<|VO.n<|ay rfl (fun h25=>?_) (fun h25=>?_))
 ·
  refine aC (ag<|ak<|aG<|VC.q (VO.m rfl<|VO.m rfl<|ah (LO.ix (j:=i) Tryz.underlying191 N9 (.r rfl) (.r rfl) (by omega)) rfl<|ah (aB O9 (.r rfl) (fun _ hw=>aX hw 3 rfl (ahA (by omega)))) rfl<|ah (dC (ps:=[(_,_)]) (vs:=[(_,_)]) (C:=[_,_]) alE ⟨(.r rfl),trivial⟩ rfl ⟨_,[_],[_,_],rfl,rfl,rfl,rfl,rfl⟩) rfl<|aD rfl<|bI (C:=#[_,_]) UT rfl fun b13=>bU<|bl 0 (vs:=[_,_]) (C':=[_,_]) (L':=[_,_,_,_,_,_,_,_]) Jl rfl rfl rfl rfl rfl rfl rfl rfl<|VO.n<|ak ?_))
  refine VC.q (VO.a rfl<|VO.n<|aG<|bY (α:=Nat×(List Int)×(Option Addr)×Nat) 1 (fun gx=>[(10,.int .i64 (gx.1:Nat))]) [(1,_),(2,_),(4,_),(6,_),(7,_),(8,_),(9,_)] (fun gx=>[de b13 (.cells #[.string (HV i),.slice gx.2.2.1 gx.2.1.length gx.2.2.2] 193),own 3 1 gx.2.2.1 gx.2.2.2 (gx.2.1.map iC)]) (fun gx=>gx.1≤gA x.m*kK x.m∧gx.2.1=sr x i gx.1) (fun gx=>gA x.m*kK x.m-gx.1) (0,[],none,0) (by exact⟨bG _,rfl⟩) (.c4 rfl rfl rfl rfl (.c4 rfl rfl rfl rfl .nil)) (fun _ h=>((h.fX 3 1)).fO [1,0,2,3,4,5,6,7,8] rfl) ?_)
  rintro ⟨p,xs,px_,cx_⟩ ⟨hp,hxx⟩
  show VC _ _ _ _ _ ([(10,.int .i64 (p:Nat))]++_) ([de b13 (.cells #[.string (HV i),.slice px_ xs.length cx_] 193),own 3 1 px_ cx_ (xs.map iC)]++_) _ _
  dsimp only at hp hxx
  have hxl:xs.length≤p:=by rw[hxx];exact Jv
  refine ak<|VC.q (VO.m rfl<|VO.f (r:=3) jD rfl<|VO.c 6 O3 rfl rfl ⟨_,rfl⟩ rfl<|VO.f (r:=4) qH rfl<|VO.c 6 O3 rfl rfl ⟨_,rfl⟩ rfl<|ah (dy (gG (.r rfl) (.r rfl) (wi (by rw[←dB];omega) (by rw[←dB];omega))) (congrArg (bX .i64) ((dB _ _).symm))) rfl<|VO.t rfl<|VO.n<|ay rfl (fun h39=>?_) (fun h39=>?_))
  ·
   refine aC (ag<|ak<|aG<|VC.q (VO.m rfl<|VO.f (r:=7) UF rfl<|VO.c 8 O31 rfl rfl ⟨_,rfl⟩ rfl<|ah (bW S31 (.r rfl) rfl) rfl<|VO.t rfl<|VO.m rfl<|VO.gt rfl (fun hg=>aE (r:=7) UF (.r rfl) rfl)<|VO.gt rfl (fun hg=>aB O31 (.g hg rfl) (ax 8 rfl ⟨_,rfl⟩))<|VO.gt rfl (fun hg=>bJ (.r rfl))<|VO.gt rfl (fun hg=>cw S31 N5 (hx.rg.sm) (.g hg rfl) (.g hg rfl) rfl (by have:=of_decide_eq_true hg;omega))<|VO.gt rfl (fun hg=>aB O5 (.g hg rfl) (fun w hw=>bq (off:=0) ((fun w3 h3=>RO.tu (hx.keep w3 h3).rg (abh (k:=p) (by have:=of_decide_eq_true hg;omega))) w hw) ⟨_,rfl⟩))<|VO.gt rfl (fun hg=>LO.cv ⟨_,Tryz.underlying5⟩ cM (.g hg rfl) (cv8 (afg hk)))<|VO.gt rfl (fun hg=>bJ (.r rfl))<|VO.gt rfl (fun hg=>LO.shr (.g hg rfl) (.g hg rfl) (by omega))<|VO.gt rfl (fun hg=>LO.am1 (.g hg rfl) (.r rfl))<|VO.gt rfl (fun hg=>fN (.g hg rfl) (.r rfl))<|ah (dJ (.r rfl) rfl rfl (.r rfl)) rfl<|VO.n<|ay rfl (fun h58=>?_) (fun h58=>?_)))
   ·
    refine aF (VO.f (r:=1) su rfl<|VO.c 0 ij rfl rfl ⟨_,rfl⟩ rfl<|VO.m rfl<|aD rfl<|fu (ps:=[(_,_)]) (vs:=[(_,_)]) (Z:=[_]) (C:=[_]) ei Z3 N3 ⟨(.r rfl),trivial⟩ rfl rfl rfl rfl ⟨_,[_],[_],rfl,rfl,rfl,rfl,rfl⟩ fun b17=>aD rfl<|dM (((p:Nat):Int)) 2 0 (fun R=>[_,_,R,_,_,_,_,_,_,_]) ei ei I3 (.r rfl) (.r rfl) rfl rfl rfl rfl rfl rfl rfl (fun _=>rfl) rfl (by omega) fun p4 c4=>VO.f (r:=1) su rfl<|bU<|bl 1 (vs:=[_]) (C':=[_,_]) (L':=[_,_,_,_,_,_,_,_,_,_]) qo rfl rfl rfl rfl rfl rfl rfl rfl<|aI<|bB (ag<|aF (VO.m rfl<|VO.p rfl rfl (by omega) (by omega) rfl<|VO.a rfl<|aI<|bn fun a w ha hw=>⟨(p+1,xs++[((p:Nat):Int)],p4,c4),⟨by dsimp only;omega,by dsimp only;rw[hxx];exact(aeB (Iu.2 h58)).symm⟩,(by dsimp only;omega),ha.sub (.c4 rfl rfl rfl rfl (.c4 rfl rfl rfl rfl .nil)),hw.fO [1,2,3,4,5,6,7,8,9] rfl⟩)))
   ·
    refine aC (bB (ag<|aF (VO.m rfl<|VO.p rfl rfl (by omega) (by omega) rfl<|VO.a rfl<|aI<|bn fun a w ha hw=>⟨(p+1,xs,px_,cx_),⟨by dsimp only;omega,by dsimp only;rw[hxx];exact(ac0 (fun z=>h58 (Iu.1 z))).symm⟩,(by dsimp only;omega),ha.sub (.c4 rfl rfl rfl rfl (.c4 rfl rfl rfl rfl .nil)),hw⟩)))
  ·
   refine ca (aL (aL (cD (ag<|VC.q (VO.f (r:=1) su rfl<|VO.c 0 ij rfl rfl ⟨_,rfl⟩ rfl<|ah (bW ei (.r rfl) rfl) rfl<|ah (LO.gt (.r rfl) (.r rfl)) rfl<|VO.n<|ay rfl (fun h68=>?_) (fun h68=>?_))))))
   ·
    have hne:sr x i (Eo x)≠[]:=fun q=>by rw[show p=Eo x by unfold Eo;omega]at hxx;rw[hxx,q]at h68;exact absurd h68 (by decide)
    refine aF (VO.f (r:=5) sL rfl<|VO.c 2 Xa rfl rfl ⟨_,rfl⟩ rfl<|ah (aM (vs:=[_,_]) GL (.r rfl) (ax 0 rfl ⟨_,rfl⟩) rfl) rfl<|aD rfl<|fu (ps:=[(_,_)]) (vs:=[(_,_)]) (Z:=[_,_]) (C:=[_,_]) LI UT Jl ⟨(.r rfl),trivial⟩ rfl rfl rfl rfl ⟨_,[_,_],[_,_],rfl,rfl,rfl,rfl,rfl⟩ fun b19=>aD rfl<|dM ((RG.mk ⟨HV i,xs⟩ px_ cx_)) 4 0 (fun R=>[_,_,_,_,R,_,_,_,_,_]) LI LI ais (.r rfl) (.r rfl) rfl rfl rfl rfl rfl rfl rfl (fun _=>rfl) rfl (by omega) fun p4 c4=>VO.f (r:=5) sL rfl<|bU<|bl 3 (vs:=[_]) (C':=[_,_,_,_,_,_,_,_,_]) (L':=[_,_,_,_,_,_,_,_,_,_]) N89 rfl rfl rfl rfl rfl rfl rfl rfl<|aI<|bB (ag<|aF (VO.m rfl<|VO.p rfl rfl (by omega) (by omega) rfl<|VO.a rfl<|aI<|bn fun a w ha hw=>⟨(i+1,rgs++[RG.mk ⟨HV i,xs⟩ px_ cx_],p4,c4),⟨by dsimp only;omega,by dsimp only;rw[bj,hX,Vd hne,hxx,show p=Eo x by unfold Eo;omega];rfl⟩,(by dsimp only;omega),ha.sub (.c4 rfl rfl rfl rfl (.cons rfl (.cons rfl .nil))),(by exact(St.abw (x:=RG.mk ⟨HV i,xs⟩ px_ cx_) (bM (L1:=[_,_,_,_,_,_,_,_]) [2,5,3,4,6,7,8,9] rfl rfl _ hw)).fO [1,2,0,3,4,5,6] rfl)⟩)))
   ·
    have hne:sr x i (Eo x)=[]:=List.eq_nil_of_length_eq_zero (by rw[show p=Eo x by unfold Eo;omega]at hxx;rw[hxx]at h68;omega)
    refine aC (bB (ag<|aF (VO.m rfl<|VO.p rfl rfl (by omega) (by omega) rfl<|VO.a rfl<|aI<|bn fun a w ha hw=>⟨(i+1,rgs,pg_,cg_),⟨by dsimp only;omega,by dsimp only;rw[hX,VL hne]⟩,(by dsimp only;omega),ha.sub (.c4 rfl rfl rfl rfl (.cons rfl (.cons rfl .nil))),(by exact bM (L1:=[_,_,_,_,_,_,_]) [2,3,4,5,6,7,8] rfl rfl _ hw)⟩)))
 ·
  refine ca (aL (aL (cD (ag<|ak<|cP [[0,1,2,3,4,5,6],[0,1,2,3,4,6]] [some 0,some 1,some 1,some 1,some 1,none,some 1] mixed (by kernel_rfl) rfl (aA (fun _ hJ=>aM (vs:=[_,_,_,_,_,_,_,_,_]) Xe (.r rfl) (fun _ hw=>aX (hJ _ hw) 0 rfl ⟨_,rfl⟩) rfl) rfl<|aA (fun _ hJ=>aE (r:=5) sL (.r rfl) rfl) rfl<|aA (fun _ hJ=>aB Xa (.r rfl) (fun _ hw=>aX (hJ _ hw) 0 rfl ⟨_,rfl⟩)) rfl<|aA (fun _ hJ=>bW LI (.r rfl) rfl) rfl<|aA (fun _ hJ=>LO.gt (.r rfl) (.r rfl)) rfl<|cn<|aA (fun _ hJ=>LO.as (.r rfl)) rfl<|dw) (au<|au<|au<|au<|au<|eW<|bl 5 (vs:=[_,_,_,_,_,_,_,_,_]) (C':=[_,_,_,_,_,_,_,_,_]) (L':=[_,_,_,_,_,_,_]) N93 rfl rfl rfl rfl rfl rfl rfl rfl<|⟨fun _ hw=>hw.fO [0,1,2,3,4,6] rfl,au<|dS ?_⟩)))))
  refine ag<|aP (dh (vs:=[_,_]) rfl ⟨iA (vs:=[_,_,_,_,_,_,_,_,_]) Xe rfl (ax 5 rfl ⟨_,rfl⟩) rfl,rfl,trivial⟩ (fun w hw=>?_))
  have hi3:i=3:=by omega
  subst hi3
  exact⟨(rgs,pg_,cg_),hX,rfl,bM (L1:=[_,_]) [1,2] rfl rfl _ hw⟩
section
variable {x:mj} {n:Nat}
theorem vY (x:mj):cF (gw x):=by
 obtain⟨h1,h2,h3,h4⟩:=sR x
 unfold cF
 refine⟨?_,?_,?_,?_,?_⟩<;>dsimp only<;>omega
theorem IP:(fG x n).length=gA x*kK x:=IF
theorem CV:fS 1073741824 ⟨gw x,fG x n⟩=0:=by
 refine(fE4 (m:=1073741824) (f:=⟨gw x,fG x n⟩) (j:=(fG x n).length) (vY x) ?_ (fun k hk=>if_pos ?_) (bA _)).symm
 ·show((fG x n).length:Int)=(gA x:Int)*(kK x:Int)
  rw[IP,dB]
 ·rw[IP]at hk
  show lH 1073741824 ((fG x n).getD k ⟨0,0⟩)
  rw[Da hk]
  unfold xq lH
  split
  ·decide
  ·split<;>decide
theorem OT:nF (gw x) (fG x n) 5=0:=by
 unfold nF
 rw[if_neg (fun z=>z CV),if_neg (by decide)]
theorem Y8:Dc (gw x) 5 2=0:=bE3 (fun z=>z (if_pos (vY x))) (by decide)
def LJ (x:mj) (n:Nat):List (List Span):=(br n).map (fG x)
theorem TU:LJ x (n+1)=LJ x n++[fG x n]:=by unfold LJ;rw[fA,bj];rfl
theorem B5 {k:Nat} (h:k<n):(LJ x n).getD k []=fG x k:=by unfold LJ;rw[av,aw,eu h];rfl
def Ha (x:mj) (n:Nat):Nat:=nP (gw x) (fG x n) 5
structure PC (x:mj) (bm n:Nat) (s:rk) (XA:List cq):Prop where
 P:BjP ⟨gw x,5,2,bm⟩ 2 n s (LJ x n)
 la:s.la=if n=0 then-1 else((n-1:Nat):Int)*(iH x:Int)
 xa:∀w:World,(∀r,r∈XA→r.inv w)→∀(k:Nat) (y:qZ),s.ys[k]? =some y→Ex w y (pF (gW (gw x)) (gH (gw x)) (ga ((LJ x n).getD k []) 5))
 ms:s.Ms=(br n).map (Ha x)
 ev:n=2→UN (gW (gw x)) (gH (gw x)) 2 (pF (gW (gw x)) (gH (gw x)) (ga (fG x 0) 5)) (pF (gW (gw x)) (gH (gw x)) (ga (fG x 1) 5)) (Ha x 0) (Ha x 1) (s.E.getD 1 [])
theorem PC.zero (x:mj) (bm:Nat):PC x bm 0 (bk0 ⟨gw x,5,2,bm⟩) [] where
 P:=⟨⟨vY x,rfl,fun n y hn=>(by cases hn),rfl,by decide,bG _⟩,tB.zero,⟨fun n hn=>absurd hn (Nat.not_lt_zero _)⟩,rfl,rfl,fun m hm=>(by cases hm),bG _,fun j=>⟨dx _,dx _⟩,fun j _ _=>rfl,fun _=>rfl⟩
 la:=rfl
 xa:=fun w _ n y hn=>(by cases hn)
 ms:=rfl
 ev:=fun z=>absurd z (by decide)
theorem PC.tm {bm:Nat} {s:rk} {XA:List cq} (h:PC x bm n s XA) (hn:n≤1):oU ⟨gw x,5,2,bm⟩ s.la n ((n:Int)*(iH x:Int)) (gw x) (fG x n)=0:=by
 have hT:100≤iH x∧iH x≤599:=by unfold iH;omega
 have hl:=h.la
 unfold oU
 rw[if_neg (fun z=>z CV),if_neg (fun z=>z rfl)]
 have:n=0∨n=1:=by omega
 rcases this with r|r<;>subst r
 ·rw[if_pos rfl]at hl
  rw[if_neg (by omega),if_neg (by omega),if_neg (by decide)]
 ·rw[if_neg (by decide)]at hl
  rw[if_neg (by omega),if_neg (by omega),if_neg (by decide)]
theorem PC.add {bm:Nat} {s:rk} {XA:List cq} {y:AjY} (h:PC x bm n s XA) (hn:n≤1) (hy:AjP ⟨gw x,5,2,bm⟩ 2 n ((n:Int)*(iH x:Int)) (gw x) (fG x n) s (LJ x n) y):PC x bm (n+1) y.s (XA++y.X):=by
 have ao:=hy.ok (h.tm hn)
 obtain⟨yN,hys,hsp⟩:=ao.ys
 have hlen:s.ys.length=n:=by rw[h.P.A.n,h.P.n]
 refine⟨by rw[TU];exact ao.P,by rw[ao.la];rfl,fun w k m z hz=>?_,by rw[ao.Ms,h.ms,fA,bj];rfl,fun hn2=>?_⟩
 ·rw[hys]at hz
  by_cases q:m<s.ys.length
  ·rw[List.getElem?_append_left q]at hz
   rw[B5 (by omega)]
   have:=h.xa w (fun r hr=>k r (List.mem_append_left _ hr)) m z hz
   rwa [B5 (by omega)]at this
  ·have hm:=(aj.1 hz).1
   rw[aZ,List.length_singleton]at hm
   have e:m=s.ys.length:=by omega
   subst e
   rw[List.getElem?_append_right (bA _),Nat.sub_self]at hz
   cases hz
   rw[hlen,B5 (by omega)]
   exact hsp w fun r hr=>k r (List.mem_append_right _ hr)
 ·have e:n=1:=by omega
  subst e
  have hE:s.E.length=1:=by rw[h.P.I.q.len,h.P.n]
  have z:=ao.ev 0 rfl
  rw[B5 (by omega)]at z
  have e2:y.s.E.getD 1 []=y.ev.map dQ.m:=by
   rw[ao.E]
   have q:=lJ (l:=s.E) (x:=y.ev.map dQ.m) (d:=[])
   rwa [hE]at q
  rw[e2]
  exact z
structure MrT (x:mj) (s:rk) (i k:Nat) (t:jf):Prop where
 of:s.of (1,i)=some k
 tt:(s.tk.map dA.m)[k]? =some t
 kept:t.fr=0→∃a,t.ar=[a,i]∧(⟨B2 x,Cb x⟩:Mv)∈jy (gw x) (fG x 0) (fG x 1) 5 a i 2
theorem aeU {a b:Nat} (h:lG a b=4):a=1∧b=1:=by
 unfold lG at h
 repeat' split at h
 all_goals first |omega|(exact absurd h (by decide))
theorem PC.alN {bm:Nat} {s:rk} {XA:List cq} (h:PC x bm 2 s XA) {i:Nat} (hi:i<Ha x 1):∃k t,MrT x s i k t:=by
 have hm:=h.ms
 have hI:=h.P.I.q
 have hml:s.Ms.length=2:=h.P.n
 have e1:s.Ms.getD 1 0=Ha x 1:=by rw[hm];rfl
 have e0:s.Ms.getD 0 0=Ha x 0:=by rw[hm];rfl
 obtain⟨k,hk⟩:=hI.Mm 1 i (by omega) (by rw[e1];exact hi) (.inr (.inl (by rw[hml];show i<s.Ms.getD 1 0;rw[e1];exact hi)))
 obtain⟨t,ht,hfr,har⟩:=(hI.base.Pd 1 i k).1 hk
 have htm:=al ht
 refine⟨k,t,hk,ht,fun hf=>?_⟩
 rw[hf]at har
 have hup:=(hI.base.pos t htm).2
 unfold jf.up at hup
 rw[hf,hml]at hup
 have har1:t.ar[1]? =some i:=har
 have hl:=(aj.1 har1).1
 have hlen:t.ar.length=2:=by omega
 obtain⟨a,ha⟩:=gE (l:=t.ar) (n:=0) (by omega)
 have hareq:t.ar=[a,i]:=by
  match hq:t.ar,hlen with
  |[u,v],_=>
   rw[hq]at ha har1
   cases ha;cases har1;rfl
 refine⟨a,hareq,?_⟩
 have hst:=hI.step t htm 0 a i ha har1
 rw[hf]at hst
 obtain⟨hkd,hto⟩:=hst
 have hev:=h.ev rfl
 have hg:=hev.I0
 have haM:a<Ha x 0:=by
  have:=hI.pM t htm 0 a ha
  rw[hf]at this
  rw[←e0];exact this
 
 obtain⟨e,he,hae⟩:=hg.ac8 a haM
 have hbe:qY (s.E.getD 1 []) a=e:=by
  unfold qY
  cases hfd:(s.E.getD 1 []).find? (fun e=>decide (a∈e.f)) with
  |none=>
   have:=List.find?_eq_none.1 hfd e he
   exact absurd (decide_eq_true hae) this
  |some e2=>
   have h2:=List.find?_some hfd
   have h3:=List.mem_of_find?_eq_some hfd
   exact(P9 hg he h3 hae (of_decide_eq_true h2)).symm
 have hkd':(qY (s.E.getD 1 []) a).kd=4:=hkd
 have hto':(qY (s.E.getD 1 []) a).t=[i]:=hto
 rw[hbe]at hkd' hto'
 have hk4:=(hg.kd e he).1
 rw[hkd']at hk4
 have hf1:=(aeU hk4.symm).1
 have hfe:e.f=[a]:=by
  match hq:e.f,hf1 with
  |[u],_=>
   rw[hq]at hae
   rw[bT.1 hae]
 exact Y6 (n:=0) hev he hfe hto'
end
end Go.Proofs.YtffbohecdocajaaGreat
namespace Go.Proofs.YtffbohecdocajaaGreat
open Go.SL Go.Proofs Go.qO
set_option linter.unusedVariables false
section
variable {s:Sp} {l:List nU} {o:iG} {n:Nat}
theorem um.levels (h:um s l o n):pG o=(br s.fI.length).map fun k=>qT s.hold k (kq s (l.take n)):=by
 rw[Nn h.wB,h.n,h.hold]
theorem um.lvl (h:um s l o n):∀r,r∈o.rc→r.lv.length=o.ts.length:=fun r hr=>by
 obtain⟨q,hq⟩:=cV.1 hr
 rw[(h.wB.SW q r hq).2.1,Zh,h.wB.ts,aq]
theorem um.dU (h:um s l o n):∀r,r∈o.rc→r.x∈o.rg∧r.x.r.pix.length<1000000000000:=fun r hr=>⟨h.wB.wf.dU r hr,h.wB.wf.pix _ (h.wB.wf.dU r hr)⟩
theorem um.tsl (h:um s l o n):o.ts.length≤n:=by
 have h1:=h.wB.wf.ts
 have h2:=h.len
 rw[dt]at h2;omega
theorem um.lgl (h:um s l o n):o.lg.length≤n:=by have h2:=h.len;rw[dt]at h2;omega
theorem um.csl (h:um s l o n):o.cs.length≤32*n:=by have h1:=h.wB.wf.cs;have:=h.tsl;omega
end
def csC (c:Cs):List Value:=[.int .i64 c.nm,.int .i64 c.rg,.int .i64 c.bg,.int .i64 c.en,.int .i64 c.pk]
theorem akY {l:List iW}:l.map iW.C=(l.map iW.p).map csC:=by rw[List.map_map];rfl
theorem XN {g:cU} {rgs:List RG} {a b d:Int} {s:Sp} {o:iG} {l:List nU} (hn:Us g rgs a b d o) (hse:s=⟨g,rgs.map RG.r,a,b,d⟩) (hs:j0 s=0) (hp:∀x,x∈rgs→x.r.pix.length<1000000000000):HU s l o 0:=by
 have h7:o.lg=[]:=hn.2.2.2.2.2.2.1
 exact⟨Tu hn hse hs hp,by rw[h7];rfl,fun m hm=>(by rw[h7]at hm;cases hm),fun m hm=>(by rw[h7]at hm;cases hm)⟩
section
variable {s:Sp} {l:List nU} {o:iG} {n:Nat} {w:World}
theorem YG {P:List FQ} (h:HU s l o n) (hn:n≤256) (hT:yu s (l.take n)=P) (hh:Has w (kh o)):Calls ae 26 #[jR o.b] w fun e w'=>∃x:Option Addr×Nat,True∧e= .returned (.slice x.1 P.length x.2)∧St (bs w) [own 117 7 x.1 x.2 (P.map wv)] w':=by
 have z:=Yd o w ⟨h.a.wB.wf.n.1,by have:=h.a.wB.wf.n.2;omega⟩ (by have:=h.a.tsl;omega) (h.a.wB.inc.imp Int.le_of_lt) h.a.lvl (by have:=h.a.csl;omega) h.a.alR (by have:=h.a.lgl;omega) h.a.dU h.ok hh
 rw[h.alz,hT]at z;exact z
theorem Z7 (h:HU s l o n) (hn:n≤256) (hh:Has w (kh o)):Calls ae 28 #[jR o.b] w fun e w'=>∃x:Option Addr×Nat,True∧e= .returned (.slice x.1 (MZ s.hold s.fI.length (kq s (l.take n))).length x.2)∧St (bs w) [own 241 5 x.1 x.2 ((MZ s.hold s.fI.length (kq s (l.take n))).map csC)] w':=by
 have z:=X1 o w (by have:=h.a.wB.wf.n.2;omega) h.a.wB.wf.n.1 (by have:=h.a.csl;omega) hh
 rw[akY,h.a.cs,show o.cs.length=(MZ s.hold s.fI.length (kq s (l.take n))).length by rw[←h.a.cs,aq]]at z;exact z
theorem TF (h:HU s l o n) (hn:n≤256) (hh:Has w (kh o)):Calls ae 27 #[jR o.b] w fun e w'=>∃x:Option Addr×Nat,True∧e= .returned (.slice x.1 ((br s.fI.length).map fun k=>qT s.hold k (kq s (l.take n))).length x.2)∧St (bs w) [own 3 1 x.1 x.2 (((br s.fI.length).map fun k=>qT s.hold k (kq s (l.take n))).map iC)] w':=by
 have z:=Wq o w (by have:=h.a.wB.wf.n.2;omega) h.a.wB.wf.n.1 (fun r hr=>by have:=h.a.lvl r hr;have:=h.a.tsl;omega) hh
 rw[h.a.levels]at z;exact z
end
theorem Yw:cj ae 214 (.agg #[.int .i64 0,.int .i64 0,.int .i64 0,.int .i64 0]):=by unfold cj;kernel_rfl
theorem RQ:(ae.info? 214).map (·.size)=some 4:=by kernel_rfl
theorem agN:ef ae 146:=⟨_,Tryz.func146,by decide,rfl⟩
section
variable {x1 x2 y1 y2 sec slack:Int}
end
theorem We (lo hi slack sec:Int) (bs1 bt:Nat) (w:World) (hs:fk w ⟨bs1,0,none⟩ [.int .i64 slack]) (ht:fk w ⟨bt,0,none⟩ [.int .i64 sec]) (h1: -64≤lo) (h2:lo≤64) (h3: -64≤hi) (h4:hi≤64) (h5:0≤slack) (h6:slack≤2000) (h7:1≤sec) (h8:sec≤86400):
 Calls ae 146 #[.agg #[.int .i64 lo,.int .i64 hi],.pointer (some ⟨bs1,0,none⟩),.pointer (some ⟨bt,0,none⟩)] w fun e w'=>e= .returned (.agg #[.int .i64 (tq lo sec slack),.int .i64 (tJ hi sec slack)])∧St (bs w) [] w':=by
 refine enter (vs:=[_,_,_]) (env:=[(0,_),(1,_),(2,_)]) Tryz.func146 rfl rfl rfl rfl ?_
 refine VC.q (aD rfl<|cf (C:=#[_,_]) rfl rfl fun b1=>aD rfl<|bI (C:=#[_,_]) IT rfl fun b2=>VO.n<|ak<|cP [[0,1],[1]] [some 0,some 0,some 0,some 0,some 0,some 0,some 0,some 0,some 0,some 0,some 0,some 0,some 0,some 0,some 0,some 0,some 0,none] mixed (by kernel_rfl) rfl (aA (fun _ hJ=>aE (r:=0) rL (.r rfl) rfl) rfl<|aA (fun _ hJ=>aB O3 (.r rfl) (fun _ hw=>aX (hJ _ hw) 1 rfl ⟨_,rfl⟩)) rfl<|aA (fun _ hJ=>gG (.r rfl) (.r rfl) (wi (by omega) (by omega))) rfl<|aA (fun _ hJ=>aB O3 (.r rfl) (aW (aU (off:=0) hs ⟨_,rfl⟩))) rfl<|aA (fun _ hJ=>dv (.r rfl) (.r rfl) (wi (by omega) (by omega))) rfl<|aA (fun _ hJ=>gG (.r rfl) (.r rfl) (wi (by omega) (by omega))) rfl<|aA (fun _ hJ=>aB O3 (.r rfl) (aW (aU (off:=0) ht ⟨_,rfl⟩))) rfl<|aA (fun _ hJ=>bD (xs:=[_,_]) (vs:=[_,_]) aeV ⟨(.r rfl),(.r rfl),trivial⟩ (fun w _=>Nq _ _ (by omega) (by omega) (by omega) w)) rfl<|aA (fun _ hJ=>aE (r:=1) rR (.r rfl) rfl) rfl<|aA (fun _ hJ=>aB O3 (.r rfl) (fun _ hw=>aX (hJ _ hw) 1 rfl ⟨_,rfl⟩)) rfl<|aA (fun _ hJ=>gG (.r rfl) (.r rfl) (wi (by omega) (by omega))) rfl<|aA (fun _ hJ=>aB O3 (.r rfl) (aW (aU (off:=0) hs ⟨_,rfl⟩))) rfl<|aA (fun _ hJ=>LO.add (.r rfl) (.r rfl) (wi (by omega) (by omega))) rfl<|aA (fun _ hJ=>gG (.r rfl) (.r rfl) (wi (by omega) (by omega))) rfl<|aA (fun _ hJ=>aB O3 (.r rfl) (aW (aU (off:=0) ht ⟨_,rfl⟩))) rfl<|aA (fun _ hJ=>bD (xs:=[_,_]) (vs:=[_,_]) ah3 ⟨(.r rfl),(.r rfl),trivial⟩ (fun w _=>ahv _ _ (by omega) (by omega) (by omega) w)) rfl<|aA (fun _ hJ=>dC (ps:=[(_,_),(_,_)]) (vs:=[(_,_),(_,_)]) (C:=[_,_]) EE ⟨(.r rfl),(.r rfl),trivial⟩ rfl ⟨_,[_],[_,_],rfl,rfl,rfl,rfl,⟨_,[_],[_,_],rfl,rfl,rfl,rfl,rfl⟩⟩) rfl<|cn<|dw) (au<|au<|au<|au<|au<|au<|au<|au<|au<|au<|au<|au<|au<|au<|au<|au<|au<|eW<|bl 0 (vs:=[_,_]) (C':=[_,_]) (L':=[_,_]) sC rfl rfl rfl rfl rfl rfl rfl rfl<|⟨fun _ hw=>hw.fO [1] rfl,dS ?_⟩))
 refine ag<|aP (dh (vs:=[_]) rfl ⟨iA (vs:=[_,_]) xb rfl (ax 0 rfl ⟨_,rfl⟩) rfl,trivial⟩ (fun w hw=>?_))
 exact⟨rfl,hw.nil⟩
theorem ab0 (x1 x2 y1 y2 sec slack:Int) (w:World):
 Calls ae 68 #[.agg #[.int .i64 x1,.int .i64 x2],.agg #[.int .i64 y1,.int .i64 y2],.int .i64 sec,.int .i64 slack] w fun e w'=>e= .returned (.tuple #[uo (Ap x1 x2 y1 y2 sec slack),.int .i64 (Az x1 x2 y1 y2 sec slack)])∧St (bs w) [] w':=by
 refine enter (vs:=[_,_,_,_]) (env:=[(0,_),(1,_),(2,_),(3,_)]) Tryz.func68 rfl rfl rfl rfl ?_
 refine VC.q (aD rfl<|cf (C:=#[_,_]) rfl rfl fun b1=>aD rfl<|cf (C:=#[_,_]) rfl rfl fun b2=>aD rfl<|cf (C:=#[_]) rfl rfl fun b3=>aD rfl<|cf (C:=#[_]) rfl rfl fun b4=>aD rfl<|bI (C:=#[_,_,_,_]) Yw rfl fun b5=>VO.a rfl<|VO.n<|ak<|VC.q (ah (aM (vs:=[_,_]) xb (.r rfl) (ax 4 rfl ⟨_,rfl⟩) rfl) rfl<|ah (bD (xs:=[_,_,_]) (vs:=[_,_,_]) Yx ⟨(.r rfl),(.r rfl),(.r rfl),trivial⟩ (fun w _=>yQ _ _ _ _ w)) rfl<|ah (LO.not (.r rfl)) rfl<|VO.m rfl<|VO.gf rfl (fun hg=>aM (vs:=[_,_]) xb (.r rfl) (ax 3 rfl ⟨_,rfl⟩) rfl)<|VO.gf rfl (fun hg=>bD (xs:=[_,_,_]) (vs:=[_,_,_]) Yx ⟨(.g hg rfl),(.r rfl),(.r rfl),trivial⟩ (fun w _=>yQ _ _ _ _ w))<|VO.gf rfl (fun hg=>LO.not (.g hg rfl))<|ah (dO (.r rfl) (.r rfl) rfl rfl) rfl<|VO.m rfl<|VO.gf rfl (fun hg=>aB O3 (.r rfl) (ax 2 rfl ⟨_,rfl⟩))<|VO.gf rfl (fun hg=>bD (xs:=[_,_,_]) (vs:=[_,_,_]) C86 ⟨(.g hg rfl),(.r rfl),(.r rfl),trivial⟩ (fun w _=>vk _ _ _ w))<|VO.gf rfl (fun hg=>LO.not (.g hg rfl))<|ah (dO (.r rfl) (.r rfl) rfl rfl) rfl<|VO.m rfl<|VO.gf rfl (fun hg=>aB O3 (.r rfl) (ax 1 rfl ⟨_,rfl⟩))<|VO.gf rfl (fun hg=>bD (xs:=[_,_,_]) (vs:=[_,_,_]) C86 ⟨(.g hg rfl),(.r rfl),(.r rfl),trivial⟩ (fun w _=>vk _ _ _ w))<|VO.gf rfl (fun hg=>LO.not (.g hg rfl))<|ah (dO (.r rfl) (.r rfl) rfl rfl) rfl<|VO.n ?_))
 refine ay rfl (fun h1=>?_) (fun h1=>?_)
 ·
  refine VC.q (ah (dC (ps:=[]) (vs:=[]) (C:=[_,_,_,_]) adm trivial rfl rfl) rfl<|bU<|bl 0 (vs:=[_,_,_,_]) (C':=[_,_,_,_]) (L':=[_,_,_,_,_]) RQ rfl rfl rfl rfl rfl rfl rfl rfl<|VO.a rfl<|VO.n<|aP (VE.cJ (dh (vs:=[_,_]) rfl ⟨iA (vs:=[_,_,_,_]) EA rfl (ax 0 rfl ⟨_,rfl⟩) rfl,rfl,trivial⟩ (fun w hw=>?_))))
  first |exact⟨adx (by unfold pV;omega),hw.nil⟩|exact⟨aeC (by unfold pV;omega) h2,hw.nil⟩|exact⟨afd (by unfold pV;omega) h2,hw.nil⟩
 ·
  refine aC (ag<|VC.q (aD rfl<|aO (LO.mf (cap:=[_,_]) ⟨(.r rfl),(.r rfl),trivial⟩)<|aD rfl<|aO (LO.as (.r rfl))<|VO.n<|ak<|cP [[0,1,2,3,4],[0,1,2,3,4],[0,1,2,3,4]] [some 1,some 1,some 1,some 1,some 1,some 1,some 1,none,none] mixed (by kernel_rfl) rfl (LX.m rfl<|aA (fun _ hJ=>aM (vs:=[_,_]) xb (.r rfl) (fun _ hw=>aX (hJ _ hw) 4 rfl ⟨_,rfl⟩) rfl) rfl<|aA (fun _ hJ=>LO.wN (first:=[]) (cap:=[_,_]) (xs:=[_]) (vs:=[_]) (.r rfl) agN ⟨(.r rfl),trivial⟩ (fun w hw=>We _ _ _ _ _ _ w (aX (hJ _ hw) 1 rfl ⟨_,rfl⟩) (aX (hJ _ hw) 2 rfl ⟨_,rfl⟩) (by omega) (by omega) (by omega) (by omega) (by omega) (by omega) (by omega) (by omega))) rfl<|LX.m rfl<|aA (fun _ hJ=>aM (vs:=[_,_]) xb (.r rfl) (fun _ hw=>aX (hJ _ hw) 3 rfl ⟨_,rfl⟩) rfl) rfl<|aA (fun _ hJ=>LO.wN (first:=[]) (cap:=[_,_]) (xs:=[_]) (vs:=[_]) (.r rfl) agN ⟨(.r rfl),trivial⟩ (fun w hw=>We _ _ _ _ _ _ w (aX (hJ _ hw) 1 rfl ⟨_,rfl⟩) (aX (hJ _ hw) 2 rfl ⟨_,rfl⟩) (by omega) (by omega) (by omega) (by omega) (by omega) (by omega) (by omega) (by omega))) rfl<|aA (fun _ hJ=>dC (ps:=[(_,_),(_,_)]) (vs:=[(_,_),(_,_)]) (C:=[_,_,_,_]) adm ⟨(.r rfl),(.r rfl),trivial⟩ rfl ⟨_,[_,_],[_,_,_,_],rfl,rfl,rfl,rfl,⟨_,[_,_],[_,_,_,_],rfl,rfl,rfl,rfl,rfl⟩⟩) rfl<|cn<|cn<|dw) (au<|au<|au<|au<|au<|au<|au<|HX.h rfl<|bI (C:=#[_,_,_,_]) Yw rfl fun b9=>⟨fun _ hw=>hw.fO [1,2,3,4,5] rfl,eW<|bl 0 (vs:=[_,_,_,_]) (C':=[_,_,_,_]) (L':=[_,_,_,_,_,_]) RQ rfl rfl rfl rfl rfl rfl rfl rfl<|⟨fun _ hw=>hw.fO [1,2,3,4,5] rfl,dS ?_⟩⟩)))
  refine ag<|ak<|VC.q (ah (aM (vs:=[_,_,_,_]) EA (.r rfl) (ax 0 rfl ⟨_,rfl⟩) rfl) rfl<|ah (bD (xs:=[_]) (vs:=[_]) ahI ⟨(.r rfl),trivial⟩ (fun w _=>Ba (uR x1 x2 y1 y2 sec slack) w)) rfl<|VO.u rfl<|VO.n<|ay rfl (fun h2=>?_) (fun h2=>?_))
  ·
   refine VC.q (ah (dC (ps:=[]) (vs:=[]) (C:=[_,_,_,_]) adm trivial rfl rfl) rfl<|bU<|bl 1 (vs:=[_,_,_,_]) (C':=[_,_,_,_]) (L':=[_,_,_,_,_,_]) RQ rfl rfl rfl rfl rfl rfl rfl rfl<|VO.a rfl<|VO.n<|aP (VE.cJ (dh (vs:=[_,_]) rfl ⟨iA (vs:=[_,_,_,_]) EA rfl (ax 1 rfl ⟨_,rfl⟩) rfl,rfl,trivial⟩ (fun w hw=>?_))))
   first |exact⟨adx (by unfold pV;omega),hw.nil⟩|exact⟨aeC (by unfold pV;omega) h2,hw.nil⟩|exact⟨afd (by unfold pV;omega) h2,hw.nil⟩
  ·
   refine aC (ag<|VC.q (ah (aM (vs:=[_,_,_,_]) EA (.r rfl) (ax 0 rfl ⟨_,rfl⟩) rfl) rfl<|bU<|bl 1 (vs:=[_,_,_,_]) (C':=[_,_,_,_]) (L':=[_,_,_,_,_,_]) RQ rfl rfl rfl rfl rfl rfl rfl rfl<|VO.a rfl<|VO.n<|aP (dh (vs:=[_,_]) rfl ⟨iA (vs:=[_,_,_,_]) EA rfl (ax 1 rfl ⟨_,rfl⟩) rfl,rfl,trivial⟩ (fun w hw=>?_))))
   first |exact⟨adx (by unfold pV;omega),hw.nil⟩|exact⟨aeC (by unfold pV;omega) h2,hw.nil⟩|exact⟨afd (by unfold pV;omega) h2,hw.nil⟩
theorem C68:ef ae 68:=⟨_,Tryz.func68,by decide,rfl⟩
end Go.Proofs.YtffbohecdocajaaGreat
